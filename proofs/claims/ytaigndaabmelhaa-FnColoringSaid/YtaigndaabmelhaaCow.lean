/- The law FnColoring. No condition but that the code's length fits. -/
import Derived.Test.YtaigndaabmelhaaOcw
namespace Go.Proofs.Ytaigndaabmelhaa
open Go.RowKit

theorem okC_ne {T : List (List Bool)} {n i k : Nat} (h : okC T n = true) (hi : i < n) (hk : k < n) (he : edg T i k = true) : ccol T n n i ≠ ccol T n n k := fun e => by
  rw [okC_not hi hk he e.symm] at h; cases h
theorem clL_at {T : List (List Bool)} {n i : Nat} (h : okC T n = true) (hi : i < n) : (clL T n)[i]? = some (ccol T n n i) := by
  rw [clL, if_pos h, List.getElem?_map, List.getElem?_range hi]; rfl
theorem clL_full {T : List (List Bool)} {n : Nat} (h : okC T n = true) : (clL T n).length = n := by rw [clL, if_pos h]; simp
/-- What holds of every pair where there is a coloring. -/
theorem pair_col {l : List Q4} {s : Int} (h0 : ptC l s = 0) (hb : cpO l s = true) {p : Q2} (hp : p ∈ pcL l s) : ∃ a b : Nat, p = ⟨(a : Int), (b : Int)⟩ ∧ a < b ∧ b < (cpL l s).length ∧ ∃ x y : Int, (cpL l s)[a]? = some x ∧ (cpL l s)[b]? = some y ∧ x ≠ y := by
  obtain ⟨a, b, ha, hab, hbn, he, rfl⟩ := (mem_pcN _ (Nat.le_refl _) _).1 hp
  have hb2 : okC (tabL (ptL l s) s) (ptL l s).length = true := hb
  rw [(cpC_ok h0 hb).2]
  exact ⟨a, b, rfl, hab, by rw [clL_full hb2]; exact hbn, _, _, clL_at hb2 (by omega), clL_at hb2 hbn, okC_ne hb2 (by omega) hbn he⟩
set_option maxRecDepth 100000 in
set_option maxHeartbeats 16000000 in
theorem fnColoring_any (q : Option Addr) (n c : Nat) (l : List Int) (w : World) (h : SlT encU 1 w q n l) (hu : ∀ x ∈ l, 0 ≤ x ∧ x ≤ 255) (_hm : n ≤ maxLen) :
    Calls Try.prog 5 #[.slice q n c] w fun e w' => e = .returned (.bool true) ∧ Ext w w' := by
  have hu := hid hu
  clear _hm
  by_cases hbig : 4096 < (n : Int)
  · have hbd : Hid (decide (4096 < (n : Int)) = true) := decide_eq_true hbig
    go_enter Try.func5, Try.ntmps5
    go_wp2_with fail
    refine (big_any q n c _).mono ?_
    rw [hbd.out]
    rintro e w' ⟨rfl, rfl⟩
    go_wp2_with fail
    go_ret
    exact ⟨rfl, Ext.refl _⟩
  · have hn : n ≤ 1048576 := by omega
    have hbd : Hid (decide (4096 < (n : Int)) = false) := decide_eq_false hbig
    go_enter Try.func5, Try.ntmps5
    go_wp2_with fail
    refine (big_any q n c _).mono ?_
    rw [hbd.out]
    rintro e w' ⟨rfl, rfl⟩
    clear hbig
    go_wp2_with fail
    refine (drawColorParts_any q n c l _ h hu.out hn).mono ?_
    rintro e w1 ⟨q1, n1, c1, l1, s, rfl, s1, hn1, E1⟩
    replace s1 := hid s1
    replace E1 := hid E1
    go_wp2_with fail
    refine (PatternConflicts_any q1 n1 c1 l1 s _ s1.out (by omega)).mono ?_
    rintro e w2 ⟨q2, c2, rfl, o2, E2⟩
    have sp := hid (SlT.of_owns (l := pcL l1 s) enc2_len rfl o2)
    have hpl := pcL_len l1 s
    replace E1 := hid (E1.out.trans E2)
    replace s1 := hid (s1.out.ext E2)
    clear o2 E2
    go_wp2_with fail
    refine (ColorParts_any q1 n1 c1 l1 s _ s1.out (by omega)).mono ?_
    rintro e w3 ⟨q3, c3, rfl, o3, E3⟩
    have sk := hid (SlT.of_owns (l := cpL l1 s) enc1_len rfl o3)
    have hkl := cpL_len l1 s
    replace sp := hid (sp.out.ext E3)
    replace E1 := hid (E1.out.trans E3)
    replace s1 := hid (s1.out.ext E3)
    clear o3 E3
    go_wp2_with fail
    refine (OddCycle_any q1 n1 c1 l1 s _ s1.out (by omega)).mono ?_
    rintro e w4 ⟨q4, c4, rfl, o4, E4⟩
    replace sp := hid (sp.out.ext E4)
    replace sk := hid (sk.out.ext E4)
    replace E1 := hid (E1.out.trans E4)
    clear o4 E4 s1
    by_cases h0 : ptC l1 s = 0
    · cases hb : cpO l1 s with
      | false =>
        have hoc := oc_of_bad h0 hb
        have h3 := (ocV_cy hoc).2.2.2
        rw [h0, hoc, (cpC_bad h0 hb).1]
        obtain ⟨V, hV⟩ : ∃ V, V = ocV l1 s := ⟨_, rfl⟩
        rw [← hV] at h3 ⊢
        have h3I : (3 : Int) ≤ (V.length : Int) := by omega
        replace hoc := hid hoc
        replace h0 := hid h0
        replace hb := hid hb
        replace hV := hid hV
        go_wp2_with fail
        go_ret
        exact ⟨rfl, E1.out⟩
      | true =>
        have hpc := hid (fun p hp => pair_col h0 hb (p := p) hp)
        rw [h0, (ocC_col h0 hb).1, (ocC_col h0 hb).2, (cpC_ok h0 hb).1]
        obtain ⟨P, hP⟩ : ∃ P, P = pcL l1 s := ⟨_, rfl⟩
        obtain ⟨K, hK⟩ : ∃ K, K = cpL l1 s := ⟨_, rfl⟩
        rw [← hP] at sp hpl hpc ⊢
        rw [← hK] at sk hkl hpc ⊢
        replace h0 := hid h0
        replace hb := hid hb
        replace hP := hid hP
        replace hK := hid hK
        go_wp2_with fail
        go_loopw [11] (fun iv wr => ∃ i : Nat, iv = .int .i64 i ∧ i ≤ P.length ∧ Hid (Ext w4 wr)) (fun i _ => P.length - (intOf i).toNat)
        case atStart => exact ⟨0, by go_num, by omega, Ext.refl _⟩
        case round =>
          obtain ⟨i, rfl, hi, hE⟩ := hrel
          by_cases hlt : i < P.length
          · have hltI : (i : Int) < (P.length : Int) := by omega
            obtain ⟨b1, off1, p, e9, hb1, hx, z0, z1⟩ := (sp.out.ext hE.out).two hlt
            subst e9
            obtain ⟨a, b, rfl, hab, hbk, x, y, hxa, hyb, hxy⟩ := hpc.out p (List.mem_of_getElem? hx.out)
            obtain ⟨b2, off2, x', e9, hb2, hx', zx⟩ := (sk.out.ext hE.out).int (k := a) (by omega)
            subst e9
            obtain ⟨b2', off2', y', e9, _, hy', zy⟩ := (sk.out.ext hE.out).int (k := b) hbk
            cases e9
            obtain rfl : x' = x := by have := hx'.out; rw [hxa] at this; exact (Option.some.inj this).symm
            obtain rfl : y' = y := by have := hy'.out; rw [hyb] at this; exact (Option.some.inj this).symm
            simp only at z0 z1
            have hB0 : decide ((a : Int) < 0) = false := by simp
            have hB1 : decide (b ≤ a) = false := by simp; omega
            have hB2 : decide (K.length ≤ b) = false := by simp; omega
            have hN1 : ¬ b ≤ a := by omega
            have hN2 : ¬ K.length ≤ b := by omega
            have hB3 : (x' == y') = false := by simpa using hxy
            have hB4 : decide (x' = y') = false := decide_eq_false hxy
            have haI : (a : Int) < (K.length : Int) := by omega
            have hbI : (b : Int) < (K.length : Int) := by omega
            clear hxa hyb hxy hx hx' hy'
            go_wp2
            refine wp_region_later (by kernel_rfl) (by kernel_rfl) ?_
            repeat (go_big_quiet_step (fail))
            refine wpQuiet_nil ?_
            rintro w5 ⟨⟨_, E5⟩, rfl⟩
            have hE := hid (hE.out.trans E5)
            clear z0 z1 zx zy E5
            go_wp2
            go_roundw
            case rel => exact ⟨i + 1, by go_num, by omega, hE⟩
            case measure => simp [intOf]; omega
          · have hltI : ¬ (i : Int) < (P.length : Int) := by omega
            go_wp2
            go_ret
            exact ⟨rfl, E1.out.trans hE.out⟩
    · have hc1 := (cpC_no h0).1
      have hc2 := (ocC_no h0).1
      rw [hc1, hc2]
      obtain ⟨C, hC⟩ : ∃ C, C = ptC l1 s := ⟨_, rfl⟩
      rw [← hC] at h0 ⊢
      have hb2 : (C != 0) = true := by simpa using h0
      replace hC := hid hC
      clear hc1 hc2
      go_wp2_with fail
      go_ret
      exact ⟨rfl, E1.out⟩
end Go.Proofs.Ytaigndaabmelhaa
