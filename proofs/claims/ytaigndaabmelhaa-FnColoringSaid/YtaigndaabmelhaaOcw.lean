/- The law FnOddCycle. No condition but that the code's length fits. -/
import Derived.Test.YtaigndaabmelhaaOcp
import Derived.Test.YtaigndaabmelhaaDpt
namespace Go.Proofs.Ytaigndaabmelhaa
open Go.RowKit

set_option maxHeartbeats 400000 in
theorem big_any (q : Option Addr) (n c : Nat) (w : World) :
    Calls Try.prog 24 #[.slice q n c] w fun e w' => e = .returned (.bool (decide (4096 < (n : Int)))) ∧ w = w' := by
  by_cases h : 4096 < (n : Int)
  · go_enter Try.func24, Try.ntmps24
    go_wp2
    go_ret
    exact ⟨ret_bool (by simp [h]), rfl⟩
  · go_enter Try.func24, Try.ntmps24
    go_wp2
    go_ret
    exact ⟨ret_bool (by simp [h]), rfl⟩
set_option maxRecDepth 100000 in
set_option maxHeartbeats 16000000 in
theorem fnOddCycle_any (q : Option Addr) (n c : Nat) (l : List Int) (w : World) (h : SlT encU 1 w q n l) (hu : ∀ x ∈ l, 0 ≤ x ∧ x ≤ 255) (_hm : n ≤ maxLen) :
    Calls Try.prog 4 #[.slice q n c] w fun e w' => e = .returned (.bool true) ∧ Ext w w' := by
  have hu := hid hu
  clear _hm
  by_cases hbig : 4096 < (n : Int)
  · have hbd : Hid (decide (4096 < (n : Int)) = true) := decide_eq_true hbig
    go_enter Try.func4, Try.ntmps4
    go_wp2_with fail
    refine (big_any q n c _).mono ?_
    rw [hbd.out]
    rintro e w' ⟨rfl, rfl⟩
    go_wp2_with fail
    go_ret
    exact ⟨rfl, Ext.refl _⟩
  · have hn : n ≤ 1048576 := by omega
    have hbd : Hid (decide (4096 < (n : Int)) = false) := decide_eq_false hbig
    go_enter Try.func4, Try.ntmps4
    go_wp2_with fail
    refine (big_any q n c _).mono ?_
    rw [hbd.out]
    rintro e w' ⟨rfl, rfl⟩
    clear hbig
    go_wp2_with fail
    refine (drawOddCycle_any q n c l _ h hu.out hn).mono ?_
    rintro e w1 ⟨q1, n1, c1, l1, s, rfl, s1, hn1, E1⟩
    replace s1 := hid s1
    replace E1 := hid E1
    go_wp2_with fail
    refine (PatternConflicts_any q1 n1 c1 l1 s _ s1.out (by omega)).mono ?_
    rintro e w2 ⟨q2, c2, rfl, o2, E2⟩
    have sp := hid (SlT.of_owns (l := pcL l1 s) enc2_len rfl o2)
    have hpl := pcL_len l1 s
    replace E1 := hid (E1.out.trans E2)
    replace s1 := hid (s1.out.ext E2)
    clear o2 E2
    go_wp2_with fail
    refine (OddCycle_any q1 n1 c1 l1 s _ s1.out (by omega)).mono ?_
    rintro e w3 ⟨q3, c3, rfl, o3, E3⟩
    have sc := hid (SlT.of_owns (l := ocV l1 s) encN_len rfl o3)
    replace sp := hid (sp.out.ext E3)
    replace E1 := hid (E1.out.trans E3)
    clear o3 E3 s1
    have hVl := ocV_len l1 s
    have hcy := hid (ocV_cy (l := l1) (s := s))
    have hbad := hid (ocV_bad (l := l1) (s := s))
    have hw5 := hid (fun a b h => w5_edge (l := l1) (s := s) (a := a) (b := b) h)
    have hno := hid (fun h : ¬ ptC l1 s = 0 => ocC_no (l := l1) (s := s) h)
    obtain ⟨P, hP⟩ : ∃ P, P = pcL l1 s := ⟨_, rfl⟩
    obtain ⟨V, hV⟩ : ∃ V, V = ocV l1 s := ⟨_, rfl⟩
    obtain ⟨C1, hC1⟩ : ∃ C1, C1 = ptC l1 s := ⟨_, rfl⟩
    obtain ⟨C2, hC2⟩ : ∃ C2, C2 = ocC l1 s := ⟨_, rfl⟩
    rw [← hP] at sp hpl hw5 ⊢
    rw [← hV] at sc hcy hbad hno hVl ⊢
    rw [← hC1] at hcy hno ⊢
    rw [← hC2] at hcy hbad hno ⊢
    replace hP := hid hP
    replace hV := hid hV
    replace hC1 := hid hC1
    replace hC2 := hid hC2
    by_cases h1 : C1 = 0
    · subst h1
      by_cases h2 : C2 = 0
      · subst h2
        obtain ⟨_, hc, ho, h3⟩ := hcy.out rfl
        replace hc := hid hc
        clear hno hbad hcy
        go_wp2_with fail
        go_loopw [9] (fun iv wr => ∃ i : Nat, iv = .int .i64 i ∧ i ≤ V.length ∧ Hid (Ext w3 wr)) (fun i _ => V.length - (intOf i).toNat)
        case atStart => exact ⟨0, by go_num, by omega, Ext.refl _⟩
        case round =>
          obtain ⟨i, rfl, hi, hE⟩ := hrel
          by_cases hlt : i < V.length
          · have hltI : (i : Int) < (V.length : Int) := by omega
            obtain ⟨b, off, x, e9, hb, hx, zx⟩ := (sc.out.ext hE.out).nat hlt
            subst e9
            have hjl : (i + 1) % V.length < V.length := Nat.mod_lt _ (by omega)
            obtain ⟨b', off', y, e9, _, hy, zy⟩ := (sc.out.ext hE.out).nat hjl
            cases e9
            have hxy : w5B P x y = true := hw5.out x y (by
              have h9 := hc.out.edge i hlt
              rw [List.getD_eq_getElem?_getD, List.getD_eq_getElem?_getD, hx.out, hy.out] at h9
              exact h9)
            have hcall := fun W => w5Conflict_any q2 P.length c2 P x y W
            rw [hxy] at hcall
            have hsp := hid (sp.out.ext hE.out)
            have hrem : ((i : Int) + 1).tmod (V.length : Int) = (((i + 1) % V.length : Nat) : Int) := by
              rw [Int.tmod_eq_emod_of_nonneg (by omega), Int.natCast_emod]; rfl
            obtain ⟨J, hJ⟩ : ∃ J, J = (i + 1) % V.length := ⟨_, rfl⟩
            rw [← hJ] at hjl hrem zy hy
            have hjI : (J : Int) < (V.length : Int) := by omega
            have hlz : (V.length : Int) ≠ 0 := by omega
            replace hJ := hid hJ
            replace hcall := hid hcall
            clear hxy
            go_wp2
            refine wp_region_later (by kernel_rfl) (by kernel_rfl) ?_
            repeat (go_big_quiet_step ((go_at_call 28; exact later_same (hcall.out _ (hsp.out.ext (Later.ok _)) hpl))))
            refine wpQuiet_nil ?_
            rintro w4 ⟨⟨_, E4⟩, rfl⟩
            have hE := hid (hE.out.trans E4)
            have hnd := hid hc.out.nd
            clear zx zy hx hy E4 hrem hjI hjl hcall
            go_wp2
            go_loopw [10] (fun iv wr => ∃ k : Nat, iv = .int .i64 k ∧ k ≤ i ∧ Hid (Ext w3 wr)) (fun iv _ => i - (intOf iv).toNat)
            case atStart => exact ⟨0, by go_num, by omega, hE⟩
            case round =>
              clear hE
              obtain ⟨k, rfl, hk, hE⟩ := hrel
              by_cases hkl : k < i
              · have hkI : (k : Int) < (i : Int) := by omega
                have hkV : (k : Int) < (V.length : Int) := by omega
                obtain ⟨b2, off2, x2, e9, hb2, hx, zx⟩ := (sc.out.ext hE.out).nat (k := k) (by omega)
                cases e9
                obtain ⟨b2, off2, y2, e9, _, hy, zy⟩ := (sc.out.ext hE.out).nat hlt
                cases e9
                have hne : x2 ≠ y2 := fun e9 => by
                  have := nd_inj hnd.out (i := k) (j := i) (by omega) hlt (by rw [List.getD_eq_getElem?_getD, List.getD_eq_getElem?_getD, hx.out, hy.out, e9])
                  omega
                have hB1 : ((x2 : Int) == (y2 : Int)) = false := by simp; omega
                have hB2 : decide ((x2 : Int) = (y2 : Int)) = false := by simp; omega
                clear hne
                go_wp2
                refine wp_region_later (by kernel_rfl) (by kernel_rfl) ?_
                repeat (go_big_quiet_step (fail))
                refine wpQuiet_nil ?_
                rintro w5 ⟨⟨_, E5⟩, rfl⟩
                have hE := hid (hE.out.trans E5)
                clear zx zy hx hy E5
                go_wp2
                go_roundw
                case rel => exact ⟨k + 1, by go_num, by omega, hE⟩
                case measure => simp [intOf]; omega
              · have hkI : ¬ (k : Int) < (i : Int) := by omega
                go_wp2
                go_roundw
                case rel => exact ⟨i + 1, by go_num, by omega, hE⟩
                case measure => simp [intOf]; omega
          · have hltI : ¬ (i : Int) < (V.length : Int) := by omega
            go_wp2
            go_ret
            exact ⟨ret_bool (by simp; omega), E1.out.trans hE.out⟩
      · have hV0 := hbad.out h2
        subst hV0
        have hb2 : (C2 != 0) = true := by simpa using h2
        go_wp2_with fail
        go_ret
        exact ⟨rfl, E1.out⟩
    · have h2 := (hno.out h1).1
      have hV0 := (hno.out h1).2
      subst hV0
      have hb2 : (C1 != 0) = true := by simpa using h1
      clear h2
      go_wp2_with fail
      go_ret
      exact ⟨rfl, E1.out⟩
end Go.Proofs.Ytaigndaabmelhaa
