/- Contract of RegionBox; the law FnStitch. No condition but that the code's length fits. -/
import Derived.Test.YtaigndaabmelhaaFst
import Derived.Test.YtaigndaabmelhaaDpt
namespace Go.Proofs.Ytaigndaabmelhaa
open Go.RowKit

set_option maxRecDepth 100000 in
set_option maxHeartbeats 4000000 in
theorem RegionBox_any (q : Option Addr) (n c : Nat) (l : List Q4) (w : World) (h : SlT enc4 4 w q n l) (h0 : 0 < n) (hn : n ≤ 1048576) (hr : isReg l = true) :
    Calls Try.prog 33 #[.slice q n c] w fun e w' => e = .returned (.tuple #[.agg #[.int .i64 (boxL l).a, .int .i64 (boxL l).b, .int .i64 (boxL l).c, .int .i64 (boxL l).d], .bool true]) ∧ Ext w w' := by
  have h0I : ((n : Int) == 0) = false := by simp; omega
  have k1 := fun V (hV : Ext w V) => IsRegion_any q n c l V (h.ext hV) hn
  rw [hr] at k1
  replace k1 := hid k1
  have k2 := hid (fun V (hV : Ext w V) => boxOf_any q n c l V (h.ext hV) h0 hn)
  clear hr
  go_enter Try.func33, Try.ntmps33
  go_upto_region 1 with (fail)
  generalize hW : w.alloc _ = W0
  obtain ⟨E0, z0, b0⟩ := boxes1 hW
  clear hW
  have bx := hid (show Blk W0 w.heap.size [.int .i64 0, .int .i64 0, .int .i64 0, .int .i64 0] _ from b0)
  obtain ⟨P, hP⟩ : ∃ P, P = w.heap.size := ⟨_, rfl⟩
  rw [← hP] at bx ⊢
  have hPw : w.heap.size ≤ P := by omega
  replace hP := hid hP
  clear b0 z0
  go_wp2_with fail
  refine (k1.out _ E0).mono ?_
  rintro e w1 ⟨rfl, E1⟩
  go_wp2_with fail
  refine (k2.out _ (E0.trans E1)).mono ?_
  rintro e w2 ⟨rfl, E2⟩
  have bx2 := bx.out.ext (E1.trans E2)
  have hE2 := hid ((E0.trans E1).trans E2)
  have hPl := bx2.lt
  have hf := bx2.free
  obtain ⟨Bx, hBx⟩ : ∃ Bx, Bx = boxL l := ⟨_, rfl⟩
  rw [← hBx] at ⊢
  replace hBx := hid hBx
  clear E0 E1 E2
  obtain ⟨p9, p0, p1, p2, p3⟩ := Blk.quad (x := ⟨0, 0, 0, 0⟩) bx2
  have b4 := (((bx2.set 0 (.int .i64 Bx.a)).set 1 (.int .i64 Bx.b)).set 2 (.int .i64 Bx.c)).set 3 (.int .i64 Bx.d)
  have e4 := (((hE2.out.setCell (p := ⟨P, 0, none⟩) hPw (.int .i64 Bx.a)).setCell (p := ⟨P, 1, none⟩) hPw (.int .i64 Bx.b)).setCell (p := ⟨P, 2, none⟩) hPw (.int .i64 Bx.c)).setCell (p := ⟨P, 3, none⟩) hPw (.int .i64 Bx.d)
  replace b4 := hid b4
  replace e4 := hid e4
  go_wp2_with fail
  generalize (((w2.setCell _ _).setCell _ _).setCell _ _).setCell _ _ = W4 at b4 e4 ⊢
  obtain ⟨_, r0, r1, r2, r3⟩ := (show Blk W4 P [.int .i64 Bx.a, .int .i64 Bx.b, .int .i64 Bx.c, .int .i64 Bx.d] _ from b4.out).quad
  clear bx2 p0 p1 p2 p3 p9 hf hPl
  refine bodyPost_ret (v := .tuple #[.agg #[.int .i64 Bx.a, .int .i64 Bx.b, .int .i64 Bx.c, .int .i64 Bx.d], .bool true]) (by simp [results, Try.results33, go_sem, r0, r1, r2, r3]) rfl ?_
  rw [← hBx.out]
  exact ⟨rfl, e4.out⟩
theorem ptC_not6 {l : List Q4} {s : Int} (h : ¬ ptC l s = 0) : ¬ ptC l s = 6 := by
  intro h6
  by_cases h1 : ppC l = 0
  · by_cases h2 : 1 ≤ s ∧ s ≤ 8
    · exact h (ptC_ok h1 h2).1
    · rw [(ptC_range h1 h2).1] at h6; omega
  · rw [(ptC_no h1).1, ppC] at h6
    split at h6
    · split at h6 <;> omega
    · omega
set_option maxHeartbeats 400000 in
theorem bigS_any (q : Option Addr) (n c : Nat) (w : World) :
    Calls Try.prog 24 #[.slice q n c] w fun e w' => e = .returned (.bool (decide (4096 < (n : Int)))) ∧ w = w' := by
  by_cases h : 4096 < (n : Int)
  · go_enter Try.func24, Try.ntmps24
    go_wp2
    go_ret
    exact ⟨ret_bool (by simp [h]), rfl⟩
  · go_enter Try.func24, Try.ntmps24
    go_wp2
    go_ret
    exact ⟨ret_bool (by simp [h]), rfl⟩
set_option maxRecDepth 100000 in
set_option maxHeartbeats 16000000 in
theorem fnStitch_any (q : Option Addr) (n c : Nat) (l : List Int) (w : World) (h : SlT encU 1 w q n l) (hu : ∀ x ∈ l, 0 ≤ x ∧ x ≤ 255) (_hm : n ≤ maxLen) :
    Calls Try.prog 6 #[.slice q n c] w fun e w' => e = .returned (.bool true) ∧ Ext w w' := by
  have hu := hid hu
  clear _hm
  by_cases hbig : 4096 < (n : Int)
  · have hbd : Hid (decide (4096 < (n : Int)) = true) := decide_eq_true hbig
    go_enter Try.func6, Try.ntmps6
    go_wp2_with fail
    refine (bigS_any q n c _).mono ?_
    rw [hbd.out]
    rintro e w' ⟨rfl, rfl⟩
    go_wp2_with fail
    go_ret
    exact ⟨rfl, Ext.refl _⟩
  · have hn : n ≤ 1048576 := by omega
    have hbd : Hid (decide (4096 < (n : Int)) = false) := decide_eq_false hbig
    go_enter Try.func6, Try.ntmps6
    go_wp2_with fail
    refine (bigS_any q n c _).mono ?_
    rw [hbd.out]
    rintro e w' ⟨rfl, rfl⟩
    clear hbig
    go_wp2_with fail
    refine (drawFirstStitch_any q n c l _ h hu.out hn).mono ?_
    rintro e w1 ⟨q1, n1, c1, l1, s, rfl, s1, hn1, E1⟩
    replace s1 := hid s1
    replace E1 := hid E1
    go_wp2_with fail
    refine (FirstStitch_any q1 n1 c1 l1 s _ s1.out (by omega)).mono ?_
    rintro e w2 ⟨i, x, C, rfl, hF, E2⟩
    replace E1 := hid (E1.out.trans E2)
    replace s1 := hid (s1.out.ext E2)
    replace hF := hid hF
    clear E2
    go_wp2_with fail
    refine (ColorParts_any q1 n1 c1 l1 s _ s1.out (by omega)).mono ?_
    rintro e w3 ⟨q3, c3, rfl, _, E3⟩
    replace E1 := hid (E1.out.trans E3)
    replace s1 := hid (s1.out.ext E3)
    clear E3
    rcases hF.out with ⟨h0, rfl, rfl, hC⟩ | ⟨h0, hb, rfl, rfl, rfl⟩ | ⟨h0, hb, hS⟩
    · have hc1 := (cpC_no h0).1
      have h6 := ptC_not6 h0
      rw [← hC] at hc1 h0 h6
      rw [hc1]
      have b1 : (C == 6) = false := by simpa using h6
      have b2 : (C == 0) = false := by simpa using h0
      have b3 : (C != 0) = true := by simpa using h0
      replace hC := hid hC
      clear hc1 hF
      go_wp2_with fail
      go_ret
      exact ⟨rfl, E1.out⟩
    · rw [(cpC_ok h0 hb).1]
      replace h0 := hid h0
      replace hb := hid hb
      clear hF
      go_wp2_with fail
      go_ret
      exact ⟨rfl, E1.out⟩
    · rw [(cpC_bad h0 hb).1]
      replace hb := hid hb
      clear hF
      rcases hS with ⟨rfl, k, rfl, hk, ht, _, _⟩ | ⟨rfl, rfl, rfl, _⟩
      · have hx := ht
        rw [stT, Bool.and_eq_true, Bool.and_eq_true, Bool.and_eq_true, decide_eq_true_eq, decide_eq_true_eq] at hx
        obtain ⟨⟨⟨hx1, hx2⟩, _⟩, _⟩ := hx
        have hpp : ppC l1 = 0 := by
          by_cases h1 : ppC l1 = 0
          · exact h1
          · rw [(ptC_no h1).1] at h0; exact absurd h0 h1
        have hL := (ptC_ok hpp (ptC_prts h0).2.2.2).2
        have hLl : (ppG l1).length = (ptL l1 s).length := by rw [hL, List.length_map]
        have hok := hid (ptL_ok l1 s)
        have hne := hid (ptL_neq l1 s)
        have h12 := ptL_len l1 s
        have hreg : Hid (∀ x ∈ ptL l1 s, isReg x = true) := by
          intro x hx
          rw [hL, List.mem_map] at hx
          obtain ⟨g, _, rfl⟩ := hx
          exact isReg_canon g
        clear ht
        go_wp2_with fail
        refine (PatternParts_any q1 n1 c1 l1 _ s1.out (by omega)).mono ?_
        rintro e w5 ⟨q5, c5, H5, rfl, o5, E5⟩
        have r5 := o5.toS.toR
        rw [← hL] at r5
        rw [hLl] at r5 ⊢
        rw [hpp]
        replace E1 := hid (E1.out.trans E5)
        obtain ⟨b, off, q6, n6, c6, p, rfl, hbw, hp6, z6, t6⟩ := r5.get hk
        have hpm := List.mem_of_getElem? hp6.out
        have hLp : (ptL l1 s).getD k [] = p := getD_of hp6.out
        rw [hLp] at hx1 hx2
        have hn6 : n6 ≤ 3200 := by rw [← t6.length]; exact (hok.out p hpm).1
        have hpos : 0 < n6 := by rw [← t6.length]; exact List.length_pos_iff.2 (hne.out p hpm)
        have hpr := hreg.out p hpm
        have kB := hid (fun V (hV : Ext w5 V) => RegionBox_any q6 n6 c6 p V (t6.ext hV) hpos (by omega) hpr)
        obtain ⟨m, hm⟩ : ∃ m, m = (ptL l1 s).length := ⟨_, rfl⟩
        rw [← hm] at hk h12 ⊢
        have hkI : (k : Int) < (m : Int) := by omega
        have hkN : ¬ m ≤ k := by omega
        have hk0 : ¬ ((k : Int) < 0) := by omega
        obtain ⟨Bx, hBx⟩ : ∃ Bx, Bx = boxL p := ⟨_, rfl⟩
        rw [← hBx] at hx1 hx2 kB
        clear hok hne hreg hL hLl hpp hpm hLp hpr r5 o5 t6 E5 hm hBx h0
        go_wp2_with fail
        refine (kB.out _ (by first | exact Ext.refl _)).mono ?_
        rintro e w6 ⟨rfl, E6⟩
        replace E1 := hid (E1.out.trans E6)
        go_wp2_with fail
        go_ret
        exact ⟨rfl, E1.out.alloc _⟩
      · replace h0 := hid h0
        go_wp2_with fail
        go_ret
        exact ⟨rfl, E1.out⟩
end Go.Proofs.Ytaigndaabmelhaa
