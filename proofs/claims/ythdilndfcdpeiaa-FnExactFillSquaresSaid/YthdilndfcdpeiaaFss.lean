/- Contract of FillSquares (reference). Condition: at most 2^20 rectangles. -/
import Derived.Test.YthdilndfcdpeiaaFsr
import Derived.Test.YthdilndfcdpeiaaFsa
namespace Go.Proofs.Ythdilndfcdpeiaa
open Go.RowKit

theorem FillB_eq (B O base : Nat) (r : Q4) (p sz gap : Int) (S : FS) (w : World) : FillB B O base r p sz gap S w = fun e w' => e = .returned (.int .i64 ((fillR r p sz gap S).2.2 - S.2.2)) ∧ 0 ≤ (fillR r p sz gap S).2.2 - S.2.2 ∧ (fillR r p sz gap S).2.2 - S.2.2 ≤ 10000 ∧ w'.ownsRow base 4 1 (.slice (some ⟨B, 0, none⟩) 6400 6400) 6400 (gcells (fillR r p sz gap S).1) ∧ w'.ownsRow base 4 1 (.slice (some ⟨O, 0, none⟩) 6400 6400) 6400 (gcells (fillR r p sz gap S).2.1) ∧ Mut w w' [B, O] := rfl
set_option maxRecDepth 100000 in
set_option maxHeartbeats 16000000 in
theorem specFill_ok (q : Option Addr) (n c : Nat) (l : List Q4) (s p sz gap : Int) (w : World) (h : SlT enc4 4 w q n l) (hn : n ≤ 1048576) (h1 : isReg l = true) (h2 : wit s 4 40 = true) (h3 : wit p 1 100 = true) (h4 : wit sz 1 8 = true) (h5 : wit gap 0 8 = true) :
    Calls Try.prog 49 #[.slice q n c, .int .i64 s, .int .i64 p, .int .i64 sz, .int .i64 gap] w (FsB l s p sz gap w) := by
  have hc1 := fun W (hW : Ext w W) => l03Ok_any q n c l W (h.ext hW) hn
  rw [h1] at hc1
  have k2 := fun W => l33Size_any s W
  have k3 := fun W => l09In_any p 1 100 W
  have k4 := fun W => l09In_any sz 1 8 W
  have k5 := fun W => l09In_any gap 0 8 W
  have hC : Hid (fsC l s p sz gap = if 400 < (fsS l s p sz gap).2.2 then 3 else 0) := by show _ = _; rw [fsC, h1, h2, h3, h4, h5]; rfl
  have hvs := hid (isReg_parts h1).2
  rw [h2] at k2
  rw [h3] at k3
  rw [h4] at k4
  rw [h5] at k5
  rw [wit_iff] at h2 h3 h4 h5
  have hfl := hid (fun (B O base : Nat) (S : FS) (x y : Int) (W : World) (hbo : B < O) ob oo hx hy => l33Fill_any B O base S x y s p sz gap W hbo ob oo hx hy h2 h3 h4 h5)
  obtain ⟨hs0, hs1⟩ := h2
  replace hc1 := hid hc1
  replace k2 := hid k2
  replace k3 := hid k3
  replace k4 := hid k4
  replace k5 := hid k5
  have h := hid h
  clear h1 h3 h4 h5
  go_enter Try.func49, Try.ntmps49
  go_wp2_with fail
  refine (hc1.out _ (Ext.refl _)).mono ?_
  rintro e w1 ⟨rfl, E1⟩
  go_wp2_with fail
  refine (k2.out _).mono ?_
  rintro e w' ⟨rfl, rfl⟩
  go_wp2_with fail
  refine (k3.out _).mono ?_
  rintro e w' ⟨rfl, rfl⟩
  go_wp2_with fail
  refine (k4.out _).mono ?_
  rintro e w' ⟨rfl, rfl⟩
  go_wp2_with fail
  refine (k5.out _).mono ?_
  rintro e w' ⟨rfl, rfl⟩
  go_wp2_with fail
  refine (l03Bits_any q n c l _ (h.out.ext E1) hn hvs.out).mono ?_
  rintro e w2 ⟨B, rfl, ob, E2⟩
  have hBw := (owns_lt ob).2
  have hBw0 := (owns_lt ob).1
  replace ob := hid (owns_lowF ob E1.le)
  have hE := hid (E1.trans E2)
  clear E2
  go_wp2_with fail
  refine (l03Bits_any none 0 0 [] _ (SlT.zero _ _) (by omega) (by simp)).mono ?_
  rintro e w3 ⟨O, rfl, oo, E3⟩
  have hBO : B < O := by have := (owns_lt oo).1; omega
  replace oo := hid (owns_lowF oo hE.out.le)
  replace ob := hid (owns_ext ob.out E3)
  replace hE := hid (hE.out.trans E3)
  have hwB : w.heap.size ≤ B := by have := E1.le; omega
  have hwO : w.heap.size ≤ O := by omega
  have hg0 : Hid (gcells (gL []) = gcells gnone) := inL_nil.symm
  rw [hg0.out] at oo
  clear E1 E3 hBw hBw0
  go_wp2_with fail
  go_loopw [14, 15, 16] (fun m t _ wr => ∃ (y : Int) (S : FS), t = .int .i64 y ∧ -40 ≤ y ∧ y ≤ 80 ∧ m = .int .i64 S.2.2 ∧ 0 ≤ S.2.2 ∧ S.2.2 ≤ 1200000 * (y + 40) ∧ Hid (fillL p sz gap (winYs s y) S = fsS l s p sz gap) ∧ Hid (wr.ownsRow w.heap.size 4 1 (.slice (some ⟨B, 0, none⟩) 6400 6400) 6400 (gcells S.1)) ∧ Hid (wr.ownsRow w.heap.size 4 1 (.slice (some ⟨O, 0, none⟩) 6400 6400) 6400 (gcells S.2.1)) ∧ Hid (Ext w wr)) (fun _ t _ _ => (1000 - intOf t).toNat)
  case atStart => exact ⟨-40, (gL l, gnone, 0), rfl, by omega, by omega, rfl, by simp, by simp, hid rfl, ob, oo, hE⟩
  case round =>
    clear ob oo hE
    obtain ⟨y, S, rfl, hy0, hy1, rfl, hS0, hS1, hT, ob, oo, hE⟩ := hrel
    by_cases hy4 : y < 40
    · have hT2 : Hid (fillL p sz gap (winXs s y (-40) ++ winYs s (y + s)) S = fsS l s p sz gap) := by show _ = _; rw [← hT.out, winYs_step (by omega) hy0 hy4]
      clear hT
      go_wp2_with fail
      go_loopw [14, 16] (fun m t wr => ∃ (x : Int) (S : FS), t = .int .i64 x ∧ -40 ≤ x ∧ x ≤ 80 ∧ m = .int .i64 S.2.2 ∧ 0 ≤ S.2.2 ∧ S.2.2 ≤ 1200000 * (y + 40) + 10000 * (x + 40) ∧ Hid (fillL p sz gap (winXs s y x ++ winYs s (y + s)) S = fsS l s p sz gap) ∧ Hid (wr.ownsRow w.heap.size 4 1 (.slice (some ⟨B, 0, none⟩) 6400 6400) 6400 (gcells S.1)) ∧ Hid (wr.ownsRow w.heap.size 4 1 (.slice (some ⟨O, 0, none⟩) 6400 6400) 6400 (gcells S.2.1)) ∧ Hid (Ext w wr)) (fun _ t _ => (1000 - intOf t).toNat)
      case atStart => exact ⟨-40, S, rfl, by omega, by omega, rfl, hS0, by omega, hT2, ob, oo, hE⟩
      case round =>
        clear ob oo hE hT2 hS0 hS1
        obtain ⟨x, S, rfl, hx0, hx1, rfl, hS0, hS1, hT, ob, oo, hE⟩ := hrel
        by_cases hx4 : x < 40
        · obtain ⟨S', hS'⟩ : ∃ S', S' = fillR (winQ x y s) p sz gap S := ⟨_, rfl⟩
          have hT3 : Hid (fillL p sz gap (winXs s y (x + s) ++ winYs s (y + s)) S' = fsS l s p sz gap) := by
            show _ = _
            rw [← hT.out, winXs_step (by omega) hx0 hx4, List.cons_append, fillL, hS']; rfl
          have hcall := hfl.out B O w.heap.size S x y wr hBO ob.out oo.out ⟨hx0, hx4⟩ ⟨hy0, hy4⟩
          rw [FillB_eq, ← hS'] at hcall
          obtain ⟨d, hd⟩ : ∃ d, d = S'.2.2 - S.2.2 := ⟨_, rfl⟩
          rw [← hd] at hcall
          have hcall := hid hcall
          replace hS' := hid hS'
          clear hT
          go_wp2_with fail
          refine hcall.out.mono ?_
          rintro e w4 ⟨rfl, hd0, hd1, ob4, oo4, hM⟩
          have hd2 : Hid (Value.int .i64 (S.2.2 + d) = .int .i64 S'.2.2) := by show _ = _; congr 1; omega
          replace ob := hid ob4
          replace oo := hid oo4
          replace hE := hid (hE.out.then hM (by simp; omega))
          clear ob4 oo4 hM
          go_wp2_with fail
          go_roundw
          case rel => exact ⟨x + s, S', rfl, by omega, by omega, by first | exact hd2.out | (congr 1; omega), by omega, by omega, hT3, ob, oo, hE⟩
          case measure => simp [intOf] <;> omega
        · have hT3 : Hid (fillL p sz gap (winYs s (y + s)) S = fsS l s p sz gap) := by show _ = _; rw [← hT.out, winXs_stop (by omega)]; rfl
          clear hT
          go_wp2_with fail
          go_roundw
          case rel => exact ⟨y + s, S, rfl, by omega, by omega, rfl, hS0, by omega, hT3, ob, oo, hE⟩
          case measure => simp [intOf] <;> omega
    · have hfin : Hid (S = fsS l s p sz gap) := by show _ = _; rw [← hT.out, winYs_stop (by omega)]; rfl
      have hCC := hC.out
      rw [← hfin.out] at hCC
      by_cases h400 : 400 < S.2.2
      · have hr3 : Hid (fsC l s p sz gap = 3) := by show _ = _; rw [hCC, if_pos h400]
        go_wp2_with fail
        go_ret2
        exact fs_none hr3.out (by omega) hE.out
      · have hr0 : Hid (fsC l s p sz gap = 0) := by show _ = _; rw [hCC, if_neg h400]
        clear hCC
        have hbt := hid (Bits.of oo.out)
        go_wp2_with fail
        refine (l03Canon_any O 6400 S.2.1 _ hbt.out).mono ?_
        rintro e w9 ⟨q9, c9, rfl, o9, E9⟩
        have hO9 := hid o9
        clear o9
        have hl9 : Hid (fsL l s p sz gap = canon S.2.1) := by show _ = _; rw [fsL, hr0.out, if_pos rfl, ← hfin.out]
        go_wp2_with fail
        go_ret2
        exact ⟨q9, c9, by rw [hl9.out, hr0.out]; rfl, by rw [hl9.out]; exact owns_lowF hO9.out hE.out.le, hE.out.trans E9⟩
set_option maxRecDepth 100000 in
set_option maxHeartbeats 8000000 in
theorem specFillSquares_any (q : Option Addr) (n c : Nat) (l : List Q4) (s p sz gap : Int) (w : World) (h : SlT enc4 4 w q n l) (hn : n ≤ 1048576) :
    Calls Try.prog 49 #[.slice q n c, .int .i64 s, .int .i64 p, .int .i64 sz, .int .i64 gap] w (FsB l s p sz gap w) := by
  have hc1 := fun W (hW : Ext w W) => l03Ok_any q n c l W (h.ext hW) hn
  have k2 := fun W => l33Size_any s W
  have k3 := fun W => l09In_any p 1 100 W
  have k4 := fun W => l09In_any sz 1 8 W
  have k5 := fun W => l09In_any gap 0 8 W
  cases h1 : isReg l with
  | false =>
    have hr : Hid (fsC l s p sz gap = 1) := by show _ = _; rw [fsC, h1]; rfl
    rw [h1] at hc1
    clear h1
    go_enter Try.func49, Try.ntmps49
    go_wp2_with fail
    refine (hc1 _ (Ext.refl _)).mono ?_
    rintro e w1 ⟨rfl, E1⟩
    go_wp2_with fail
    go_ret2
    exact fs_none hr.out (by omega) E1
  | true =>
    rw [h1] at hc1
    cases h2 : wit s 4 40 with
    | false =>
      have hr : Hid (fsC l s p sz gap = 2) := by show _ = _; rw [fsC, h1, h2]; rfl
      rw [h2] at k2
      go_enter Try.func49, Try.ntmps49
      go_wp2_with fail
      refine (hc1 _ (Ext.refl _)).mono ?_
      rintro e w1 ⟨rfl, E1⟩
      go_wp2_with fail
      refine (k2 _).mono ?_
      rintro e w' ⟨rfl, rfl⟩
      go_wp2_with fail
      go_ret2
      exact fs_none hr.out (by omega) E1
    | true =>
      rw [h2] at k2
      cases h3 : wit p 1 100 with
      | false =>
        have hr : Hid (fsC l s p sz gap = 2) := by show _ = _; rw [fsC, h1, h2, h3]; rfl
        rw [h3] at k3
        go_enter Try.func49, Try.ntmps49
        go_wp2_with fail
        refine (hc1 _ (Ext.refl _)).mono ?_
        rintro e w1 ⟨rfl, E1⟩
        go_wp2_with fail
        refine (k2 _).mono ?_
        rintro e w' ⟨rfl, rfl⟩
        go_wp2_with fail
        refine (k3 _).mono ?_
        rintro e w' ⟨rfl, rfl⟩
        go_wp2_with fail
        go_ret2
        exact fs_none hr.out (by omega) E1
      | true =>
        rw [h3] at k3
        cases h4 : wit sz 1 8 with
        | false =>
          have hr : Hid (fsC l s p sz gap = 2) := by show _ = _; rw [fsC, h1, h2, h3, h4]; rfl
          rw [h4] at k4
          go_enter Try.func49, Try.ntmps49
          go_wp2_with fail
          refine (hc1 _ (Ext.refl _)).mono ?_
          rintro e w1 ⟨rfl, E1⟩
          go_wp2_with fail
          refine (k2 _).mono ?_
          rintro e w' ⟨rfl, rfl⟩
          go_wp2_with fail
          refine (k3 _).mono ?_
          rintro e w' ⟨rfl, rfl⟩
          go_wp2_with fail
          refine (k4 _).mono ?_
          rintro e w' ⟨rfl, rfl⟩
          go_wp2_with fail
          go_ret2
          exact fs_none hr.out (by omega) E1
        | true =>
          rw [h4] at k4
          cases h5 : wit gap 0 8 with
          | false =>
            have hr : Hid (fsC l s p sz gap = 2) := by show _ = _; rw [fsC, h1, h2, h3, h4, h5]; rfl
            rw [h5] at k5
            go_enter Try.func49, Try.ntmps49
            go_wp2_with fail
            refine (hc1 _ (Ext.refl _)).mono ?_
            rintro e w1 ⟨rfl, E1⟩
            go_wp2_with fail
            refine (k2 _).mono ?_
            rintro e w' ⟨rfl, rfl⟩
            go_wp2_with fail
            refine (k3 _).mono ?_
            rintro e w' ⟨rfl, rfl⟩
            go_wp2_with fail
            refine (k4 _).mono ?_
            rintro e w' ⟨rfl, rfl⟩
            go_wp2_with fail
            refine (k5 _).mono ?_
            rintro e w' ⟨rfl, rfl⟩
            go_wp2_with fail
            go_ret2
            exact fs_none hr.out (by omega) E1
          | true =>
            rw [h5] at k5
            exact specFill_ok q n c l s p sz gap w h hn h1 h2 h3 h4 h5
end Go.Proofs.Ythdilndfcdpeiaa
