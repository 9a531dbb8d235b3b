/- The law FnExactInteract returns true, for every input. No condition. -/
import Derived.Test.YtkkhdjacclgcaaaBlk
namespace Go.Proofs.Ytkkhdjacclgcaaa
open Go.RowKit

set_option maxHeartbeats 400000 in
theorem Interact_any (p q : Q4) (g : Int) (w : World) :
    Calls Try.prog 13 #[.agg #[.int .i64 p.a, .int .i64 p.b, .int .i64 p.c, .int .i64 p.d], .agg #[.int .i64 q.a, .int .i64 q.b, .int .i64 q.c, .int .i64 q.d], .int .i64 g] w
      fun e w' => e = .returned (.bool (Intr p q g)) ∧ Ext w w' := by
  by_cases hp : vblk p = true
  · by_cases hq : vblk q = true
    · by_cases hg : wit g 0 8 = true
      · go_enter Try.func13, Try.ntmps13
        go_wp2_with fail
        refine (validBlock_any _ _).mono ?_
        rintro e w1 ⟨rfl, h1⟩
        have c1 := h1.cells
        have z1 : w.heap.size + 1 < w1.heap.size := by have := h1.le; simp at this; omega
        go_wp2_with fail
        refine (validBlock_any _ _).mono ?_
        rintro e w2 ⟨rfl, h2⟩
        have h3 := h1.trans h2
        have c3 := h3.cells
        clear c1
        go_wp2_with fail
        refine (within_any _ _ _ _).mono ?_
        rintro e w4 ⟨rfl, rfl⟩
        go_wp2_with fail
        refine (interact_any _ _ _ _ hp hq hg).mono ?_
        rintro e w5 ⟨rfl, h5⟩
        go_wp2_with fail
        go_ret
        exact ⟨ret_bool (by simp [Intr, *]), (((Ext.refl _).alloc _).alloc _).trans (h3.trans h5)⟩
      · go_enter Try.func13, Try.ntmps13
        go_wp2_with fail
        refine (validBlock_any _ _).mono ?_
        rintro e w1 ⟨rfl, h1⟩
        have c1 := h1.cells
        go_wp2_with fail
        refine (validBlock_any _ _).mono ?_
        rintro e w2 ⟨rfl, h2⟩
        go_wp2_with fail
        refine (within_any _ _ _ _).mono ?_
        rintro e w4 ⟨rfl, rfl⟩
        go_wp2_with fail
        go_ret
        exact ⟨ret_bool (by simp [Intr, *]), (((Ext.refl _).alloc _).alloc _).trans (h1.trans h2)⟩
    · go_enter Try.func13, Try.ntmps13
      go_wp2_with fail
      refine (validBlock_any _ _).mono ?_
      rintro e w1 ⟨rfl, h1⟩
      have c1 := h1.cells
      go_wp2_with fail
      refine (validBlock_any _ _).mono ?_
      rintro e w2 ⟨rfl, h2⟩
      go_wp2_with fail
      go_ret
      exact ⟨ret_bool (by simp [Intr, *]), (((Ext.refl _).alloc _).alloc _).trans (h1.trans h2)⟩
  · go_enter Try.func13, Try.ntmps13
    go_wp2_with fail
    refine (validBlock_any _ _).mono ?_
    rintro e w1 ⟨rfl, h1⟩
    go_wp2_with fail
    go_ret
    exact ⟨ret_bool (by simp [Intr, *]), (((Ext.refl _).alloc _).alloc _).trans h1⟩
set_option maxHeartbeats 400000 in
theorem specInteract_any (p q : Q4) (g : Int) (w : World) :
    Calls Try.prog 11 #[.agg #[.int .i64 p.a, .int .i64 p.b, .int .i64 p.c, .int .i64 p.d], .agg #[.int .i64 q.a, .int .i64 q.b, .int .i64 q.c, .int .i64 q.d], .int .i64 g] w
      fun e w' => e = .returned (.bool (Intr p q g)) ∧ Ext w w' := by
  by_cases hp : vblk p = true
  · by_cases hq : vblk q = true
    · by_cases hg : wit g 0 8 = true
      · go_enter Try.func11, Try.ntmps11
        go_wp2_with fail
        refine (l31Block_any _ _).mono ?_
        rintro e w1 ⟨rfl, h1⟩
        have c1 := h1.cells
        have z1 : w.heap.size + 1 < w1.heap.size := by have := h1.le; simp at this; omega
        go_wp2_with fail
        refine (l31Block_any _ _).mono ?_
        rintro e w2 ⟨rfl, h2⟩
        have h3 := h1.trans h2
        have c3 := h3.cells
        clear c1
        go_wp2_with fail
        refine (l31Gap_any _ _).mono ?_
        rintro e w4 ⟨rfl, rfl⟩
        go_wp2_with fail
        refine (l31Interact_any _ _ _ _ hp hq hg).mono ?_
        rintro e w5 ⟨rfl, h5⟩
        go_wp2_with fail
        go_ret
        exact ⟨ret_bool (by simp [Intr, *]), (((Ext.refl _).alloc _).alloc _).trans (h3.trans h5)⟩
      · go_enter Try.func11, Try.ntmps11
        go_wp2_with fail
        refine (l31Block_any _ _).mono ?_
        rintro e w1 ⟨rfl, h1⟩
        have c1 := h1.cells
        go_wp2_with fail
        refine (l31Block_any _ _).mono ?_
        rintro e w2 ⟨rfl, h2⟩
        go_wp2_with fail
        refine (l31Gap_any _ _).mono ?_
        rintro e w4 ⟨rfl, rfl⟩
        go_wp2_with fail
        go_ret
        exact ⟨ret_bool (by simp [Intr, *]), (((Ext.refl _).alloc _).alloc _).trans (h1.trans h2)⟩
    · go_enter Try.func11, Try.ntmps11
      go_wp2_with fail
      refine (l31Block_any _ _).mono ?_
      rintro e w1 ⟨rfl, h1⟩
      have c1 := h1.cells
      go_wp2_with fail
      refine (l31Block_any _ _).mono ?_
      rintro e w2 ⟨rfl, h2⟩
      go_wp2_with fail
      go_ret
      exact ⟨ret_bool (by simp [Intr, *]), (((Ext.refl _).alloc _).alloc _).trans (h1.trans h2)⟩
  · go_enter Try.func11, Try.ntmps11
    go_wp2_with fail
    refine (l31Block_any _ _).mono ?_
    rintro e w1 ⟨rfl, h1⟩
    go_wp2_with fail
    go_ret
    exact ⟨ret_bool (by simp [Intr, *]), (((Ext.refl _).alloc _).alloc _).trans h1⟩
set_option maxHeartbeats 400000 in
theorem toBlock_any (x y u v : Int) (w : World) :
    Calls Try.prog 12 #[.agg #[.int .i64 x, .int .i64 y, .int .i64 u, .int .i64 v]] w fun e w' => e = .returned (.agg #[.int .i64 x, .int .i64 y, .int .i64 u, .int .i64 v]) ∧ Ext w w' := by
  go_enter Try.func12, Try.ntmps12
  go_wp2
  refine bodyPost_ret (v := .agg #[.int .i64 x, .int .i64 y, .int .i64 u, .int .i64 v]) (by simp [results, Try.results12, go_sem]) rfl ⟨rfl, ?_⟩
  exact (((Ext.refl _).alloc _).alloc _).alloc _

set_option maxHeartbeats 400000 in
theorem exactInteract_any (p q : Q4) (gap : Int) (w : World) :
    Calls Try.prog 3 #[.agg #[.int .i64 p.a, .int .i64 p.b, .int .i64 p.c, .int .i64 p.d], .agg #[.int .i64 q.a, .int .i64 q.b, .int .i64 q.c, .int .i64 q.d], .int .i64 gap] w
      fun e w' => e = .returned (.bool true) ∧ Ext w w' := by
  go_enter Try.func3, Try.ntmps3
  go_wp2
  refine wp_region_later (by kernel_rfl) (by kernel_rfl) ?_
  repeat (quiet_step (first | (go_at_call 12; refine later_of (toBlock_any _ _ _ _ _)) | (go_at_call 11; refine later_of (specInteract_any p q gap _))))
  refine wpQuiet_nil ?_
  rintro w1 ⟨⟨_, h1⟩, rfl⟩
  have c1 := h1.cells
  have z1 : w.heap.size + 1 < w1.heap.size := by have := h1.le; simp at this; omega
  have z0 : w.heap.size < w1.heap.size := by omega
  go_wp2
  refine wp_region_later (by kernel_rfl) (by kernel_rfl) ?_
  repeat (quiet_step (first | (go_at_call 12; refine later_of (toBlock_any _ _ _ _ _)) | (go_at_call 13; refine later_of (Interact_any p q gap _))))
  refine wpQuiet_nil ?_
  rintro w2 ⟨⟨_, h2⟩, rfl⟩
  go_wp2
  go_ret
  exact ⟨rfl, (((Ext.refl _).alloc _).alloc _).trans (h1.trans h2)⟩
end Go.Proofs.Ytkkhdjacclgcaaa
