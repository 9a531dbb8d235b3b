/- Contracts of the helper functions of the laws on slices: toXS copies, eqXS is true of equal lists, szXS, markXS writes running numbers into a row, heldXS finds them there. Condition: at most 2^20 elements. -/
import Derived.Test.YtaigndaabmelhaaWor
namespace Go.Proofs.Ytaigndaabmelhaa
open Go.RowKit

set_option maxHeartbeats 400000 in
theorem toRect_any (x y u v : Int) (w : World) :
    Calls Try.prog 60 #[.agg #[.int .i64 x, .int .i64 y, .int .i64 u, .int .i64 v]] w fun e w' => e = .returned (.agg #[.int .i64 x, .int .i64 y, .int .i64 u, .int .i64 v]) ∧ Ext w w' := by
  go_enter Try.func60, Try.ntmps60
  go_wp2
  refine bodyPost_ret (v := .agg #[.int .i64 x, .int .i64 y, .int .i64 u, .int .i64 v]) (by simp [results, Try.results60, go_sem]) rfl ⟨rfl, ?_⟩
  exact (((Ext.refl _).alloc _).alloc _).alloc _
theorem info_Rect : (Try.prog.info? 50).map (fun i => (i.zero, i.size, i.bytes)) = some (some (.agg #[.int .i64 0, .int .i64 0, .int .i64 0, .int .i64 0]), 4, 32) := by kernel_rfl
set_option maxRecDepth 100000 in
set_option maxHeartbeats 400000 in
theorem toRectS_any (p : Option Addr) (n c : Nat) (l : List Q4) (w : World) (h : SlT enc4 4 w p n l) (hn : n ≤ 1048576) :
    Calls Try.prog 17 #[.slice p n c] w fun e w' => ∃ q, e = .returned (.slice q n n) ∧ w'.ownsRow w.heap.size 50 4 (.slice q n n) n (l.flatMap enc4) ∧ Ext w w' := by
  obtain ⟨i0, hi, hz0, hz1, hz2⟩ := info_parts info_Rect
  have hl := hid h.length
  go_enter Try.func17, Try.ntmps17
  go_wp2_with (refine wpList_make_full _ rfl _ _ 27 rfl w.heap.size 50 i0 _ 4 Try.underlying27 hi hz0 hz1 .i64 .i64 n n n rfl rfl rfl rfl (by rw [hz2]; omega) (by unfold maxLen; omega) (Nat.le_refl _) ?_; intro w1 ho hg)
  rw [made_const _ (.int .i64 0) _ (by simp [Value.cells]) (by intro j hj; simp [Value.cells] at hj ⊢; match j, hj with | 0, _ => rfl | 1, _ => rfl | 2, _ => rfl | 3, _ => rfl), ← fill_zero enc4 4 _ l] at ho
  have hE : Ext w w1 := (Ext.refl _).grown hg (fun _ h => by cases h)
  clear hg
  go_wp2
  go_loopw [4] (fun i wr => ∃ k : Nat, k ≤ n ∧ i = .int .i64 k ∧ Ext w wr ∧ wr.ownsRow w.heap.size 50 4 (.slice (some ⟨w.heap.size, 0, none⟩) n n) n (fill enc4 4 (.int .i64 0) l n k)) (fun i _ => n - (intOf i).toNat)
  case atStart => exact ⟨0, by omega, rfl, hE, ho⟩
  case round =>
    clear hE ho w1
    obtain ⟨k, hk, rfl, hE, ho⟩ := hrel
    by_cases hlt : k < n
    · obtain ⟨b, off, x, rfl, hb, hx, c0, c1, c2, c3⟩ := (h.ext hE).four hlt
      go_wp2_with fail
      refine (toRect_any _ _ _ _ _).mono ?_
      rintro e w2 ⟨rfl, h2⟩
      have ho2 := owns_ext ho h2
      have hE2 := hE.trans h2
      clear c0 c1 c2 c3
      obtain ⟨v0, e0⟩ := owns_cell ho2 (k * 4) (by omega)
      obtain ⟨v1, e1⟩ := owns_cell ho2 (k * 4 + 1) (by omega)
      obtain ⟨v2, e2⟩ := owns_cell ho2 (k * 4 + 2) (by omega)
      obtain ⟨v3, e3⟩ := owns_cell ho2 (k * 4 + 3) (by omega)
      have hf := owns_free ho2
      go_wp2_with fail
      go_roundw
      case rel =>
        refine ⟨k + 1, by omega, by go_num, ((((hE2.setCell (Nat.le_refl _) _).setCell (Nat.le_refl _) _).setCell (Nat.le_refl _) _).setCell (Nat.le_refl _) _), ?_⟩
        rw [← fill_step4 hx.out hlt hl.out]
        exact (owns_set (owns_set (owns_set (owns_set ho2 _ _) _ _) _ _) _ _)
      case measure => simp [intOf]; omega
    · go_wp2_with fail
      go_ret
      have : k = n := by omega
      subst this
      rw [fill_all _ _ _ _ _ hl.out] at ho
      exact ⟨_, rfl, ho, hE⟩
set_option maxHeartbeats 400000 in
theorem eqRect_same (x : Q4) (w : World) :
    Calls Try.prog 62 #[.agg #[.int .i64 x.a, .int .i64 x.b, .int .i64 x.c, .int .i64 x.d], .agg #[.int .i64 x.a, .int .i64 x.b, .int .i64 x.c, .int .i64 x.d]] w fun e w' => e = .returned (.bool true) ∧ Ext w w' := by
  go_enter Try.func62, Try.ntmps62
  go_wp2
  go_ret
  exact ⟨rfl, ((Ext.refl _).alloc _).alloc _⟩
set_option maxRecDepth 100000 in
set_option maxHeartbeats 400000 in
theorem eqRectS_same (p1 p2 : Option Addr) (n c1 c2 : Nat) (l : List Q4) (w : World) (h1 : SlT enc4 4 w p1 n l) (h2 : SlT enc4 4 w p2 n l) (hn : n ≤ 1048576) :
    Calls Try.prog 20 #[.slice p1 n c1, .slice p2 n c2] w fun e w' => e = .returned (.bool true) ∧ Ext w w' := by
  have hl := hid h1.length
  go_enter Try.func20, Try.ntmps20
  go_wp2
  go_loopw [5] (fun i wr => ∃ k : Nat, k ≤ n ∧ i = .int .i64 k ∧ Ext w wr) (fun i _ => n - (intOf i).toNat)
  case atStart => exact ⟨0, by omega, rfl, Ext.refl _⟩
  case round =>
    obtain ⟨k, hk, rfl, hE⟩ := hrel
    by_cases hlt : k < n
    · obtain ⟨b, off, x, rfl, hb, hx, c0, c1, c2, c3⟩ := (h1.ext hE).four hlt
      obtain ⟨b', off', x', rfl, hb', hx', d0, d1, d2, d3⟩ := (h2.ext hE).four hlt
      obtain rfl : x = x' := Option.some.inj (hx.out.symm.trans hx'.out)
      have hlt' : (k : Int) < (n : Int) := by omega
      go_wp2_with fail
      refine wp_region_later (by kernel_rfl) (by kernel_rfl) ?_
      repeat (quiet_step ((go_at_call 62; exact later_of (eqRect_same _ _))))
      refine wpQuiet_nil ?_
      rintro w2 ⟨⟨_, h3⟩, rfl⟩
      go_wp2
      go_roundw
      case rel => exact ⟨k + 1, by omega, by go_num, hE.trans h3⟩
      case measure => simp [intOf]; omega
    · go_wp2_with fail
      go_ret
      exact ⟨rfl, hE⟩
set_option maxHeartbeats 400000 in
theorem szRectS_any (p : Option Addr) (n c : Nat) (left : Int) (w : World) (h0 : 0 ≤ left) (h1 : left ≤ 1048576) (hm : n ≤ 9223372036854775807) :
    Calls Try.prog 15 #[.slice p n c, .int .i64 left] w fun e w' => e = .returned (.int .i64 (if left < n then -1 else left - n)) ∧ w = w' := by
  by_cases h : left < n
  · rw [if_pos h]
    go_enter Try.func15, Try.ntmps15
    go_wp2
    go_ret
    exact ⟨rfl, rfl⟩
  · rw [if_neg h]
    go_enter Try.func15, Try.ntmps15
    go_wp2
    go_ret
    exact ⟨rfl, rfl⟩
set_option maxRecDepth 100000 in
set_option maxHeartbeats 1000000 in
theorem markRectS_any (q : Option Addr) (n c : Nat) (k : Int) (base : Nat) (e : TypeId) (xs : List Value) (w : World) (h : w.ownsRow base e 4 (.slice q n c) n xs) (hn : n ≤ 1048576) (hk0 : 0 ≤ k) (hk1 : k ≤ 1099511627776) :
    Calls Try.prog 21 #[.slice q n c, .int .i64 k] w fun e1 w' => e1 = .returned (.int .i64 (k + (n : Int) * 4)) ∧ w'.ownsRow base e 4 (.slice q n c) n (marks k (n * 4)) ∧ Mut w w' (blkOf q) := by
  have hxl := hid h.1
  go_enter Try.func21, Try.ntmps21
  go_wp2
  go_loopw [1, 5] (fun t i wr => ∃ j : Nat, j ≤ n ∧ i = .int .i64 j ∧ t = .int .i64 (k + (j : Int) * 4) ∧ Mut w wr (blkOf q) ∧ wr.ownsRow base e 4 (.slice q n c) n (marks k (j * 4) ++ xs.drop (j * 4))) (fun _ i _ => n - (intOf i).toNat)
  case atStart => exact ⟨0, by omega, rfl, by go_num, Mut.refl _ _, by simpa [marks] using h⟩
  case round =>
    obtain ⟨j, hj, rfl, rfl, hM, ho⟩ := hrel
    by_cases hlt : j < n
    · obtain ⟨g, hg⟩ := owns_some ho (by omega)
      subst hg
      obtain ⟨v0, e0⟩ := owns_cell ho (j * 4) (by omega)
      obtain ⟨v1, e1⟩ := owns_cell ho (j * 4 + 1) (by omega)
      obtain ⟨v2, e2⟩ := owns_cell ho (j * 4 + 2) (by omega)
      obtain ⟨v3, e3⟩ := owns_cell ho (j * 4 + 3) (by omega)
      have hf := owns_free ho
      have hs := hid hxl.out
      go_wp2
      go_roundw
      case rel =>
        refine ⟨j + 1, by omega, by go_num, by go_num, ((((hM.setCell (p := ⟨g, _, none⟩) (by simp [blkOf]) _).setCell (p := ⟨g, _, none⟩) (by simp [blkOf]) _).setCell (p := ⟨g, _, none⟩) (by simp [blkOf]) _).setCell (p := ⟨g, _, none⟩) (by simp [blkOf]) _), ?_⟩
        have m0 := marks_set (k := k) (j := j * 4) (xs := xs) (by rw [hxl.out]; omega)
        rw [show k + ((j * 4 : Nat) : Int) = k + (j : Int) * 4 by omega] at m0
        have m1 := marks_set (k := k) (j := j * 4 + 1) (xs := xs) (by rw [hxl.out]; omega)
        rw [show k + ((j * 4 + 1 : Nat) : Int) = k + (j : Int) * 4 + 1 by omega] at m1
        have m2 := marks_set (k := k) (j := j * 4 + 2) (xs := xs) (by rw [hxl.out]; omega)
        rw [show k + ((j * 4 + 2 : Nat) : Int) = k + (j : Int) * 4 + 1 + 1 by omega] at m2
        have m3 := marks_set (k := k) (j := j * 4 + 3) (xs := xs) (by rw [hxl.out]; omega)
        rw [show k + ((j * 4 + 3 : Nat) : Int) = k + (j : Int) * 4 + 1 + 1 + 1 by omega] at m3
        rw [show (j + 1) * 4 = j * 4 + 3 + 1 by omega, ← m3, show j * 4 + 3 = j * 4 + 2 + 1 from rfl, ← m2, show j * 4 + 2 = j * 4 + 1 + 1 from rfl, ← m1, show j * 4 + 1 = j * 4 + 1 from rfl, ← m0]
        exact (owns_set (owns_set (owns_set (owns_set ho _ _) _ _) _ _) _ _)
      case measure => simp [intOf]; omega
    · have hjn : j = n := by omega
      subst hjn
      rw [List.drop_eq_nil_of_le (by rw [hxl.out]; omega), List.append_nil] at ho
      go_wp2_with fail
      go_ret
      exact ⟨ret_int (by omega), ho, hM⟩
set_option maxRecDepth 100000 in
set_option maxHeartbeats 1000000 in
theorem heldRectS_any (q : Option Addr) (n c : Nat) (k : Int) (base : Nat) (e : TypeId) (w : World) (h : w.ownsRow base e 4 (.slice q n c) n (marks k (n * 4))) (hn : n ≤ 1048576) (hk0 : 0 ≤ k) (hk1 : k ≤ 1099511627776) :
    Calls Try.prog 49 #[.slice q n c, .int .i64 k] w fun e1 w' => e1 = .returned (.int .i64 (k + (n : Int) * 4)) ∧ w = w' := by
  go_enter Try.func49, Try.ntmps49
  go_wp2
  go_loop [1, 5] (fun t i => ∃ j : Nat, j ≤ n ∧ i = .int .i64 j ∧ t = .int .i64 (k + (j : Int) * 4)) (fun _ i => n - (intOf i).toNat)
  case atStart => exact ⟨0, by omega, rfl, by go_num⟩
  case round =>
    obtain ⟨j, hj, rfl, rfl⟩ := hrel
    by_cases hlt : j < n
    · obtain ⟨g, hg⟩ := owns_some h (by omega)
      subst hg
      have e0 : w.cell? ⟨g, j * 4, none⟩ = some (.int .i64 (k + (j : Int) * 4)) := by rw [h.cellAt _ (by omega), marks_at (by omega)]; try (congr 2 <;> omega)
      have e1 : w.cell? ⟨g, j * 4 + 1, none⟩ = some (.int .i64 (k + (j : Int) * 4 + 1)) := by rw [h.cellAt _ (by omega), marks_at (by omega)]; try (congr 2 <;> omega)
      have e2 : w.cell? ⟨g, j * 4 + 2, none⟩ = some (.int .i64 (k + (j : Int) * 4 + 2)) := by rw [h.cellAt _ (by omega), marks_at (by omega)]; try (congr 2 <;> omega)
      have e3 : w.cell? ⟨g, j * 4 + 3, none⟩ = some (.int .i64 (k + (j : Int) * 4 + 3)) := by rw [h.cellAt _ (by omega), marks_at (by omega)]; try (congr 2 <;> omega)
      go_wp2
      go_round
      case rel => exact ⟨j + 1, by omega, by go_num, by go_num⟩
      case measure => simp [intOf]; omega
    · have hjn : j = n := by omega
      subst hjn
      go_wp2_with fail
      go_ret
      exact ⟨ret_int (by omega), rfl⟩
theorem info_Point : (Try.prog.info? 138).map (fun i => (i.zero, i.size, i.bytes)) = some (some (.agg #[.int .i64 0, .int .i64 0]), 2, 16) := by kernel_rfl
end Go.Proofs.Ytaigndaabmelhaa
