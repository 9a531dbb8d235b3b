/- Contracts of the helper functions of the laws on slices: toXS copies, eqXS is true of equal lists, szXS, markXS writes running numbers into a row, heldXS finds them there. Condition: at most 2^20 elements. -/
import Derived.Test.YtaigndaabmelhaaWor
namespace Go.Proofs.Ytaigndaabmelhaa
open Go.RowKit

set_option maxHeartbeats 400000 in
theorem eqConflictPair_same (x : Q2) (w : World) :
    Calls Try.prog 82 #[.agg #[.int .i64 x.a, .int .i64 x.b], .agg #[.int .i64 x.a, .int .i64 x.b]] w fun e w' => e = .returned (.bool true) ∧ Ext w w' := by
  go_enter Try.func82, Try.ntmps82
  go_wp2
  go_ret
  exact ⟨rfl, ((Ext.refl _).alloc _).alloc _⟩
set_option maxRecDepth 100000 in
set_option maxHeartbeats 400000 in
theorem eqConflictPairS_same (p1 p2 : Option Addr) (n c1 c2 : Nat) (l : List Q2) (w : World) (h1 : SlT enc2 2 w p1 n l) (h2 : SlT enc2 2 w p2 n l) (hn : n ≤ 1048576) :
    Calls Try.prog 40 #[.slice p1 n c1, .slice p2 n c2] w fun e w' => e = .returned (.bool true) ∧ Ext w w' := by
  have hl := hid h1.length
  go_enter Try.func40, Try.ntmps40
  go_wp2
  go_loopw [5] (fun i wr => ∃ k : Nat, k ≤ n ∧ i = .int .i64 k ∧ Ext w wr) (fun i _ => n - (intOf i).toNat)
  case atStart => exact ⟨0, by omega, rfl, Ext.refl _⟩
  case round =>
    obtain ⟨k, hk, rfl, hE⟩ := hrel
    by_cases hlt : k < n
    · obtain ⟨b, off, x, rfl, hb, hx, c0, c1⟩ := (h1.ext hE).two hlt
      obtain ⟨b', off', x', rfl, hb', hx', d0, d1⟩ := (h2.ext hE).two hlt
      obtain rfl : x = x' := Option.some.inj (hx.out.symm.trans hx'.out)
      have hlt' : (k : Int) < (n : Int) := by omega
      go_wp2_with fail
      refine wp_region_later (by kernel_rfl) (by kernel_rfl) ?_
      repeat (quiet_step ((go_at_call 82; exact later_of (eqConflictPair_same _ _))))
      refine wpQuiet_nil ?_
      rintro w2 ⟨⟨_, h3⟩, rfl⟩
      go_wp2
      go_roundw
      case rel => exact ⟨k + 1, by omega, by go_num, hE.trans h3⟩
      case measure => simp [intOf]; omega
    · go_wp2_with fail
      go_ret
      exact ⟨rfl, hE⟩
set_option maxRecDepth 100000 in
set_option maxHeartbeats 1000000 in
theorem markConflictPairS_any (q : Option Addr) (n c : Nat) (k : Int) (base : Nat) (e : TypeId) (xs : List Value) (w : World) (h : w.ownsRow base e 2 (.slice q n c) n xs) (hn : n ≤ 1048576) (hk0 : 0 ≤ k) (hk1 : k ≤ 1099511627776) :
    Calls Try.prog 41 #[.slice q n c, .int .i64 k] w fun e1 w' => e1 = .returned (.int .i64 (k + (n : Int) * 2)) ∧ w'.ownsRow base e 2 (.slice q n c) n (marks k (n * 2)) ∧ Mut w w' (blkOf q) := by
  have hxl := hid h.1
  go_enter Try.func41, Try.ntmps41
  go_wp2
  go_loopw [1, 5] (fun t i wr => ∃ j : Nat, j ≤ n ∧ i = .int .i64 j ∧ t = .int .i64 (k + (j : Int) * 2) ∧ Mut w wr (blkOf q) ∧ wr.ownsRow base e 2 (.slice q n c) n (marks k (j * 2) ++ xs.drop (j * 2))) (fun _ i _ => n - (intOf i).toNat)
  case atStart => exact ⟨0, by omega, rfl, by go_num, Mut.refl _ _, by simpa [marks] using h⟩
  case round =>
    obtain ⟨j, hj, rfl, rfl, hM, ho⟩ := hrel
    by_cases hlt : j < n
    · obtain ⟨g, hg⟩ := owns_some ho (by omega)
      subst hg
      obtain ⟨v0, e0⟩ := owns_cell ho (j * 2) (by omega)
      obtain ⟨v1, e1⟩ := owns_cell ho (j * 2 + 1) (by omega)
      have hf := owns_free ho
      have hs := hid hxl.out
      go_wp2
      go_roundw
      case rel =>
        refine ⟨j + 1, by omega, by go_num, by go_num, ((hM.setCell (p := ⟨g, _, none⟩) (by simp [blkOf]) _).setCell (p := ⟨g, _, none⟩) (by simp [blkOf]) _), ?_⟩
        have m0 := marks_set (k := k) (j := j * 2) (xs := xs) (by rw [hxl.out]; omega)
        rw [show k + ((j * 2 : Nat) : Int) = k + (j : Int) * 2 by omega] at m0
        have m1 := marks_set (k := k) (j := j * 2 + 1) (xs := xs) (by rw [hxl.out]; omega)
        rw [show k + ((j * 2 + 1 : Nat) : Int) = k + (j : Int) * 2 + 1 by omega] at m1
        rw [show (j + 1) * 2 = j * 2 + 1 + 1 by omega, ← m1, show j * 2 + 1 = j * 2 + 1 from rfl, ← m0]
        exact (owns_set (owns_set ho _ _) _ _)
      case measure => simp [intOf]; omega
    · have hjn : j = n := by omega
      subst hjn
      rw [List.drop_eq_nil_of_le (by rw [hxl.out]; omega), List.append_nil] at ho
      go_wp2_with fail
      go_ret
      exact ⟨ret_int (by omega), ho, hM⟩
set_option maxRecDepth 100000 in
set_option maxHeartbeats 1000000 in
theorem heldConflictPairS_any (q : Option Addr) (n c : Nat) (k : Int) (base : Nat) (e : TypeId) (w : World) (h : w.ownsRow base e 2 (.slice q n c) n (marks k (n * 2))) (hn : n ≤ 1048576) (hk0 : 0 ≤ k) (hk1 : k ≤ 1099511627776) :
    Calls Try.prog 42 #[.slice q n c, .int .i64 k] w fun e1 w' => e1 = .returned (.int .i64 (k + (n : Int) * 2)) ∧ w = w' := by
  go_enter Try.func42, Try.ntmps42
  go_wp2
  go_loop [1, 5] (fun t i => ∃ j : Nat, j ≤ n ∧ i = .int .i64 j ∧ t = .int .i64 (k + (j : Int) * 2)) (fun _ i => n - (intOf i).toNat)
  case atStart => exact ⟨0, by omega, rfl, by go_num⟩
  case round =>
    obtain ⟨j, hj, rfl, rfl⟩ := hrel
    by_cases hlt : j < n
    · obtain ⟨g, hg⟩ := owns_some h (by omega)
      subst hg
      have e0 : w.cell? ⟨g, j * 2, none⟩ = some (.int .i64 (k + (j : Int) * 2)) := by rw [h.cellAt _ (by omega), marks_at (by omega)]; try (congr 2 <;> omega)
      have e1 : w.cell? ⟨g, j * 2 + 1, none⟩ = some (.int .i64 (k + (j : Int) * 2 + 1)) := by rw [h.cellAt _ (by omega), marks_at (by omega)]; try (congr 2 <;> omega)
      go_wp2
      go_round
      case rel => exact ⟨j + 1, by omega, by go_num, by go_num⟩
      case measure => simp [intOf]; omega
    · have hjn : j = n := by omega
      subst hjn
      go_wp2_with fail
      go_ret
      exact ⟨ret_int (by omega), rfl⟩
set_option maxRecDepth 100000 in
set_option maxHeartbeats 400000 in
theorem eqInt64S_same (p1 p2 : Option Addr) (n c1 c2 : Nat) (l : List Int) (w : World) (h1 : SlT enc1 1 w p1 n l) (h2 : SlT enc1 1 w p2 n l) (hn : n ≤ 1048576) :
    Calls Try.prog 45 #[.slice p1 n c1, .slice p2 n c2] w fun e w' => e = .returned (.bool true) ∧ Ext w w' := by
  have hl := hid h1.length
  go_enter Try.func45, Try.ntmps45
  go_wp2
  go_loopw [5] (fun i wr => ∃ k : Nat, k ≤ n ∧ i = .int .i64 k ∧ Ext w wr) (fun i _ => n - (intOf i).toNat)
  case atStart => exact ⟨0, by omega, rfl, Ext.refl _⟩
  case round =>
    obtain ⟨k, hk, rfl, hE⟩ := hrel
    by_cases hlt : k < n
    · obtain ⟨b, off, x, rfl, hb, hx, c0⟩ := (h1.ext hE).int hlt
      obtain ⟨b', off', x', rfl, hb', hx', d0⟩ := (h2.ext hE).int hlt
      obtain rfl : x = x' := Option.some.inj (hx.out.symm.trans hx'.out)
      have hlt' : (k : Int) < (n : Int) := by omega
      go_wp2_with fail
      refine wp_region_later (by kernel_rfl) (by kernel_rfl) ?_
      repeat (quiet_step (fail))
      refine wpQuiet_nil ?_
      rintro w2 ⟨⟨_, h3⟩, rfl⟩
      go_wp2
      go_roundw
      case rel => exact ⟨k + 1, by omega, by go_num, hE.trans h3⟩
      case measure => simp [intOf]; omega
    · go_wp2_with fail
      go_ret
      exact ⟨rfl, hE⟩
set_option maxRecDepth 100000 in
set_option maxHeartbeats 1000000 in
theorem markInt64S_any (q : Option Addr) (n c : Nat) (k : Int) (base : Nat) (e : TypeId) (xs : List Value) (w : World) (h : w.ownsRow base e 1 (.slice q n c) n xs) (hn : n ≤ 1048576) (hk0 : 0 ≤ k) (hk1 : k ≤ 1099511627776) :
    Calls Try.prog 46 #[.slice q n c, .int .i64 k] w fun e1 w' => e1 = .returned (.int .i64 (k + (n : Int))) ∧ w'.ownsRow base e 1 (.slice q n c) n (marks k n) ∧ Mut w w' (blkOf q) := by
  have hxl := hid h.1
  go_enter Try.func46, Try.ntmps46
  go_wp2
  go_loopw [1, 5] (fun t i wr => ∃ j : Nat, j ≤ n ∧ i = .int .i64 j ∧ t = .int .i64 (k + (j : Int)) ∧ Mut w wr (blkOf q) ∧ wr.ownsRow base e 1 (.slice q n c) n (marks k j ++ xs.drop j)) (fun _ i _ => n - (intOf i).toNat)
  case atStart => exact ⟨0, by omega, rfl, by go_num, Mut.refl _ _, by simpa [marks] using h⟩
  case round =>
    obtain ⟨j, hj, rfl, rfl, hM, ho⟩ := hrel
    by_cases hlt : j < n
    · obtain ⟨g, hg⟩ := owns_some ho (by omega)
      subst hg
      obtain ⟨v0, e0⟩ := owns_cell ho (j) (by omega)
      have hf := owns_free ho
      have hs := hid hxl.out
      go_wp2
      go_roundw
      case rel =>
        refine ⟨j + 1, by omega, by go_num, by go_num, (hM.setCell (p := ⟨g, _, none⟩) (by simp [blkOf]) _), ?_⟩
        rw [← marks_set (by rw [hxl.out]; omega)]
        exact (owns_set ho _ _)
      case measure => simp [intOf]; omega
    · have hjn : j = n := by omega
      subst hjn
      rw [List.drop_eq_nil_of_le (by rw [hxl.out]; omega), List.append_nil] at ho
      go_wp2_with fail
      go_ret
      exact ⟨ret_int (by omega), ho, hM⟩
set_option maxRecDepth 100000 in
set_option maxHeartbeats 1000000 in
theorem heldInt64S_any (q : Option Addr) (n c : Nat) (k : Int) (base : Nat) (e : TypeId) (w : World) (h : w.ownsRow base e 1 (.slice q n c) n (marks k n)) (hn : n ≤ 1048576) (hk0 : 0 ≤ k) (hk1 : k ≤ 1099511627776) :
    Calls Try.prog 47 #[.slice q n c, .int .i64 k] w fun e1 w' => e1 = .returned (.int .i64 (k + (n : Int))) ∧ w = w' := by
  go_enter Try.func47, Try.ntmps47
  go_wp2
  go_loop [1, 5] (fun t i => ∃ j : Nat, j ≤ n ∧ i = .int .i64 j ∧ t = .int .i64 (k + (j : Int))) (fun _ i => n - (intOf i).toNat)
  case atStart => exact ⟨0, by omega, rfl, by go_num⟩
  case round =>
    obtain ⟨j, hj, rfl, rfl⟩ := hrel
    by_cases hlt : j < n
    · obtain ⟨g, hg⟩ := owns_some h (by omega)
      subst hg
      have e0 : w.cell? ⟨g, j, none⟩ = some (.int .i64 (k + j)) := by rw [h.cellAt _ (by omega), marks_at (by omega)]; try (congr 2 <;> omega)
      go_wp2
      go_round
      case rel => exact ⟨j + 1, by omega, by go_num, by go_num⟩
      case measure => simp [intOf]; omega
    · have hjn : j = n := by omega
      subst hjn
      go_wp2_with fail
      go_ret
      exact ⟨ret_int (by omega), rfl⟩
end Go.Proofs.Ytaigndaabmelhaa
