/- Contracts of the pure functions on points and rectangles (within, isUnitCell, IsValidRect, area, common, l03At and their reference twins). No condition. -/
import Derived.Test.YtaigndaabmelhaaWor
import Derived.Test.YtaigndaabmelhaaGr2
namespace Go.Proofs.Ytaigndaabmelhaa
open Go.RowKit

def wit (v a b : Int) : Bool := decide (a ≤ v) && decide (v ≤ b)
theorem wit_iff {v a b : Int} : wit v a b = true ↔ a ≤ v ∧ v ≤ b := by simp [wit]
theorem onC_wit (x y : Int) : onC x y = (wit x (-40) 39 && wit y (-40) 39) := by rw [Bool.eq_iff_iff, onC_iff, Bool.and_eq_true, wit_iff, wit_iff]
set_option maxHeartbeats 400000 in
theorem within_any (v a b : Int) (w : World) :
    Calls Try.prog 94 #[.int .i64 v, .int .i64 a, .int .i64 b] w fun e w' => e = .returned (.bool (wit v a b)) ∧ w = w' := by
  by_cases h : a ≤ v
  · go_enter Try.func94, Try.ntmps94
    go_wp2
    go_ret
    exact ⟨ret_bool (by simp [wit, h]), rfl⟩
  · go_enter Try.func94, Try.ntmps94
    go_wp2
    go_ret
    exact ⟨ret_bool (by simp [wit]; omega), rfl⟩
set_option maxHeartbeats 400000 in
theorem l09In_any (v a b : Int) (w : World) :
    Calls Try.prog 128 #[.int .i64 v, .int .i64 a, .int .i64 b] w fun e w' => e = .returned (.bool (wit v a b)) ∧ w = w' := by
  by_cases h : a ≤ v
  · go_enter Try.func128, Try.ntmps128
    go_wp2
    go_ret
    exact ⟨ret_bool (by simp [wit, h]), rfl⟩
  · go_enter Try.func128, Try.ntmps128
    go_wp2
    go_ret
    exact ⟨ret_bool (by simp [wit]; omega), rfl⟩
set_option maxHeartbeats 400000 in
theorem l01In_any (v a b : Int) (w : World) :
    Calls Try.prog 147 #[.int .i64 v, .int .i64 a, .int .i64 b] w fun e w' => e = .returned (.bool (wit v a b)) ∧ w = w' := by
  by_cases h : a ≤ v
  · go_enter Try.func147, Try.ntmps147
    go_wp2
    go_ret
    exact ⟨ret_bool (by simp [wit, h]), rfl⟩
  · go_enter Try.func147, Try.ntmps147
    go_wp2
    go_ret
    exact ⟨ret_bool (by simp [wit]; omega), rfl⟩
set_option maxHeartbeats 400000 in
theorem isUnitCell_any (x y : Int) (w : World) :
    Calls Try.prog 141 #[.agg #[.int .i64 x, .int .i64 y]] w fun e w' => e = .returned (.bool (onC x y)) ∧ Ext w w' := by
  have hr := hid (onC_wit x y)
  cases hx : wit x (-40) 39
  all_goals
    go_enter Try.func141, Try.ntmps141
    go_wp2_with (go_at_call 94; refine (within_any _ _ _ _).mono ?_; rintro e w' ⟨rfl, rfl⟩)
    go_ret
    exact ⟨ret_bool (by rw [hr.out, hx]; simp), (Ext.refl _).alloc _⟩
set_option maxHeartbeats 4000000 in
theorem IsValidRect_any (r : Q4) (w : World) :
    Calls Try.prog 116 #[.agg #[.int .i64 r.a, .int .i64 r.b, .int .i64 r.c, .int .i64 r.d]] w fun e w' => e = .returned (.bool (vR r)) ∧ Ext w w' := by
  go_enter Try.func116, Try.ntmps116
  go_wp2
  all_goals
    go_ret
    exact ⟨ret_bool (by simp [vR, *]; try omega), (Ext.refl _).alloc _⟩
set_option maxHeartbeats 4000000 in
theorem specIsValidRect_any (r : Q4) (w : World) :
    Calls Try.prog 133 #[.agg #[.int .i64 r.a, .int .i64 r.b, .int .i64 r.c, .int .i64 r.d]] w fun e w' => e = .returned (.bool (vR r)) ∧ Ext w w' := by
  go_enter Try.func133, Try.ntmps133
  go_wp2
  all_goals
    go_ret
    exact ⟨ret_bool (by simp [vR, *]; try omega), (Ext.refl _).alloc _⟩
set_option maxHeartbeats 400000 in
theorem l03At_any (x y : Int) (w : World) (h : onC x y = true) :
    Calls Try.prog 125 #[.int .i64 x, .int .i64 y] w fun e w' => e = .returned (.int .i64 (atG x y)) ∧ w = w' := by
  rw [onC_iff] at h
  obtain ⟨⟨x0, x1⟩, y0, y1⟩ := h
  have hr : Hid ((y + 40) * 80 + x + 40 = (atG x y : Int)) := by show _ = _; rw [atG]; omega
  go_enter Try.func125, Try.ntmps125
  go_wp2
  go_ret
  exact ⟨ret_int hr.out, rfl⟩
end Go.Proofs.Ytaigndaabmelhaa
