/- Contracts of the helper functions of the laws on slices: toXS copies, eqXS is true of equal lists, szXS, markXS writes running numbers into a row, heldXS finds them there. Condition: at most 2^20 elements. -/
import Derived.Test.YtiljojpnbpdaeaaWor
namespace Go.Proofs.Ytiljojpnbpdaeaa
open Go.RowKit

theorem info_Rect : (Try.prog.info? 49).map (fun i => (i.zero, i.size, i.bytes)) = some (some (.agg #[.int .i64 0, .int .i64 0, .int .i64 0, .int .i64 0]), 4, 32) := by kernel_rfl
set_option maxHeartbeats 400000 in
theorem eqRect_same (x : Q4) (w : World) :
    Calls Try.prog 150 #[.agg #[.int .i64 x.a, .int .i64 x.b, .int .i64 x.c, .int .i64 x.d], .agg #[.int .i64 x.a, .int .i64 x.b, .int .i64 x.c, .int .i64 x.d]] w fun e w' => e = .returned (.bool true) ∧ Ext w w' := by
  go_enter Try.func150, Try.ntmps150
  go_wp2
  go_ret
  exact ⟨rfl, ((Ext.refl _).alloc _).alloc _⟩
theorem info_Point : (Try.prog.info? 47).map (fun i => (i.zero, i.size, i.bytes)) = some (some (.agg #[.int .i64 0, .int .i64 0]), 2, 16) := by kernel_rfl
set_option maxHeartbeats 400000 in
theorem eqPoint_same (x : Q2) (w : World) :
    Calls Try.prog 151 #[.agg #[.int .i64 x.a, .int .i64 x.b], .agg #[.int .i64 x.a, .int .i64 x.b]] w fun e w' => e = .returned (.bool true) ∧ Ext w w' := by
  go_enter Try.func151, Try.ntmps151
  go_wp2
  go_ret
  exact ⟨rfl, ((Ext.refl _).alloc _).alloc _⟩
end Go.Proofs.Ytiljojpnbpdaeaa
