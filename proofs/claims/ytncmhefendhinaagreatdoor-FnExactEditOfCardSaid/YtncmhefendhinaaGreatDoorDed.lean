/- Contracts of toX, eqX, szX at elements without inner slices. No condition but that a string's length fits. -/
import Derived.Test.YtncmhefendhinaaGreatDoorDfl
import Derived.Deep.Cut
import Derived.Laws.Rows
namespace Go.Proofs.YtncmhefendhinaaGreatDoor
open Go.RowKit

set_option maxRecDepth 100000 in
set_option maxHeartbeats 2000000 in
theorem eqEditD_any (x : EdD) (w : World) :
    Calls Tryz.prog 8 #[.agg #[.int .i64 x.a, .int .i64 x.b, .int .i64 x.c, .string x.s, .int .i64 x.sh.a, .int .i64 x.sh.box.a, .int .i64 x.sh.box.b, .int .i64 x.sh.box.c, .int .i64 x.sh.box.d, .int .i64 x.lb.a, .int .i64 x.lb.pt.a, .int .i64 x.lb.pt.b, .string x.lb.s, .int .i64 x.ins.a, .int .i64 x.ins.tr.a, .int .i64 x.ins.tr.b, .int .i64 x.ins.tr.c, .int .i64 x.ins.c, .int .i64 x.ins.d, .int .i64 x.ins.e, .int .i64 x.ins.f], .agg #[.int .i64 x.a, .int .i64 x.b, .int .i64 x.c, .string x.s, .int .i64 x.sh.a, .int .i64 x.sh.box.a, .int .i64 x.sh.box.b, .int .i64 x.sh.box.c, .int .i64 x.sh.box.d, .int .i64 x.lb.a, .int .i64 x.lb.pt.a, .int .i64 x.lb.pt.b, .string x.lb.s, .int .i64 x.ins.a, .int .i64 x.ins.tr.a, .int .i64 x.ins.tr.b, .int .i64 x.ins.tr.c, .int .i64 x.ins.c, .int .i64 x.ins.d, .int .i64 x.ins.e, .int .i64 x.ins.f]] w fun e w' => e = .returned (.bool true) ∧ Ext w w' := by
  go_enter Tryz.func8, Tryz.ntmps8
  go_wp2
  go_ret
  refine ⟨rfl, ?_⟩
  repeat (first | exact Ext.refl _ | refine Ext.alloc ?_ _)
end Go.Proofs.YtncmhefendhinaaGreatDoor
