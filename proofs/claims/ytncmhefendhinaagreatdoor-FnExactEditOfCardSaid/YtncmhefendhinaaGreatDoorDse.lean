/- Contracts of toEditS and eqEditS. Condition: at most 2^20 elements. -/
import Derived.Test.YtncmhefendhinaaGreatDoorDed
import Derived.Lib.AppendZeros
import Derived.BigRegion
namespace Go.Proofs.YtncmhefendhinaaGreatDoor
open Go.RowKit

theorem infoD_Edit : (Tryz.prog.info? 39).map (fun i => (i.zero, i.size, i.bytes)) = some (some (.agg #[.int .i64 0, .int .i64 0, .int .i64 0, .string ⟨#[]⟩, .int .i64 0, .int .i64 0, .int .i64 0, .int .i64 0, .int .i64 0, .int .i64 0, .int .i64 0, .int .i64 0, .string ⟨#[]⟩, .int .i64 0, .int .i64 0, .int .i64 0, .int .i64 0, .int .i64 0, .int .i64 0, .int .i64 0, .int .i64 0]), 21, 184) := by kernel_rfl
theorem sizeD_Edit : (Tryz.prog.info? 39).map (·.size) = some 21 := by kernel_rfl
theorem one_Edit (x : EdD) : (encEd x).toArray.all (·.oneCell') = true := by unfold encEd; simp [Value.oneCell']
end Go.Proofs.YtncmhefendhinaaGreatDoor
