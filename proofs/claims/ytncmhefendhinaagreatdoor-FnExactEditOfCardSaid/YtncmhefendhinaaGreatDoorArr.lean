/- Contracts of the helper functions of the laws on slices (toXS copies, eqXS is true of equal lists, szXS). Condition: at most 2^20 elements where a slice is made or compared. -/
import Derived.Test.YtncmhefendhinaaGreatDoorBlk
namespace Go.Proofs.YtncmhefendhinaaGreatDoor
open Go.RowKit

theorem info_Int64 : (Tryz.prog.info? 2).map (fun i => (i.zero, i.size, i.bytes)) = some (some (.int .i64 0), 1, 8) := by kernel_rfl
end Go.Proofs.YtncmhefendhinaaGreatDoor
