/- Contracts of toSession and eqSession. Condition: at most 2^20 elements each. -/
import Derived.Test.YtncmhefendhinaaGreatDoorDst
namespace Go.Proofs.YtncmhefendhinaaGreatDoor
open Go.RowKit

structure SeD where
  ed : EtD
  rules : List RuD
  waivers : List WvD
  nl : NlD
end Go.Proofs.YtncmhefendhinaaGreatDoor
