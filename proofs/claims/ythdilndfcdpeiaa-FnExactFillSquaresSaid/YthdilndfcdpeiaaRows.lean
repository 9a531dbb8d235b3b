/-
  No cell of these rows narrows 'for every input' (looked for: loops, veiled, ifaces, maps, wideKeys, modest, calm, conditions, laid).
  DERIVED. THE GIVEN ROWS OF THIS SEAT. 12 by the template 'for every input the law returns true; each argument reads behind the call as it read before'; 0 by the template 'total and deterministic' (their statements: YthdilndfcdpeiaaTotals.lean).
  GIVEN WITH THE SEED: the statements are not yours to turn. If you find one false, say at which input.
  Laid BY PROGRAM, IN A SANDBOX (cutbox-rows.mjs): the forced cells as the released guide's own fill.sh prints them over the translation 4ce16900e3d41b7e… (all of the seat's roots in one cut). By AI agents, Wed Nov 11 2026. No macro, syntax, notation, axiom, sorry.
-/
import Derived.Test.YthdilndfcdpeiaaChecked
import GoSem.Claim
import GoSem.ClaimJoined
import GoSem.ClaimMapViews
import Derived.JoinedTies
import Derived.KernelRfl
namespace Go.Proofs.Ythdilndfcdpeiaa
/- THE CELL 'sum', in the pinned program and in every row, IS THE sha256 OF THE DUMP (.gsa) THAT YthdilndfcdpeiaaProg.lean LOADS. Nothing in Lean hashes anything: it is a label: what it is worth is what the hold of that sum in a sandbox is worth. -/
noncomputable def Try.pinned : Pinned := { name := "ythdilndfcdpeiaa", sum := "4ce16900e3d41b7e1f3387cda229f6bed8cd428ac5c1254c52dce7c1cd42eed3", checked := Try.checked }
namespace Rows
def none {H : Type} : Left H := { results := [], args := [] }

/-- 'laws.FnRoute': WHATEVER THE INPUT: true; the input reads as it did. -/
def fnRouteSpec : ChangeSpec := { name := "fnRoute", fn := fun _ => fun
  | [d] => { results := [.lit (.bool true)], args := [d] }
  | _ => none }
def fnRouteRow : OpenClaim := { program := "ythdilndfcdpeiaa", sum := "4ce16900e3d41b7e1f3387cda229f6bed8cd428ac5c1254c52dce7c1cd42eed3", func := "loop.example/g00890/laws.FnRoute", spec := "fnRoute", plainKeys := false, apart := false }
def FnRouteSaid : Prop := fnRouteRow.holds Try.pinned (OpenSpec.ofChange fnRouteSpec)

/-- ITS FALSE NEIGHBOUR: 'it returns false'. Refute it at one input. -/
def fnRouteWrong : ChangeSpec := { name := "fnRoute", fn := fun _ => fun
  | [d] => { results := [.lit (.bool false)], args := [d] }
  | _ => none }
def FnRouteWrongFalsely : Prop := fnRouteRow.holds Try.pinned (OpenSpec.ofChange fnRouteWrong)

/-- 'laws.FnExactIsDense': WHATEVER THE INPUT: true; the input reads as it did. -/
def fnExactIsDenseSpec : ChangeSpec := { name := "fnExactIsDense", fn := fun _ => fun
  | [d1, d2, d3] => { results := [.lit (.bool true)], args := [d1, d2, d3] }
  | _ => none }
def fnExactIsDenseRow : OpenClaim := { program := "ythdilndfcdpeiaa", sum := "4ce16900e3d41b7e1f3387cda229f6bed8cd428ac5c1254c52dce7c1cd42eed3", func := "loop.example/g00890/laws.FnExactIsDense", spec := "fnExactIsDense", unfollowed := true, recurses := true, plainKeys := false, apart := false }
def FnExactIsDenseSaid : Prop := fnExactIsDenseRow.holds Try.pinned (OpenSpec.ofChange fnExactIsDenseSpec)

/-- ITS FALSE NEIGHBOUR: 'it returns false'. Refute it at one input. -/
def fnExactIsDenseWrong : ChangeSpec := { name := "fnExactIsDense", fn := fun _ => fun
  | [d1, d2, d3] => { results := [.lit (.bool false)], args := [d1, d2, d3] }
  | _ => none }
def FnExactIsDenseWrongFalsely : Prop := fnExactIsDenseRow.holds Try.pinned (OpenSpec.ofChange fnExactIsDenseWrong)

/-- 'laws.FnFill': WHATEVER THE INPUT: true; the input reads as it did. -/
def fnFillSpec : ChangeSpec := { name := "fnFill", fn := fun _ => fun
  | [d] => { results := [.lit (.bool true)], args := [d] }
  | _ => none }
def fnFillRow : OpenClaim := { program := "ythdilndfcdpeiaa", sum := "4ce16900e3d41b7e1f3387cda229f6bed8cd428ac5c1254c52dce7c1cd42eed3", func := "loop.example/g00890/laws.FnFill", spec := "fnFill", unfollowed := true, recurses := true, plainKeys := false, apart := false }
def FnFillSaid : Prop := fnFillRow.holds Try.pinned (OpenSpec.ofChange fnFillSpec)

/-- ITS FALSE NEIGHBOUR: 'it returns false'. Refute it at one input. -/
def fnFillWrong : ChangeSpec := { name := "fnFill", fn := fun _ => fun
  | [d] => { results := [.lit (.bool false)], args := [d] }
  | _ => none }
def FnFillWrongFalsely : Prop := fnFillRow.holds Try.pinned (OpenSpec.ofChange fnFillWrong)

/-- 'laws.FnExactIsRoute': WHATEVER THE INPUT: true; the input reads as it did. -/
def fnExactIsRouteSpec : ChangeSpec := { name := "fnExactIsRoute", fn := fun _ => fun
  | [d1, d2] => { results := [.lit (.bool true)], args := [d1, d2] }
  | _ => none }
def fnExactIsRouteRow : OpenClaim := { program := "ythdilndfcdpeiaa", sum := "4ce16900e3d41b7e1f3387cda229f6bed8cd428ac5c1254c52dce7c1cd42eed3", func := "loop.example/g00890/laws.FnExactIsRoute", spec := "fnExactIsRoute", plainKeys := false, apart := false }
def FnExactIsRouteSaid : Prop := fnExactIsRouteRow.holds Try.pinned (OpenSpec.ofChange fnExactIsRouteSpec)

/-- ITS FALSE NEIGHBOUR: 'it returns false'. Refute it at one input. -/
def fnExactIsRouteWrong : ChangeSpec := { name := "fnExactIsRoute", fn := fun _ => fun
  | [d1, d2] => { results := [.lit (.bool false)], args := [d1, d2] }
  | _ => none }
def FnExactIsRouteWrongFalsely : Prop := fnExactIsRouteRow.holds Try.pinned (OpenSpec.ofChange fnExactIsRouteWrong)

/-- 'laws.FnExactRouteDistance': WHATEVER THE INPUT: true; the input reads as it did. -/
def fnExactRouteDistanceSpec : ChangeSpec := { name := "fnExactRouteDistance", fn := fun _ => fun
  | [d1, d2, d3] => { results := [.lit (.bool true)], args := [d1, d2, d3] }
  | _ => none }
def fnExactRouteDistanceRow : OpenClaim := { program := "ythdilndfcdpeiaa", sum := "4ce16900e3d41b7e1f3387cda229f6bed8cd428ac5c1254c52dce7c1cd42eed3", func := "loop.example/g00890/laws.FnExactRouteDistance", spec := "fnExactRouteDistance", plainKeys := false, apart := false }
def FnExactRouteDistanceSaid : Prop := fnExactRouteDistanceRow.holds Try.pinned (OpenSpec.ofChange fnExactRouteDistanceSpec)

/-- ITS FALSE NEIGHBOUR: 'it returns false'. Refute it at one input. -/
def fnExactRouteDistanceWrong : ChangeSpec := { name := "fnExactRouteDistance", fn := fun _ => fun
  | [d1, d2, d3] => { results := [.lit (.bool false)], args := [d1, d2, d3] }
  | _ => none }
def FnExactRouteDistanceWrongFalsely : Prop := fnExactRouteDistanceRow.holds Try.pinned (OpenSpec.ofChange fnExactRouteDistanceWrong)

/-- 'laws.FnFlood': WHATEVER THE INPUT: true; the input reads as it did. -/
def fnFloodSpec : ChangeSpec := { name := "fnFlood", fn := fun _ => fun
  | [d] => { results := [.lit (.bool true)], args := [d] }
  | _ => none }
def fnFloodRow : OpenClaim := { program := "ythdilndfcdpeiaa", sum := "4ce16900e3d41b7e1f3387cda229f6bed8cd428ac5c1254c52dce7c1cd42eed3", func := "loop.example/g00890/laws.FnFlood", spec := "fnFlood", unfollowed := true, recurses := true, plainKeys := false, apart := false }
def FnFloodSaid : Prop := fnFloodRow.holds Try.pinned (OpenSpec.ofChange fnFloodSpec)

/-- ITS FALSE NEIGHBOUR: 'it returns false'. Refute it at one input. -/
def fnFloodWrong : ChangeSpec := { name := "fnFlood", fn := fun _ => fun
  | [d] => { results := [.lit (.bool false)], args := [d] }
  | _ => none }
def FnFloodWrongFalsely : Prop := fnFloodRow.holds Try.pinned (OpenSpec.ofChange fnFloodWrong)

/-- 'laws.FnExactFloodRegion': WHATEVER THE INPUT: true; the input reads as it did. -/
def fnExactFloodRegionSpec : ChangeSpec := { name := "fnExactFloodRegion", fn := fun _ => fun
  | [d1, d2] => { results := [.lit (.bool true)], args := [d1, d2] }
  | _ => none }
def fnExactFloodRegionRow : OpenClaim := { program := "ythdilndfcdpeiaa", sum := "4ce16900e3d41b7e1f3387cda229f6bed8cd428ac5c1254c52dce7c1cd42eed3", func := "loop.example/g00890/laws.FnExactFloodRegion", spec := "fnExactFloodRegion", unfollowed := true, recurses := true, plainKeys := false, apart := false }
def FnExactFloodRegionSaid : Prop := fnExactFloodRegionRow.holds Try.pinned (OpenSpec.ofChange fnExactFloodRegionSpec)

/-- ITS FALSE NEIGHBOUR: 'it returns false'. Refute it at one input. -/
def fnExactFloodRegionWrong : ChangeSpec := { name := "fnExactFloodRegion", fn := fun _ => fun
  | [d1, d2] => { results := [.lit (.bool false)], args := [d1, d2] }
  | _ => none }
def FnExactFloodRegionWrongFalsely : Prop := fnExactFloodRegionRow.holds Try.pinned (OpenSpec.ofChange fnExactFloodRegionWrong)

/-- 'laws.FnDetour': WHATEVER THE INPUT: true; the input reads as it did. -/
def fnDetourSpec : ChangeSpec := { name := "fnDetour", fn := fun _ => fun
  | [d] => { results := [.lit (.bool true)], args := [d] }
  | _ => none }
def fnDetourRow : OpenClaim := { program := "ythdilndfcdpeiaa", sum := "4ce16900e3d41b7e1f3387cda229f6bed8cd428ac5c1254c52dce7c1cd42eed3", func := "loop.example/g00890/laws.FnDetour", spec := "fnDetour", plainKeys := false, apart := false }
def FnDetourSaid : Prop := fnDetourRow.holds Try.pinned (OpenSpec.ofChange fnDetourSpec)

/-- ITS FALSE NEIGHBOUR: 'it returns false'. Refute it at one input. -/
def fnDetourWrong : ChangeSpec := { name := "fnDetour", fn := fun _ => fun
  | [d] => { results := [.lit (.bool false)], args := [d] }
  | _ => none }
def FnDetourWrongFalsely : Prop := fnDetourRow.holds Try.pinned (OpenSpec.ofChange fnDetourWrong)

/-- 'laws.FnExactRouteRects': WHATEVER THE INPUT: true; the input reads as it did. -/
def fnExactRouteRectsSpec : ChangeSpec := { name := "fnExactRouteRects", fn := fun _ => fun
  | [d] => { results := [.lit (.bool true)], args := [d] }
  | _ => none }
def fnExactRouteRectsRow : OpenClaim := { program := "ythdilndfcdpeiaa", sum := "4ce16900e3d41b7e1f3387cda229f6bed8cd428ac5c1254c52dce7c1cd42eed3", func := "loop.example/g00890/laws.FnExactRouteRects", spec := "fnExactRouteRects", plainKeys := false, apart := false }
def FnExactRouteRectsSaid : Prop := fnExactRouteRectsRow.holds Try.pinned (OpenSpec.ofChange fnExactRouteRectsSpec)

/-- ITS FALSE NEIGHBOUR: 'it returns false'. Refute it at one input. -/
def fnExactRouteRectsWrong : ChangeSpec := { name := "fnExactRouteRects", fn := fun _ => fun
  | [d] => { results := [.lit (.bool false)], args := [d] }
  | _ => none }
def FnExactRouteRectsWrongFalsely : Prop := fnExactRouteRectsRow.holds Try.pinned (OpenSpec.ofChange fnExactRouteRectsWrong)

/-- 'laws.FnExactFillSquares': WHATEVER THE INPUT: true; the input reads as it did. -/
def fnExactFillSquaresSpec : ChangeSpec := { name := "fnExactFillSquares", fn := fun _ => fun
  | [d1, d2, d3, d4, d5] => { results := [.lit (.bool true)], args := [d1, d2, d3, d4, d5] }
  | _ => none }
def fnExactFillSquaresRow : OpenClaim := { program := "ythdilndfcdpeiaa", sum := "4ce16900e3d41b7e1f3387cda229f6bed8cd428ac5c1254c52dce7c1cd42eed3", func := "loop.example/g00890/laws.FnExactFillSquares", spec := "fnExactFillSquares", plainKeys := false, apart := false }
def FnExactFillSquaresSaid : Prop := fnExactFillSquaresRow.holds Try.pinned (OpenSpec.ofChange fnExactFillSquaresSpec)

/-- ITS FALSE NEIGHBOUR: 'it returns false'. Refute it at one input. -/
def fnExactFillSquaresWrong : ChangeSpec := { name := "fnExactFillSquares", fn := fun _ => fun
  | [d1, d2, d3, d4, d5] => { results := [.lit (.bool false)], args := [d1, d2, d3, d4, d5] }
  | _ => none }
def FnExactFillSquaresWrongFalsely : Prop := fnExactFillSquaresRow.holds Try.pinned (OpenSpec.ofChange fnExactFillSquaresWrong)

/-- 'laws.FnExactShortestRoute': WHATEVER THE INPUT: true; the input reads as it did. -/
def fnExactShortestRouteSpec : ChangeSpec := { name := "fnExactShortestRoute", fn := fun _ => fun
  | [d1, d2, d3] => { results := [.lit (.bool true)], args := [d1, d2, d3] }
  | _ => none }
def fnExactShortestRouteRow : OpenClaim := { program := "ythdilndfcdpeiaa", sum := "4ce16900e3d41b7e1f3387cda229f6bed8cd428ac5c1254c52dce7c1cd42eed3", func := "loop.example/g00890/laws.FnExactShortestRoute", spec := "fnExactShortestRoute", plainKeys := false, apart := false }
def FnExactShortestRouteSaid : Prop := fnExactShortestRouteRow.holds Try.pinned (OpenSpec.ofChange fnExactShortestRouteSpec)

/-- ITS FALSE NEIGHBOUR: 'it returns false'. Refute it at one input. -/
def fnExactShortestRouteWrong : ChangeSpec := { name := "fnExactShortestRoute", fn := fun _ => fun
  | [d1, d2, d3] => { results := [.lit (.bool false)], args := [d1, d2, d3] }
  | _ => none }
def FnExactShortestRouteWrongFalsely : Prop := fnExactShortestRouteRow.holds Try.pinned (OpenSpec.ofChange fnExactShortestRouteWrong)

/-- 'laws.FnRouteRects': WHATEVER THE INPUT: true; the input reads as it did. -/
def fnRouteRectsSpec : ChangeSpec := { name := "fnRouteRects", fn := fun _ => fun
  | [d] => { results := [.lit (.bool true)], args := [d] }
  | _ => none }
def fnRouteRectsRow : OpenClaim := { program := "ythdilndfcdpeiaa", sum := "4ce16900e3d41b7e1f3387cda229f6bed8cd428ac5c1254c52dce7c1cd42eed3", func := "loop.example/g00890/laws.FnRouteRects", spec := "fnRouteRects", plainKeys := false, apart := false }
def FnRouteRectsSaid : Prop := fnRouteRectsRow.holds Try.pinned (OpenSpec.ofChange fnRouteRectsSpec)

/-- ITS FALSE NEIGHBOUR: 'it returns false'. Refute it at one input. -/
def fnRouteRectsWrong : ChangeSpec := { name := "fnRouteRects", fn := fun _ => fun
  | [d] => { results := [.lit (.bool false)], args := [d] }
  | _ => none }
def FnRouteRectsWrongFalsely : Prop := fnRouteRectsRow.holds Try.pinned (OpenSpec.ofChange fnRouteRectsWrong)

/- THE SECOND FORM. 'bulk': how many values and letters a reading holds, each counted each time it is reached (what is shared counts as often as it is met; a slice's spare places count too). A statement '..UptoSaid' is the law's where the arguments, and the package variables that the reading takes, are together of bulk at most 1048576: NARROWER than '..Said'. Prove '..Said' where nothing that the law and all that it calls make is longer than what came in: it says more and counts as full. Else prove '..UptoSaid'. A law counts once. -/
mutual
def uptoBulk {H : Type} : DataW H → Nat
  | .lit (.string bytes) => bytes.length + 1
  | .lit _ => 1
  | .nil => 1
  | .ptr d => uptoBulk d + 1
  | .slice elems spare => uptoBulkAll elems + uptoBulkAll spare + 1
  | .agg parts => uptoBulkAll parts + 1
  | .iface _ d => uptoBulk d + 1
  | .map entries => uptoBulkEntries entries + 1
  | .held _ => 1
def uptoBulkAll {H : Type} : List (DataW H) → Nat
  | [] => 0
  | d :: r => uptoBulk d + uptoBulkAll r
def uptoBulkEntries {H : Type} : List (Lit × DataW H) → Nat
  | [] => 0
  | x :: r => uptoBulkEntry x + uptoBulkEntries r
def uptoBulkEntry {H : Type} : Lit × DataW H → Nat
  | (.string bytes, d) => bytes.length + uptoBulk d + 1
  | (_, d) => uptoBulk d + 1
 end
def uptoSmall : (H : Type) → List (DataW H) → Bool := fun _ ds => decide (uptoBulkAll ds ≤ 1048576)
def OpenSpec.upto (s : _root_.Go.ChangeSpec) : _root_.Go.OpenSpec := { _root_.Go.OpenSpec.ofChange s with cond := some uptoSmall }

/-- 'laws.FnRoute', WHERE WHAT IT READS IS OF BULK AT MOST 1048576: true; the input reads as it did. -/
def fnRouteUptoRow : OpenClaim := { program := "ythdilndfcdpeiaa", sum := "4ce16900e3d41b7e1f3387cda229f6bed8cd428ac5c1254c52dce7c1cd42eed3", func := "loop.example/g00890/laws.FnRoute", spec := "fnRoute", plainKeys := false, apart := false, narrowed := true }
def FnRouteUptoSaid : Prop := fnRouteUptoRow.holds Try.pinned (OpenSpec.upto fnRouteSpec)

/-- 'laws.FnExactIsDense', WHERE WHAT IT READS IS OF BULK AT MOST 1048576: true; the input reads as it did. -/
def fnExactIsDenseUptoRow : OpenClaim := { program := "ythdilndfcdpeiaa", sum := "4ce16900e3d41b7e1f3387cda229f6bed8cd428ac5c1254c52dce7c1cd42eed3", func := "loop.example/g00890/laws.FnExactIsDense", spec := "fnExactIsDense", unfollowed := true, recurses := true, plainKeys := false, apart := false, narrowed := true }
def FnExactIsDenseUptoSaid : Prop := fnExactIsDenseUptoRow.holds Try.pinned (OpenSpec.upto fnExactIsDenseSpec)

/-- 'laws.FnFill', WHERE WHAT IT READS IS OF BULK AT MOST 1048576: true; the input reads as it did. -/
def fnFillUptoRow : OpenClaim := { program := "ythdilndfcdpeiaa", sum := "4ce16900e3d41b7e1f3387cda229f6bed8cd428ac5c1254c52dce7c1cd42eed3", func := "loop.example/g00890/laws.FnFill", spec := "fnFill", unfollowed := true, recurses := true, plainKeys := false, apart := false, narrowed := true }
def FnFillUptoSaid : Prop := fnFillUptoRow.holds Try.pinned (OpenSpec.upto fnFillSpec)

/-- 'laws.FnExactIsRoute', WHERE WHAT IT READS IS OF BULK AT MOST 1048576: true; the input reads as it did. -/
def fnExactIsRouteUptoRow : OpenClaim := { program := "ythdilndfcdpeiaa", sum := "4ce16900e3d41b7e1f3387cda229f6bed8cd428ac5c1254c52dce7c1cd42eed3", func := "loop.example/g00890/laws.FnExactIsRoute", spec := "fnExactIsRoute", plainKeys := false, apart := false, narrowed := true }
def FnExactIsRouteUptoSaid : Prop := fnExactIsRouteUptoRow.holds Try.pinned (OpenSpec.upto fnExactIsRouteSpec)

/-- 'laws.FnExactRouteDistance', WHERE WHAT IT READS IS OF BULK AT MOST 1048576: true; the input reads as it did. -/
def fnExactRouteDistanceUptoRow : OpenClaim := { program := "ythdilndfcdpeiaa", sum := "4ce16900e3d41b7e1f3387cda229f6bed8cd428ac5c1254c52dce7c1cd42eed3", func := "loop.example/g00890/laws.FnExactRouteDistance", spec := "fnExactRouteDistance", plainKeys := false, apart := false, narrowed := true }
def FnExactRouteDistanceUptoSaid : Prop := fnExactRouteDistanceUptoRow.holds Try.pinned (OpenSpec.upto fnExactRouteDistanceSpec)

/-- 'laws.FnFlood', WHERE WHAT IT READS IS OF BULK AT MOST 1048576: true; the input reads as it did. -/
def fnFloodUptoRow : OpenClaim := { program := "ythdilndfcdpeiaa", sum := "4ce16900e3d41b7e1f3387cda229f6bed8cd428ac5c1254c52dce7c1cd42eed3", func := "loop.example/g00890/laws.FnFlood", spec := "fnFlood", unfollowed := true, recurses := true, plainKeys := false, apart := false, narrowed := true }
def FnFloodUptoSaid : Prop := fnFloodUptoRow.holds Try.pinned (OpenSpec.upto fnFloodSpec)

/-- 'laws.FnExactFloodRegion', WHERE WHAT IT READS IS OF BULK AT MOST 1048576: true; the input reads as it did. -/
def fnExactFloodRegionUptoRow : OpenClaim := { program := "ythdilndfcdpeiaa", sum := "4ce16900e3d41b7e1f3387cda229f6bed8cd428ac5c1254c52dce7c1cd42eed3", func := "loop.example/g00890/laws.FnExactFloodRegion", spec := "fnExactFloodRegion", unfollowed := true, recurses := true, plainKeys := false, apart := false, narrowed := true }
def FnExactFloodRegionUptoSaid : Prop := fnExactFloodRegionUptoRow.holds Try.pinned (OpenSpec.upto fnExactFloodRegionSpec)

/-- 'laws.FnDetour', WHERE WHAT IT READS IS OF BULK AT MOST 1048576: true; the input reads as it did. -/
def fnDetourUptoRow : OpenClaim := { program := "ythdilndfcdpeiaa", sum := "4ce16900e3d41b7e1f3387cda229f6bed8cd428ac5c1254c52dce7c1cd42eed3", func := "loop.example/g00890/laws.FnDetour", spec := "fnDetour", plainKeys := false, apart := false, narrowed := true }
def FnDetourUptoSaid : Prop := fnDetourUptoRow.holds Try.pinned (OpenSpec.upto fnDetourSpec)

/-- 'laws.FnExactRouteRects', WHERE WHAT IT READS IS OF BULK AT MOST 1048576: true; the input reads as it did. -/
def fnExactRouteRectsUptoRow : OpenClaim := { program := "ythdilndfcdpeiaa", sum := "4ce16900e3d41b7e1f3387cda229f6bed8cd428ac5c1254c52dce7c1cd42eed3", func := "loop.example/g00890/laws.FnExactRouteRects", spec := "fnExactRouteRects", plainKeys := false, apart := false, narrowed := true }
def FnExactRouteRectsUptoSaid : Prop := fnExactRouteRectsUptoRow.holds Try.pinned (OpenSpec.upto fnExactRouteRectsSpec)

/-- 'laws.FnExactFillSquares', WHERE WHAT IT READS IS OF BULK AT MOST 1048576: true; the input reads as it did. -/
def fnExactFillSquaresUptoRow : OpenClaim := { program := "ythdilndfcdpeiaa", sum := "4ce16900e3d41b7e1f3387cda229f6bed8cd428ac5c1254c52dce7c1cd42eed3", func := "loop.example/g00890/laws.FnExactFillSquares", spec := "fnExactFillSquares", plainKeys := false, apart := false, narrowed := true }
def FnExactFillSquaresUptoSaid : Prop := fnExactFillSquaresUptoRow.holds Try.pinned (OpenSpec.upto fnExactFillSquaresSpec)

/-- 'laws.FnExactShortestRoute', WHERE WHAT IT READS IS OF BULK AT MOST 1048576: true; the input reads as it did. -/
def fnExactShortestRouteUptoRow : OpenClaim := { program := "ythdilndfcdpeiaa", sum := "4ce16900e3d41b7e1f3387cda229f6bed8cd428ac5c1254c52dce7c1cd42eed3", func := "loop.example/g00890/laws.FnExactShortestRoute", spec := "fnExactShortestRoute", plainKeys := false, apart := false, narrowed := true }
def FnExactShortestRouteUptoSaid : Prop := fnExactShortestRouteUptoRow.holds Try.pinned (OpenSpec.upto fnExactShortestRouteSpec)

/-- 'laws.FnRouteRects', WHERE WHAT IT READS IS OF BULK AT MOST 1048576: true; the input reads as it did. -/
def fnRouteRectsUptoRow : OpenClaim := { program := "ythdilndfcdpeiaa", sum := "4ce16900e3d41b7e1f3387cda229f6bed8cd428ac5c1254c52dce7c1cd42eed3", func := "loop.example/g00890/laws.FnRouteRects", spec := "fnRouteRects", plainKeys := false, apart := false, narrowed := true }
def FnRouteRectsUptoSaid : Prop := fnRouteRectsUptoRow.holds Try.pinned (OpenSpec.upto fnRouteRectsSpec)

end Rows
end Go.Proofs.Ythdilndfcdpeiaa
