/-
  No cell of these rows narrows 'for every input' (looked for: loops, veiled, ifaces, maps, wideKeys, modest, calm, conditions, laid).
  DERIVED. THE GIVEN ROWS OF THIS SEAT. 8 by the template 'for every input the law returns true; each argument reads behind the call as it read before'; 0 by the template 'total and deterministic' (their statements: YtkkhdjacclgcaaaTotals.lean).
  GIVEN WITH THE SEED: the statements are not yours to turn. If you find one false, say at which input.
  Laid BY PROGRAM, IN A SANDBOX (cutbox-rows.mjs): the forced cells as the released guide's own fill.sh prints them over the translation cb7b285a27bba956… (all of the seat's roots in one cut). By AI agents, Wed Nov 11 2026. No macro, syntax, notation, axiom, sorry.
-/
import Derived.Test.YtkkhdjacclgcaaaChecked
import GoSem.Claim
import GoSem.ClaimJoined
import GoSem.ClaimMapViews
import Derived.JoinedTies
import Derived.KernelRfl
namespace Go.Proofs.Ytkkhdjacclgcaaa
/- THE CELL 'sum', in the pinned program and in every row, IS THE sha256 OF THE DUMP (.gsa) THAT YtkkhdjacclgcaaaProg.lean LOADS. Nothing in Lean hashes anything: it is a label: what it is worth is what the hold of that sum in a sandbox is worth. -/
noncomputable def Try.pinned : Pinned := { name := "ytkkhdjacclgcaaa", sum := "cb7b285a27bba9561f07aa4ea9b7e49bc5ded67d3248fc7a23f85949393cce55", checked := Try.checked }
namespace Rows
def none {H : Type} : Left H := { results := [], args := [] }

/-- 'laws.FnExactInteract': WHATEVER THE INPUT: true; the input reads as it did. -/
def fnExactInteractSpec : ChangeSpec := { name := "fnExactInteract", fn := fun _ => fun
  | [d1, d2, d3] => { results := [.lit (.bool true)], args := [d1, d2, d3] }
  | _ => none }
def fnExactInteractRow : OpenClaim := { program := "ytkkhdjacclgcaaa", sum := "cb7b285a27bba9561f07aa4ea9b7e49bc5ded67d3248fc7a23f85949393cce55", func := "loop.example/g00890/laws.FnExactInteract", spec := "fnExactInteract", apart := false }
def FnExactInteractSaid : Prop := fnExactInteractRow.holds Try.pinned (OpenSpec.ofChange fnExactInteractSpec)

/-- ITS FALSE NEIGHBOUR: 'it returns false'. Refute it at one input. -/
def fnExactInteractWrong : ChangeSpec := { name := "fnExactInteract", fn := fun _ => fun
  | [d1, d2, d3] => { results := [.lit (.bool false)], args := [d1, d2, d3] }
  | _ => none }
def FnExactInteractWrongFalsely : Prop := fnExactInteractRow.holds Try.pinned (OpenSpec.ofChange fnExactInteractWrong)

/-- 'laws.FnExactIsBlockList': WHATEVER THE INPUT: true; the input reads as it did. -/
def fnExactIsBlockListSpec : ChangeSpec := { name := "fnExactIsBlockList", fn := fun _ => fun
  | [d] => { results := [.lit (.bool true)], args := [d] }
  | _ => none }
def fnExactIsBlockListRow : OpenClaim := { program := "ytkkhdjacclgcaaa", sum := "cb7b285a27bba9561f07aa4ea9b7e49bc5ded67d3248fc7a23f85949393cce55", func := "loop.example/g00890/laws.FnExactIsBlockList", spec := "fnExactIsBlockList", unfollowed := true, recurses := true, apart := false }
def FnExactIsBlockListSaid : Prop := fnExactIsBlockListRow.holds Try.pinned (OpenSpec.ofChange fnExactIsBlockListSpec)

/-- ITS FALSE NEIGHBOUR: 'it returns false'. Refute it at one input. -/
def fnExactIsBlockListWrong : ChangeSpec := { name := "fnExactIsBlockList", fn := fun _ => fun
  | [d] => { results := [.lit (.bool false)], args := [d] }
  | _ => none }
def FnExactIsBlockListWrongFalsely : Prop := fnExactIsBlockListRow.holds Try.pinned (OpenSpec.ofChange fnExactIsBlockListWrong)

/-- 'laws.FnExactWidthOf': WHATEVER THE INPUT: true; the input reads as it did. -/
def fnExactWidthOfSpec : ChangeSpec := { name := "fnExactWidthOf", fn := fun _ => fun
  | [d1, d2] => { results := [.lit (.bool true)], args := [d1, d2] }
  | _ => none }
def fnExactWidthOfRow : OpenClaim := { program := "ytkkhdjacclgcaaa", sum := "cb7b285a27bba9561f07aa4ea9b7e49bc5ded67d3248fc7a23f85949393cce55", func := "loop.example/g00890/laws.FnExactWidthOf", spec := "fnExactWidthOf", unfollowed := true, recurses := true, apart := false }
def FnExactWidthOfSaid : Prop := fnExactWidthOfRow.holds Try.pinned (OpenSpec.ofChange fnExactWidthOfSpec)

/-- ITS FALSE NEIGHBOUR: 'it returns false'. Refute it at one input. -/
def fnExactWidthOfWrong : ChangeSpec := { name := "fnExactWidthOf", fn := fun _ => fun
  | [d1, d2] => { results := [.lit (.bool false)], args := [d1, d2] }
  | _ => none }
def FnExactWidthOfWrongFalsely : Prop := fnExactWidthOfRow.holds Try.pinned (OpenSpec.ofChange fnExactWidthOfWrong)

/-- 'laws.FnExactChannelDensity': WHATEVER THE INPUT: true; the input reads as it did. -/
def fnExactChannelDensitySpec : ChangeSpec := { name := "fnExactChannelDensity", fn := fun _ => fun
  | [d] => { results := [.lit (.bool true)], args := [d] }
  | _ => none }
def fnExactChannelDensityRow : OpenClaim := { program := "ytkkhdjacclgcaaa", sum := "cb7b285a27bba9561f07aa4ea9b7e49bc5ded67d3248fc7a23f85949393cce55", func := "loop.example/g00890/laws.FnExactChannelDensity", spec := "fnExactChannelDensity", unfollowed := true, recurses := true, apart := false }
def FnExactChannelDensitySaid : Prop := fnExactChannelDensityRow.holds Try.pinned (OpenSpec.ofChange fnExactChannelDensitySpec)

/-- ITS FALSE NEIGHBOUR: 'it returns false'. Refute it at one input. -/
def fnExactChannelDensityWrong : ChangeSpec := { name := "fnExactChannelDensity", fn := fun _ => fun
  | [d] => { results := [.lit (.bool false)], args := [d] }
  | _ => none }
def FnExactChannelDensityWrongFalsely : Prop := fnExactChannelDensityRow.holds Try.pinned (OpenSpec.ofChange fnExactChannelDensityWrong)

/-- 'laws.FnExactIsChannelRouting': WHATEVER THE INPUT: true; the input reads as it did. -/
def fnExactIsChannelRoutingSpec : ChangeSpec := { name := "fnExactIsChannelRouting", fn := fun _ => fun
  | [d1, d2] => { results := [.lit (.bool true)], args := [d1, d2] }
  | _ => none }
def fnExactIsChannelRoutingRow : OpenClaim := { program := "ytkkhdjacclgcaaa", sum := "cb7b285a27bba9561f07aa4ea9b7e49bc5ded67d3248fc7a23f85949393cce55", func := "loop.example/g00890/laws.FnExactIsChannelRouting", spec := "fnExactIsChannelRouting", unfollowed := true, recurses := true, apart := false }
def FnExactIsChannelRoutingSaid : Prop := fnExactIsChannelRoutingRow.holds Try.pinned (OpenSpec.ofChange fnExactIsChannelRoutingSpec)

/-- ITS FALSE NEIGHBOUR: 'it returns false'. Refute it at one input. -/
def fnExactIsChannelRoutingWrong : ChangeSpec := { name := "fnExactIsChannelRouting", fn := fun _ => fun
  | [d1, d2] => { results := [.lit (.bool false)], args := [d1, d2] }
  | _ => none }
def FnExactIsChannelRoutingWrongFalsely : Prop := fnExactIsChannelRoutingRow.holds Try.pinned (OpenSpec.ofChange fnExactIsChannelRoutingWrong)

/-- 'laws.FnExactChannelSpans': WHATEVER THE INPUT: true; the input reads as it did. -/
def fnExactChannelSpansSpec : ChangeSpec := { name := "fnExactChannelSpans", fn := fun _ => fun
  | [d] => { results := [.lit (.bool true)], args := [d] }
  | _ => none }
def fnExactChannelSpansRow : OpenClaim := { program := "ytkkhdjacclgcaaa", sum := "cb7b285a27bba9561f07aa4ea9b7e49bc5ded67d3248fc7a23f85949393cce55", func := "loop.example/g00890/laws.FnExactChannelSpans", spec := "fnExactChannelSpans", unfollowed := true, recurses := true, apart := false }
def FnExactChannelSpansSaid : Prop := fnExactChannelSpansRow.holds Try.pinned (OpenSpec.ofChange fnExactChannelSpansSpec)

/-- ITS FALSE NEIGHBOUR: 'it returns false'. Refute it at one input. -/
def fnExactChannelSpansWrong : ChangeSpec := { name := "fnExactChannelSpans", fn := fun _ => fun
  | [d] => { results := [.lit (.bool false)], args := [d] }
  | _ => none }
def FnExactChannelSpansWrongFalsely : Prop := fnExactChannelSpansRow.holds Try.pinned (OpenSpec.ofChange fnExactChannelSpansWrong)

/-- 'laws.FnExactRouteChannel': WHATEVER THE INPUT: true; the input reads as it did. -/
def fnExactRouteChannelSpec : ChangeSpec := { name := "fnExactRouteChannel", fn := fun _ => fun
  | [d] => { results := [.lit (.bool true)], args := [d] }
  | _ => none }
def fnExactRouteChannelRow : OpenClaim := { program := "ytkkhdjacclgcaaa", sum := "cb7b285a27bba9561f07aa4ea9b7e49bc5ded67d3248fc7a23f85949393cce55", func := "loop.example/g00890/laws.FnExactRouteChannel", spec := "fnExactRouteChannel", unfollowed := true, recurses := true, apart := false }
def FnExactRouteChannelSaid : Prop := fnExactRouteChannelRow.holds Try.pinned (OpenSpec.ofChange fnExactRouteChannelSpec)

/-- ITS FALSE NEIGHBOUR: 'it returns false'. Refute it at one input. -/
def fnExactRouteChannelWrong : ChangeSpec := { name := "fnExactRouteChannel", fn := fun _ => fun
  | [d] => { results := [.lit (.bool false)], args := [d] }
  | _ => none }
def FnExactRouteChannelWrongFalsely : Prop := fnExactRouteChannelRow.holds Try.pinned (OpenSpec.ofChange fnExactRouteChannelWrong)

/-- 'laws.FnChannel': WHATEVER THE INPUT: true; the input reads as it did. -/
def fnChannelSpec : ChangeSpec := { name := "fnChannel", fn := fun _ => fun
  | [d] => { results := [.lit (.bool true)], args := [d] }
  | _ => none }
def fnChannelRow : OpenClaim := { program := "ytkkhdjacclgcaaa", sum := "cb7b285a27bba9561f07aa4ea9b7e49bc5ded67d3248fc7a23f85949393cce55", func := "loop.example/g00890/laws.FnChannel", spec := "fnChannel", unfollowed := true, recurses := true, apart := false }
def FnChannelSaid : Prop := fnChannelRow.holds Try.pinned (OpenSpec.ofChange fnChannelSpec)

/-- ITS FALSE NEIGHBOUR: 'it returns false'. Refute it at one input. -/
def fnChannelWrong : ChangeSpec := { name := "fnChannel", fn := fun _ => fun
  | [d] => { results := [.lit (.bool false)], args := [d] }
  | _ => none }
def FnChannelWrongFalsely : Prop := fnChannelRow.holds Try.pinned (OpenSpec.ofChange fnChannelWrong)

/- THE SECOND FORM. 'bulk': how many values and letters a reading holds, each counted each time it is reached (what is shared counts as often as it is met; a slice's spare places count too). A statement '..UptoSaid' is the law's where the arguments, and the package variables that the reading takes, are together of bulk at most 1048576: NARROWER than '..Said'. Prove '..Said' where nothing that the law and all that it calls make is longer than what came in: it says more and counts as full. Else prove '..UptoSaid'. A law counts once. -/
mutual
def uptoBulk {H : Type} : DataW H → Nat
  | .lit (.string bytes) => bytes.length + 1
  | .lit _ => 1
  | .nil => 1
  | .ptr d => uptoBulk d + 1
  | .slice elems spare => uptoBulkAll elems + uptoBulkAll spare + 1
  | .agg parts => uptoBulkAll parts + 1
  | .iface _ d => uptoBulk d + 1
  | .map entries => uptoBulkEntries entries + 1
  | .held _ => 1
def uptoBulkAll {H : Type} : List (DataW H) → Nat
  | [] => 0
  | d :: r => uptoBulk d + uptoBulkAll r
def uptoBulkEntries {H : Type} : List (Lit × DataW H) → Nat
  | [] => 0
  | x :: r => uptoBulkEntry x + uptoBulkEntries r
def uptoBulkEntry {H : Type} : Lit × DataW H → Nat
  | (.string bytes, d) => bytes.length + uptoBulk d + 1
  | (_, d) => uptoBulk d + 1
 end
def uptoSmall : (H : Type) → List (DataW H) → Bool := fun _ ds => decide (uptoBulkAll ds ≤ 1048576)
def OpenSpec.upto (s : _root_.Go.ChangeSpec) : _root_.Go.OpenSpec := { _root_.Go.OpenSpec.ofChange s with cond := some uptoSmall }

/-- 'laws.FnExactInteract', WHERE WHAT IT READS IS OF BULK AT MOST 1048576: true; the input reads as it did. -/
def fnExactInteractUptoRow : OpenClaim := { program := "ytkkhdjacclgcaaa", sum := "cb7b285a27bba9561f07aa4ea9b7e49bc5ded67d3248fc7a23f85949393cce55", func := "loop.example/g00890/laws.FnExactInteract", spec := "fnExactInteract", apart := false, narrowed := true }
def FnExactInteractUptoSaid : Prop := fnExactInteractUptoRow.holds Try.pinned (OpenSpec.upto fnExactInteractSpec)

/-- 'laws.FnExactIsBlockList', WHERE WHAT IT READS IS OF BULK AT MOST 1048576: true; the input reads as it did. -/
def fnExactIsBlockListUptoRow : OpenClaim := { program := "ytkkhdjacclgcaaa", sum := "cb7b285a27bba9561f07aa4ea9b7e49bc5ded67d3248fc7a23f85949393cce55", func := "loop.example/g00890/laws.FnExactIsBlockList", spec := "fnExactIsBlockList", unfollowed := true, recurses := true, apart := false, narrowed := true }
def FnExactIsBlockListUptoSaid : Prop := fnExactIsBlockListUptoRow.holds Try.pinned (OpenSpec.upto fnExactIsBlockListSpec)

/-- 'laws.FnExactWidthOf', WHERE WHAT IT READS IS OF BULK AT MOST 1048576: true; the input reads as it did. -/
def fnExactWidthOfUptoRow : OpenClaim := { program := "ytkkhdjacclgcaaa", sum := "cb7b285a27bba9561f07aa4ea9b7e49bc5ded67d3248fc7a23f85949393cce55", func := "loop.example/g00890/laws.FnExactWidthOf", spec := "fnExactWidthOf", unfollowed := true, recurses := true, apart := false, narrowed := true }
def FnExactWidthOfUptoSaid : Prop := fnExactWidthOfUptoRow.holds Try.pinned (OpenSpec.upto fnExactWidthOfSpec)

/-- 'laws.FnExactChannelDensity', WHERE WHAT IT READS IS OF BULK AT MOST 1048576: true; the input reads as it did. -/
def fnExactChannelDensityUptoRow : OpenClaim := { program := "ytkkhdjacclgcaaa", sum := "cb7b285a27bba9561f07aa4ea9b7e49bc5ded67d3248fc7a23f85949393cce55", func := "loop.example/g00890/laws.FnExactChannelDensity", spec := "fnExactChannelDensity", unfollowed := true, recurses := true, apart := false, narrowed := true }
def FnExactChannelDensityUptoSaid : Prop := fnExactChannelDensityUptoRow.holds Try.pinned (OpenSpec.upto fnExactChannelDensitySpec)

/-- 'laws.FnExactIsChannelRouting', WHERE WHAT IT READS IS OF BULK AT MOST 1048576: true; the input reads as it did. -/
def fnExactIsChannelRoutingUptoRow : OpenClaim := { program := "ytkkhdjacclgcaaa", sum := "cb7b285a27bba9561f07aa4ea9b7e49bc5ded67d3248fc7a23f85949393cce55", func := "loop.example/g00890/laws.FnExactIsChannelRouting", spec := "fnExactIsChannelRouting", unfollowed := true, recurses := true, apart := false, narrowed := true }
def FnExactIsChannelRoutingUptoSaid : Prop := fnExactIsChannelRoutingUptoRow.holds Try.pinned (OpenSpec.upto fnExactIsChannelRoutingSpec)

/-- 'laws.FnExactChannelSpans', WHERE WHAT IT READS IS OF BULK AT MOST 1048576: true; the input reads as it did. -/
def fnExactChannelSpansUptoRow : OpenClaim := { program := "ytkkhdjacclgcaaa", sum := "cb7b285a27bba9561f07aa4ea9b7e49bc5ded67d3248fc7a23f85949393cce55", func := "loop.example/g00890/laws.FnExactChannelSpans", spec := "fnExactChannelSpans", unfollowed := true, recurses := true, apart := false, narrowed := true }
def FnExactChannelSpansUptoSaid : Prop := fnExactChannelSpansUptoRow.holds Try.pinned (OpenSpec.upto fnExactChannelSpansSpec)

/-- 'laws.FnExactRouteChannel', WHERE WHAT IT READS IS OF BULK AT MOST 1048576: true; the input reads as it did. -/
def fnExactRouteChannelUptoRow : OpenClaim := { program := "ytkkhdjacclgcaaa", sum := "cb7b285a27bba9561f07aa4ea9b7e49bc5ded67d3248fc7a23f85949393cce55", func := "loop.example/g00890/laws.FnExactRouteChannel", spec := "fnExactRouteChannel", unfollowed := true, recurses := true, apart := false, narrowed := true }
def FnExactRouteChannelUptoSaid : Prop := fnExactRouteChannelUptoRow.holds Try.pinned (OpenSpec.upto fnExactRouteChannelSpec)

/-- 'laws.FnChannel', WHERE WHAT IT READS IS OF BULK AT MOST 1048576: true; the input reads as it did. -/
def fnChannelUptoRow : OpenClaim := { program := "ytkkhdjacclgcaaa", sum := "cb7b285a27bba9561f07aa4ea9b7e49bc5ded67d3248fc7a23f85949393cce55", func := "loop.example/g00890/laws.FnChannel", spec := "fnChannel", unfollowed := true, recurses := true, apart := false, narrowed := true }
def FnChannelUptoSaid : Prop := fnChannelUptoRow.holds Try.pinned (OpenSpec.upto fnChannelSpec)

end Rows
end Go.Proofs.Ytkkhdjacclgcaaa
