/-
  No cell of these rows narrows 'for every input' (looked for: loops, veiled, ifaces, maps, wideKeys, modest, calm, conditions, laid).
  DERIVED. THE GIVEN ROWS OF THIS SEAT. 12 by the template 'for every input the law returns true; each argument reads behind the call as it read before'; 0 by the template 'total and deterministic' (their statements: YtnhiepgfgnemkaaTotals.lean).
  GIVEN WITH THE SEED: the statements are not yours to turn. If you find one false, say at which input.
  Laid BY PROGRAM, IN A SANDBOX (cutbox-rows.mjs): the forced cells as the released guide's own fill.sh prints them over the translation 20f1d428c863d006… (all of the seat's roots in one cut). By AI agents, Wed Nov 11 2026. No macro, syntax, notation, axiom, sorry.
-/
import Derived.Test.YtnhiepgfgnemkaaChecked
import GoSem.Claim
import GoSem.ClaimJoined
import GoSem.ClaimMapViews
import Derived.JoinedTies
import Derived.KernelRfl
namespace Go.Proofs.Ytnhiepgfgnemkaa
/- THE CELL 'sum', in the pinned program and in every row, IS THE sha256 OF THE DUMP (.gsa) THAT YtnhiepgfgnemkaaProg.lean LOADS. Nothing in Lean hashes anything: it is a label: what it is worth is what the hold of that sum in a sandbox is worth. -/
noncomputable def Try.pinned : Pinned := { name := "ytnhiepgfgnemkaa", sum := "20f1d428c863d006a44bd432f079beb2c066d9195d2da7e9387a60810b269c1a", checked := Try.checked }
namespace Rows
def none {H : Type} : Left H := { results := [], args := [] }

/-- 'laws.FnExactIsCompatible': WHATEVER THE INPUT: true; the input reads as it did. -/
def fnExactIsCompatibleSpec : ChangeSpec := { name := "fnExactIsCompatible", fn := fun _ => fun
  | [d1, d2, d3] => { results := [.lit (.bool true)], args := [d1, d2, d3] }
  | _ => none }
def fnExactIsCompatibleRow : OpenClaim := { program := "ytnhiepgfgnemkaa", sum := "20f1d428c863d006a44bd432f079beb2c066d9195d2da7e9387a60810b269c1a", func := "loop.example/g00890/laws.FnExactIsCompatible", spec := "fnExactIsCompatible", unfollowed := true, recurses := true, apart := false }
def FnExactIsCompatibleSaid : Prop := fnExactIsCompatibleRow.holds Try.pinned (OpenSpec.ofChange fnExactIsCompatibleSpec)

/-- ITS FALSE NEIGHBOUR: 'it returns false'. Refute it at one input. -/
def fnExactIsCompatibleWrong : ChangeSpec := { name := "fnExactIsCompatible", fn := fun _ => fun
  | [d1, d2, d3] => { results := [.lit (.bool false)], args := [d1, d2, d3] }
  | _ => none }
def FnExactIsCompatibleWrongFalsely : Prop := fnExactIsCompatibleRow.holds Try.pinned (OpenSpec.ofChange fnExactIsCompatibleWrong)

/-- 'laws.FnExactCompact': WHATEVER THE INPUT: true; the input reads as it did. -/
def fnExactCompactSpec : ChangeSpec := { name := "fnExactCompact", fn := fun _ => fun
  | [d1, d2] => { results := [.lit (.bool true)], args := [d1, d2] }
  | _ => none }
def fnExactCompactRow : OpenClaim := { program := "ytnhiepgfgnemkaa", sum := "20f1d428c863d006a44bd432f079beb2c066d9195d2da7e9387a60810b269c1a", func := "loop.example/g00890/laws.FnExactCompact", spec := "fnExactCompact", unfollowed := true, recurses := true, apart := false }
def FnExactCompactSaid : Prop := fnExactCompactRow.holds Try.pinned (OpenSpec.ofChange fnExactCompactSpec)

/-- ITS FALSE NEIGHBOUR: 'it returns false'. Refute it at one input. -/
def fnExactCompactWrong : ChangeSpec := { name := "fnExactCompact", fn := fun _ => fun
  | [d1, d2] => { results := [.lit (.bool false)], args := [d1, d2] }
  | _ => none }
def FnExactCompactWrongFalsely : Prop := fnExactCompactRow.holds Try.pinned (OpenSpec.ofChange fnExactCompactWrong)

/-- 'laws.FnExactConstraints': WHATEVER THE INPUT: true; the input reads as it did. -/
def fnExactConstraintsSpec : ChangeSpec := { name := "fnExactConstraints", fn := fun _ => fun
  | [d1, d2] => { results := [.lit (.bool true)], args := [d1, d2] }
  | _ => none }
def fnExactConstraintsRow : OpenClaim := { program := "ytnhiepgfgnemkaa", sum := "20f1d428c863d006a44bd432f079beb2c066d9195d2da7e9387a60810b269c1a", func := "loop.example/g00890/laws.FnExactConstraints", spec := "fnExactConstraints", unfollowed := true, recurses := true, apart := false }
def FnExactConstraintsSaid : Prop := fnExactConstraintsRow.holds Try.pinned (OpenSpec.ofChange fnExactConstraintsSpec)

/-- ITS FALSE NEIGHBOUR: 'it returns false'. Refute it at one input. -/
def fnExactConstraintsWrong : ChangeSpec := { name := "fnExactConstraints", fn := fun _ => fun
  | [d1, d2] => { results := [.lit (.bool false)], args := [d1, d2] }
  | _ => none }
def FnExactConstraintsWrongFalsely : Prop := fnExactConstraintsRow.holds Try.pinned (OpenSpec.ofChange fnExactConstraintsWrong)

/-- 'laws.FnExactCompactMirror': WHATEVER THE INPUT: true; the input reads as it did. -/
def fnExactCompactMirrorSpec : ChangeSpec := { name := "fnExactCompactMirror", fn := fun _ => fun
  | [d1, d2] => { results := [.lit (.bool true)], args := [d1, d2] }
  | _ => none }
def fnExactCompactMirrorRow : OpenClaim := { program := "ytnhiepgfgnemkaa", sum := "20f1d428c863d006a44bd432f079beb2c066d9195d2da7e9387a60810b269c1a", func := "loop.example/g00890/laws.FnExactCompactMirror", spec := "fnExactCompactMirror", unfollowed := true, recurses := true, apart := false }
def FnExactCompactMirrorSaid : Prop := fnExactCompactMirrorRow.holds Try.pinned (OpenSpec.ofChange fnExactCompactMirrorSpec)

/-- ITS FALSE NEIGHBOUR: 'it returns false'. Refute it at one input. -/
def fnExactCompactMirrorWrong : ChangeSpec := { name := "fnExactCompactMirror", fn := fun _ => fun
  | [d1, d2] => { results := [.lit (.bool false)], args := [d1, d2] }
  | _ => none }
def FnExactCompactMirrorWrongFalsely : Prop := fnExactCompactMirrorRow.holds Try.pinned (OpenSpec.ofChange fnExactCompactMirrorWrong)

/-- 'laws.FnExactSlackOf': WHATEVER THE INPUT: true; the input reads as it did. -/
def fnExactSlackOfSpec : ChangeSpec := { name := "fnExactSlackOf", fn := fun _ => fun
  | [d1, d2] => { results := [.lit (.bool true)], args := [d1, d2] }
  | _ => none }
def fnExactSlackOfRow : OpenClaim := { program := "ytnhiepgfgnemkaa", sum := "20f1d428c863d006a44bd432f079beb2c066d9195d2da7e9387a60810b269c1a", func := "loop.example/g00890/laws.FnExactSlackOf", spec := "fnExactSlackOf", unfollowed := true, recurses := true, apart := false }
def FnExactSlackOfSaid : Prop := fnExactSlackOfRow.holds Try.pinned (OpenSpec.ofChange fnExactSlackOfSpec)

/-- ITS FALSE NEIGHBOUR: 'it returns false'. Refute it at one input. -/
def fnExactSlackOfWrong : ChangeSpec := { name := "fnExactSlackOf", fn := fun _ => fun
  | [d1, d2] => { results := [.lit (.bool false)], args := [d1, d2] }
  | _ => none }
def FnExactSlackOfWrongFalsely : Prop := fnExactSlackOfRow.holds Try.pinned (OpenSpec.ofChange fnExactSlackOfWrong)

/-- 'laws.FnExactCriticalPath': WHATEVER THE INPUT: true; the input reads as it did. -/
def fnExactCriticalPathSpec : ChangeSpec := { name := "fnExactCriticalPath", fn := fun _ => fun
  | [d1, d2] => { results := [.lit (.bool true)], args := [d1, d2] }
  | _ => none }
def fnExactCriticalPathRow : OpenClaim := { program := "ytnhiepgfgnemkaa", sum := "20f1d428c863d006a44bd432f079beb2c066d9195d2da7e9387a60810b269c1a", func := "loop.example/g00890/laws.FnExactCriticalPath", spec := "fnExactCriticalPath", unfollowed := true, recurses := true, apart := false }
def FnExactCriticalPathSaid : Prop := fnExactCriticalPathRow.holds Try.pinned (OpenSpec.ofChange fnExactCriticalPathSpec)

/-- ITS FALSE NEIGHBOUR: 'it returns false'. Refute it at one input. -/
def fnExactCriticalPathWrong : ChangeSpec := { name := "fnExactCriticalPath", fn := fun _ => fun
  | [d1, d2] => { results := [.lit (.bool false)], args := [d1, d2] }
  | _ => none }
def FnExactCriticalPathWrongFalsely : Prop := fnExactCriticalPathRow.holds Try.pinned (OpenSpec.ofChange fnExactCriticalPathWrong)

/-- 'laws.FnMirror': WHATEVER THE INPUT: true; the input reads as it did. -/
def fnMirrorSpec : ChangeSpec := { name := "fnMirror", fn := fun _ => fun
  | [d] => { results := [.lit (.bool true)], args := [d] }
  | _ => none }
def fnMirrorRow : OpenClaim := { program := "ytnhiepgfgnemkaa", sum := "20f1d428c863d006a44bd432f079beb2c066d9195d2da7e9387a60810b269c1a", func := "loop.example/g00890/laws.FnMirror", spec := "fnMirror", unfollowed := true, recurses := true, apart := false }
def FnMirrorSaid : Prop := fnMirrorRow.holds Try.pinned (OpenSpec.ofChange fnMirrorSpec)

/-- ITS FALSE NEIGHBOUR: 'it returns false'. Refute it at one input. -/
def fnMirrorWrong : ChangeSpec := { name := "fnMirror", fn := fun _ => fun
  | [d] => { results := [.lit (.bool false)], args := [d] }
  | _ => none }
def FnMirrorWrongFalsely : Prop := fnMirrorRow.holds Try.pinned (OpenSpec.ofChange fnMirrorWrong)

/-- 'laws.FnSlack': WHATEVER THE INPUT: true; the input reads as it did. -/
def fnSlackSpec : ChangeSpec := { name := "fnSlack", fn := fun _ => fun
  | [d] => { results := [.lit (.bool true)], args := [d] }
  | _ => none }
def fnSlackRow : OpenClaim := { program := "ytnhiepgfgnemkaa", sum := "20f1d428c863d006a44bd432f079beb2c066d9195d2da7e9387a60810b269c1a", func := "loop.example/g00890/laws.FnSlack", spec := "fnSlack", unfollowed := true, recurses := true, apart := false }
def FnSlackSaid : Prop := fnSlackRow.holds Try.pinned (OpenSpec.ofChange fnSlackSpec)

/-- ITS FALSE NEIGHBOUR: 'it returns false'. Refute it at one input. -/
def fnSlackWrong : ChangeSpec := { name := "fnSlack", fn := fun _ => fun
  | [d] => { results := [.lit (.bool false)], args := [d] }
  | _ => none }
def FnSlackWrongFalsely : Prop := fnSlackRow.holds Try.pinned (OpenSpec.ofChange fnSlackWrong)

/-- 'laws.FnCriticalPath': WHATEVER THE INPUT: true; the input reads as it did. -/
def fnCriticalPathSpec : ChangeSpec := { name := "fnCriticalPath", fn := fun _ => fun
  | [d] => { results := [.lit (.bool true)], args := [d] }
  | _ => none }
def fnCriticalPathRow : OpenClaim := { program := "ytnhiepgfgnemkaa", sum := "20f1d428c863d006a44bd432f079beb2c066d9195d2da7e9387a60810b269c1a", func := "loop.example/g00890/laws.FnCriticalPath", spec := "fnCriticalPath", unfollowed := true, recurses := true, apart := false }
def FnCriticalPathSaid : Prop := fnCriticalPathRow.holds Try.pinned (OpenSpec.ofChange fnCriticalPathSpec)

/-- ITS FALSE NEIGHBOUR: 'it returns false'. Refute it at one input. -/
def fnCriticalPathWrong : ChangeSpec := { name := "fnCriticalPath", fn := fun _ => fun
  | [d] => { results := [.lit (.bool false)], args := [d] }
  | _ => none }
def FnCriticalPathWrongFalsely : Prop := fnCriticalPathRow.holds Try.pinned (OpenSpec.ofChange fnCriticalPathWrong)

/-- 'laws.FnCompact': WHATEVER THE INPUT: true; the input reads as it did. -/
def fnCompactSpec : ChangeSpec := { name := "fnCompact", fn := fun _ => fun
  | [d] => { results := [.lit (.bool true)], args := [d] }
  | _ => none }
def fnCompactRow : OpenClaim := { program := "ytnhiepgfgnemkaa", sum := "20f1d428c863d006a44bd432f079beb2c066d9195d2da7e9387a60810b269c1a", func := "loop.example/g00890/laws.FnCompact", spec := "fnCompact", unfollowed := true, recurses := true, apart := false }
def FnCompactSaid : Prop := fnCompactRow.holds Try.pinned (OpenSpec.ofChange fnCompactSpec)

/-- ITS FALSE NEIGHBOUR: 'it returns false'. Refute it at one input. -/
def fnCompactWrong : ChangeSpec := { name := "fnCompact", fn := fun _ => fun
  | [d] => { results := [.lit (.bool false)], args := [d] }
  | _ => none }
def FnCompactWrongFalsely : Prop := fnCompactRow.holds Try.pinned (OpenSpec.ofChange fnCompactWrong)

/-- 'laws.FnExactRouteChannel': WHATEVER THE INPUT: true; the input reads as it did. -/
def fnExactRouteChannelSpec : ChangeSpec := { name := "fnExactRouteChannel", fn := fun _ => fun
  | [d] => { results := [.lit (.bool true)], args := [d] }
  | _ => none }
def fnExactRouteChannelRow : OpenClaim := { program := "ytnhiepgfgnemkaa", sum := "20f1d428c863d006a44bd432f079beb2c066d9195d2da7e9387a60810b269c1a", func := "loop.example/g00890/laws.FnExactRouteChannel", spec := "fnExactRouteChannel", unfollowed := true, recurses := true, apart := false }
def FnExactRouteChannelSaid : Prop := fnExactRouteChannelRow.holds Try.pinned (OpenSpec.ofChange fnExactRouteChannelSpec)

/-- ITS FALSE NEIGHBOUR: 'it returns false'. Refute it at one input. -/
def fnExactRouteChannelWrong : ChangeSpec := { name := "fnExactRouteChannel", fn := fun _ => fun
  | [d] => { results := [.lit (.bool false)], args := [d] }
  | _ => none }
def FnExactRouteChannelWrongFalsely : Prop := fnExactRouteChannelRow.holds Try.pinned (OpenSpec.ofChange fnExactRouteChannelWrong)

/-- 'laws.FnChannel': WHATEVER THE INPUT: true; the input reads as it did. -/
def fnChannelSpec : ChangeSpec := { name := "fnChannel", fn := fun _ => fun
  | [d] => { results := [.lit (.bool true)], args := [d] }
  | _ => none }
def fnChannelRow : OpenClaim := { program := "ytnhiepgfgnemkaa", sum := "20f1d428c863d006a44bd432f079beb2c066d9195d2da7e9387a60810b269c1a", func := "loop.example/g00890/laws.FnChannel", spec := "fnChannel", unfollowed := true, recurses := true, apart := false }
def FnChannelSaid : Prop := fnChannelRow.holds Try.pinned (OpenSpec.ofChange fnChannelSpec)

/-- ITS FALSE NEIGHBOUR: 'it returns false'. Refute it at one input. -/
def fnChannelWrong : ChangeSpec := { name := "fnChannel", fn := fun _ => fun
  | [d] => { results := [.lit (.bool false)], args := [d] }
  | _ => none }
def FnChannelWrongFalsely : Prop := fnChannelRow.holds Try.pinned (OpenSpec.ofChange fnChannelWrong)

/- THE SECOND FORM. 'bulk': how many values and letters a reading holds, each counted each time it is reached (what is shared counts as often as it is met; a slice's spare places count too). A statement '..UptoSaid' is the law's where the arguments, and the package variables that the reading takes, are together of bulk at most 1048576: NARROWER than '..Said'. Prove '..Said' where nothing that the law and all that it calls make is longer than what came in: it says more and counts as full. Else prove '..UptoSaid'. A law counts once. -/
mutual
def uptoBulk {H : Type} : DataW H → Nat
  | .lit (.string bytes) => bytes.length + 1
  | .lit _ => 1
  | .nil => 1
  | .ptr d => uptoBulk d + 1
  | .slice elems spare => uptoBulkAll elems + uptoBulkAll spare + 1
  | .agg parts => uptoBulkAll parts + 1
  | .iface _ d => uptoBulk d + 1
  | .map entries => uptoBulkEntries entries + 1
  | .held _ => 1
def uptoBulkAll {H : Type} : List (DataW H) → Nat
  | [] => 0
  | d :: r => uptoBulk d + uptoBulkAll r
def uptoBulkEntries {H : Type} : List (Lit × DataW H) → Nat
  | [] => 0
  | x :: r => uptoBulkEntry x + uptoBulkEntries r
def uptoBulkEntry {H : Type} : Lit × DataW H → Nat
  | (.string bytes, d) => bytes.length + uptoBulk d + 1
  | (_, d) => uptoBulk d + 1
 end
def uptoSmall : (H : Type) → List (DataW H) → Bool := fun _ ds => decide (uptoBulkAll ds ≤ 1048576)
def OpenSpec.upto (s : _root_.Go.ChangeSpec) : _root_.Go.OpenSpec := { _root_.Go.OpenSpec.ofChange s with cond := some uptoSmall }

/-- 'laws.FnExactIsCompatible', WHERE WHAT IT READS IS OF BULK AT MOST 1048576: true; the input reads as it did. -/
def fnExactIsCompatibleUptoRow : OpenClaim := { program := "ytnhiepgfgnemkaa", sum := "20f1d428c863d006a44bd432f079beb2c066d9195d2da7e9387a60810b269c1a", func := "loop.example/g00890/laws.FnExactIsCompatible", spec := "fnExactIsCompatible", unfollowed := true, recurses := true, apart := false, narrowed := true }
def FnExactIsCompatibleUptoSaid : Prop := fnExactIsCompatibleUptoRow.holds Try.pinned (OpenSpec.upto fnExactIsCompatibleSpec)

/-- 'laws.FnExactCompact', WHERE WHAT IT READS IS OF BULK AT MOST 1048576: true; the input reads as it did. -/
def fnExactCompactUptoRow : OpenClaim := { program := "ytnhiepgfgnemkaa", sum := "20f1d428c863d006a44bd432f079beb2c066d9195d2da7e9387a60810b269c1a", func := "loop.example/g00890/laws.FnExactCompact", spec := "fnExactCompact", unfollowed := true, recurses := true, apart := false, narrowed := true }
def FnExactCompactUptoSaid : Prop := fnExactCompactUptoRow.holds Try.pinned (OpenSpec.upto fnExactCompactSpec)

/-- 'laws.FnExactConstraints', WHERE WHAT IT READS IS OF BULK AT MOST 1048576: true; the input reads as it did. -/
def fnExactConstraintsUptoRow : OpenClaim := { program := "ytnhiepgfgnemkaa", sum := "20f1d428c863d006a44bd432f079beb2c066d9195d2da7e9387a60810b269c1a", func := "loop.example/g00890/laws.FnExactConstraints", spec := "fnExactConstraints", unfollowed := true, recurses := true, apart := false, narrowed := true }
def FnExactConstraintsUptoSaid : Prop := fnExactConstraintsUptoRow.holds Try.pinned (OpenSpec.upto fnExactConstraintsSpec)

/-- 'laws.FnExactCompactMirror', WHERE WHAT IT READS IS OF BULK AT MOST 1048576: true; the input reads as it did. -/
def fnExactCompactMirrorUptoRow : OpenClaim := { program := "ytnhiepgfgnemkaa", sum := "20f1d428c863d006a44bd432f079beb2c066d9195d2da7e9387a60810b269c1a", func := "loop.example/g00890/laws.FnExactCompactMirror", spec := "fnExactCompactMirror", unfollowed := true, recurses := true, apart := false, narrowed := true }
def FnExactCompactMirrorUptoSaid : Prop := fnExactCompactMirrorUptoRow.holds Try.pinned (OpenSpec.upto fnExactCompactMirrorSpec)

/-- 'laws.FnExactSlackOf', WHERE WHAT IT READS IS OF BULK AT MOST 1048576: true; the input reads as it did. -/
def fnExactSlackOfUptoRow : OpenClaim := { program := "ytnhiepgfgnemkaa", sum := "20f1d428c863d006a44bd432f079beb2c066d9195d2da7e9387a60810b269c1a", func := "loop.example/g00890/laws.FnExactSlackOf", spec := "fnExactSlackOf", unfollowed := true, recurses := true, apart := false, narrowed := true }
def FnExactSlackOfUptoSaid : Prop := fnExactSlackOfUptoRow.holds Try.pinned (OpenSpec.upto fnExactSlackOfSpec)

/-- 'laws.FnExactCriticalPath', WHERE WHAT IT READS IS OF BULK AT MOST 1048576: true; the input reads as it did. -/
def fnExactCriticalPathUptoRow : OpenClaim := { program := "ytnhiepgfgnemkaa", sum := "20f1d428c863d006a44bd432f079beb2c066d9195d2da7e9387a60810b269c1a", func := "loop.example/g00890/laws.FnExactCriticalPath", spec := "fnExactCriticalPath", unfollowed := true, recurses := true, apart := false, narrowed := true }
def FnExactCriticalPathUptoSaid : Prop := fnExactCriticalPathUptoRow.holds Try.pinned (OpenSpec.upto fnExactCriticalPathSpec)

/-- 'laws.FnMirror', WHERE WHAT IT READS IS OF BULK AT MOST 1048576: true; the input reads as it did. -/
def fnMirrorUptoRow : OpenClaim := { program := "ytnhiepgfgnemkaa", sum := "20f1d428c863d006a44bd432f079beb2c066d9195d2da7e9387a60810b269c1a", func := "loop.example/g00890/laws.FnMirror", spec := "fnMirror", unfollowed := true, recurses := true, apart := false, narrowed := true }
def FnMirrorUptoSaid : Prop := fnMirrorUptoRow.holds Try.pinned (OpenSpec.upto fnMirrorSpec)

/-- 'laws.FnSlack', WHERE WHAT IT READS IS OF BULK AT MOST 1048576: true; the input reads as it did. -/
def fnSlackUptoRow : OpenClaim := { program := "ytnhiepgfgnemkaa", sum := "20f1d428c863d006a44bd432f079beb2c066d9195d2da7e9387a60810b269c1a", func := "loop.example/g00890/laws.FnSlack", spec := "fnSlack", unfollowed := true, recurses := true, apart := false, narrowed := true }
def FnSlackUptoSaid : Prop := fnSlackUptoRow.holds Try.pinned (OpenSpec.upto fnSlackSpec)

/-- 'laws.FnCriticalPath', WHERE WHAT IT READS IS OF BULK AT MOST 1048576: true; the input reads as it did. -/
def fnCriticalPathUptoRow : OpenClaim := { program := "ytnhiepgfgnemkaa", sum := "20f1d428c863d006a44bd432f079beb2c066d9195d2da7e9387a60810b269c1a", func := "loop.example/g00890/laws.FnCriticalPath", spec := "fnCriticalPath", unfollowed := true, recurses := true, apart := false, narrowed := true }
def FnCriticalPathUptoSaid : Prop := fnCriticalPathUptoRow.holds Try.pinned (OpenSpec.upto fnCriticalPathSpec)

/-- 'laws.FnCompact', WHERE WHAT IT READS IS OF BULK AT MOST 1048576: true; the input reads as it did. -/
def fnCompactUptoRow : OpenClaim := { program := "ytnhiepgfgnemkaa", sum := "20f1d428c863d006a44bd432f079beb2c066d9195d2da7e9387a60810b269c1a", func := "loop.example/g00890/laws.FnCompact", spec := "fnCompact", unfollowed := true, recurses := true, apart := false, narrowed := true }
def FnCompactUptoSaid : Prop := fnCompactUptoRow.holds Try.pinned (OpenSpec.upto fnCompactSpec)

/-- 'laws.FnExactRouteChannel', WHERE WHAT IT READS IS OF BULK AT MOST 1048576: true; the input reads as it did. -/
def fnExactRouteChannelUptoRow : OpenClaim := { program := "ytnhiepgfgnemkaa", sum := "20f1d428c863d006a44bd432f079beb2c066d9195d2da7e9387a60810b269c1a", func := "loop.example/g00890/laws.FnExactRouteChannel", spec := "fnExactRouteChannel", unfollowed := true, recurses := true, apart := false, narrowed := true }
def FnExactRouteChannelUptoSaid : Prop := fnExactRouteChannelUptoRow.holds Try.pinned (OpenSpec.upto fnExactRouteChannelSpec)

/-- 'laws.FnChannel', WHERE WHAT IT READS IS OF BULK AT MOST 1048576: true; the input reads as it did. -/
def fnChannelUptoRow : OpenClaim := { program := "ytnhiepgfgnemkaa", sum := "20f1d428c863d006a44bd432f079beb2c066d9195d2da7e9387a60810b269c1a", func := "loop.example/g00890/laws.FnChannel", spec := "fnChannel", unfollowed := true, recurses := true, apart := false, narrowed := true }
def FnChannelUptoSaid : Prop := fnChannelUptoRow.holds Try.pinned (OpenSpec.upto fnChannelSpec)

end Rows
end Go.Proofs.Ytnhiepgfgnemkaa
