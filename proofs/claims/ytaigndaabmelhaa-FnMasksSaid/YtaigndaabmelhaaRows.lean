/-
  No cell of these rows narrows 'for every input' (looked for: loops, veiled, ifaces, maps, wideKeys, modest, calm, conditions, laid).
  DERIVED. THE GIVEN ROWS OF THIS SEAT. 12 by the template 'for every input the law returns true; each argument reads behind the call as it read before'; 0 by the template 'total and deterministic' (their statements: YtaigndaabmelhaaTotals.lean).
  GIVEN WITH THE SEED: the statements are not yours to turn. If you find one false, say at which input.
  Laid BY PROGRAM, IN A SANDBOX (cutbox-rows.mjs): the forced cells as the released guide's own fill.sh prints them over the translation c5db4996d2a40826… (all of the seat's roots in one cut). By AI agents, Wed Nov 11 2026. No macro, syntax, notation, axiom, sorry.
-/
import Derived.Test.YtaigndaabmelhaaChecked
import GoSem.Claim
import GoSem.ClaimJoined
import GoSem.ClaimMapViews
import Derived.JoinedTies
import Derived.KernelRfl
namespace Go.Proofs.Ytaigndaabmelhaa
/- THE CELL 'sum', in the pinned program and in every row, IS THE sha256 OF THE DUMP (.gsa) THAT YtaigndaabmelhaaProg.lean LOADS. Nothing in Lean hashes anything: it is a label: what it is worth is what the hold of that sum in a sandbox is worth. -/
noncomputable def Try.pinned : Pinned := { name := "ytaigndaabmelhaa", sum := "c5db4996d2a40826ac594e5dc0f24bc1d55f715b69a5e611ba027dc0ed6f2daa", checked := Try.checked }
namespace Rows
def none {H : Type} : Left H := { results := [], args := [] }

/-- 'laws.FnExactPatternParts': WHATEVER THE INPUT: true; the input reads as it did. -/
def fnExactPatternPartsSpec : ChangeSpec := { name := "fnExactPatternParts", fn := fun _ => fun
  | [d] => { results := [.lit (.bool true)], args := [d] }
  | _ => none }
def fnExactPatternPartsRow : OpenClaim := { program := "ytaigndaabmelhaa", sum := "c5db4996d2a40826ac594e5dc0f24bc1d55f715b69a5e611ba027dc0ed6f2daa", func := "loop.example/g00890/laws.FnExactPatternParts", spec := "fnExactPatternParts", unfollowed := true, recurses := true, apart := false }
def FnExactPatternPartsSaid : Prop := fnExactPatternPartsRow.holds Try.pinned (OpenSpec.ofChange fnExactPatternPartsSpec)

/-- ITS FALSE NEIGHBOUR: 'it returns false'. Refute it at one input. -/
def fnExactPatternPartsWrong : ChangeSpec := { name := "fnExactPatternParts", fn := fun _ => fun
  | [d] => { results := [.lit (.bool false)], args := [d] }
  | _ => none }
def FnExactPatternPartsWrongFalsely : Prop := fnExactPatternPartsRow.holds Try.pinned (OpenSpec.ofChange fnExactPatternPartsWrong)

/-- 'laws.FnOddCycle': WHATEVER THE INPUT: true; the input reads as it did. -/
def fnOddCycleSpec : ChangeSpec := { name := "fnOddCycle", fn := fun _ => fun
  | [d] => { results := [.lit (.bool true)], args := [d] }
  | _ => none }
def fnOddCycleRow : OpenClaim := { program := "ytaigndaabmelhaa", sum := "c5db4996d2a40826ac594e5dc0f24bc1d55f715b69a5e611ba027dc0ed6f2daa", func := "loop.example/g00890/laws.FnOddCycle", spec := "fnOddCycle", unfollowed := true, recurses := true, apart := false }
def FnOddCycleSaid : Prop := fnOddCycleRow.holds Try.pinned (OpenSpec.ofChange fnOddCycleSpec)

/-- ITS FALSE NEIGHBOUR: 'it returns false'. Refute it at one input. -/
def fnOddCycleWrong : ChangeSpec := { name := "fnOddCycle", fn := fun _ => fun
  | [d] => { results := [.lit (.bool false)], args := [d] }
  | _ => none }
def FnOddCycleWrongFalsely : Prop := fnOddCycleRow.holds Try.pinned (OpenSpec.ofChange fnOddCycleWrong)

/-- 'laws.FnColoring': WHATEVER THE INPUT: true; the input reads as it did. -/
def fnColoringSpec : ChangeSpec := { name := "fnColoring", fn := fun _ => fun
  | [d] => { results := [.lit (.bool true)], args := [d] }
  | _ => none }
def fnColoringRow : OpenClaim := { program := "ytaigndaabmelhaa", sum := "c5db4996d2a40826ac594e5dc0f24bc1d55f715b69a5e611ba027dc0ed6f2daa", func := "loop.example/g00890/laws.FnColoring", spec := "fnColoring", unfollowed := true, recurses := true, apart := false }
def FnColoringSaid : Prop := fnColoringRow.holds Try.pinned (OpenSpec.ofChange fnColoringSpec)

/-- ITS FALSE NEIGHBOUR: 'it returns false'. Refute it at one input. -/
def fnColoringWrong : ChangeSpec := { name := "fnColoring", fn := fun _ => fun
  | [d] => { results := [.lit (.bool false)], args := [d] }
  | _ => none }
def FnColoringWrongFalsely : Prop := fnColoringRow.holds Try.pinned (OpenSpec.ofChange fnColoringWrong)

/-- 'laws.FnStitch': WHATEVER THE INPUT: true; the input reads as it did. -/
def fnStitchSpec : ChangeSpec := { name := "fnStitch", fn := fun _ => fun
  | [d] => { results := [.lit (.bool true)], args := [d] }
  | _ => none }
def fnStitchRow : OpenClaim := { program := "ytaigndaabmelhaa", sum := "c5db4996d2a40826ac594e5dc0f24bc1d55f715b69a5e611ba027dc0ed6f2daa", func := "loop.example/g00890/laws.FnStitch", spec := "fnStitch", unfollowed := true, recurses := true, apart := false }
def FnStitchSaid : Prop := fnStitchRow.holds Try.pinned (OpenSpec.ofChange fnStitchSpec)

/-- ITS FALSE NEIGHBOUR: 'it returns false'. Refute it at one input. -/
def fnStitchWrong : ChangeSpec := { name := "fnStitch", fn := fun _ => fun
  | [d] => { results := [.lit (.bool false)], args := [d] }
  | _ => none }
def FnStitchWrongFalsely : Prop := fnStitchRow.holds Try.pinned (OpenSpec.ofChange fnStitchWrong)

/-- 'laws.FnMasks': WHATEVER THE INPUT: true; the input reads as it did. -/
def fnMasksSpec : ChangeSpec := { name := "fnMasks", fn := fun _ => fun
  | [d] => { results := [.lit (.bool true)], args := [d] }
  | _ => none }
def fnMasksRow : OpenClaim := { program := "ytaigndaabmelhaa", sum := "c5db4996d2a40826ac594e5dc0f24bc1d55f715b69a5e611ba027dc0ed6f2daa", func := "loop.example/g00890/laws.FnMasks", spec := "fnMasks", unfollowed := true, recurses := true, apart := false }
def FnMasksSaid : Prop := fnMasksRow.holds Try.pinned (OpenSpec.ofChange fnMasksSpec)

/-- ITS FALSE NEIGHBOUR: 'it returns false'. Refute it at one input. -/
def fnMasksWrong : ChangeSpec := { name := "fnMasks", fn := fun _ => fun
  | [d] => { results := [.lit (.bool false)], args := [d] }
  | _ => none }
def FnMasksWrongFalsely : Prop := fnMasksRow.holds Try.pinned (OpenSpec.ofChange fnMasksWrong)

/-- 'laws.FnExactPatternConflicts': WHATEVER THE INPUT: true; the input reads as it did. -/
def fnExactPatternConflictsSpec : ChangeSpec := { name := "fnExactPatternConflicts", fn := fun _ => fun
  | [d1, d2] => { results := [.lit (.bool true)], args := [d1, d2] }
  | _ => none }
def fnExactPatternConflictsRow : OpenClaim := { program := "ytaigndaabmelhaa", sum := "c5db4996d2a40826ac594e5dc0f24bc1d55f715b69a5e611ba027dc0ed6f2daa", func := "loop.example/g00890/laws.FnExactPatternConflicts", spec := "fnExactPatternConflicts", unfollowed := true, recurses := true, apart := false }
def FnExactPatternConflictsSaid : Prop := fnExactPatternConflictsRow.holds Try.pinned (OpenSpec.ofChange fnExactPatternConflictsSpec)

/-- ITS FALSE NEIGHBOUR: 'it returns false'. Refute it at one input. -/
def fnExactPatternConflictsWrong : ChangeSpec := { name := "fnExactPatternConflicts", fn := fun _ => fun
  | [d1, d2] => { results := [.lit (.bool false)], args := [d1, d2] }
  | _ => none }
def FnExactPatternConflictsWrongFalsely : Prop := fnExactPatternConflictsRow.holds Try.pinned (OpenSpec.ofChange fnExactPatternConflictsWrong)

/-- 'laws.FnExactIsMaskPair': WHATEVER THE INPUT: true; the input reads as it did. -/
def fnExactIsMaskPairSpec : ChangeSpec := { name := "fnExactIsMaskPair", fn := fun _ => fun
  | [d1, d2, d3, d4] => { results := [.lit (.bool true)], args := [d1, d2, d3, d4] }
  | _ => none }
def fnExactIsMaskPairRow : OpenClaim := { program := "ytaigndaabmelhaa", sum := "c5db4996d2a40826ac594e5dc0f24bc1d55f715b69a5e611ba027dc0ed6f2daa", func := "loop.example/g00890/laws.FnExactIsMaskPair", spec := "fnExactIsMaskPair", unfollowed := true, recurses := true, apart := false }
def FnExactIsMaskPairSaid : Prop := fnExactIsMaskPairRow.holds Try.pinned (OpenSpec.ofChange fnExactIsMaskPairSpec)

/-- ITS FALSE NEIGHBOUR: 'it returns false'. Refute it at one input. -/
def fnExactIsMaskPairWrong : ChangeSpec := { name := "fnExactIsMaskPair", fn := fun _ => fun
  | [d1, d2, d3, d4] => { results := [.lit (.bool false)], args := [d1, d2, d3, d4] }
  | _ => none }
def FnExactIsMaskPairWrongFalsely : Prop := fnExactIsMaskPairRow.holds Try.pinned (OpenSpec.ofChange fnExactIsMaskPairWrong)

/-- 'laws.FnExactColorParts': WHATEVER THE INPUT: true; the input reads as it did. -/
def fnExactColorPartsSpec : ChangeSpec := { name := "fnExactColorParts", fn := fun _ => fun
  | [d1, d2] => { results := [.lit (.bool true)], args := [d1, d2] }
  | _ => none }
def fnExactColorPartsRow : OpenClaim := { program := "ytaigndaabmelhaa", sum := "c5db4996d2a40826ac594e5dc0f24bc1d55f715b69a5e611ba027dc0ed6f2daa", func := "loop.example/g00890/laws.FnExactColorParts", spec := "fnExactColorParts", unfollowed := true, recurses := true, apart := false }
def FnExactColorPartsSaid : Prop := fnExactColorPartsRow.holds Try.pinned (OpenSpec.ofChange fnExactColorPartsSpec)

/-- ITS FALSE NEIGHBOUR: 'it returns false'. Refute it at one input. -/
def fnExactColorPartsWrong : ChangeSpec := { name := "fnExactColorParts", fn := fun _ => fun
  | [d1, d2] => { results := [.lit (.bool false)], args := [d1, d2] }
  | _ => none }
def FnExactColorPartsWrongFalsely : Prop := fnExactColorPartsRow.holds Try.pinned (OpenSpec.ofChange fnExactColorPartsWrong)

/-- 'laws.FnExactSplitMasks': WHATEVER THE INPUT: true; the input reads as it did. -/
def fnExactSplitMasksSpec : ChangeSpec := { name := "fnExactSplitMasks", fn := fun _ => fun
  | [d1, d2] => { results := [.lit (.bool true)], args := [d1, d2] }
  | _ => none }
def fnExactSplitMasksRow : OpenClaim := { program := "ytaigndaabmelhaa", sum := "c5db4996d2a40826ac594e5dc0f24bc1d55f715b69a5e611ba027dc0ed6f2daa", func := "loop.example/g00890/laws.FnExactSplitMasks", spec := "fnExactSplitMasks", unfollowed := true, recurses := true, apart := false }
def FnExactSplitMasksSaid : Prop := fnExactSplitMasksRow.holds Try.pinned (OpenSpec.ofChange fnExactSplitMasksSpec)

/-- ITS FALSE NEIGHBOUR: 'it returns false'. Refute it at one input. -/
def fnExactSplitMasksWrong : ChangeSpec := { name := "fnExactSplitMasks", fn := fun _ => fun
  | [d1, d2] => { results := [.lit (.bool false)], args := [d1, d2] }
  | _ => none }
def FnExactSplitMasksWrongFalsely : Prop := fnExactSplitMasksRow.holds Try.pinned (OpenSpec.ofChange fnExactSplitMasksWrong)

/-- 'laws.FnExactOddCycle': WHATEVER THE INPUT: true; the input reads as it did. -/
def fnExactOddCycleSpec : ChangeSpec := { name := "fnExactOddCycle", fn := fun _ => fun
  | [d1, d2] => { results := [.lit (.bool true)], args := [d1, d2] }
  | _ => none }
def fnExactOddCycleRow : OpenClaim := { program := "ytaigndaabmelhaa", sum := "c5db4996d2a40826ac594e5dc0f24bc1d55f715b69a5e611ba027dc0ed6f2daa", func := "loop.example/g00890/laws.FnExactOddCycle", spec := "fnExactOddCycle", unfollowed := true, recurses := true, apart := false }
def FnExactOddCycleSaid : Prop := fnExactOddCycleRow.holds Try.pinned (OpenSpec.ofChange fnExactOddCycleSpec)

/-- ITS FALSE NEIGHBOUR: 'it returns false'. Refute it at one input. -/
def fnExactOddCycleWrong : ChangeSpec := { name := "fnExactOddCycle", fn := fun _ => fun
  | [d1, d2] => { results := [.lit (.bool false)], args := [d1, d2] }
  | _ => none }
def FnExactOddCycleWrongFalsely : Prop := fnExactOddCycleRow.holds Try.pinned (OpenSpec.ofChange fnExactOddCycleWrong)

/-- 'laws.FnExactFirstStitch': WHATEVER THE INPUT: true; the input reads as it did. -/
def fnExactFirstStitchSpec : ChangeSpec := { name := "fnExactFirstStitch", fn := fun _ => fun
  | [d1, d2] => { results := [.lit (.bool true)], args := [d1, d2] }
  | _ => none }
def fnExactFirstStitchRow : OpenClaim := { program := "ytaigndaabmelhaa", sum := "c5db4996d2a40826ac594e5dc0f24bc1d55f715b69a5e611ba027dc0ed6f2daa", func := "loop.example/g00890/laws.FnExactFirstStitch", spec := "fnExactFirstStitch", unfollowed := true, recurses := true, apart := false }
def FnExactFirstStitchSaid : Prop := fnExactFirstStitchRow.holds Try.pinned (OpenSpec.ofChange fnExactFirstStitchSpec)

/-- ITS FALSE NEIGHBOUR: 'it returns false'. Refute it at one input. -/
def fnExactFirstStitchWrong : ChangeSpec := { name := "fnExactFirstStitch", fn := fun _ => fun
  | [d1, d2] => { results := [.lit (.bool false)], args := [d1, d2] }
  | _ => none }
def FnExactFirstStitchWrongFalsely : Prop := fnExactFirstStitchRow.holds Try.pinned (OpenSpec.ofChange fnExactFirstStitchWrong)

/-- 'laws.FnFill': WHATEVER THE INPUT: true; the input reads as it did. -/
def fnFillSpec : ChangeSpec := { name := "fnFill", fn := fun _ => fun
  | [d] => { results := [.lit (.bool true)], args := [d] }
  | _ => none }
def fnFillRow : OpenClaim := { program := "ytaigndaabmelhaa", sum := "c5db4996d2a40826ac594e5dc0f24bc1d55f715b69a5e611ba027dc0ed6f2daa", func := "loop.example/g00890/laws.FnFill", spec := "fnFill", unfollowed := true, recurses := true, apart := false }
def FnFillSaid : Prop := fnFillRow.holds Try.pinned (OpenSpec.ofChange fnFillSpec)

/-- ITS FALSE NEIGHBOUR: 'it returns false'. Refute it at one input. -/
def fnFillWrong : ChangeSpec := { name := "fnFill", fn := fun _ => fun
  | [d] => { results := [.lit (.bool false)], args := [d] }
  | _ => none }
def FnFillWrongFalsely : Prop := fnFillRow.holds Try.pinned (OpenSpec.ofChange fnFillWrong)

/- THE SECOND FORM. 'bulk': how many values and letters a reading holds, each counted each time it is reached (what is shared counts as often as it is met; a slice's spare places count too). A statement '..UptoSaid' is the law's where the arguments, and the package variables that the reading takes, are together of bulk at most 1048576: NARROWER than '..Said'. Prove '..Said' where nothing that the law and all that it calls make is longer than what came in: it says more and counts as full. Else prove '..UptoSaid'. A law counts once. -/
mutual
def uptoBulk {H : Type} : DataW H → Nat
  | .lit (.string bytes) => bytes.length + 1
  | .lit _ => 1
  | .nil => 1
  | .ptr d => uptoBulk d + 1
  | .slice elems spare => uptoBulkAll elems + uptoBulkAll spare + 1
  | .agg parts => uptoBulkAll parts + 1
  | .iface _ d => uptoBulk d + 1
  | .map entries => uptoBulkEntries entries + 1
  | .held _ => 1
def uptoBulkAll {H : Type} : List (DataW H) → Nat
  | [] => 0
  | d :: r => uptoBulk d + uptoBulkAll r
def uptoBulkEntries {H : Type} : List (Lit × DataW H) → Nat
  | [] => 0
  | x :: r => uptoBulkEntry x + uptoBulkEntries r
def uptoBulkEntry {H : Type} : Lit × DataW H → Nat
  | (.string bytes, d) => bytes.length + uptoBulk d + 1
  | (_, d) => uptoBulk d + 1
 end
def uptoSmall : (H : Type) → List (DataW H) → Bool := fun _ ds => decide (uptoBulkAll ds ≤ 1048576)
def OpenSpec.upto (s : _root_.Go.ChangeSpec) : _root_.Go.OpenSpec := { _root_.Go.OpenSpec.ofChange s with cond := some uptoSmall }

/-- 'laws.FnExactPatternParts', WHERE WHAT IT READS IS OF BULK AT MOST 1048576: true; the input reads as it did. -/
def fnExactPatternPartsUptoRow : OpenClaim := { program := "ytaigndaabmelhaa", sum := "c5db4996d2a40826ac594e5dc0f24bc1d55f715b69a5e611ba027dc0ed6f2daa", func := "loop.example/g00890/laws.FnExactPatternParts", spec := "fnExactPatternParts", unfollowed := true, recurses := true, apart := false, narrowed := true }
def FnExactPatternPartsUptoSaid : Prop := fnExactPatternPartsUptoRow.holds Try.pinned (OpenSpec.upto fnExactPatternPartsSpec)

/-- 'laws.FnOddCycle', WHERE WHAT IT READS IS OF BULK AT MOST 1048576: true; the input reads as it did. -/
def fnOddCycleUptoRow : OpenClaim := { program := "ytaigndaabmelhaa", sum := "c5db4996d2a40826ac594e5dc0f24bc1d55f715b69a5e611ba027dc0ed6f2daa", func := "loop.example/g00890/laws.FnOddCycle", spec := "fnOddCycle", unfollowed := true, recurses := true, apart := false, narrowed := true }
def FnOddCycleUptoSaid : Prop := fnOddCycleUptoRow.holds Try.pinned (OpenSpec.upto fnOddCycleSpec)

/-- 'laws.FnColoring', WHERE WHAT IT READS IS OF BULK AT MOST 1048576: true; the input reads as it did. -/
def fnColoringUptoRow : OpenClaim := { program := "ytaigndaabmelhaa", sum := "c5db4996d2a40826ac594e5dc0f24bc1d55f715b69a5e611ba027dc0ed6f2daa", func := "loop.example/g00890/laws.FnColoring", spec := "fnColoring", unfollowed := true, recurses := true, apart := false, narrowed := true }
def FnColoringUptoSaid : Prop := fnColoringUptoRow.holds Try.pinned (OpenSpec.upto fnColoringSpec)

/-- 'laws.FnStitch', WHERE WHAT IT READS IS OF BULK AT MOST 1048576: true; the input reads as it did. -/
def fnStitchUptoRow : OpenClaim := { program := "ytaigndaabmelhaa", sum := "c5db4996d2a40826ac594e5dc0f24bc1d55f715b69a5e611ba027dc0ed6f2daa", func := "loop.example/g00890/laws.FnStitch", spec := "fnStitch", unfollowed := true, recurses := true, apart := false, narrowed := true }
def FnStitchUptoSaid : Prop := fnStitchUptoRow.holds Try.pinned (OpenSpec.upto fnStitchSpec)

/-- 'laws.FnMasks', WHERE WHAT IT READS IS OF BULK AT MOST 1048576: true; the input reads as it did. -/
def fnMasksUptoRow : OpenClaim := { program := "ytaigndaabmelhaa", sum := "c5db4996d2a40826ac594e5dc0f24bc1d55f715b69a5e611ba027dc0ed6f2daa", func := "loop.example/g00890/laws.FnMasks", spec := "fnMasks", unfollowed := true, recurses := true, apart := false, narrowed := true }
def FnMasksUptoSaid : Prop := fnMasksUptoRow.holds Try.pinned (OpenSpec.upto fnMasksSpec)

/-- 'laws.FnExactPatternConflicts', WHERE WHAT IT READS IS OF BULK AT MOST 1048576: true; the input reads as it did. -/
def fnExactPatternConflictsUptoRow : OpenClaim := { program := "ytaigndaabmelhaa", sum := "c5db4996d2a40826ac594e5dc0f24bc1d55f715b69a5e611ba027dc0ed6f2daa", func := "loop.example/g00890/laws.FnExactPatternConflicts", spec := "fnExactPatternConflicts", unfollowed := true, recurses := true, apart := false, narrowed := true }
def FnExactPatternConflictsUptoSaid : Prop := fnExactPatternConflictsUptoRow.holds Try.pinned (OpenSpec.upto fnExactPatternConflictsSpec)

/-- 'laws.FnExactIsMaskPair', WHERE WHAT IT READS IS OF BULK AT MOST 1048576: true; the input reads as it did. -/
def fnExactIsMaskPairUptoRow : OpenClaim := { program := "ytaigndaabmelhaa", sum := "c5db4996d2a40826ac594e5dc0f24bc1d55f715b69a5e611ba027dc0ed6f2daa", func := "loop.example/g00890/laws.FnExactIsMaskPair", spec := "fnExactIsMaskPair", unfollowed := true, recurses := true, apart := false, narrowed := true }
def FnExactIsMaskPairUptoSaid : Prop := fnExactIsMaskPairUptoRow.holds Try.pinned (OpenSpec.upto fnExactIsMaskPairSpec)

/-- 'laws.FnExactColorParts', WHERE WHAT IT READS IS OF BULK AT MOST 1048576: true; the input reads as it did. -/
def fnExactColorPartsUptoRow : OpenClaim := { program := "ytaigndaabmelhaa", sum := "c5db4996d2a40826ac594e5dc0f24bc1d55f715b69a5e611ba027dc0ed6f2daa", func := "loop.example/g00890/laws.FnExactColorParts", spec := "fnExactColorParts", unfollowed := true, recurses := true, apart := false, narrowed := true }
def FnExactColorPartsUptoSaid : Prop := fnExactColorPartsUptoRow.holds Try.pinned (OpenSpec.upto fnExactColorPartsSpec)

/-- 'laws.FnExactSplitMasks', WHERE WHAT IT READS IS OF BULK AT MOST 1048576: true; the input reads as it did. -/
def fnExactSplitMasksUptoRow : OpenClaim := { program := "ytaigndaabmelhaa", sum := "c5db4996d2a40826ac594e5dc0f24bc1d55f715b69a5e611ba027dc0ed6f2daa", func := "loop.example/g00890/laws.FnExactSplitMasks", spec := "fnExactSplitMasks", unfollowed := true, recurses := true, apart := false, narrowed := true }
def FnExactSplitMasksUptoSaid : Prop := fnExactSplitMasksUptoRow.holds Try.pinned (OpenSpec.upto fnExactSplitMasksSpec)

/-- 'laws.FnExactOddCycle', WHERE WHAT IT READS IS OF BULK AT MOST 1048576: true; the input reads as it did. -/
def fnExactOddCycleUptoRow : OpenClaim := { program := "ytaigndaabmelhaa", sum := "c5db4996d2a40826ac594e5dc0f24bc1d55f715b69a5e611ba027dc0ed6f2daa", func := "loop.example/g00890/laws.FnExactOddCycle", spec := "fnExactOddCycle", unfollowed := true, recurses := true, apart := false, narrowed := true }
def FnExactOddCycleUptoSaid : Prop := fnExactOddCycleUptoRow.holds Try.pinned (OpenSpec.upto fnExactOddCycleSpec)

/-- 'laws.FnExactFirstStitch', WHERE WHAT IT READS IS OF BULK AT MOST 1048576: true; the input reads as it did. -/
def fnExactFirstStitchUptoRow : OpenClaim := { program := "ytaigndaabmelhaa", sum := "c5db4996d2a40826ac594e5dc0f24bc1d55f715b69a5e611ba027dc0ed6f2daa", func := "loop.example/g00890/laws.FnExactFirstStitch", spec := "fnExactFirstStitch", unfollowed := true, recurses := true, apart := false, narrowed := true }
def FnExactFirstStitchUptoSaid : Prop := fnExactFirstStitchUptoRow.holds Try.pinned (OpenSpec.upto fnExactFirstStitchSpec)

/-- 'laws.FnFill', WHERE WHAT IT READS IS OF BULK AT MOST 1048576: true; the input reads as it did. -/
def fnFillUptoRow : OpenClaim := { program := "ytaigndaabmelhaa", sum := "c5db4996d2a40826ac594e5dc0f24bc1d55f715b69a5e611ba027dc0ed6f2daa", func := "loop.example/g00890/laws.FnFill", spec := "fnFill", unfollowed := true, recurses := true, apart := false, narrowed := true }
def FnFillUptoSaid : Prop := fnFillUptoRow.holds Try.pinned (OpenSpec.upto fnFillSpec)

end Rows
end Go.Proofs.Ytaigndaabmelhaa
