/-
  No cell of these rows narrows 'for every input' (looked for: loops, veiled, ifaces, maps, wideKeys, modest, calm, conditions, laid).
  DERIVED. THE GIVEN ROWS OF THIS SEAT. 4 by the template 'for every input the law returns true; each argument reads behind the call as it read before'; 0 by the template 'total and deterministic' (their statements: YtiljojpnbpdaeaaTotals.lean).
  GIVEN WITH THE SEED: the statements are not yours to turn. If you find one false, say at which input.
  Laid BY PROGRAM, IN A SANDBOX (cutbox-rows.mjs): the forced cells as the released guide's own fill.sh prints them over the translation 4f225db9061cbd04… (all of the seat's roots in one cut). By AI agents, Wed Nov 11 2026. No macro, syntax, notation, axiom, sorry.
-/
import Derived.Test.YtiljojpnbpdaeaaChecked
import GoSem.Claim
import GoSem.ClaimJoined
import GoSem.ClaimMapViews
import Derived.JoinedTies
import Derived.KernelRfl
namespace Go.Proofs.Ytiljojpnbpdaeaa
/- THE CELL 'sum', in the pinned program and in every row, IS THE sha256 OF THE DUMP (.gsa) THAT YtiljojpnbpdaeaaProg.lean LOADS. Nothing in Lean hashes anything: it is a label: what it is worth is what the hold of that sum in a sandbox is worth. -/
noncomputable def Try.pinned : Pinned := { name := "ytiljojpnbpdaeaa", sum := "4f225db9061cbd0432a0493f65e8a105fa05e3da9ca03b08a85d9111c2b7c39c", checked := Try.checked }
namespace Rows
def none {H : Type} : Left H := { results := [], args := [] }

/-- 'laws.FnExactRouteChannel': WHATEVER THE INPUT: true; the input reads as it did. -/
def fnExactRouteChannelSpec : ChangeSpec := { name := "fnExactRouteChannel", fn := fun _ => fun
  | [d] => { results := [.lit (.bool true)], args := [d] }
  | _ => none }
def fnExactRouteChannelRow : OpenClaim := { program := "ytiljojpnbpdaeaa", sum := "4f225db9061cbd0432a0493f65e8a105fa05e3da9ca03b08a85d9111c2b7c39c", func := "loop.example/g00890/laws.FnExactRouteChannel", spec := "fnExactRouteChannel", unfollowed := true, recurses := true, plainKeys := false, apart := false }
def FnExactRouteChannelSaid : Prop := fnExactRouteChannelRow.holds Try.pinned (OpenSpec.ofChange fnExactRouteChannelSpec)

/-- ITS FALSE NEIGHBOUR: 'it returns false'. Refute it at one input. -/
def fnExactRouteChannelWrong : ChangeSpec := { name := "fnExactRouteChannel", fn := fun _ => fun
  | [d] => { results := [.lit (.bool false)], args := [d] }
  | _ => none }
def FnExactRouteChannelWrongFalsely : Prop := fnExactRouteChannelRow.holds Try.pinned (OpenSpec.ofChange fnExactRouteChannelWrong)

/-- 'laws.FnChannel': WHATEVER THE INPUT: true; the input reads as it did. -/
def fnChannelSpec : ChangeSpec := { name := "fnChannel", fn := fun _ => fun
  | [d] => { results := [.lit (.bool true)], args := [d] }
  | _ => none }
def fnChannelRow : OpenClaim := { program := "ytiljojpnbpdaeaa", sum := "4f225db9061cbd0432a0493f65e8a105fa05e3da9ca03b08a85d9111c2b7c39c", func := "loop.example/g00890/laws.FnChannel", spec := "fnChannel", unfollowed := true, recurses := true, plainKeys := false, apart := false }
def FnChannelSaid : Prop := fnChannelRow.holds Try.pinned (OpenSpec.ofChange fnChannelSpec)

/-- ITS FALSE NEIGHBOUR: 'it returns false'. Refute it at one input. -/
def fnChannelWrong : ChangeSpec := { name := "fnChannel", fn := fun _ => fun
  | [d] => { results := [.lit (.bool false)], args := [d] }
  | _ => none }
def FnChannelWrongFalsely : Prop := fnChannelRow.holds Try.pinned (OpenSpec.ofChange fnChannelWrong)

/-- 'laws.FnRouteRects': WHATEVER THE INPUT: true; the input reads as it did. -/
def fnRouteRectsSpec : ChangeSpec := { name := "fnRouteRects", fn := fun _ => fun
  | [d] => { results := [.lit (.bool true)], args := [d] }
  | _ => none }
def fnRouteRectsRow : OpenClaim := { program := "ytiljojpnbpdaeaa", sum := "4f225db9061cbd0432a0493f65e8a105fa05e3da9ca03b08a85d9111c2b7c39c", func := "loop.example/g00890/laws.FnRouteRects", spec := "fnRouteRects", plainKeys := false, apart := false }
def FnRouteRectsSaid : Prop := fnRouteRectsRow.holds Try.pinned (OpenSpec.ofChange fnRouteRectsSpec)

/-- ITS FALSE NEIGHBOUR: 'it returns false'. Refute it at one input. -/
def fnRouteRectsWrong : ChangeSpec := { name := "fnRouteRects", fn := fun _ => fun
  | [d] => { results := [.lit (.bool false)], args := [d] }
  | _ => none }
def FnRouteRectsWrongFalsely : Prop := fnRouteRectsRow.holds Try.pinned (OpenSpec.ofChange fnRouteRectsWrong)

/-- 'laws.FnExactNewSession': WHATEVER THE INPUT: true; the input reads as it did. -/
def fnExactNewSessionSpec : ChangeSpec := { name := "fnExactNewSession", fn := fun _ => fun
  | [] => { results := [.lit (.bool true)], args := [] }
  | _ => none }
def fnExactNewSessionRow : OpenClaim := { program := "ytiljojpnbpdaeaa", sum := "4f225db9061cbd0432a0493f65e8a105fa05e3da9ca03b08a85d9111c2b7c39c", func := "loop.example/g00890/laws.FnExactNewSession", spec := "fnExactNewSession", plainKeys := false, apart := false }
def FnExactNewSessionSaid : Prop := fnExactNewSessionRow.holds Try.pinned (OpenSpec.ofChange fnExactNewSessionSpec)

/-- ITS FALSE NEIGHBOUR: 'it returns false'. Refute it at one input. -/
def fnExactNewSessionWrong : ChangeSpec := { name := "fnExactNewSession", fn := fun _ => fun
  | [] => { results := [.lit (.bool false)], args := [] }
  | _ => none }
def FnExactNewSessionWrongFalsely : Prop := fnExactNewSessionRow.holds Try.pinned (OpenSpec.ofChange fnExactNewSessionWrong)

/- THE SECOND FORM. 'bulk': how many values and letters a reading holds, each counted each time it is reached (what is shared counts as often as it is met; a slice's spare places count too). A statement '..UptoSaid' is the law's where the arguments, and the package variables that the reading takes, are together of bulk at most 1048576: NARROWER than '..Said'. Prove '..Said' where nothing that the law and all that it calls make is longer than what came in: it says more and counts as full. Else prove '..UptoSaid'. A law counts once. -/
mutual
def uptoBulk {H : Type} : DataW H → Nat
  | .lit (.string bytes) => bytes.length + 1
  | .lit _ => 1
  | .nil => 1
  | .ptr d => uptoBulk d + 1
  | .slice elems spare => uptoBulkAll elems + uptoBulkAll spare + 1
  | .agg parts => uptoBulkAll parts + 1
  | .iface _ d => uptoBulk d + 1
  | .map entries => uptoBulkEntries entries + 1
  | .held _ => 1
def uptoBulkAll {H : Type} : List (DataW H) → Nat
  | [] => 0
  | d :: r => uptoBulk d + uptoBulkAll r
def uptoBulkEntries {H : Type} : List (Lit × DataW H) → Nat
  | [] => 0
  | x :: r => uptoBulkEntry x + uptoBulkEntries r
def uptoBulkEntry {H : Type} : Lit × DataW H → Nat
  | (.string bytes, d) => bytes.length + uptoBulk d + 1
  | (_, d) => uptoBulk d + 1
 end
def uptoSmall : (H : Type) → List (DataW H) → Bool := fun _ ds => decide (uptoBulkAll ds ≤ 1048576)
def OpenSpec.upto (s : _root_.Go.ChangeSpec) : _root_.Go.OpenSpec := { _root_.Go.OpenSpec.ofChange s with cond := some uptoSmall }

/-- 'laws.FnExactRouteChannel', WHERE WHAT IT READS IS OF BULK AT MOST 1048576: true; the input reads as it did. -/
def fnExactRouteChannelUptoRow : OpenClaim := { program := "ytiljojpnbpdaeaa", sum := "4f225db9061cbd0432a0493f65e8a105fa05e3da9ca03b08a85d9111c2b7c39c", func := "loop.example/g00890/laws.FnExactRouteChannel", spec := "fnExactRouteChannel", unfollowed := true, recurses := true, plainKeys := false, apart := false, narrowed := true }
def FnExactRouteChannelUptoSaid : Prop := fnExactRouteChannelUptoRow.holds Try.pinned (OpenSpec.upto fnExactRouteChannelSpec)

/-- 'laws.FnChannel', WHERE WHAT IT READS IS OF BULK AT MOST 1048576: true; the input reads as it did. -/
def fnChannelUptoRow : OpenClaim := { program := "ytiljojpnbpdaeaa", sum := "4f225db9061cbd0432a0493f65e8a105fa05e3da9ca03b08a85d9111c2b7c39c", func := "loop.example/g00890/laws.FnChannel", spec := "fnChannel", unfollowed := true, recurses := true, plainKeys := false, apart := false, narrowed := true }
def FnChannelUptoSaid : Prop := fnChannelUptoRow.holds Try.pinned (OpenSpec.upto fnChannelSpec)

/-- 'laws.FnRouteRects', WHERE WHAT IT READS IS OF BULK AT MOST 1048576: true; the input reads as it did. -/
def fnRouteRectsUptoRow : OpenClaim := { program := "ytiljojpnbpdaeaa", sum := "4f225db9061cbd0432a0493f65e8a105fa05e3da9ca03b08a85d9111c2b7c39c", func := "loop.example/g00890/laws.FnRouteRects", spec := "fnRouteRects", plainKeys := false, apart := false, narrowed := true }
def FnRouteRectsUptoSaid : Prop := fnRouteRectsUptoRow.holds Try.pinned (OpenSpec.upto fnRouteRectsSpec)

/-- 'laws.FnExactNewSession', WHERE WHAT IT READS IS OF BULK AT MOST 1048576: true; the input reads as it did. -/
def fnExactNewSessionUptoRow : OpenClaim := { program := "ytiljojpnbpdaeaa", sum := "4f225db9061cbd0432a0493f65e8a105fa05e3da9ca03b08a85d9111c2b7c39c", func := "loop.example/g00890/laws.FnExactNewSession", spec := "fnExactNewSession", plainKeys := false, apart := false, narrowed := true }
def FnExactNewSessionUptoSaid : Prop := fnExactNewSessionUptoRow.holds Try.pinned (OpenSpec.upto fnExactNewSessionSpec)

end Rows
end Go.Proofs.Ytiljojpnbpdaeaa
