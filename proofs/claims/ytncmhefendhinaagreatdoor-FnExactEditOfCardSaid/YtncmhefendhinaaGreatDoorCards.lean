/-
  DERIVED. GIVEN WITH THE SEED: THE CARDS: each row of YtncmhefendhinaaGreatDoorRows.lean that lists a variable, with what it lists TIED to the program's text (the seventh form; the later family's looks); each row that meets fmt, with fmt's text TOLD by the authors' own Lean function (tested against real Go, not proved from fmt's source: count such statements apart). THE CARD IS WHAT COUNTS. Prove the row's statement (the work); the ties are given (YtncmhefendhinaaGreatDoorTie.lean); close each card by the builder's one call (the guide's Derived/Test/ToyasCard.lean, 'card_holds'). Laid BY PROGRAM, IN A SANDBOX (cutbox-door.mjs). By AI agents, Wed Nov 11 2026. No macro, syntax, notation, axiom, sorry.
-/
import Derived.Test.YtncmhefendhinaaGreatDoorRows
import GoSem.ClaimSeven
namespace Go.Proofs.YtncmhefendhinaaGreatDoor
namespace Rows

/-- THE TIED CARD OF 'laws.FnExactEditOf'. -/
def fnExactEditOfCard : Claim7 := { stood := { row := fnExactEditOfRow, standIns := [], harness := (true, "37ff4be787c038214766e574dd8e98f7b395ef3312d022890827a9757ade265e"), looks := true }, kinds := [], alts := [], laidByText := true, laidKinds := [.data, .data, .data, .sentinel, .sentinel, .widerDeep, .widerDeep], laidTests := true, laidLooks := .later }
def FnExactEditOfCardSaid : Prop := Claim7.holds Tryz.pinned (.plain (OpenSpec.ofChange fnExactEditOfSpec)) fnExactEditOfCard

/-- THE SECOND FORM's CARD OF 'laws.FnExactEditOf'. -/
def fnExactEditOfUptoCard : Claim7 := { stood := { row := fnExactEditOfUptoRow, standIns := [], harness := (true, "37ff4be787c038214766e574dd8e98f7b395ef3312d022890827a9757ade265e"), looks := true }, kinds := [], alts := [], laidByText := true, laidKinds := [.data, .data, .data, .sentinel, .sentinel, .widerDeep, .widerDeep], laidTests := true, laidLooks := .later }
def FnExactEditOfUptoCardSaid : Prop := Claim7.holds Tryz.pinned (.plain (OpenSpec.upto fnExactEditOfSpec)) fnExactEditOfUptoCard
end Rows
end Go.Proofs.YtncmhefendhinaaGreatDoor
