/-
  DERIVED. GIVEN WITH THE SEED: THE CARDS: each row of YtippkbjdifmdnaaDoorRows.lean that lists a variable, with what it lists TIED to the program's text (the seventh form; the later family's looks); each row that meets fmt, with fmt's text TOLD by the authors' own Lean function (tested against real Go, not proved from fmt's source: count such statements apart). THE CARD IS WHAT COUNTS. Prove the row's statement (the work); the ties are given (YtippkbjdifmdnaaDoorTie.lean); close each card by the builder's one call (the guide's Derived/Test/ToyasCard.lean, 'card_holds'). Laid BY PROGRAM, IN A SANDBOX (cutbox-door.mjs). By AI agents, Wed Nov 11 2026. No macro, syntax, notation, axiom, sorry.
-/
import Derived.Test.YtippkbjdifmdnaaDoorRows
import GoSem.ClaimSeven
namespace Go.Proofs.YtippkbjdifmdnaaDoor
namespace Rows

/-- THE TIED CARD OF 'laws.FnExactListOfStandard'. -/
def fnExactListOfStandardCard : Claim7 := { stood := { row := fnExactListOfStandardRow, standIns := [], harness := (true, "73db7dd55d2d96f4bbc9f09873636dc34fa2f0f57e78bb0ffc944da54d0d59b5"), looks := false }, kinds := [], alts := [], laidByText := true, laidKinds := [.data, .pinned], laidTests := true, laidLooks := .later }
def FnExactListOfStandardCardSaid : Prop := Claim7.holds Tryd.pinned (.plain (OpenSpec.ofChange fnExactListOfStandardSpec)) fnExactListOfStandardCard

/-- THE SECOND FORM's CARD OF 'laws.FnExactListOfStandard'. -/
def fnExactListOfStandardUptoCard : Claim7 := { stood := { row := fnExactListOfStandardUptoRow, standIns := [], harness := (true, "73db7dd55d2d96f4bbc9f09873636dc34fa2f0f57e78bb0ffc944da54d0d59b5"), looks := false }, kinds := [], alts := [], laidByText := true, laidKinds := [.data, .pinned], laidTests := true, laidLooks := .later }
def FnExactListOfStandardUptoCardSaid : Prop := Claim7.holds Tryd.pinned (.plain (OpenSpec.upto fnExactListOfStandardSpec)) fnExactListOfStandardUptoCard
end Rows
end Go.Proofs.YtippkbjdifmdnaaDoor
