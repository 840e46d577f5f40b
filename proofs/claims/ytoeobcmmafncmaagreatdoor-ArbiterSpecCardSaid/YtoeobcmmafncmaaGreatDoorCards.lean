/-
  DERIVED. GIVEN WITH THE SEED: THE CARDS: each row of YtoeobcmmafncmaaGreatDoorRows.lean that lists a variable, with what it lists TIED to the program's text (the seventh form; the later family's looks); each row that meets fmt, with fmt's text TOLD by the authors' own Lean function (tested against real Go, not proved from fmt's source: count such statements apart). THE CARD IS WHAT COUNTS. Prove the row's statement (the work); the ties are given (YtoeobcmmafncmaaGreatDoorTie.lean); close each card by the builder's one call (the guide's Derived/Test/ToyasCard.lean, 'card_holds'). Laid BY PROGRAM, IN A SANDBOX (cutbox-door.mjs). By AI agents, Wed Nov 11 2026. No macro, syntax, notation, axiom, sorry.
-/
import Derived.Test.YtoeobcmmafncmaaGreatDoorRows
import GoSem.ClaimSeven
namespace Go.Proofs.YtoeobcmmafncmaaGreatDoor
namespace Rows

/-- THE TIED CARD OF 'frankinglaw56.ArbiterSpec'. -/
def arbiterSpecCard : Claim7 := { stood := { row := arbiterSpecRow, standIns := [], harness := (true, "ea1fb8e808f177a503018e5ffcf4ef8011bf8c66af93ff82966061659d461111"), looks := true }, kinds := [], alts := [], laidByText := true, laidKinds := [.data, .data], laidTests := true, laidLooks := .later }
def ArbiterSpecCardSaid : Prop := Claim7.holds Tryz.pinned (.plain (OpenSpec.ofChange arbiterSpecSpec)) arbiterSpecCard

/-- THE SECOND FORM's CARD OF 'frankinglaw56.ArbiterSpec'. -/
def arbiterSpecUptoCard : Claim7 := { stood := { row := arbiterSpecUptoRow, standIns := [], harness := (true, "ea1fb8e808f177a503018e5ffcf4ef8011bf8c66af93ff82966061659d461111"), looks := true }, kinds := [], alts := [], laidByText := true, laidKinds := [.data, .data], laidTests := true, laidLooks := .later }
def ArbiterSpecUptoCardSaid : Prop := Claim7.holds Tryz.pinned (.plain (OpenSpec.upto arbiterSpecSpec)) arbiterSpecUptoCard
end Rows
end Go.Proofs.YtoeobcmmafncmaaGreatDoor
