/-
  DERIVED. GIVEN WITH THE SEED: THE CARDS: each row of YthgppaiiapkdjaaGreatDoorRows.lean that lists a variable, with what it lists TIED to the program's text (the seventh form; the later family's looks); each row that meets fmt, with fmt's text TOLD by the authors' own Lean function (tested against real Go, not proved from fmt's source: count such statements apart). THE CARD IS WHAT COUNTS. Prove the row's statement (the work); the ties are given (YthgppaiiapkdjaaGreatDoorTie.lean); close each card by the builder's one call (the guide's Derived/Test/ToyasCard.lean, 'card_holds'). Laid BY PROGRAM, IN A SANDBOX (cutbox-door.mjs). By AI agents, Wed Nov 11 2026. No macro, syntax, notation, axiom, sorry.
-/
import Derived.Test.YthgppaiiapkdjaaGreatDoorRows
import GoSem.ClaimSeven
namespace Go.Proofs.YthgppaiiapkdjaaGreatDoor
namespace Rows

/-- THE TIED CARD OF 'frankinglaw55.PathsSpec'. -/
def pathsSpecCard : Claim7 := { stood := { row := pathsSpecRow, standIns := [], harness := (true, "f819f845dc49cb4a5b125da64bb2174220f562d17d1d907bcebe152cef09ea5e"), looks := true }, kinds := [], alts := [], laidByText := true, laidKinds := [.data, .data], laidTests := true, laidLooks := .later }
def PathsSpecCardSaid : Prop := Claim7.holds Tryz.pinned (.plain (OpenSpec.ofChange pathsSpecSpec)) pathsSpecCard

/-- THE SECOND FORM's CARD OF 'frankinglaw55.PathsSpec'. -/
def pathsSpecUptoCard : Claim7 := { stood := { row := pathsSpecUptoRow, standIns := [], harness := (true, "f819f845dc49cb4a5b125da64bb2174220f562d17d1d907bcebe152cef09ea5e"), looks := true }, kinds := [], alts := [], laidByText := true, laidKinds := [.data, .data], laidTests := true, laidLooks := .later }
def PathsSpecUptoCardSaid : Prop := Claim7.holds Tryz.pinned (.plain (OpenSpec.upto pathsSpecSpec)) pathsSpecUptoCard
end Rows
end Go.Proofs.YthgppaiiapkdjaaGreatDoor
