/-
  DERIVED. GIVEN WITH THE SEED: THE CARDS: each row of YtmbopkcmbiommaaGreatDoorRows.lean that lists a variable, with what it lists TIED to the program's text (the seventh form; the later family's looks); each row that meets fmt, with fmt's text TOLD by the authors' own Lean function (tested against real Go, not proved from fmt's source: count such statements apart). THE CARD IS WHAT COUNTS. Prove the row's statement (the work); the ties are given (YtmbopkcmbiommaaGreatDoorTie.lean); close each card by the builder's one call (the guide's Derived/Test/ToyasCard.lean, 'card_holds'). Laid BY PROGRAM, IN A SANDBOX (cutbox-door.mjs). By AI agents, Wed Nov 11 2026. No macro, syntax, notation, axiom, sorry.
-/
import Derived.Test.YtmbopkcmbiommaaGreatDoorRows
import GoSem.ClaimSeven
namespace Go.Proofs.YtmbopkcmbiommaaGreatDoor
namespace Rows

/-- THE TIED CARD OF 'frankinglaw59.ReportsSpec'. -/
def reportsSpecCard : Claim7 := { stood := { row := reportsSpecRow, standIns := [], harness := (true, "6913f6f72ac35b37efcc5d68ddd79994bc82b5a85b25600ba84a7773d0d7b364"), looks := true }, kinds := [], alts := [], laidByText := true, laidKinds := [.data, .data, .data, .data, .sentinel, .sentinel, .pinned], laidTests := true, laidLooks := .later }
def ReportsSpecCardSaid : Prop := Claim7.holds Tryz.pinned (.plain (OpenSpec.ofChange reportsSpecSpec)) reportsSpecCard

/-- THE TIED CARD OF 'frankinglaw59.ReportsReadSpec'. -/
def reportsReadSpecCard : Claim7 := { stood := { row := reportsReadSpecRow, standIns := [], harness := (true, "6913f6f72ac35b37efcc5d68ddd79994bc82b5a85b25600ba84a7773d0d7b364"), looks := true }, kinds := [], alts := [], laidByText := true, laidKinds := [.data, .data, .data, .data, .sentinel, .sentinel, .pinned], laidTests := true, laidLooks := .later }
def ReportsReadSpecCardSaid : Prop := Claim7.holds Tryz.pinned (.plain (OpenSpec.ofChange reportsReadSpecSpec)) reportsReadSpecCard

/-- THE TIED CARD OF 'frankinglaw59.ReportsBack'. -/
def reportsBackCard : Claim7 := { stood := { row := reportsBackRow, standIns := [], harness := (true, "6913f6f72ac35b37efcc5d68ddd79994bc82b5a85b25600ba84a7773d0d7b364"), looks := true }, kinds := [], alts := [], laidByText := true, laidKinds := [.data, .data, .data, .data, .sentinel, .sentinel, .pinned], laidTests := true, laidLooks := .later }
def ReportsBackCardSaid : Prop := Claim7.holds Tryz.pinned (.plain (OpenSpec.ofChange reportsBackSpec)) reportsBackCard

/-- THE TIED CARD OF 'frankinglaw59.ReportsWrong'. -/
def reportsWrongCard : Claim7 := { stood := { row := reportsWrongRow, standIns := [], harness := (true, "6913f6f72ac35b37efcc5d68ddd79994bc82b5a85b25600ba84a7773d0d7b364"), looks := true }, kinds := [], alts := [], laidByText := true, laidKinds := [.data, .data, .data, .data, .sentinel, .sentinel, .pinned], laidTests := true, laidLooks := .later }
def ReportsWrongCardSaid : Prop := Claim7.holds Tryz.pinned (.plain (OpenSpec.ofChange reportsWrongSpec)) reportsWrongCard

/-- THE TIED CARD OF 'frankinglaw59.ReportsLines'. -/
def reportsLinesCard : Claim7 := { stood := { row := reportsLinesRow, standIns := [], harness := (true, "6913f6f72ac35b37efcc5d68ddd79994bc82b5a85b25600ba84a7773d0d7b364"), looks := true }, kinds := [], alts := [], laidByText := true, laidKinds := [.data, .data, .data, .data, .sentinel, .sentinel, .pinned], laidTests := true, laidLooks := .later }
def ReportsLinesCardSaid : Prop := Claim7.holds Tryz.pinned (.plain (OpenSpec.ofChange reportsLinesSpec)) reportsLinesCard

/-- THE SECOND FORM's CARD OF 'frankinglaw59.ReportsSpec'. -/
def reportsSpecUptoCard : Claim7 := { stood := { row := reportsSpecUptoRow, standIns := [], harness := (true, "6913f6f72ac35b37efcc5d68ddd79994bc82b5a85b25600ba84a7773d0d7b364"), looks := true }, kinds := [], alts := [], laidByText := true, laidKinds := [.data, .data, .data, .data, .sentinel, .sentinel, .pinned], laidTests := true, laidLooks := .later }
def ReportsSpecUptoCardSaid : Prop := Claim7.holds Tryz.pinned (.plain (OpenSpec.upto reportsSpecSpec)) reportsSpecUptoCard

/-- THE SECOND FORM's CARD OF 'frankinglaw59.ReportsReadSpec'. -/
def reportsReadSpecUptoCard : Claim7 := { stood := { row := reportsReadSpecUptoRow, standIns := [], harness := (true, "6913f6f72ac35b37efcc5d68ddd79994bc82b5a85b25600ba84a7773d0d7b364"), looks := true }, kinds := [], alts := [], laidByText := true, laidKinds := [.data, .data, .data, .data, .sentinel, .sentinel, .pinned], laidTests := true, laidLooks := .later }
def ReportsReadSpecUptoCardSaid : Prop := Claim7.holds Tryz.pinned (.plain (OpenSpec.upto reportsReadSpecSpec)) reportsReadSpecUptoCard

/-- THE SECOND FORM's CARD OF 'frankinglaw59.ReportsBack'. -/
def reportsBackUptoCard : Claim7 := { stood := { row := reportsBackUptoRow, standIns := [], harness := (true, "6913f6f72ac35b37efcc5d68ddd79994bc82b5a85b25600ba84a7773d0d7b364"), looks := true }, kinds := [], alts := [], laidByText := true, laidKinds := [.data, .data, .data, .data, .sentinel, .sentinel, .pinned], laidTests := true, laidLooks := .later }
def ReportsBackUptoCardSaid : Prop := Claim7.holds Tryz.pinned (.plain (OpenSpec.upto reportsBackSpec)) reportsBackUptoCard

/-- THE SECOND FORM's CARD OF 'frankinglaw59.ReportsWrong'. -/
def reportsWrongUptoCard : Claim7 := { stood := { row := reportsWrongUptoRow, standIns := [], harness := (true, "6913f6f72ac35b37efcc5d68ddd79994bc82b5a85b25600ba84a7773d0d7b364"), looks := true }, kinds := [], alts := [], laidByText := true, laidKinds := [.data, .data, .data, .data, .sentinel, .sentinel, .pinned], laidTests := true, laidLooks := .later }
def ReportsWrongUptoCardSaid : Prop := Claim7.holds Tryz.pinned (.plain (OpenSpec.upto reportsWrongSpec)) reportsWrongUptoCard

/-- THE SECOND FORM's CARD OF 'frankinglaw59.ReportsLines'. -/
def reportsLinesUptoCard : Claim7 := { stood := { row := reportsLinesUptoRow, standIns := [], harness := (true, "6913f6f72ac35b37efcc5d68ddd79994bc82b5a85b25600ba84a7773d0d7b364"), looks := true }, kinds := [], alts := [], laidByText := true, laidKinds := [.data, .data, .data, .data, .sentinel, .sentinel, .pinned], laidTests := true, laidLooks := .later }
def ReportsLinesUptoCardSaid : Prop := Claim7.holds Tryz.pinned (.plain (OpenSpec.upto reportsLinesSpec)) reportsLinesUptoCard
end Rows
end Go.Proofs.YtmbopkcmbiommaaGreatDoor
