/-
  DERIVED. GIVEN WITH THE SEED: THE CARDS: each row of YthgppaiiapkdjaaDoorRows.lean that lists a variable, with what it lists TIED to the program's text (the seventh form; the later family's looks); each row that meets fmt, with fmt's text TOLD by the authors' own Lean function (tested against real Go, not proved from fmt's source: count such statements apart). THE CARD IS WHAT COUNTS. Prove the row's statement (the work); the ties are given (YthgppaiiapkdjaaDoorTie.lean); close each card by the builder's one call (the guide's Derived/Test/ToyasCard.lean, 'card_holds'). Laid BY PROGRAM, IN A SANDBOX (cutbox-door.mjs). By AI agents, Wed Nov 11 2026. No macro, syntax, notation, axiom, sorry.
-/
import Derived.Test.YthgppaiiapkdjaaDoorRows
import GoSem.ClaimSeven
namespace Go.Proofs.YthgppaiiapkdjaaDoor
namespace Rows

/-- THE TIED CARD OF 'frankinglaw55.PathsLater'. -/
def pathsLaterCard : Claim7 := { stood := { row := pathsLaterRow, standIns := [], harness := (true, "6c368fb5b7e1acf3660a4b8280c7cbdb813404887e4c20ee80b5f3c2dd7c287f"), looks := true }, kinds := [], alts := [], laidByText := true, laidKinds := [.data, .data], laidTests := true, laidLooks := .later }
def PathsLaterCardSaid : Prop := Claim7.holds Tryd.pinned (.plain (OpenSpec.ofChange pathsLaterSpec)) pathsLaterCard

/-- THE TIED CARD OF 'frankinglaw55.PathsOthers'. -/
def pathsOthersCard : Claim7 := { stood := { row := pathsOthersRow, standIns := [], harness := (true, "6c368fb5b7e1acf3660a4b8280c7cbdb813404887e4c20ee80b5f3c2dd7c287f"), looks := true }, kinds := [], alts := [], laidByText := true, laidKinds := [.data, .data], laidTests := true, laidLooks := .later }
def PathsOthersCardSaid : Prop := Claim7.holds Tryd.pinned (.plain (OpenSpec.ofChange pathsOthersSpec)) pathsOthersCard

/-- THE TIED CARD OF 'frankinglaw55.PathsBare'. -/
def pathsBareCard : Claim7 := { stood := { row := pathsBareRow, standIns := [], harness := (true, "6c368fb5b7e1acf3660a4b8280c7cbdb813404887e4c20ee80b5f3c2dd7c287f"), looks := true }, kinds := [], alts := [], laidByText := true, laidKinds := [.data, .data], laidTests := true, laidLooks := .later }
def PathsBareCardSaid : Prop := Claim7.holds Tryd.pinned (.plain (OpenSpec.ofChange pathsBareSpec)) pathsBareCard

/-- THE TIED CARD OF 'frankinglaw55.PathsOnly'. -/
def pathsOnlyCard : Claim7 := { stood := { row := pathsOnlyRow, standIns := [], harness := (true, "6c368fb5b7e1acf3660a4b8280c7cbdb813404887e4c20ee80b5f3c2dd7c287f"), looks := true }, kinds := [], alts := [], laidByText := true, laidKinds := [.data, .data], laidTests := true, laidLooks := .later }
def PathsOnlyCardSaid : Prop := Claim7.holds Tryd.pinned (.plain (OpenSpec.ofChange pathsOnlySpec)) pathsOnlyCard

/-- THE SECOND FORM's CARD OF 'frankinglaw55.PathsLater'. -/
def pathsLaterUptoCard : Claim7 := { stood := { row := pathsLaterUptoRow, standIns := [], harness := (true, "6c368fb5b7e1acf3660a4b8280c7cbdb813404887e4c20ee80b5f3c2dd7c287f"), looks := true }, kinds := [], alts := [], laidByText := true, laidKinds := [.data, .data], laidTests := true, laidLooks := .later }
def PathsLaterUptoCardSaid : Prop := Claim7.holds Tryd.pinned (.plain (OpenSpec.upto pathsLaterSpec)) pathsLaterUptoCard

/-- THE SECOND FORM's CARD OF 'frankinglaw55.PathsOthers'. -/
def pathsOthersUptoCard : Claim7 := { stood := { row := pathsOthersUptoRow, standIns := [], harness := (true, "6c368fb5b7e1acf3660a4b8280c7cbdb813404887e4c20ee80b5f3c2dd7c287f"), looks := true }, kinds := [], alts := [], laidByText := true, laidKinds := [.data, .data], laidTests := true, laidLooks := .later }
def PathsOthersUptoCardSaid : Prop := Claim7.holds Tryd.pinned (.plain (OpenSpec.upto pathsOthersSpec)) pathsOthersUptoCard

/-- THE SECOND FORM's CARD OF 'frankinglaw55.PathsBare'. -/
def pathsBareUptoCard : Claim7 := { stood := { row := pathsBareUptoRow, standIns := [], harness := (true, "6c368fb5b7e1acf3660a4b8280c7cbdb813404887e4c20ee80b5f3c2dd7c287f"), looks := true }, kinds := [], alts := [], laidByText := true, laidKinds := [.data, .data], laidTests := true, laidLooks := .later }
def PathsBareUptoCardSaid : Prop := Claim7.holds Tryd.pinned (.plain (OpenSpec.upto pathsBareSpec)) pathsBareUptoCard

/-- THE SECOND FORM's CARD OF 'frankinglaw55.PathsOnly'. -/
def pathsOnlyUptoCard : Claim7 := { stood := { row := pathsOnlyUptoRow, standIns := [], harness := (true, "6c368fb5b7e1acf3660a4b8280c7cbdb813404887e4c20ee80b5f3c2dd7c287f"), looks := true }, kinds := [], alts := [], laidByText := true, laidKinds := [.data, .data], laidTests := true, laidLooks := .later }
def PathsOnlyUptoCardSaid : Prop := Claim7.holds Tryd.pinned (.plain (OpenSpec.upto pathsOnlySpec)) pathsOnlyUptoCard
end Rows
end Go.Proofs.YthgppaiiapkdjaaDoor
