/-
  DERIVED. GIVEN WITH THE SEED: THE CARDS: each row of YtgkpomdegomgiaaGreatDoorRows.lean that lists a variable, with what it lists TIED to the program's text (the seventh form; the later family's looks); each row that meets fmt, with fmt's text TOLD by the authors' own Lean function (tested against real Go, not proved from fmt's source: count such statements apart). THE CARD IS WHAT COUNTS. Prove the row's statement (the work); the ties are given (YtgkpomdegomgiaaGreatDoorTie.lean); close each card by the builder's one call (the guide's Derived/Test/ToyasCard.lean, 'card_holds'). Laid BY PROGRAM, IN A SANDBOX (cutbox-door.mjs). By AI agents, Wed Nov 11 2026. No macro, syntax, notation, axiom, sorry.
-/
import Derived.Test.YtgkpomdegomgiaaGreatDoorRows
import GoSem.ClaimSeven
namespace Go.Proofs.YtgkpomdegomgiaaGreatDoor
namespace Rows

/-- THE TIED CARD OF 'frankinglaw56.ArbiterSpec'. -/
def arbiterSpecCard : Claim7 := { stood := { row := arbiterSpecRow, standIns := [], harness := (true, "ead3f32b28b49ff725c4e768f3e1d557698358442feb6f1e08cd07fac91403a6"), looks := true }, kinds := [], alts := [], laidByText := true, laidKinds := [.data, .data], laidTests := true, laidLooks := .later }
def ArbiterSpecCardSaid : Prop := Claim7.holds Tryz.pinned (.plain (OpenSpec.ofChange arbiterSpecSpec)) arbiterSpecCard

/-- THE TIED CARD OF 'frankinglaw56.ArbiterPaths'. -/
def arbiterPathsCard : Claim7 := { stood := { row := arbiterPathsRow, standIns := [], harness := (true, "ead3f32b28b49ff725c4e768f3e1d557698358442feb6f1e08cd07fac91403a6"), looks := true }, kinds := [], alts := [], laidByText := true, laidKinds := [.data, .data], laidTests := true, laidLooks := .later }
def ArbiterPathsCardSaid : Prop := Claim7.holds Tryz.pinned (.plain (OpenSpec.ofChange arbiterPathsSpec)) arbiterPathsCard

/-- THE TIED CARD OF 'frankinglaw56.ArbiterSigned'. -/
def arbiterSignedCard : Claim7 := { stood := { row := arbiterSignedRow, standIns := [], harness := (true, "ead3f32b28b49ff725c4e768f3e1d557698358442feb6f1e08cd07fac91403a6"), looks := true }, kinds := [], alts := [], laidByText := true, laidKinds := [.data, .data], laidTests := true, laidLooks := .later }
def ArbiterSignedCardSaid : Prop := Claim7.holds Tryz.pinned (.plain (OpenSpec.ofChange arbiterSignedSpec)) arbiterSignedCard

/-- THE TIED CARD OF 'frankinglaw56.ArbiterClear'. -/
def arbiterClearCard : Claim7 := { stood := { row := arbiterClearRow, standIns := [], harness := (true, "ead3f32b28b49ff725c4e768f3e1d557698358442feb6f1e08cd07fac91403a6"), looks := true }, kinds := [], alts := [], laidByText := true, laidKinds := [.data, .data], laidTests := true, laidLooks := .later }
def ArbiterClearCardSaid : Prop := Claim7.holds Tryz.pinned (.plain (OpenSpec.ofChange arbiterClearSpec)) arbiterClearCard

/-- THE SECOND FORM's CARD OF 'frankinglaw56.ArbiterSpec'. -/
def arbiterSpecUptoCard : Claim7 := { stood := { row := arbiterSpecUptoRow, standIns := [], harness := (true, "ead3f32b28b49ff725c4e768f3e1d557698358442feb6f1e08cd07fac91403a6"), looks := true }, kinds := [], alts := [], laidByText := true, laidKinds := [.data, .data], laidTests := true, laidLooks := .later }
def ArbiterSpecUptoCardSaid : Prop := Claim7.holds Tryz.pinned (.plain (OpenSpec.upto arbiterSpecSpec)) arbiterSpecUptoCard

/-- THE SECOND FORM's CARD OF 'frankinglaw56.ArbiterPaths'. -/
def arbiterPathsUptoCard : Claim7 := { stood := { row := arbiterPathsUptoRow, standIns := [], harness := (true, "ead3f32b28b49ff725c4e768f3e1d557698358442feb6f1e08cd07fac91403a6"), looks := true }, kinds := [], alts := [], laidByText := true, laidKinds := [.data, .data], laidTests := true, laidLooks := .later }
def ArbiterPathsUptoCardSaid : Prop := Claim7.holds Tryz.pinned (.plain (OpenSpec.upto arbiterPathsSpec)) arbiterPathsUptoCard

/-- THE SECOND FORM's CARD OF 'frankinglaw56.ArbiterSigned'. -/
def arbiterSignedUptoCard : Claim7 := { stood := { row := arbiterSignedUptoRow, standIns := [], harness := (true, "ead3f32b28b49ff725c4e768f3e1d557698358442feb6f1e08cd07fac91403a6"), looks := true }, kinds := [], alts := [], laidByText := true, laidKinds := [.data, .data], laidTests := true, laidLooks := .later }
def ArbiterSignedUptoCardSaid : Prop := Claim7.holds Tryz.pinned (.plain (OpenSpec.upto arbiterSignedSpec)) arbiterSignedUptoCard

/-- THE SECOND FORM's CARD OF 'frankinglaw56.ArbiterClear'. -/
def arbiterClearUptoCard : Claim7 := { stood := { row := arbiterClearUptoRow, standIns := [], harness := (true, "ead3f32b28b49ff725c4e768f3e1d557698358442feb6f1e08cd07fac91403a6"), looks := true }, kinds := [], alts := [], laidByText := true, laidKinds := [.data, .data], laidTests := true, laidLooks := .later }
def ArbiterClearUptoCardSaid : Prop := Claim7.holds Tryz.pinned (.plain (OpenSpec.upto arbiterClearSpec)) arbiterClearUptoCard
end Rows
end Go.Proofs.YtgkpomdegomgiaaGreatDoor
