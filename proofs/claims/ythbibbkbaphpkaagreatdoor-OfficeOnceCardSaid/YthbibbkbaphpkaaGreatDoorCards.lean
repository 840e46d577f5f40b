/-
  DERIVED. GIVEN WITH THE SEED: THE CARDS: each row of YthbibbkbaphpkaaGreatDoorRows.lean that lists a variable, with what it lists TIED to the program's text (the seventh form; the later family's looks); each row that meets fmt, with fmt's text TOLD by the authors' own Lean function (tested against real Go, not proved from fmt's source: count such statements apart). THE CARD IS WHAT COUNTS. Prove the row's statement (the work); the ties are given (YthbibbkbaphpkaaGreatDoorTie.lean); close each card by the builder's one call (the guide's Derived/Test/ToyasCard.lean, 'card_holds'). Laid BY PROGRAM, IN A SANDBOX (cutbox-door.mjs). By AI agents, Wed Nov 11 2026. No macro, syntax, notation, axiom, sorry.
-/
import Derived.Test.YthbibbkbaphpkaaGreatDoorRows
import GoSem.ClaimSeven
namespace Go.Proofs.YthbibbkbaphpkaaGreatDoor
namespace Rows

/-- THE TIED CARD OF 'frankinglaw49.OfficeSpec'. -/
def officeSpecCard : Claim7 := { stood := { row := officeSpecRow, standIns := [], harness := (true, "64eb8018032ef0a23eb08a123778d5ca446ac8d24d72c6fe30e074eff510355c"), looks := true }, kinds := [], alts := [], laidByText := true, laidKinds := [.data, .data], laidTests := true, laidLooks := .later }
def OfficeSpecCardSaid : Prop := Claim7.holds Tryz.pinned (.plain (OpenSpec.ofChange officeSpecSpec)) officeSpecCard

/-- THE TIED CARD OF 'frankinglaw49.OfficeJudgeSpec'. -/
def officeJudgeSpecCard : Claim7 := { stood := { row := officeJudgeSpecRow, standIns := [], harness := (true, "64eb8018032ef0a23eb08a123778d5ca446ac8d24d72c6fe30e074eff510355c"), looks := true }, kinds := [], alts := [], laidByText := true, laidKinds := [.data, .data], laidTests := true, laidLooks := .later }
def OfficeJudgeSpecCardSaid : Prop := Claim7.holds Tryz.pinned (.plain (OpenSpec.ofChange officeJudgeSpecSpec)) officeJudgeSpecCard

/-- THE TIED CARD OF 'frankinglaw49.OfficeNoticed'. -/
def officeNoticedCard : Claim7 := { stood := { row := officeNoticedRow, standIns := [], harness := (true, "64eb8018032ef0a23eb08a123778d5ca446ac8d24d72c6fe30e074eff510355c"), looks := true }, kinds := [], alts := [], laidByText := true, laidKinds := [.data, .data], laidTests := true, laidLooks := .later }
def OfficeNoticedCardSaid : Prop := Claim7.holds Tryz.pinned (.plain (OpenSpec.ofChange officeNoticedSpec)) officeNoticedCard

/-- THE TIED CARD OF 'frankinglaw49.OfficeOnce'. -/
def officeOnceCard : Claim7 := { stood := { row := officeOnceRow, standIns := [], harness := (true, "64eb8018032ef0a23eb08a123778d5ca446ac8d24d72c6fe30e074eff510355c"), looks := true }, kinds := [], alts := [], laidByText := true, laidKinds := [.data, .data], laidTests := true, laidLooks := .later }
def OfficeOnceCardSaid : Prop := Claim7.holds Tryz.pinned (.plain (OpenSpec.ofChange officeOnceSpec)) officeOnceCard

/-- THE TIED CARD OF 'frankinglaw49.OfficeRecorded'. -/
def officeRecordedCard : Claim7 := { stood := { row := officeRecordedRow, standIns := [], harness := (true, "64eb8018032ef0a23eb08a123778d5ca446ac8d24d72c6fe30e074eff510355c"), looks := true }, kinds := [], alts := [], laidByText := true, laidKinds := [.data, .data], laidTests := true, laidLooks := .later }
def OfficeRecordedCardSaid : Prop := Claim7.holds Tryz.pinned (.plain (OpenSpec.ofChange officeRecordedSpec)) officeRecordedCard

/-- THE TIED CARD OF 'frankinglaw49.OfficeHonest'. -/
def officeHonestCard : Claim7 := { stood := { row := officeHonestRow, standIns := [], harness := (true, "64eb8018032ef0a23eb08a123778d5ca446ac8d24d72c6fe30e074eff510355c"), looks := true }, kinds := [], alts := [], laidByText := true, laidKinds := [.data, .data], laidTests := true, laidLooks := .later }
def OfficeHonestCardSaid : Prop := Claim7.holds Tryz.pinned (.plain (OpenSpec.ofChange officeHonestSpec)) officeHonestCard

/-- THE SECOND FORM's CARD OF 'frankinglaw49.OfficeSpec'. -/
def officeSpecUptoCard : Claim7 := { stood := { row := officeSpecUptoRow, standIns := [], harness := (true, "64eb8018032ef0a23eb08a123778d5ca446ac8d24d72c6fe30e074eff510355c"), looks := true }, kinds := [], alts := [], laidByText := true, laidKinds := [.data, .data], laidTests := true, laidLooks := .later }
def OfficeSpecUptoCardSaid : Prop := Claim7.holds Tryz.pinned (.plain (OpenSpec.upto officeSpecSpec)) officeSpecUptoCard

/-- THE SECOND FORM's CARD OF 'frankinglaw49.OfficeJudgeSpec'. -/
def officeJudgeSpecUptoCard : Claim7 := { stood := { row := officeJudgeSpecUptoRow, standIns := [], harness := (true, "64eb8018032ef0a23eb08a123778d5ca446ac8d24d72c6fe30e074eff510355c"), looks := true }, kinds := [], alts := [], laidByText := true, laidKinds := [.data, .data], laidTests := true, laidLooks := .later }
def OfficeJudgeSpecUptoCardSaid : Prop := Claim7.holds Tryz.pinned (.plain (OpenSpec.upto officeJudgeSpecSpec)) officeJudgeSpecUptoCard

/-- THE SECOND FORM's CARD OF 'frankinglaw49.OfficeNoticed'. -/
def officeNoticedUptoCard : Claim7 := { stood := { row := officeNoticedUptoRow, standIns := [], harness := (true, "64eb8018032ef0a23eb08a123778d5ca446ac8d24d72c6fe30e074eff510355c"), looks := true }, kinds := [], alts := [], laidByText := true, laidKinds := [.data, .data], laidTests := true, laidLooks := .later }
def OfficeNoticedUptoCardSaid : Prop := Claim7.holds Tryz.pinned (.plain (OpenSpec.upto officeNoticedSpec)) officeNoticedUptoCard

/-- THE SECOND FORM's CARD OF 'frankinglaw49.OfficeOnce'. -/
def officeOnceUptoCard : Claim7 := { stood := { row := officeOnceUptoRow, standIns := [], harness := (true, "64eb8018032ef0a23eb08a123778d5ca446ac8d24d72c6fe30e074eff510355c"), looks := true }, kinds := [], alts := [], laidByText := true, laidKinds := [.data, .data], laidTests := true, laidLooks := .later }
def OfficeOnceUptoCardSaid : Prop := Claim7.holds Tryz.pinned (.plain (OpenSpec.upto officeOnceSpec)) officeOnceUptoCard

/-- THE SECOND FORM's CARD OF 'frankinglaw49.OfficeRecorded'. -/
def officeRecordedUptoCard : Claim7 := { stood := { row := officeRecordedUptoRow, standIns := [], harness := (true, "64eb8018032ef0a23eb08a123778d5ca446ac8d24d72c6fe30e074eff510355c"), looks := true }, kinds := [], alts := [], laidByText := true, laidKinds := [.data, .data], laidTests := true, laidLooks := .later }
def OfficeRecordedUptoCardSaid : Prop := Claim7.holds Tryz.pinned (.plain (OpenSpec.upto officeRecordedSpec)) officeRecordedUptoCard

/-- THE SECOND FORM's CARD OF 'frankinglaw49.OfficeHonest'. -/
def officeHonestUptoCard : Claim7 := { stood := { row := officeHonestUptoRow, standIns := [], harness := (true, "64eb8018032ef0a23eb08a123778d5ca446ac8d24d72c6fe30e074eff510355c"), looks := true }, kinds := [], alts := [], laidByText := true, laidKinds := [.data, .data], laidTests := true, laidLooks := .later }
def OfficeHonestUptoCardSaid : Prop := Claim7.holds Tryz.pinned (.plain (OpenSpec.upto officeHonestSpec)) officeHonestUptoCard
end Rows
end Go.Proofs.YthbibbkbaphpkaaGreatDoor
