/-
  DERIVED. GIVEN WITH THE SEED: THE CARDS: each row of YtknekneicecgiaaGreatDoorRows.lean that lists a variable, with what it lists TIED to the program's text (the seventh form; the later family's looks); each row that meets fmt, with fmt's text TOLD by the authors' own Lean function (tested against real Go, not proved from fmt's source: count such statements apart). THE CARD IS WHAT COUNTS. Prove the row's statement (the work); the ties are given (YtknekneicecgiaaGreatDoorTie.lean); close each card by the builder's one call (the guide's Derived/Test/ToyasCard.lean, 'card_holds'). Laid BY PROGRAM, IN A SANDBOX (cutbox-door.mjs). By AI agents, Wed Nov 11 2026. No macro, syntax, notation, axiom, sorry.
-/
import Derived.Test.YtknekneicecgiaaGreatDoorRows
import GoSem.ClaimSeven
namespace Go.Proofs.YtknekneicecgiaaGreatDoor
namespace Rows

/-- THE TIED CARD OF 'isohyetlaw25.DataSamples'. -/
def dataSamplesCard : Claim7 := { stood := { row := dataSamplesRow, standIns := [], harness := (true, "f2cd577db342891493460add059105e689b7a136e7a3581427c8e78766421c04"), looks := false }, kinds := [], alts := [], laidByText := true, laidKinds := [.data, .widerDeep, .pinned], laidTests := true, laidLooks := .later }
def DataSamplesCardSaid : Prop := Claim7.holds Tryz.pinned (.plain (OpenSpec.ofChange dataSamplesSpec)) dataSamplesCard

/-- THE TIED CARD OF 'isohyetlaw25.DataFulls'. -/
def dataFullsCard : Claim7 := { stood := { row := dataFullsRow, standIns := [], harness := (true, "f2cd577db342891493460add059105e689b7a136e7a3581427c8e78766421c04"), looks := false }, kinds := [], alts := [], laidByText := true, laidKinds := [.data, .widerDeep, .pinned], laidTests := true, laidLooks := .later }
def DataFullsCardSaid : Prop := Claim7.holds Tryz.pinned (.plain (OpenSpec.ofChange dataFullsSpec)) dataFullsCard

/-- THE TIED CARD OF 'isohyetlaw25.DataRemarks'. -/
def dataRemarksCard : Claim7 := { stood := { row := dataRemarksRow, standIns := [], harness := (true, "f2cd577db342891493460add059105e689b7a136e7a3581427c8e78766421c04"), looks := false }, kinds := [], alts := [], laidByText := true, laidKinds := [.data, .widerDeep, .pinned], laidTests := true, laidLooks := .later }
def DataRemarksCardSaid : Prop := Claim7.holds Tryz.pinned (.plain (OpenSpec.ofChange dataRemarksSpec)) dataRemarksCard

/-- THE TIED CARD OF 'isohyetlaw25.DataBack'. -/
def dataBackCard : Claim7 := { stood := { row := dataBackRow, standIns := [], harness := (true, "f2cd577db342891493460add059105e689b7a136e7a3581427c8e78766421c04"), looks := false }, kinds := [], alts := [], laidByText := true, laidKinds := [.data, .widerDeep, .pinned], laidTests := true, laidLooks := .later }
def DataBackCardSaid : Prop := Claim7.holds Tryz.pinned (.plain (OpenSpec.ofChange dataBackSpec)) dataBackCard

/-- THE TIED CARD OF 'isohyetlaw25.DataJobBack'. -/
def dataJobBackCard : Claim7 := { stood := { row := dataJobBackRow, standIns := [], harness := (true, "f2cd577db342891493460add059105e689b7a136e7a3581427c8e78766421c04"), looks := false }, kinds := [], alts := [], laidByText := true, laidKinds := [.data, .data, .data, .data, .widerDeep, .pinned], laidTests := true, laidLooks := .later }
def DataJobBackCardSaid : Prop := Claim7.holds Tryz.pinned (.plain (OpenSpec.ofChange dataJobBackSpec)) dataJobBackCard

/-- THE SECOND FORM's CARD OF 'isohyetlaw25.DataSamples'. -/
def dataSamplesUptoCard : Claim7 := { stood := { row := dataSamplesUptoRow, standIns := [], harness := (true, "f2cd577db342891493460add059105e689b7a136e7a3581427c8e78766421c04"), looks := false }, kinds := [], alts := [], laidByText := true, laidKinds := [.data, .widerDeep, .pinned], laidTests := true, laidLooks := .later }
def DataSamplesUptoCardSaid : Prop := Claim7.holds Tryz.pinned (.plain (OpenSpec.upto dataSamplesSpec)) dataSamplesUptoCard

/-- THE SECOND FORM's CARD OF 'isohyetlaw25.DataFulls'. -/
def dataFullsUptoCard : Claim7 := { stood := { row := dataFullsUptoRow, standIns := [], harness := (true, "f2cd577db342891493460add059105e689b7a136e7a3581427c8e78766421c04"), looks := false }, kinds := [], alts := [], laidByText := true, laidKinds := [.data, .widerDeep, .pinned], laidTests := true, laidLooks := .later }
def DataFullsUptoCardSaid : Prop := Claim7.holds Tryz.pinned (.plain (OpenSpec.upto dataFullsSpec)) dataFullsUptoCard

/-- THE SECOND FORM's CARD OF 'isohyetlaw25.DataRemarks'. -/
def dataRemarksUptoCard : Claim7 := { stood := { row := dataRemarksUptoRow, standIns := [], harness := (true, "f2cd577db342891493460add059105e689b7a136e7a3581427c8e78766421c04"), looks := false }, kinds := [], alts := [], laidByText := true, laidKinds := [.data, .widerDeep, .pinned], laidTests := true, laidLooks := .later }
def DataRemarksUptoCardSaid : Prop := Claim7.holds Tryz.pinned (.plain (OpenSpec.upto dataRemarksSpec)) dataRemarksUptoCard

/-- THE SECOND FORM's CARD OF 'isohyetlaw25.DataBack'. -/
def dataBackUptoCard : Claim7 := { stood := { row := dataBackUptoRow, standIns := [], harness := (true, "f2cd577db342891493460add059105e689b7a136e7a3581427c8e78766421c04"), looks := false }, kinds := [], alts := [], laidByText := true, laidKinds := [.data, .widerDeep, .pinned], laidTests := true, laidLooks := .later }
def DataBackUptoCardSaid : Prop := Claim7.holds Tryz.pinned (.plain (OpenSpec.upto dataBackSpec)) dataBackUptoCard

/-- THE SECOND FORM's CARD OF 'isohyetlaw25.DataJobBack'. -/
def dataJobBackUptoCard : Claim7 := { stood := { row := dataJobBackUptoRow, standIns := [], harness := (true, "f2cd577db342891493460add059105e689b7a136e7a3581427c8e78766421c04"), looks := false }, kinds := [], alts := [], laidByText := true, laidKinds := [.data, .data, .data, .data, .widerDeep, .pinned], laidTests := true, laidLooks := .later }
def DataJobBackUptoCardSaid : Prop := Claim7.holds Tryz.pinned (.plain (OpenSpec.upto dataJobBackSpec)) dataJobBackUptoCard
end Rows
end Go.Proofs.YtknekneicecgiaaGreatDoor
