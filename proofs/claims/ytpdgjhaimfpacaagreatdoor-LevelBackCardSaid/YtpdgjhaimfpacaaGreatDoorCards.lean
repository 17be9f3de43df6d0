/-
  DERIVED. GIVEN WITH THE SEED: THE CARDS: each row of YtpdgjhaimfpacaaGreatDoorRows.lean that lists a variable, with what it lists TIED to the program's text (the seventh form; the later family's looks); each row that meets fmt, with fmt's text TOLD by the authors' own Lean function (tested against real Go, not proved from fmt's source: count such statements apart). THE CARD IS WHAT COUNTS. Prove the row's statement (the work); the ties are given (YtpdgjhaimfpacaaGreatDoorTie.lean); close each card by the builder's one call (the guide's Derived/Test/ToyasCard.lean, 'card_holds'). Laid BY PROGRAM, IN A SANDBOX (cutbox-door.mjs). By AI agents, Wed Nov 11 2026. No macro, syntax, notation, axiom, sorry.
-/
import Derived.Test.YtpdgjhaimfpacaaGreatDoorRows
import GoSem.ClaimSeven
namespace Go.Proofs.YtpdgjhaimfpacaaGreatDoor
namespace Rows

/-- THE TIED CARD OF 'isohyetlaw25.DataSamples'. -/
def dataSamplesCard : Claim7 := { stood := { row := dataSamplesRow, standIns := [], harness := (true, "0bda987689fd768a9ebae23b654995136eba0d18e3da6f06d6bdbe89baccdc99"), looks := false }, kinds := [], alts := [], laidByText := true, laidKinds := [.data, .widerDeep, .pinned], laidTests := true, laidLooks := .later }
def DataSamplesCardSaid : Prop := Claim7.holds Tryz.pinned (.plain (OpenSpec.ofChange dataSamplesSpec)) dataSamplesCard

/-- THE TIED CARD OF 'isohyetlaw25.DataFulls'. -/
def dataFullsCard : Claim7 := { stood := { row := dataFullsRow, standIns := [], harness := (true, "0bda987689fd768a9ebae23b654995136eba0d18e3da6f06d6bdbe89baccdc99"), looks := false }, kinds := [], alts := [], laidByText := true, laidKinds := [.data, .widerDeep, .pinned], laidTests := true, laidLooks := .later }
def DataFullsCardSaid : Prop := Claim7.holds Tryz.pinned (.plain (OpenSpec.ofChange dataFullsSpec)) dataFullsCard

/-- THE TIED CARD OF 'isohyetlaw18.LevelBack'. -/
def levelBackCard : Claim7 := { stood := { row := levelBackRow, standIns := [], harness := (true, "0bda987689fd768a9ebae23b654995136eba0d18e3da6f06d6bdbe89baccdc99"), looks := false }, kinds := [], alts := [], laidByText := true, laidKinds := [.data, .pinned], laidTests := true, laidLooks := .later }
def LevelBackCardSaid : Prop := Claim7.holds Tryz.pinned (.plain (OpenSpec.ofChange levelBackSpec)) levelBackCard

/-- THE TIED CARD OF 'isohyetlaw18.LevelSteps'. -/
def levelStepsCard : Claim7 := { stood := { row := levelStepsRow, standIns := [], harness := (true, "0bda987689fd768a9ebae23b654995136eba0d18e3da6f06d6bdbe89baccdc99"), looks := false }, kinds := [], alts := [], laidByText := true, laidKinds := [.data, .pinned], laidTests := true, laidLooks := .later }
def LevelStepsCardSaid : Prop := Claim7.holds Tryz.pinned (.plain (OpenSpec.ofChange levelStepsSpec)) levelStepsCard

/-- THE TIED CARD OF 'isohyetlaw18.LevelFits'. -/
def levelFitsCard : Claim7 := { stood := { row := levelFitsRow, standIns := [], harness := (true, "0bda987689fd768a9ebae23b654995136eba0d18e3da6f06d6bdbe89baccdc99"), looks := false }, kinds := [], alts := [], laidByText := true, laidKinds := [.data, .pinned], laidTests := true, laidLooks := .later }
def LevelFitsCardSaid : Prop := Claim7.holds Tryz.pinned (.plain (OpenSpec.ofChange levelFitsSpec)) levelFitsCard

/-- THE TIED CARD OF 'isohyetlaw25.DataRemarks'. -/
def dataRemarksCard : Claim7 := { stood := { row := dataRemarksRow, standIns := [], harness := (true, "0bda987689fd768a9ebae23b654995136eba0d18e3da6f06d6bdbe89baccdc99"), looks := false }, kinds := [], alts := [], laidByText := true, laidKinds := [.data, .widerDeep, .pinned], laidTests := true, laidLooks := .later }
def DataRemarksCardSaid : Prop := Claim7.holds Tryz.pinned (.plain (OpenSpec.ofChange dataRemarksSpec)) dataRemarksCard

/-- THE TIED CARD OF 'isohyetlaw25.DataBack'. -/
def dataBackCard : Claim7 := { stood := { row := dataBackRow, standIns := [], harness := (true, "0bda987689fd768a9ebae23b654995136eba0d18e3da6f06d6bdbe89baccdc99"), looks := false }, kinds := [], alts := [], laidByText := true, laidKinds := [.data, .widerDeep, .pinned], laidTests := true, laidLooks := .later }
def DataBackCardSaid : Prop := Claim7.holds Tryz.pinned (.plain (OpenSpec.ofChange dataBackSpec)) dataBackCard

/-- THE TIED CARD OF 'isohyetlaw25.DataJobBack'. -/
def dataJobBackCard : Claim7 := { stood := { row := dataJobBackRow, standIns := [], harness := (true, "0bda987689fd768a9ebae23b654995136eba0d18e3da6f06d6bdbe89baccdc99"), looks := false }, kinds := [], alts := [], laidByText := true, laidKinds := [.data, .data, .data, .data, .widerDeep, .pinned], laidTests := true, laidLooks := .later }
def DataJobBackCardSaid : Prop := Claim7.holds Tryz.pinned (.plain (OpenSpec.ofChange dataJobBackSpec)) dataJobBackCard

/-- THE SECOND FORM's CARD OF 'isohyetlaw25.DataSamples'. -/
def dataSamplesUptoCard : Claim7 := { stood := { row := dataSamplesUptoRow, standIns := [], harness := (true, "0bda987689fd768a9ebae23b654995136eba0d18e3da6f06d6bdbe89baccdc99"), looks := false }, kinds := [], alts := [], laidByText := true, laidKinds := [.data, .widerDeep, .pinned], laidTests := true, laidLooks := .later }
def DataSamplesUptoCardSaid : Prop := Claim7.holds Tryz.pinned (.plain (OpenSpec.upto dataSamplesSpec)) dataSamplesUptoCard

/-- THE SECOND FORM's CARD OF 'isohyetlaw25.DataFulls'. -/
def dataFullsUptoCard : Claim7 := { stood := { row := dataFullsUptoRow, standIns := [], harness := (true, "0bda987689fd768a9ebae23b654995136eba0d18e3da6f06d6bdbe89baccdc99"), looks := false }, kinds := [], alts := [], laidByText := true, laidKinds := [.data, .widerDeep, .pinned], laidTests := true, laidLooks := .later }
def DataFullsUptoCardSaid : Prop := Claim7.holds Tryz.pinned (.plain (OpenSpec.upto dataFullsSpec)) dataFullsUptoCard

/-- THE SECOND FORM's CARD OF 'isohyetlaw18.LevelBack'. -/
def levelBackUptoCard : Claim7 := { stood := { row := levelBackUptoRow, standIns := [], harness := (true, "0bda987689fd768a9ebae23b654995136eba0d18e3da6f06d6bdbe89baccdc99"), looks := false }, kinds := [], alts := [], laidByText := true, laidKinds := [.data, .pinned], laidTests := true, laidLooks := .later }
def LevelBackUptoCardSaid : Prop := Claim7.holds Tryz.pinned (.plain (OpenSpec.upto levelBackSpec)) levelBackUptoCard

/-- THE SECOND FORM's CARD OF 'isohyetlaw18.LevelSteps'. -/
def levelStepsUptoCard : Claim7 := { stood := { row := levelStepsUptoRow, standIns := [], harness := (true, "0bda987689fd768a9ebae23b654995136eba0d18e3da6f06d6bdbe89baccdc99"), looks := false }, kinds := [], alts := [], laidByText := true, laidKinds := [.data, .pinned], laidTests := true, laidLooks := .later }
def LevelStepsUptoCardSaid : Prop := Claim7.holds Tryz.pinned (.plain (OpenSpec.upto levelStepsSpec)) levelStepsUptoCard

/-- THE SECOND FORM's CARD OF 'isohyetlaw18.LevelFits'. -/
def levelFitsUptoCard : Claim7 := { stood := { row := levelFitsUptoRow, standIns := [], harness := (true, "0bda987689fd768a9ebae23b654995136eba0d18e3da6f06d6bdbe89baccdc99"), looks := false }, kinds := [], alts := [], laidByText := true, laidKinds := [.data, .pinned], laidTests := true, laidLooks := .later }
def LevelFitsUptoCardSaid : Prop := Claim7.holds Tryz.pinned (.plain (OpenSpec.upto levelFitsSpec)) levelFitsUptoCard

/-- THE SECOND FORM's CARD OF 'isohyetlaw25.DataRemarks'. -/
def dataRemarksUptoCard : Claim7 := { stood := { row := dataRemarksUptoRow, standIns := [], harness := (true, "0bda987689fd768a9ebae23b654995136eba0d18e3da6f06d6bdbe89baccdc99"), looks := false }, kinds := [], alts := [], laidByText := true, laidKinds := [.data, .widerDeep, .pinned], laidTests := true, laidLooks := .later }
def DataRemarksUptoCardSaid : Prop := Claim7.holds Tryz.pinned (.plain (OpenSpec.upto dataRemarksSpec)) dataRemarksUptoCard

/-- THE SECOND FORM's CARD OF 'isohyetlaw25.DataBack'. -/
def dataBackUptoCard : Claim7 := { stood := { row := dataBackUptoRow, standIns := [], harness := (true, "0bda987689fd768a9ebae23b654995136eba0d18e3da6f06d6bdbe89baccdc99"), looks := false }, kinds := [], alts := [], laidByText := true, laidKinds := [.data, .widerDeep, .pinned], laidTests := true, laidLooks := .later }
def DataBackUptoCardSaid : Prop := Claim7.holds Tryz.pinned (.plain (OpenSpec.upto dataBackSpec)) dataBackUptoCard

/-- THE SECOND FORM's CARD OF 'isohyetlaw25.DataJobBack'. -/
def dataJobBackUptoCard : Claim7 := { stood := { row := dataJobBackUptoRow, standIns := [], harness := (true, "0bda987689fd768a9ebae23b654995136eba0d18e3da6f06d6bdbe89baccdc99"), looks := false }, kinds := [], alts := [], laidByText := true, laidKinds := [.data, .data, .data, .data, .widerDeep, .pinned], laidTests := true, laidLooks := .later }
def DataJobBackUptoCardSaid : Prop := Claim7.holds Tryz.pinned (.plain (OpenSpec.upto dataJobBackSpec)) dataJobBackUptoCard
end Rows
end Go.Proofs.YtpdgjhaimfpacaaGreatDoor
