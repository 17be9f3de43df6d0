/-
  DERIVED. GIVEN WITH THE SEED: THE CARDS: each row of YtfkpbdapinpkdaaDoorRows.lean that lists a variable, with what it lists TIED to the program's text (the seventh form; the later family's looks); each row that meets fmt, with fmt's text TOLD by the authors' own Lean function (tested against real Go, not proved from fmt's source: count such statements apart). THE CARD IS WHAT COUNTS. Prove the row's statement (the work); the ties are given (YtfkpbdapinpkdaaDoorTie.lean); close each card by the builder's one call (the guide's Derived/Test/ToyasCard.lean, 'card_holds'). Laid BY PROGRAM, IN A SANDBOX (cutbox-door.mjs). By AI agents, Wed Nov 11 2026. No macro, syntax, notation, axiom, sorry.
-/
import Derived.Test.YtfkpbdapinpkdaaDoorRows
import GoSem.ClaimSeven
namespace Go.Proofs.YtfkpbdapinpkdaaDoor
namespace Rows

/-- THE TIED CARD OF 'isohyetlaw01.MagEdges'. -/
def magEdgesCard : Claim7 := { stood := { row := magEdgesRow, standIns := [], harness := (true, "f2bb2198dd98e06a551d482553c4ed0f943cc2a596bb6bf2515525ce59f77b5e"), looks := false }, kinds := [], alts := [], laidByText := true, laidKinds := [.data], laidTests := true, laidLooks := .later }
def MagEdgesCardSaid : Prop := Claim7.holds Tryd.pinned (.plain (OpenSpec.ofChange magEdgesSpec)) magEdgesCard

/-- THE TIED CARD OF 'isohyetlaw01.MagMuls'. -/
def magMulsCard : Claim7 := { stood := { row := magMulsRow, standIns := [], harness := (true, "f2bb2198dd98e06a551d482553c4ed0f943cc2a596bb6bf2515525ce59f77b5e"), looks := false }, kinds := [], alts := [], laidByText := true, laidKinds := [.data], laidTests := true, laidLooks := .later }
def MagMulsCardSaid : Prop := Claim7.holds Tryd.pinned (.plain (OpenSpec.ofChange magMulsSpec)) magMulsCard

/-- THE TIED CARD OF 'isohyetlaw01.MagAdds'. -/
def magAddsCard : Claim7 := { stood := { row := magAddsRow, standIns := [], harness := (true, "f2bb2198dd98e06a551d482553c4ed0f943cc2a596bb6bf2515525ce59f77b5e"), looks := false }, kinds := [], alts := [], laidByText := true, laidKinds := [.data], laidTests := true, laidLooks := .later }
def MagAddsCardSaid : Prop := Claim7.holds Tryd.pinned (.plain (OpenSpec.ofChange magAddsSpec)) magAddsCard

/-- THE TIED CARD OF 'isohyetlaw01.MagDivs'. -/
def magDivsCard : Claim7 := { stood := { row := magDivsRow, standIns := [], harness := (true, "f2bb2198dd98e06a551d482553c4ed0f943cc2a596bb6bf2515525ce59f77b5e"), looks := false }, kinds := [], alts := [], laidByText := true, laidKinds := [.data], laidTests := true, laidLooks := .later }
def MagDivsCardSaid : Prop := Claim7.holds Tryd.pinned (.plain (OpenSpec.ofChange magDivsSpec)) magDivsCard

/-- THE TIED CARD OF 'isohyetlaw01.MagBack'. -/
def magBackCard : Claim7 := { stood := { row := magBackRow, standIns := [], harness := (true, "f2bb2198dd98e06a551d482553c4ed0f943cc2a596bb6bf2515525ce59f77b5e"), looks := false }, kinds := [], alts := [], laidByText := true, laidKinds := [.data], laidTests := true, laidLooks := .later }
def MagBackCardSaid : Prop := Claim7.holds Tryd.pinned (.plain (OpenSpec.ofChange magBackSpec)) magBackCard

/-- THE TIED CARD OF 'isohyetlaw01.MagShifts'. -/
def magShiftsCard : Claim7 := { stood := { row := magShiftsRow, standIns := [], harness := (true, "f2bb2198dd98e06a551d482553c4ed0f943cc2a596bb6bf2515525ce59f77b5e"), looks := false }, kinds := [], alts := [], laidByText := true, laidKinds := [.data], laidTests := true, laidLooks := .later }
def MagShiftsCardSaid : Prop := Claim7.holds Tryd.pinned (.plain (OpenSpec.ofChange magShiftsSpec)) magShiftsCard

/-- THE TIED CARD OF 'isohyetlaw01.MagParts'. -/
def magPartsCard : Claim7 := { stood := { row := magPartsRow, standIns := [], harness := (true, "f2bb2198dd98e06a551d482553c4ed0f943cc2a596bb6bf2515525ce59f77b5e"), looks := false }, kinds := [], alts := [], laidByText := true, laidKinds := [.data], laidTests := true, laidLooks := .later }
def MagPartsCardSaid : Prop := Claim7.holds Tryd.pinned (.plain (OpenSpec.ofChange magPartsSpec)) magPartsCard

/-- THE TIED CARD OF 'isohyetlaw01.MagGcds'. -/
def magGcdsCard : Claim7 := { stood := { row := magGcdsRow, standIns := [], harness := (true, "f2bb2198dd98e06a551d482553c4ed0f943cc2a596bb6bf2515525ce59f77b5e"), looks := false }, kinds := [], alts := [], laidByText := true, laidKinds := [.data], laidTests := true, laidLooks := .later }
def MagGcdsCardSaid : Prop := Claim7.holds Tryd.pinned (.plain (OpenSpec.ofChange magGcdsSpec)) magGcdsCard

/-- THE TIED CARD OF 'isohyetlaw01.MagLaws'. -/
def magLawsCard : Claim7 := { stood := { row := magLawsRow, standIns := [], harness := (true, "f2bb2198dd98e06a551d482553c4ed0f943cc2a596bb6bf2515525ce59f77b5e"), looks := false }, kinds := [], alts := [], laidByText := true, laidKinds := [.data], laidTests := true, laidLooks := .later }
def MagLawsCardSaid : Prop := Claim7.holds Tryd.pinned (.plain (OpenSpec.ofChange magLawsSpec)) magLawsCard

/-- THE SECOND FORM's CARD OF 'isohyetlaw01.MagEdges'. -/
def magEdgesUptoCard : Claim7 := { stood := { row := magEdgesUptoRow, standIns := [], harness := (true, "f2bb2198dd98e06a551d482553c4ed0f943cc2a596bb6bf2515525ce59f77b5e"), looks := false }, kinds := [], alts := [], laidByText := true, laidKinds := [.data], laidTests := true, laidLooks := .later }
def MagEdgesUptoCardSaid : Prop := Claim7.holds Tryd.pinned (.plain (OpenSpec.upto magEdgesSpec)) magEdgesUptoCard

/-- THE SECOND FORM's CARD OF 'isohyetlaw01.MagMuls'. -/
def magMulsUptoCard : Claim7 := { stood := { row := magMulsUptoRow, standIns := [], harness := (true, "f2bb2198dd98e06a551d482553c4ed0f943cc2a596bb6bf2515525ce59f77b5e"), looks := false }, kinds := [], alts := [], laidByText := true, laidKinds := [.data], laidTests := true, laidLooks := .later }
def MagMulsUptoCardSaid : Prop := Claim7.holds Tryd.pinned (.plain (OpenSpec.upto magMulsSpec)) magMulsUptoCard

/-- THE SECOND FORM's CARD OF 'isohyetlaw01.MagAdds'. -/
def magAddsUptoCard : Claim7 := { stood := { row := magAddsUptoRow, standIns := [], harness := (true, "f2bb2198dd98e06a551d482553c4ed0f943cc2a596bb6bf2515525ce59f77b5e"), looks := false }, kinds := [], alts := [], laidByText := true, laidKinds := [.data], laidTests := true, laidLooks := .later }
def MagAddsUptoCardSaid : Prop := Claim7.holds Tryd.pinned (.plain (OpenSpec.upto magAddsSpec)) magAddsUptoCard

/-- THE SECOND FORM's CARD OF 'isohyetlaw01.MagDivs'. -/
def magDivsUptoCard : Claim7 := { stood := { row := magDivsUptoRow, standIns := [], harness := (true, "f2bb2198dd98e06a551d482553c4ed0f943cc2a596bb6bf2515525ce59f77b5e"), looks := false }, kinds := [], alts := [], laidByText := true, laidKinds := [.data], laidTests := true, laidLooks := .later }
def MagDivsUptoCardSaid : Prop := Claim7.holds Tryd.pinned (.plain (OpenSpec.upto magDivsSpec)) magDivsUptoCard

/-- THE SECOND FORM's CARD OF 'isohyetlaw01.MagBack'. -/
def magBackUptoCard : Claim7 := { stood := { row := magBackUptoRow, standIns := [], harness := (true, "f2bb2198dd98e06a551d482553c4ed0f943cc2a596bb6bf2515525ce59f77b5e"), looks := false }, kinds := [], alts := [], laidByText := true, laidKinds := [.data], laidTests := true, laidLooks := .later }
def MagBackUptoCardSaid : Prop := Claim7.holds Tryd.pinned (.plain (OpenSpec.upto magBackSpec)) magBackUptoCard

/-- THE SECOND FORM's CARD OF 'isohyetlaw01.MagShifts'. -/
def magShiftsUptoCard : Claim7 := { stood := { row := magShiftsUptoRow, standIns := [], harness := (true, "f2bb2198dd98e06a551d482553c4ed0f943cc2a596bb6bf2515525ce59f77b5e"), looks := false }, kinds := [], alts := [], laidByText := true, laidKinds := [.data], laidTests := true, laidLooks := .later }
def MagShiftsUptoCardSaid : Prop := Claim7.holds Tryd.pinned (.plain (OpenSpec.upto magShiftsSpec)) magShiftsUptoCard

/-- THE SECOND FORM's CARD OF 'isohyetlaw01.MagParts'. -/
def magPartsUptoCard : Claim7 := { stood := { row := magPartsUptoRow, standIns := [], harness := (true, "f2bb2198dd98e06a551d482553c4ed0f943cc2a596bb6bf2515525ce59f77b5e"), looks := false }, kinds := [], alts := [], laidByText := true, laidKinds := [.data], laidTests := true, laidLooks := .later }
def MagPartsUptoCardSaid : Prop := Claim7.holds Tryd.pinned (.plain (OpenSpec.upto magPartsSpec)) magPartsUptoCard

/-- THE SECOND FORM's CARD OF 'isohyetlaw01.MagGcds'. -/
def magGcdsUptoCard : Claim7 := { stood := { row := magGcdsUptoRow, standIns := [], harness := (true, "f2bb2198dd98e06a551d482553c4ed0f943cc2a596bb6bf2515525ce59f77b5e"), looks := false }, kinds := [], alts := [], laidByText := true, laidKinds := [.data], laidTests := true, laidLooks := .later }
def MagGcdsUptoCardSaid : Prop := Claim7.holds Tryd.pinned (.plain (OpenSpec.upto magGcdsSpec)) magGcdsUptoCard

/-- THE SECOND FORM's CARD OF 'isohyetlaw01.MagLaws'. -/
def magLawsUptoCard : Claim7 := { stood := { row := magLawsUptoRow, standIns := [], harness := (true, "f2bb2198dd98e06a551d482553c4ed0f943cc2a596bb6bf2515525ce59f77b5e"), looks := false }, kinds := [], alts := [], laidByText := true, laidKinds := [.data], laidTests := true, laidLooks := .later }
def MagLawsUptoCardSaid : Prop := Claim7.holds Tryd.pinned (.plain (OpenSpec.upto magLawsSpec)) magLawsUptoCard
end Rows
end Go.Proofs.YtfkpbdapinpkdaaDoor
