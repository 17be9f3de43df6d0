/-
  DERIVED. GIVEN WITH THE SEED: THE CARDS: each row of YtpdgjhaimfpacaaDoorRows.lean that lists a variable, with what it lists TIED to the program's text (the seventh form; the later family's looks); each row that meets fmt, with fmt's text TOLD by the authors' own Lean function (tested against real Go, not proved from fmt's source: count such statements apart). THE CARD IS WHAT COUNTS. Prove the row's statement (the work); the ties are given (YtpdgjhaimfpacaaDoorTie.lean); close each card by the builder's one call (the guide's Derived/Test/ToyasCard.lean, 'card_holds'). Laid BY PROGRAM, IN A SANDBOX (cutbox-door.mjs). By AI agents, Wed Nov 11 2026. No macro, syntax, notation, axiom, sorry.
-/
import Derived.Test.YtpdgjhaimfpacaaDoorRows
import GoSem.ClaimSeven
namespace Go.Proofs.YtpdgjhaimfpacaaDoor
namespace Rows

/-- THE TIED CARD OF 'isohyetlaw04.DeciParses'. -/
def deciParsesCard : Claim7 := { stood := { row := deciParsesRow, standIns := [], harness := (true, "b61761da7d9e95826facf274983812940a26e52bd738f0ee73b2ae86794f7e9b"), looks := false }, kinds := [], alts := [], laidByText := true, laidKinds := [.data, .pinned], laidTests := true, laidLooks := .later }
def DeciParsesCardSaid : Prop := Claim7.holds Tryd.pinned (.plain (OpenSpec.ofChange deciParsesSpec)) deciParsesCard

/-- THE TIED CARD OF 'isohyetlaw04.DeciTexts'. -/
def deciTextsCard : Claim7 := { stood := { row := deciTextsRow, standIns := [], harness := (true, "b61761da7d9e95826facf274983812940a26e52bd738f0ee73b2ae86794f7e9b"), looks := false }, kinds := [], alts := [], laidByText := true, laidKinds := [.data, .pinned], laidTests := true, laidLooks := .later }
def DeciTextsCardSaid : Prop := Claim7.holds Tryd.pinned (.plain (OpenSpec.ofChange deciTextsSpec)) deciTextsCard

/-- THE TIED CARD OF 'isohyetlaw04.DeciZeros'. -/
def deciZerosCard : Claim7 := { stood := { row := deciZerosRow, standIns := [], harness := (true, "b61761da7d9e95826facf274983812940a26e52bd738f0ee73b2ae86794f7e9b"), looks := false }, kinds := [], alts := [], laidByText := true, laidKinds := [.data, .pinned], laidTests := true, laidLooks := .later }
def DeciZerosCardSaid : Prop := Claim7.holds Tryd.pinned (.plain (OpenSpec.ofChange deciZerosSpec)) deciZerosCard

/-- THE TIED CARD OF 'isohyetlaw04.DeciWholes'. -/
def deciWholesCard : Claim7 := { stood := { row := deciWholesRow, standIns := [], harness := (true, "b61761da7d9e95826facf274983812940a26e52bd738f0ee73b2ae86794f7e9b"), looks := false }, kinds := [], alts := [], laidByText := true, laidKinds := [.data, .pinned], laidTests := true, laidLooks := .later }
def DeciWholesCardSaid : Prop := Claim7.holds Tryd.pinned (.plain (OpenSpec.ofChange deciWholesSpec)) deciWholesCard

/-- THE TIED CARD OF 'isohyetlaw04.DeciUnits'. -/
def deciUnitsCard : Claim7 := { stood := { row := deciUnitsRow, standIns := [], harness := (true, "b61761da7d9e95826facf274983812940a26e52bd738f0ee73b2ae86794f7e9b"), looks := false }, kinds := [], alts := [], laidByText := true, laidKinds := [.data, .pinned], laidTests := true, laidLooks := .later }
def DeciUnitsCardSaid : Prop := Claim7.holds Tryd.pinned (.plain (OpenSpec.ofChange deciUnitsSpec)) deciUnitsCard

/-- THE SECOND FORM's CARD OF 'isohyetlaw04.DeciParses'. -/
def deciParsesUptoCard : Claim7 := { stood := { row := deciParsesUptoRow, standIns := [], harness := (true, "b61761da7d9e95826facf274983812940a26e52bd738f0ee73b2ae86794f7e9b"), looks := false }, kinds := [], alts := [], laidByText := true, laidKinds := [.data, .pinned], laidTests := true, laidLooks := .later }
def DeciParsesUptoCardSaid : Prop := Claim7.holds Tryd.pinned (.plain (OpenSpec.upto deciParsesSpec)) deciParsesUptoCard

/-- THE SECOND FORM's CARD OF 'isohyetlaw04.DeciTexts'. -/
def deciTextsUptoCard : Claim7 := { stood := { row := deciTextsUptoRow, standIns := [], harness := (true, "b61761da7d9e95826facf274983812940a26e52bd738f0ee73b2ae86794f7e9b"), looks := false }, kinds := [], alts := [], laidByText := true, laidKinds := [.data, .pinned], laidTests := true, laidLooks := .later }
def DeciTextsUptoCardSaid : Prop := Claim7.holds Tryd.pinned (.plain (OpenSpec.upto deciTextsSpec)) deciTextsUptoCard

/-- THE SECOND FORM's CARD OF 'isohyetlaw04.DeciZeros'. -/
def deciZerosUptoCard : Claim7 := { stood := { row := deciZerosUptoRow, standIns := [], harness := (true, "b61761da7d9e95826facf274983812940a26e52bd738f0ee73b2ae86794f7e9b"), looks := false }, kinds := [], alts := [], laidByText := true, laidKinds := [.data, .pinned], laidTests := true, laidLooks := .later }
def DeciZerosUptoCardSaid : Prop := Claim7.holds Tryd.pinned (.plain (OpenSpec.upto deciZerosSpec)) deciZerosUptoCard

/-- THE SECOND FORM's CARD OF 'isohyetlaw04.DeciWholes'. -/
def deciWholesUptoCard : Claim7 := { stood := { row := deciWholesUptoRow, standIns := [], harness := (true, "b61761da7d9e95826facf274983812940a26e52bd738f0ee73b2ae86794f7e9b"), looks := false }, kinds := [], alts := [], laidByText := true, laidKinds := [.data, .pinned], laidTests := true, laidLooks := .later }
def DeciWholesUptoCardSaid : Prop := Claim7.holds Tryd.pinned (.plain (OpenSpec.upto deciWholesSpec)) deciWholesUptoCard

/-- THE SECOND FORM's CARD OF 'isohyetlaw04.DeciUnits'. -/
def deciUnitsUptoCard : Claim7 := { stood := { row := deciUnitsUptoRow, standIns := [], harness := (true, "b61761da7d9e95826facf274983812940a26e52bd738f0ee73b2ae86794f7e9b"), looks := false }, kinds := [], alts := [], laidByText := true, laidKinds := [.data, .pinned], laidTests := true, laidLooks := .later }
def DeciUnitsUptoCardSaid : Prop := Claim7.holds Tryd.pinned (.plain (OpenSpec.upto deciUnitsSpec)) deciUnitsUptoCard
end Rows
end Go.Proofs.YtpdgjhaimfpacaaDoor
