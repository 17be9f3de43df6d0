/-
  NARROWER THAN 'FOR EVERY INPUT', by the rows' own cells (each row's printed sentence says how): DeciParses: laid · DeciTexts: laid · DeciZeros: laid · DeciWholes: laid · DeciUnits: laid.
  DERIVED. THE GIVEN ROWS OF THIS SEAT. 5 by the template 'for every input the law returns true; each argument reads behind the call as it read before'; 0 by the template 'total and deterministic' (their statements: YtpdgjhaimfpacaaDoorTotals.lean).
  GIVEN WITH THE SEED: the statements are not yours to turn. If you find one false, say at which input.
  Laid BY PROGRAM, IN A SANDBOX (cutbox-rows.mjs): the forced cells as the released guide's own fill.sh prints them over the translation f26d22705550a55c… (all of the seat's roots in one cut). By AI agents, Wed Nov 11 2026. No macro, syntax, notation, axiom, sorry.
-/
import Derived.Test.YtpdgjhaimfpacaaDoorChecked
import GoSem.PinnedTables
import GoSem.Claim
import GoSem.ClaimJoined
import GoSem.ClaimMapViews
import Derived.JoinedTies
import Derived.KernelRfl
namespace Go.Proofs.YtpdgjhaimfpacaaDoor
/- THE CELL 'sum', in the pinned program and in every row, IS THE sha256 OF THE DUMP (.gsa) THAT YtpdgjhaimfpacaaDoorProg.lean LOADS. Nothing in Lean hashes anything: it is a label: what it is worth is what the hold of that sum in a sandbox is worth. -/
noncomputable def Tryd.pinned : Pinned := { name := "ytpdgjhaimfpacaadoor", sum := "f26d22705550a55ca48b5f5b6d06d3fbdfe60d372e1275769cb2c8a06cad152c", checked := Tryd.checked }
namespace Rows
def none {H : Type} : Left H := { results := [], args := [] }

/- WHAT THE LISTED PACKAGE-LEVEL VARIABLES READ AS WHEN THE CALL BEGINS. Each datum BY PROGRAM (the guide's laid-datum.mjs) off the statement by which the dump's own 'gosem.cut.vars' lays the variable. In a bare row this is a premise. The card (YtpdgjhaimfpacaaDoorCards.lean) ties it to the program's text. -/
def laid_unicode_utf8_acceptRanges {H : Type} : DataW H := .agg [.agg [.lit (.int .u8 128), .lit (.int .u8 191)], .agg [.lit (.int .u8 160), .lit (.int .u8 191)], .agg [.lit (.int .u8 128), .lit (.int .u8 159)], .agg [.lit (.int .u8 144), .lit (.int .u8 191)], .agg [.lit (.int .u8 128), .lit (.int .u8 143)], .agg [.lit (.int .u8 0), .lit (.int .u8 0)], .agg [.lit (.int .u8 0), .lit (.int .u8 0)], .agg [.lit (.int .u8 0), .lit (.int .u8 0)], .agg [.lit (.int .u8 0), .lit (.int .u8 0)], .agg [.lit (.int .u8 0), .lit (.int .u8 0)], .agg [.lit (.int .u8 0), .lit (.int .u8 0)], .agg [.lit (.int .u8 0), .lit (.int .u8 0)], .agg [.lit (.int .u8 0), .lit (.int .u8 0)], .agg [.lit (.int .u8 0), .lit (.int .u8 0)], .agg [.lit (.int .u8 0), .lit (.int .u8 0)], .agg [.lit (.int .u8 0), .lit (.int .u8 0)]]
/-- One of Go's own tables, pinned by name: the form's constant. -/
def laid_unicode_utf8_first : DataW Unit := Go.Pinned.utf8First

/-- 'isohyetlaw04.DeciParses': WHATEVER THE INPUT: true; the input reads as it did. -/
def deciParsesSpec : ChangeSpec := { name := "deciParses", fn := fun _ => fun
  | [d1, d2] => { results := [.lit (.bool true)], args := [d1, d2] }
  | _ => none }
def deciParsesRow : OpenClaim := { program := "ytpdgjhaimfpacaadoor", sum := "f26d22705550a55ca48b5f5b6d06d3fbdfe60d372e1275769cb2c8a06cad152c", func := "isohyet/isohyetlaw04.DeciParses", spec := "deciParses", inPlace := ["internal/bytealg.IndexByteString", "internal/bytealg.IndexString", "internal/abi.NoEscape", "internal/bytealg.MakeNoZero", "math/bits.Add64", "math/bits.Sub64"], named := ["internal/bytealg.MaxLen", "unicode/utf8.first", "unicode/utf8.acceptRanges", "math/bits.divideError", "math/bits.overflowError"], apart := false, laid := [("unicode/utf8.acceptRanges", laid_unicode_utf8_acceptRanges), ("unicode/utf8.first", laid_unicode_utf8_first)] }
def DeciParsesSaid : Prop := deciParsesRow.holds Tryd.pinned (OpenSpec.ofChange deciParsesSpec)

/-- ITS FALSE NEIGHBOUR: 'it returns false'. Refute it at one input. -/
def deciParsesWrong : ChangeSpec := { name := "deciParses", fn := fun _ => fun
  | [d1, d2] => { results := [.lit (.bool false)], args := [d1, d2] }
  | _ => none }
def DeciParsesWrongFalsely : Prop := deciParsesRow.holds Tryd.pinned (OpenSpec.ofChange deciParsesWrong)

/-- 'isohyetlaw04.DeciTexts': WHATEVER THE INPUT: true; the input reads as it did. -/
def deciTextsSpec : ChangeSpec := { name := "deciTexts", fn := fun _ => fun
  | [d1, d2] => { results := [.lit (.bool true)], args := [d1, d2] }
  | _ => none }
def deciTextsRow : OpenClaim := { program := "ytpdgjhaimfpacaadoor", sum := "f26d22705550a55ca48b5f5b6d06d3fbdfe60d372e1275769cb2c8a06cad152c", func := "isohyet/isohyetlaw04.DeciTexts", spec := "deciTexts", inPlace := ["internal/bytealg.IndexByteString", "internal/bytealg.IndexString", "internal/abi.NoEscape", "internal/bytealg.MakeNoZero", "math/bits.Add64", "math/bits.Sub64"], named := ["internal/bytealg.MaxLen", "unicode/utf8.first", "unicode/utf8.acceptRanges", "math/bits.divideError", "math/bits.overflowError"], apart := false, laid := [("unicode/utf8.acceptRanges", laid_unicode_utf8_acceptRanges), ("unicode/utf8.first", laid_unicode_utf8_first)] }
def DeciTextsSaid : Prop := deciTextsRow.holds Tryd.pinned (OpenSpec.ofChange deciTextsSpec)

/-- ITS FALSE NEIGHBOUR: 'it returns false'. Refute it at one input. -/
def deciTextsWrong : ChangeSpec := { name := "deciTexts", fn := fun _ => fun
  | [d1, d2] => { results := [.lit (.bool false)], args := [d1, d2] }
  | _ => none }
def DeciTextsWrongFalsely : Prop := deciTextsRow.holds Tryd.pinned (OpenSpec.ofChange deciTextsWrong)

/-- 'isohyetlaw04.DeciZeros': WHATEVER THE INPUT: true; the input reads as it did. -/
def deciZerosSpec : ChangeSpec := { name := "deciZeros", fn := fun _ => fun
  | [d1, d2, d3] => { results := [.lit (.bool true)], args := [d1, d2, d3] }
  | _ => none }
def deciZerosRow : OpenClaim := { program := "ytpdgjhaimfpacaadoor", sum := "f26d22705550a55ca48b5f5b6d06d3fbdfe60d372e1275769cb2c8a06cad152c", func := "isohyet/isohyetlaw04.DeciZeros", spec := "deciZeros", inPlace := ["internal/bytealg.IndexByteString", "internal/bytealg.IndexString", "internal/abi.NoEscape", "internal/bytealg.MakeNoZero", "math/bits.Add64", "math/bits.Sub64"], named := ["internal/bytealg.MaxLen", "unicode/utf8.first", "unicode/utf8.acceptRanges", "math/bits.divideError", "math/bits.overflowError"], apart := false, laid := [("unicode/utf8.acceptRanges", laid_unicode_utf8_acceptRanges), ("unicode/utf8.first", laid_unicode_utf8_first)] }
def DeciZerosSaid : Prop := deciZerosRow.holds Tryd.pinned (OpenSpec.ofChange deciZerosSpec)

/-- ITS FALSE NEIGHBOUR: 'it returns false'. Refute it at one input. -/
def deciZerosWrong : ChangeSpec := { name := "deciZeros", fn := fun _ => fun
  | [d1, d2, d3] => { results := [.lit (.bool false)], args := [d1, d2, d3] }
  | _ => none }
def DeciZerosWrongFalsely : Prop := deciZerosRow.holds Tryd.pinned (OpenSpec.ofChange deciZerosWrong)

/-- 'isohyetlaw04.DeciWholes': WHATEVER THE INPUT: true; the input reads as it did. -/
def deciWholesSpec : ChangeSpec := { name := "deciWholes", fn := fun _ => fun
  | [d1, d2] => { results := [.lit (.bool true)], args := [d1, d2] }
  | _ => none }
def deciWholesRow : OpenClaim := { program := "ytpdgjhaimfpacaadoor", sum := "f26d22705550a55ca48b5f5b6d06d3fbdfe60d372e1275769cb2c8a06cad152c", func := "isohyet/isohyetlaw04.DeciWholes", spec := "deciWholes", inPlace := ["internal/bytealg.IndexByteString", "internal/bytealg.IndexString", "internal/abi.NoEscape", "internal/bytealg.MakeNoZero", "math/bits.Add64", "math/bits.Sub64"], named := ["internal/bytealg.MaxLen", "unicode/utf8.first", "unicode/utf8.acceptRanges", "math/bits.divideError", "math/bits.overflowError"], apart := false, laid := [("unicode/utf8.acceptRanges", laid_unicode_utf8_acceptRanges), ("unicode/utf8.first", laid_unicode_utf8_first)] }
def DeciWholesSaid : Prop := deciWholesRow.holds Tryd.pinned (OpenSpec.ofChange deciWholesSpec)

/-- ITS FALSE NEIGHBOUR: 'it returns false'. Refute it at one input. -/
def deciWholesWrong : ChangeSpec := { name := "deciWholes", fn := fun _ => fun
  | [d1, d2] => { results := [.lit (.bool false)], args := [d1, d2] }
  | _ => none }
def DeciWholesWrongFalsely : Prop := deciWholesRow.holds Tryd.pinned (OpenSpec.ofChange deciWholesWrong)

/-- 'isohyetlaw04.DeciUnits': WHATEVER THE INPUT: true; the input reads as it did. -/
def deciUnitsSpec : ChangeSpec := { name := "deciUnits", fn := fun _ => fun
  | [d1, d2, d3] => { results := [.lit (.bool true)], args := [d1, d2, d3] }
  | _ => none }
def deciUnitsRow : OpenClaim := { program := "ytpdgjhaimfpacaadoor", sum := "f26d22705550a55ca48b5f5b6d06d3fbdfe60d372e1275769cb2c8a06cad152c", func := "isohyet/isohyetlaw04.DeciUnits", spec := "deciUnits", inPlace := ["internal/bytealg.IndexByteString", "internal/bytealg.IndexString", "internal/abi.NoEscape", "internal/bytealg.MakeNoZero", "math/bits.Add64", "math/bits.Sub64"], named := ["internal/bytealg.MaxLen", "unicode/utf8.first", "unicode/utf8.acceptRanges", "math/bits.divideError", "math/bits.overflowError"], apart := false, laid := [("unicode/utf8.acceptRanges", laid_unicode_utf8_acceptRanges), ("unicode/utf8.first", laid_unicode_utf8_first)] }
def DeciUnitsSaid : Prop := deciUnitsRow.holds Tryd.pinned (OpenSpec.ofChange deciUnitsSpec)

/-- ITS FALSE NEIGHBOUR: 'it returns false'. Refute it at one input. -/
def deciUnitsWrong : ChangeSpec := { name := "deciUnits", fn := fun _ => fun
  | [d1, d2, d3] => { results := [.lit (.bool false)], args := [d1, d2, d3] }
  | _ => none }
def DeciUnitsWrongFalsely : Prop := deciUnitsRow.holds Tryd.pinned (OpenSpec.ofChange deciUnitsWrong)

/- THE SECOND FORM. 'bulk': how many values and letters a reading holds, each counted each time it is reached (what is shared counts as often as it is met; a slice's spare places count too). A statement '..UptoSaid' is the law's where the arguments, and the package variables that the reading takes, are together of bulk at most 1048576: NARROWER than '..Said'. Prove '..Said' where nothing that the law and all that it calls make is longer than what came in: it says more and counts as full. Else prove '..UptoSaid'. A law counts once. -/
mutual
def uptoBulk {H : Type} : DataW H → Nat
  | .lit (.string bytes) => bytes.length + 1
  | .lit _ => 1
  | .nil => 1
  | .ptr d => uptoBulk d + 1
  | .slice elems spare => uptoBulkAll elems + uptoBulkAll spare + 1
  | .agg parts => uptoBulkAll parts + 1
  | .iface _ d => uptoBulk d + 1
  | .map entries => uptoBulkEntries entries + 1
  | .held _ => 1
def uptoBulkAll {H : Type} : List (DataW H) → Nat
  | [] => 0
  | d :: r => uptoBulk d + uptoBulkAll r
def uptoBulkEntries {H : Type} : List (Lit × DataW H) → Nat
  | [] => 0
  | x :: r => uptoBulkEntry x + uptoBulkEntries r
def uptoBulkEntry {H : Type} : Lit × DataW H → Nat
  | (.string bytes, d) => bytes.length + uptoBulk d + 1
  | (_, d) => uptoBulk d + 1
 end
def uptoSmall : (H : Type) → List (DataW H) → Bool := fun _ ds => decide (uptoBulkAll ds ≤ 1048576)
def OpenSpec.upto (s : _root_.Go.ChangeSpec) : _root_.Go.OpenSpec := { _root_.Go.OpenSpec.ofChange s with cond := some uptoSmall }

/-- 'isohyetlaw04.DeciParses', WHERE WHAT IT READS IS OF BULK AT MOST 1048576: true; the input reads as it did. -/
def deciParsesUptoRow : OpenClaim := { program := "ytpdgjhaimfpacaadoor", sum := "f26d22705550a55ca48b5f5b6d06d3fbdfe60d372e1275769cb2c8a06cad152c", func := "isohyet/isohyetlaw04.DeciParses", spec := "deciParses", inPlace := ["internal/bytealg.IndexByteString", "internal/bytealg.IndexString", "internal/abi.NoEscape", "internal/bytealg.MakeNoZero", "math/bits.Add64", "math/bits.Sub64"], named := ["internal/bytealg.MaxLen", "unicode/utf8.first", "unicode/utf8.acceptRanges", "math/bits.divideError", "math/bits.overflowError"], apart := false, laid := [("unicode/utf8.acceptRanges", laid_unicode_utf8_acceptRanges), ("unicode/utf8.first", laid_unicode_utf8_first)], narrowed := true }
def DeciParsesUptoSaid : Prop := deciParsesUptoRow.holds Tryd.pinned (OpenSpec.upto deciParsesSpec)

/-- 'isohyetlaw04.DeciTexts', WHERE WHAT IT READS IS OF BULK AT MOST 1048576: true; the input reads as it did. -/
def deciTextsUptoRow : OpenClaim := { program := "ytpdgjhaimfpacaadoor", sum := "f26d22705550a55ca48b5f5b6d06d3fbdfe60d372e1275769cb2c8a06cad152c", func := "isohyet/isohyetlaw04.DeciTexts", spec := "deciTexts", inPlace := ["internal/bytealg.IndexByteString", "internal/bytealg.IndexString", "internal/abi.NoEscape", "internal/bytealg.MakeNoZero", "math/bits.Add64", "math/bits.Sub64"], named := ["internal/bytealg.MaxLen", "unicode/utf8.first", "unicode/utf8.acceptRanges", "math/bits.divideError", "math/bits.overflowError"], apart := false, laid := [("unicode/utf8.acceptRanges", laid_unicode_utf8_acceptRanges), ("unicode/utf8.first", laid_unicode_utf8_first)], narrowed := true }
def DeciTextsUptoSaid : Prop := deciTextsUptoRow.holds Tryd.pinned (OpenSpec.upto deciTextsSpec)

/-- 'isohyetlaw04.DeciZeros', WHERE WHAT IT READS IS OF BULK AT MOST 1048576: true; the input reads as it did. -/
def deciZerosUptoRow : OpenClaim := { program := "ytpdgjhaimfpacaadoor", sum := "f26d22705550a55ca48b5f5b6d06d3fbdfe60d372e1275769cb2c8a06cad152c", func := "isohyet/isohyetlaw04.DeciZeros", spec := "deciZeros", inPlace := ["internal/bytealg.IndexByteString", "internal/bytealg.IndexString", "internal/abi.NoEscape", "internal/bytealg.MakeNoZero", "math/bits.Add64", "math/bits.Sub64"], named := ["internal/bytealg.MaxLen", "unicode/utf8.first", "unicode/utf8.acceptRanges", "math/bits.divideError", "math/bits.overflowError"], apart := false, laid := [("unicode/utf8.acceptRanges", laid_unicode_utf8_acceptRanges), ("unicode/utf8.first", laid_unicode_utf8_first)], narrowed := true }
def DeciZerosUptoSaid : Prop := deciZerosUptoRow.holds Tryd.pinned (OpenSpec.upto deciZerosSpec)

/-- 'isohyetlaw04.DeciWholes', WHERE WHAT IT READS IS OF BULK AT MOST 1048576: true; the input reads as it did. -/
def deciWholesUptoRow : OpenClaim := { program := "ytpdgjhaimfpacaadoor", sum := "f26d22705550a55ca48b5f5b6d06d3fbdfe60d372e1275769cb2c8a06cad152c", func := "isohyet/isohyetlaw04.DeciWholes", spec := "deciWholes", inPlace := ["internal/bytealg.IndexByteString", "internal/bytealg.IndexString", "internal/abi.NoEscape", "internal/bytealg.MakeNoZero", "math/bits.Add64", "math/bits.Sub64"], named := ["internal/bytealg.MaxLen", "unicode/utf8.first", "unicode/utf8.acceptRanges", "math/bits.divideError", "math/bits.overflowError"], apart := false, laid := [("unicode/utf8.acceptRanges", laid_unicode_utf8_acceptRanges), ("unicode/utf8.first", laid_unicode_utf8_first)], narrowed := true }
def DeciWholesUptoSaid : Prop := deciWholesUptoRow.holds Tryd.pinned (OpenSpec.upto deciWholesSpec)

/-- 'isohyetlaw04.DeciUnits', WHERE WHAT IT READS IS OF BULK AT MOST 1048576: true; the input reads as it did. -/
def deciUnitsUptoRow : OpenClaim := { program := "ytpdgjhaimfpacaadoor", sum := "f26d22705550a55ca48b5f5b6d06d3fbdfe60d372e1275769cb2c8a06cad152c", func := "isohyet/isohyetlaw04.DeciUnits", spec := "deciUnits", inPlace := ["internal/bytealg.IndexByteString", "internal/bytealg.IndexString", "internal/abi.NoEscape", "internal/bytealg.MakeNoZero", "math/bits.Add64", "math/bits.Sub64"], named := ["internal/bytealg.MaxLen", "unicode/utf8.first", "unicode/utf8.acceptRanges", "math/bits.divideError", "math/bits.overflowError"], apart := false, laid := [("unicode/utf8.acceptRanges", laid_unicode_utf8_acceptRanges), ("unicode/utf8.first", laid_unicode_utf8_first)], narrowed := true }
def DeciUnitsUptoSaid : Prop := deciUnitsUptoRow.holds Tryd.pinned (OpenSpec.upto deciUnitsSpec)

end Rows
end Go.Proofs.YtpdgjhaimfpacaaDoor
