/-
  NARROWER THAN 'FOR EVERY INPUT', by the rows' own cells (each row's printed sentence says how): MagEdges: laid · MagMuls: laid · MagAdds: laid · MagDivs: laid · MagBack: laid · MagShifts: laid · MagParts: laid · MagGcds: laid · MagLaws: laid.
  DERIVED. THE GIVEN ROWS OF THIS SEAT. 9 by the template 'for every input the law returns true; each argument reads behind the call as it read before'; 0 by the template 'total and deterministic' (their statements: YtfkpbdapinpkdaaDoorTotals.lean).
  GIVEN WITH THE SEED: the statements are not yours to turn. If you find one false, say at which input.
  Laid BY PROGRAM, IN A SANDBOX (cutbox-rows.mjs): the forced cells as the released guide's own fill.sh prints them over the translation 74ad106cd1a9e5ba… (all of the seat's roots in one cut). By AI agents, Wed Nov 11 2026. No macro, syntax, notation, axiom, sorry.
-/
import Derived.Test.YtfkpbdapinpkdaaDoorChecked
import GoSem.Claim
import GoSem.ClaimJoined
import GoSem.ClaimMapViews
import Derived.JoinedTies
import Derived.KernelRfl
namespace Go.Proofs.YtfkpbdapinpkdaaDoor
/- THE CELL 'sum', in the pinned program and in every row, IS THE sha256 OF THE DUMP (.gsa) THAT YtfkpbdapinpkdaaDoorProg.lean LOADS. Nothing in Lean hashes anything: it is a label: what it is worth is what the hold of that sum in a sandbox is worth. -/
noncomputable def Tryd.pinned : Pinned := { name := "ytfkpbdapinpkdaadoor", sum := "74ad106cd1a9e5ba3bea8b684c3ab57a96fb1b510a0e640e2cd7bc0a79093114", checked := Tryd.checked }
namespace Rows
def none {H : Type} : Left H := { results := [], args := [] }

/- WHAT THE LISTED PACKAGE-LEVEL VARIABLES READ AS WHEN THE CALL BEGINS. Each datum BY PROGRAM (the guide's laid-datum.mjs) off the statement by which the dump's own 'gosem.cut.vars' lays the variable. In a bare row this is a premise. The card (YtfkpbdapinpkdaaDoorCards.lean) ties it to the program's text. -/
def laid_math_bits_deBruijn64tab {H : Type} : DataW H := .agg [.lit (.int .u8 0), .lit (.int .u8 1), .lit (.int .u8 56), .lit (.int .u8 2), .lit (.int .u8 57), .lit (.int .u8 49), .lit (.int .u8 28), .lit (.int .u8 3), .lit (.int .u8 61), .lit (.int .u8 58), .lit (.int .u8 42), .lit (.int .u8 50), .lit (.int .u8 38), .lit (.int .u8 29), .lit (.int .u8 17), .lit (.int .u8 4), .lit (.int .u8 62), .lit (.int .u8 47), .lit (.int .u8 59), .lit (.int .u8 36), .lit (.int .u8 45), .lit (.int .u8 43), .lit (.int .u8 51), .lit (.int .u8 22), .lit (.int .u8 53), .lit (.int .u8 39), .lit (.int .u8 33), .lit (.int .u8 30), .lit (.int .u8 24), .lit (.int .u8 18), .lit (.int .u8 12), .lit (.int .u8 5), .lit (.int .u8 63), .lit (.int .u8 55), .lit (.int .u8 48), .lit (.int .u8 27), .lit (.int .u8 60), .lit (.int .u8 41), .lit (.int .u8 37), .lit (.int .u8 16), .lit (.int .u8 46), .lit (.int .u8 35), .lit (.int .u8 44), .lit (.int .u8 21), .lit (.int .u8 52), .lit (.int .u8 32), .lit (.int .u8 23), .lit (.int .u8 11), .lit (.int .u8 54), .lit (.int .u8 26), .lit (.int .u8 40), .lit (.int .u8 15), .lit (.int .u8 34), .lit (.int .u8 20), .lit (.int .u8 31), .lit (.int .u8 10), .lit (.int .u8 25), .lit (.int .u8 14), .lit (.int .u8 19), .lit (.int .u8 9), .lit (.int .u8 13), .lit (.int .u8 8), .lit (.int .u8 7), .lit (.int .u8 6)]

/-- 'isohyetlaw01.MagEdges': WHATEVER THE INPUT: true; the input reads as it did. -/
def magEdgesSpec : ChangeSpec := { name := "magEdges", fn := fun _ => fun
  | [d1, d2] => { results := [.lit (.bool true)], args := [d1, d2] }
  | _ => none }
def magEdgesRow : OpenClaim := { program := "ytfkpbdapinpkdaadoor", sum := "74ad106cd1a9e5ba3bea8b684c3ab57a96fb1b510a0e640e2cd7bc0a79093114", func := "isohyet/isohyetlaw01.MagEdges", spec := "magEdges", inPlace := ["math/bits.Add64", "math/bits.Sub64"], named := ["math/bits.divideError", "math/bits.overflowError", "math/bits.deBruijn64tab"], apart := false, laid := [("math/bits.deBruijn64tab", laid_math_bits_deBruijn64tab)] }
def MagEdgesSaid : Prop := magEdgesRow.holds Tryd.pinned (OpenSpec.ofChange magEdgesSpec)

/-- ITS FALSE NEIGHBOUR: 'it returns false'. Refute it at one input. -/
def magEdgesWrong : ChangeSpec := { name := "magEdges", fn := fun _ => fun
  | [d1, d2] => { results := [.lit (.bool false)], args := [d1, d2] }
  | _ => none }
def MagEdgesWrongFalsely : Prop := magEdgesRow.holds Tryd.pinned (OpenSpec.ofChange magEdgesWrong)

/-- 'isohyetlaw01.MagMuls': WHATEVER THE INPUT: true; the input reads as it did. -/
def magMulsSpec : ChangeSpec := { name := "magMuls", fn := fun _ => fun
  | [d1, d2] => { results := [.lit (.bool true)], args := [d1, d2] }
  | _ => none }
def magMulsRow : OpenClaim := { program := "ytfkpbdapinpkdaadoor", sum := "74ad106cd1a9e5ba3bea8b684c3ab57a96fb1b510a0e640e2cd7bc0a79093114", func := "isohyet/isohyetlaw01.MagMuls", spec := "magMuls", inPlace := ["math/bits.Add64", "math/bits.Sub64"], named := ["math/bits.divideError", "math/bits.overflowError", "math/bits.deBruijn64tab"], apart := false, laid := [("math/bits.deBruijn64tab", laid_math_bits_deBruijn64tab)] }
def MagMulsSaid : Prop := magMulsRow.holds Tryd.pinned (OpenSpec.ofChange magMulsSpec)

/-- ITS FALSE NEIGHBOUR: 'it returns false'. Refute it at one input. -/
def magMulsWrong : ChangeSpec := { name := "magMuls", fn := fun _ => fun
  | [d1, d2] => { results := [.lit (.bool false)], args := [d1, d2] }
  | _ => none }
def MagMulsWrongFalsely : Prop := magMulsRow.holds Tryd.pinned (OpenSpec.ofChange magMulsWrong)

/-- 'isohyetlaw01.MagAdds': WHATEVER THE INPUT: true; the input reads as it did. -/
def magAddsSpec : ChangeSpec := { name := "magAdds", fn := fun _ => fun
  | [d1, d2] => { results := [.lit (.bool true)], args := [d1, d2] }
  | _ => none }
def magAddsRow : OpenClaim := { program := "ytfkpbdapinpkdaadoor", sum := "74ad106cd1a9e5ba3bea8b684c3ab57a96fb1b510a0e640e2cd7bc0a79093114", func := "isohyet/isohyetlaw01.MagAdds", spec := "magAdds", inPlace := ["math/bits.Add64", "math/bits.Sub64"], named := ["math/bits.divideError", "math/bits.overflowError", "math/bits.deBruijn64tab"], apart := false, laid := [("math/bits.deBruijn64tab", laid_math_bits_deBruijn64tab)] }
def MagAddsSaid : Prop := magAddsRow.holds Tryd.pinned (OpenSpec.ofChange magAddsSpec)

/-- ITS FALSE NEIGHBOUR: 'it returns false'. Refute it at one input. -/
def magAddsWrong : ChangeSpec := { name := "magAdds", fn := fun _ => fun
  | [d1, d2] => { results := [.lit (.bool false)], args := [d1, d2] }
  | _ => none }
def MagAddsWrongFalsely : Prop := magAddsRow.holds Tryd.pinned (OpenSpec.ofChange magAddsWrong)

/-- 'isohyetlaw01.MagDivs': WHATEVER THE INPUT: true; the input reads as it did. -/
def magDivsSpec : ChangeSpec := { name := "magDivs", fn := fun _ => fun
  | [d1, d2] => { results := [.lit (.bool true)], args := [d1, d2] }
  | _ => none }
def magDivsRow : OpenClaim := { program := "ytfkpbdapinpkdaadoor", sum := "74ad106cd1a9e5ba3bea8b684c3ab57a96fb1b510a0e640e2cd7bc0a79093114", func := "isohyet/isohyetlaw01.MagDivs", spec := "magDivs", inPlace := ["math/bits.Add64", "math/bits.Sub64"], named := ["math/bits.divideError", "math/bits.overflowError", "math/bits.deBruijn64tab"], apart := false, laid := [("math/bits.deBruijn64tab", laid_math_bits_deBruijn64tab)] }
def MagDivsSaid : Prop := magDivsRow.holds Tryd.pinned (OpenSpec.ofChange magDivsSpec)

/-- ITS FALSE NEIGHBOUR: 'it returns false'. Refute it at one input. -/
def magDivsWrong : ChangeSpec := { name := "magDivs", fn := fun _ => fun
  | [d1, d2] => { results := [.lit (.bool false)], args := [d1, d2] }
  | _ => none }
def MagDivsWrongFalsely : Prop := magDivsRow.holds Tryd.pinned (OpenSpec.ofChange magDivsWrong)

/-- 'isohyetlaw01.MagBack': WHATEVER THE INPUT: true; the input reads as it did. -/
def magBackSpec : ChangeSpec := { name := "magBack", fn := fun _ => fun
  | [d1, d2, d3] => { results := [.lit (.bool true)], args := [d1, d2, d3] }
  | _ => none }
def magBackRow : OpenClaim := { program := "ytfkpbdapinpkdaadoor", sum := "74ad106cd1a9e5ba3bea8b684c3ab57a96fb1b510a0e640e2cd7bc0a79093114", func := "isohyet/isohyetlaw01.MagBack", spec := "magBack", inPlace := ["math/bits.Add64", "math/bits.Sub64"], named := ["math/bits.divideError", "math/bits.overflowError", "math/bits.deBruijn64tab"], apart := false, laid := [("math/bits.deBruijn64tab", laid_math_bits_deBruijn64tab)] }
def MagBackSaid : Prop := magBackRow.holds Tryd.pinned (OpenSpec.ofChange magBackSpec)

/-- ITS FALSE NEIGHBOUR: 'it returns false'. Refute it at one input. -/
def magBackWrong : ChangeSpec := { name := "magBack", fn := fun _ => fun
  | [d1, d2, d3] => { results := [.lit (.bool false)], args := [d1, d2, d3] }
  | _ => none }
def MagBackWrongFalsely : Prop := magBackRow.holds Tryd.pinned (OpenSpec.ofChange magBackWrong)

/-- 'isohyetlaw01.MagShifts': WHATEVER THE INPUT: true; the input reads as it did. -/
def magShiftsSpec : ChangeSpec := { name := "magShifts", fn := fun _ => fun
  | [d1, d2] => { results := [.lit (.bool true)], args := [d1, d2] }
  | _ => none }
def magShiftsRow : OpenClaim := { program := "ytfkpbdapinpkdaadoor", sum := "74ad106cd1a9e5ba3bea8b684c3ab57a96fb1b510a0e640e2cd7bc0a79093114", func := "isohyet/isohyetlaw01.MagShifts", spec := "magShifts", inPlace := ["math/bits.Add64", "math/bits.Sub64"], named := ["math/bits.divideError", "math/bits.overflowError", "math/bits.deBruijn64tab"], apart := false, laid := [("math/bits.deBruijn64tab", laid_math_bits_deBruijn64tab)] }
def MagShiftsSaid : Prop := magShiftsRow.holds Tryd.pinned (OpenSpec.ofChange magShiftsSpec)

/-- ITS FALSE NEIGHBOUR: 'it returns false'. Refute it at one input. -/
def magShiftsWrong : ChangeSpec := { name := "magShifts", fn := fun _ => fun
  | [d1, d2] => { results := [.lit (.bool false)], args := [d1, d2] }
  | _ => none }
def MagShiftsWrongFalsely : Prop := magShiftsRow.holds Tryd.pinned (OpenSpec.ofChange magShiftsWrong)

/-- 'isohyetlaw01.MagParts': WHATEVER THE INPUT: true; the input reads as it did. -/
def magPartsSpec : ChangeSpec := { name := "magParts", fn := fun _ => fun
  | [d1, d2] => { results := [.lit (.bool true)], args := [d1, d2] }
  | _ => none }
def magPartsRow : OpenClaim := { program := "ytfkpbdapinpkdaadoor", sum := "74ad106cd1a9e5ba3bea8b684c3ab57a96fb1b510a0e640e2cd7bc0a79093114", func := "isohyet/isohyetlaw01.MagParts", spec := "magParts", inPlace := ["math/bits.Add64", "math/bits.Sub64"], named := ["math/bits.divideError", "math/bits.overflowError", "math/bits.deBruijn64tab"], apart := false, laid := [("math/bits.deBruijn64tab", laid_math_bits_deBruijn64tab)] }
def MagPartsSaid : Prop := magPartsRow.holds Tryd.pinned (OpenSpec.ofChange magPartsSpec)

/-- ITS FALSE NEIGHBOUR: 'it returns false'. Refute it at one input. -/
def magPartsWrong : ChangeSpec := { name := "magParts", fn := fun _ => fun
  | [d1, d2] => { results := [.lit (.bool false)], args := [d1, d2] }
  | _ => none }
def MagPartsWrongFalsely : Prop := magPartsRow.holds Tryd.pinned (OpenSpec.ofChange magPartsWrong)

/-- 'isohyetlaw01.MagGcds': WHATEVER THE INPUT: true; the input reads as it did. -/
def magGcdsSpec : ChangeSpec := { name := "magGcds", fn := fun _ => fun
  | [d1, d2, d3] => { results := [.lit (.bool true)], args := [d1, d2, d3] }
  | _ => none }
def magGcdsRow : OpenClaim := { program := "ytfkpbdapinpkdaadoor", sum := "74ad106cd1a9e5ba3bea8b684c3ab57a96fb1b510a0e640e2cd7bc0a79093114", func := "isohyet/isohyetlaw01.MagGcds", spec := "magGcds", inPlace := ["math/bits.Add64", "math/bits.Sub64"], named := ["math/bits.divideError", "math/bits.overflowError", "math/bits.deBruijn64tab"], apart := false, laid := [("math/bits.deBruijn64tab", laid_math_bits_deBruijn64tab)] }
def MagGcdsSaid : Prop := magGcdsRow.holds Tryd.pinned (OpenSpec.ofChange magGcdsSpec)

/-- ITS FALSE NEIGHBOUR: 'it returns false'. Refute it at one input. -/
def magGcdsWrong : ChangeSpec := { name := "magGcds", fn := fun _ => fun
  | [d1, d2, d3] => { results := [.lit (.bool false)], args := [d1, d2, d3] }
  | _ => none }
def MagGcdsWrongFalsely : Prop := magGcdsRow.holds Tryd.pinned (OpenSpec.ofChange magGcdsWrong)

/-- 'isohyetlaw01.MagLaws': WHATEVER THE INPUT: true; the input reads as it did. -/
def magLawsSpec : ChangeSpec := { name := "magLaws", fn := fun _ => fun
  | [d1, d2, d3] => { results := [.lit (.bool true)], args := [d1, d2, d3] }
  | _ => none }
def magLawsRow : OpenClaim := { program := "ytfkpbdapinpkdaadoor", sum := "74ad106cd1a9e5ba3bea8b684c3ab57a96fb1b510a0e640e2cd7bc0a79093114", func := "isohyet/isohyetlaw01.MagLaws", spec := "magLaws", inPlace := ["math/bits.Add64", "math/bits.Sub64"], named := ["math/bits.divideError", "math/bits.overflowError", "math/bits.deBruijn64tab"], apart := false, laid := [("math/bits.deBruijn64tab", laid_math_bits_deBruijn64tab)] }
def MagLawsSaid : Prop := magLawsRow.holds Tryd.pinned (OpenSpec.ofChange magLawsSpec)

/-- ITS FALSE NEIGHBOUR: 'it returns false'. Refute it at one input. -/
def magLawsWrong : ChangeSpec := { name := "magLaws", fn := fun _ => fun
  | [d1, d2, d3] => { results := [.lit (.bool false)], args := [d1, d2, d3] }
  | _ => none }
def MagLawsWrongFalsely : Prop := magLawsRow.holds Tryd.pinned (OpenSpec.ofChange magLawsWrong)

/- THE SECOND FORM. 'bulk': how many values and letters a reading holds, each counted each time it is reached (what is shared counts as often as it is met; a slice's spare places count too). A statement '..UptoSaid' is the law's where the arguments, and the package variables that the reading takes, are together of bulk at most 1048576: NARROWER than '..Said'. Prove '..Said' where nothing that the law and all that it calls make is longer than what came in: it says more and counts as full. Else prove '..UptoSaid'. A law counts once. -/
mutual
def uptoBulk {H : Type} : DataW H → Nat
  | .lit (.string bytes) => bytes.length + 1
  | .lit _ => 1
  | .nil => 1
  | .ptr d => uptoBulk d + 1
  | .slice elems spare => uptoBulkAll elems + uptoBulkAll spare + 1
  | .agg parts => uptoBulkAll parts + 1
  | .iface _ d => uptoBulk d + 1
  | .map entries => uptoBulkEntries entries + 1
  | .held _ => 1
def uptoBulkAll {H : Type} : List (DataW H) → Nat
  | [] => 0
  | d :: r => uptoBulk d + uptoBulkAll r
def uptoBulkEntries {H : Type} : List (Lit × DataW H) → Nat
  | [] => 0
  | x :: r => uptoBulkEntry x + uptoBulkEntries r
def uptoBulkEntry {H : Type} : Lit × DataW H → Nat
  | (.string bytes, d) => bytes.length + uptoBulk d + 1
  | (_, d) => uptoBulk d + 1
 end
def uptoSmall : (H : Type) → List (DataW H) → Bool := fun _ ds => decide (uptoBulkAll ds ≤ 1048576)
def OpenSpec.upto (s : _root_.Go.ChangeSpec) : _root_.Go.OpenSpec := { _root_.Go.OpenSpec.ofChange s with cond := some uptoSmall }

/-- 'isohyetlaw01.MagEdges', WHERE WHAT IT READS IS OF BULK AT MOST 1048576: true; the input reads as it did. -/
def magEdgesUptoRow : OpenClaim := { program := "ytfkpbdapinpkdaadoor", sum := "74ad106cd1a9e5ba3bea8b684c3ab57a96fb1b510a0e640e2cd7bc0a79093114", func := "isohyet/isohyetlaw01.MagEdges", spec := "magEdges", inPlace := ["math/bits.Add64", "math/bits.Sub64"], named := ["math/bits.divideError", "math/bits.overflowError", "math/bits.deBruijn64tab"], apart := false, laid := [("math/bits.deBruijn64tab", laid_math_bits_deBruijn64tab)], narrowed := true }
def MagEdgesUptoSaid : Prop := magEdgesUptoRow.holds Tryd.pinned (OpenSpec.upto magEdgesSpec)

/-- 'isohyetlaw01.MagMuls', WHERE WHAT IT READS IS OF BULK AT MOST 1048576: true; the input reads as it did. -/
def magMulsUptoRow : OpenClaim := { program := "ytfkpbdapinpkdaadoor", sum := "74ad106cd1a9e5ba3bea8b684c3ab57a96fb1b510a0e640e2cd7bc0a79093114", func := "isohyet/isohyetlaw01.MagMuls", spec := "magMuls", inPlace := ["math/bits.Add64", "math/bits.Sub64"], named := ["math/bits.divideError", "math/bits.overflowError", "math/bits.deBruijn64tab"], apart := false, laid := [("math/bits.deBruijn64tab", laid_math_bits_deBruijn64tab)], narrowed := true }
def MagMulsUptoSaid : Prop := magMulsUptoRow.holds Tryd.pinned (OpenSpec.upto magMulsSpec)

/-- 'isohyetlaw01.MagAdds', WHERE WHAT IT READS IS OF BULK AT MOST 1048576: true; the input reads as it did. -/
def magAddsUptoRow : OpenClaim := { program := "ytfkpbdapinpkdaadoor", sum := "74ad106cd1a9e5ba3bea8b684c3ab57a96fb1b510a0e640e2cd7bc0a79093114", func := "isohyet/isohyetlaw01.MagAdds", spec := "magAdds", inPlace := ["math/bits.Add64", "math/bits.Sub64"], named := ["math/bits.divideError", "math/bits.overflowError", "math/bits.deBruijn64tab"], apart := false, laid := [("math/bits.deBruijn64tab", laid_math_bits_deBruijn64tab)], narrowed := true }
def MagAddsUptoSaid : Prop := magAddsUptoRow.holds Tryd.pinned (OpenSpec.upto magAddsSpec)

/-- 'isohyetlaw01.MagDivs', WHERE WHAT IT READS IS OF BULK AT MOST 1048576: true; the input reads as it did. -/
def magDivsUptoRow : OpenClaim := { program := "ytfkpbdapinpkdaadoor", sum := "74ad106cd1a9e5ba3bea8b684c3ab57a96fb1b510a0e640e2cd7bc0a79093114", func := "isohyet/isohyetlaw01.MagDivs", spec := "magDivs", inPlace := ["math/bits.Add64", "math/bits.Sub64"], named := ["math/bits.divideError", "math/bits.overflowError", "math/bits.deBruijn64tab"], apart := false, laid := [("math/bits.deBruijn64tab", laid_math_bits_deBruijn64tab)], narrowed := true }
def MagDivsUptoSaid : Prop := magDivsUptoRow.holds Tryd.pinned (OpenSpec.upto magDivsSpec)

/-- 'isohyetlaw01.MagBack', WHERE WHAT IT READS IS OF BULK AT MOST 1048576: true; the input reads as it did. -/
def magBackUptoRow : OpenClaim := { program := "ytfkpbdapinpkdaadoor", sum := "74ad106cd1a9e5ba3bea8b684c3ab57a96fb1b510a0e640e2cd7bc0a79093114", func := "isohyet/isohyetlaw01.MagBack", spec := "magBack", inPlace := ["math/bits.Add64", "math/bits.Sub64"], named := ["math/bits.divideError", "math/bits.overflowError", "math/bits.deBruijn64tab"], apart := false, laid := [("math/bits.deBruijn64tab", laid_math_bits_deBruijn64tab)], narrowed := true }
def MagBackUptoSaid : Prop := magBackUptoRow.holds Tryd.pinned (OpenSpec.upto magBackSpec)

/-- 'isohyetlaw01.MagShifts', WHERE WHAT IT READS IS OF BULK AT MOST 1048576: true; the input reads as it did. -/
def magShiftsUptoRow : OpenClaim := { program := "ytfkpbdapinpkdaadoor", sum := "74ad106cd1a9e5ba3bea8b684c3ab57a96fb1b510a0e640e2cd7bc0a79093114", func := "isohyet/isohyetlaw01.MagShifts", spec := "magShifts", inPlace := ["math/bits.Add64", "math/bits.Sub64"], named := ["math/bits.divideError", "math/bits.overflowError", "math/bits.deBruijn64tab"], apart := false, laid := [("math/bits.deBruijn64tab", laid_math_bits_deBruijn64tab)], narrowed := true }
def MagShiftsUptoSaid : Prop := magShiftsUptoRow.holds Tryd.pinned (OpenSpec.upto magShiftsSpec)

/-- 'isohyetlaw01.MagParts', WHERE WHAT IT READS IS OF BULK AT MOST 1048576: true; the input reads as it did. -/
def magPartsUptoRow : OpenClaim := { program := "ytfkpbdapinpkdaadoor", sum := "74ad106cd1a9e5ba3bea8b684c3ab57a96fb1b510a0e640e2cd7bc0a79093114", func := "isohyet/isohyetlaw01.MagParts", spec := "magParts", inPlace := ["math/bits.Add64", "math/bits.Sub64"], named := ["math/bits.divideError", "math/bits.overflowError", "math/bits.deBruijn64tab"], apart := false, laid := [("math/bits.deBruijn64tab", laid_math_bits_deBruijn64tab)], narrowed := true }
def MagPartsUptoSaid : Prop := magPartsUptoRow.holds Tryd.pinned (OpenSpec.upto magPartsSpec)

/-- 'isohyetlaw01.MagGcds', WHERE WHAT IT READS IS OF BULK AT MOST 1048576: true; the input reads as it did. -/
def magGcdsUptoRow : OpenClaim := { program := "ytfkpbdapinpkdaadoor", sum := "74ad106cd1a9e5ba3bea8b684c3ab57a96fb1b510a0e640e2cd7bc0a79093114", func := "isohyet/isohyetlaw01.MagGcds", spec := "magGcds", inPlace := ["math/bits.Add64", "math/bits.Sub64"], named := ["math/bits.divideError", "math/bits.overflowError", "math/bits.deBruijn64tab"], apart := false, laid := [("math/bits.deBruijn64tab", laid_math_bits_deBruijn64tab)], narrowed := true }
def MagGcdsUptoSaid : Prop := magGcdsUptoRow.holds Tryd.pinned (OpenSpec.upto magGcdsSpec)

/-- 'isohyetlaw01.MagLaws', WHERE WHAT IT READS IS OF BULK AT MOST 1048576: true; the input reads as it did. -/
def magLawsUptoRow : OpenClaim := { program := "ytfkpbdapinpkdaadoor", sum := "74ad106cd1a9e5ba3bea8b684c3ab57a96fb1b510a0e640e2cd7bc0a79093114", func := "isohyet/isohyetlaw01.MagLaws", spec := "magLaws", inPlace := ["math/bits.Add64", "math/bits.Sub64"], named := ["math/bits.divideError", "math/bits.overflowError", "math/bits.deBruijn64tab"], apart := false, laid := [("math/bits.deBruijn64tab", laid_math_bits_deBruijn64tab)], narrowed := true }
def MagLawsUptoSaid : Prop := magLawsUptoRow.holds Tryd.pinned (OpenSpec.upto magLawsSpec)

end Rows
end Go.Proofs.YtfkpbdapinpkdaaDoor
