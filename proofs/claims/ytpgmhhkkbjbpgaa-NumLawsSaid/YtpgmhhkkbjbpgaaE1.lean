-- By drive.py (this session's program), out of the translation. Lean checks it.
import Derived.Test.YtpgmhhkkbjbpgaaA0
import Derived.Test.YtpgmhhkkbjbpgaaA6
import Derived.Test.YtpgmhhkkbjbpgaaA8
import Derived.Test.YtpgmhhkkbjbpgaaA9
import Derived.Test.YtpgmhhkkbjbpgaaC1
import Derived.Test.YtpgmhhkkbjbpgaaC4
import Derived.Test.YtpgmhhkkbjbpgaaC5
import Derived.Test.YtpgmhhkkbjbpgaaC6
import Derived.Test.YtpgmhhkkbjbpgaaC8
namespace Go.Proofs.Ytpgmhhkkbjbpgaa.M
open Go.Proofs.Ytpgmhhkkbjbpgaa.MB Go.Proofs.Ytpgmhhkkbjbpgaa
open Go.RowKit Go.Proofs.YtpgmhhkkbjbpgaaW.PrintWords Go.Proofs.YtpgmhhkkbjbpgaaW.PrintLast Go.Proofs.YtpgmhhkkbjbpgaaW.PrintMore
attribute [local go_sem] max2_int min2_int max_two min_two max_three min_three max_four min_four   -- for this text's walks alone
set_option linter.unusedVariables false
set_option linter.unusedSimpArgs false
attribute [local go_sem] add64_run sub64_run

/-! ### isohyetlaw02_NumLaws: function 8 -/
def isohyetlaw02_NumLaws.f (k : Nat) (a0_0 : Bool) (l0_1 : List Int) (a1_0 : Bool) (l1_1 : List Int) (a2_0 : Bool) (l2_1 : List Int) : Option (Bool) := (isohyetlaw02_fit.f k).bind fun t416 => (if t416 = true then ((isohyetlaw02_short.f k 20 (([(⟨a0_0, l0_1⟩ : S25), (⟨a1_0, l1_1⟩ : S25), (⟨a2_0, l2_1⟩ : S25)] : List (S25)))).bind fun t420 => (if t420 = true then ((num_Add.f k a1_0 l1_1 a2_0 l2_1).bind fun bt421 => ((num_Mul.f k a0_0 l0_1 bt421.1 bt421.2).bind fun bt425 => ((num_Mul.f k a2_0 l2_1 a0_0 l0_1).bind fun bt429 => ((num_Mul.f k a1_0 l1_1 a0_0 l0_1).bind fun bt433 => ((num_Add.f k bt429.1 bt429.2 bt433.1 bt433.2).bind fun bt437 => ((num_Sum.f k (([(⟨a0_0, l0_1⟩ : S25), (⟨a1_0, l1_1⟩ : S25), (⟨a2_0, l2_1⟩ : S25)] : List (S25)))).bind fun bt446 => ((num_Cmp.f k bt425.1 bt425.2 bt437.1 bt437.2).bind fun t451 => (if t451 = 0 then ((isohyetlaw02_Right.f bt425.1 bt425.2).bind fun t452 => (if t452 = true then ((isohyetlaw02_Right.f bt446.1 bt446.2).bind fun t453 => (if t453 = true then ((num_Add.f k a1_0 l1_1 a0_0 l0_1).bind fun bt454 => ((num_Add.f k a2_0 l2_1 bt454.1 bt454.2).bind fun bt458 => ((num_Cmp.f k bt446.1 bt446.2 bt458.1 bt458.2).bind fun t462 => (if t462 = 0 then ((num_Sub.f k bt446.1 bt446.2 a2_0 l2_1).bind fun bt463 => ((num_Sum.f k (([(⟨a1_0, l1_1⟩ : S25), (⟨a0_0, l0_1⟩ : S25)] : List (S25)))).bind fun bt470 => ((num_Cmp.f k bt463.1 bt463.2 bt470.1 bt470.2).bind fun t474 => (if t474 = 0 then ((num_Sum.f k ([] : List (S25))).bind fun bt475 => ((num_Sign.f k bt475.1 bt475.2).bind fun t479 => (some (t479 == 0)))) else (some false))))) else (some false))))) else (some false))) else (some false))) else (some false))))))))) else (some true))) else (some false))
def isohyetlaw02_NumLaws.T5 : Bool × List (List Nat × List Nat) := (true, [([], []), ([], []), ([], []), ([1, 2], [1, 2]), ([0, 3, 3], [0, 3]), ([], []), ([], []), ([5, 6, 4], [5, 6]), ([], []), ([], []), ([8, 9, 7], [8, 9]), ([7, 10, 10], [7, 10]), ([], []), ([], []), ([12, 4, 11, 0, 1, 2, 3, 4, 12, 13], [4, 12]), ([13, 11, 14, 0, 1, 2, 3, 4, 5, 6, 7, 8, 9, 10, 11, 12, 13, 14], [11, 13])])
def isohyetlaw02_NumLaws.B5 : List Nat := [0, 0, 0, 6, 15, 0, 0, 127, 0, 0, 1023, 2047, 0, 0, 16383, 32767]
theorem isohyetlaw02_NumLaws.tab5 : rtab .any (opsOf Try.f8 5) = isohyetlaw02_NumLaws.T5 := by kernel_rfl
theorem isohyetlaw02_NumLaws.bits5 : waitsOk isohyetlaw02_NumLaws.T5.2 isohyetlaw02_NumLaws.B5 = true := by kernel_rfl
def isohyetlaw02_NumLaws.T7 : Bool × List (List Nat × List Nat) := (true, [([], []), ([], []), ([0, 1], [0, 1]), ([2], [2]), ([3, 2], [3]), ([4], [4]), ([5, 4, 4], [4, 5]), ([4, 6], [4, 6]), ([7, 6], [7]), ([8], [8]), ([9, 8, 8], [8, 9]), ([8, 10], [8, 10]), ([11, 10], [11]), ([12], [12]), ([12], [12]), ([12], [12]), ([12], [12]), ([15, 16, 12, 12], [12, 15, 16]), ([14, 17, 17, 12], [12, 14, 17]), ([13, 18, 18, 12], [12, 13, 18]), ([19, 12], [12, 19]), ([12, 20], [12, 20]), ([21, 19], [21]), ([22], [22]), ([22], [22]), ([23, 24, 22, 22], [22, 23, 24]), ([22], [22]), ([22], [22]), ([26, 27, 22], [22, 26, 27]), ([28, 25, 22], [22, 28]), ([25, 29, 29, 22], [22, 25, 29]), ([30, 22], [22, 30]), ([22, 31], [22, 31]), ([32, 30], [32]), ([33, 33], [33]), ([34, 34, 33], [33, 34]), ([35, 33], [33, 35]), ([33, 36], [33, 36]), ([37, 35, 0, 1, 2, 3, 4, 5, 6, 7, 8, 9, 10, 11, 12, 13, 14, 15, 16, 17, 18, 19, 20, 21, 22, 23, 24, 25, 26, 27, 28, 29, 30, 31, 32, 33, 34, 35, 36, 37], [37])])
def isohyetlaw02_NumLaws.B7 : List Nat := [0, 0, 3, 7, 15, 31, 63, 127, 255, 511, 1023, 2047, 4095, 8191, 8191, 8191, 8191, 106495, 253951, 524287, 1048575, 2097151, 4194303, 8388607, 8388607, 33554431, 8388607, 8388607, 209715199, 536870911, 1073741823, 2147483647, 4294967295, 8589934591, 17179869183, 34359738367, 68719476735, 137438953471, 274877906943]
theorem isohyetlaw02_NumLaws.tab7 : rtab .any (opsOf Try.f8 7) = isohyetlaw02_NumLaws.T7 := by kernel_rfl
theorem isohyetlaw02_NumLaws.bits7 : waitsOk isohyetlaw02_NumLaws.T7.2 isohyetlaw02_NumLaws.B7 = true := by kernel_rfl
end Go.Proofs.Ytpgmhhkkbjbpgaa.M
