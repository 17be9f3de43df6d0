-- By drive.py (this session's program), out of the translation. Lean checks it.
import Derived.Test.YtpgmhhkkbjbpgaaA0
import Derived.Test.YtpgmhhkkbjbpgaaA6
import Derived.Test.YtpgmhhkkbjbpgaaA8
import Derived.Test.YtpgmhhkkbjbpgaaC1
import Derived.Test.YtpgmhhkkbjbpgaaC3
import Derived.Test.YtpgmhhkkbjbpgaaC4
import Derived.Test.YtpgmhhkkbjbpgaaC5
import Derived.Test.YtpgmhhkkbjbpgaaC6
import Derived.Test.YtpgmhhkkbjbpgaaR4
namespace Go.Proofs.Ytpgmhhkkbjbpgaa.M
open Go.Proofs.Ytpgmhhkkbjbpgaa.MB Go.Proofs.Ytpgmhhkkbjbpgaa
open Go.RowKit Go.Proofs.YtpgmhhkkbjbpgaaW.PrintWords Go.Proofs.YtpgmhhkkbjbpgaaW.PrintLast Go.Proofs.YtpgmhhkkbjbpgaaW.PrintMore
attribute [local go_sem] max2_int min2_int max_two min_two max_three min_three max_four min_four   -- for this text's walks alone
set_option linter.unusedVariables false
set_option linter.unusedSimpArgs false
attribute [local go_sem] add64_run sub64_run

/-! ### isohyetlaw02_NumAdds: function 7 -/
def isohyetlaw02_NumAdds.j0 : Nat → Bool → Bool → List Int → Bool → List Int → Bool → List Int → Bool → List Int → Option (Bool)
 | 0, _, _, _, _, _, _, _, _, _ => none
 | k + 1, x48, x544000, x544001, x545000, x545001, x559000, x559001, x569000, x569001 => if x48 = true then (some false) else ((num_Cmp.f k x544000 x544001 x545000 x545001).bind fun t592 => ((isohyetref02_Sign.f x569000 x569001).bind fun t593 => (if t592 = t593 then ((num_Sign.f k x544000 x544001).bind fun t594 => ((isohyetref02_Sign.f x559000 x559001).bind fun t595 => (if t594 = t595 then ((num_Neg.f k x544000 x544001).bind fun bt596 => ((isohyetref02_Neg.f x559000 x559001).bind fun bt600 => ((isohyetlaw02_is.f k bt596.1 bt596.2 bt600.1 bt600.2).bind fun t604 => (if t604 = true then ((num_Abs.f k x544000 x544001).bind fun bt605 => ((isohyetref02_Of.f false x559001).bind fun bt609 => ((isohyetlaw02_is.f k bt605.1 bt605.2 bt609.1 bt609.2).bind fun t613 => (some t613)))) else (some false))))) else (some false)))) else (some false))))
def isohyetlaw02_NumAdds.f (k : Nat) (a0_0 : Bool) (l0_1 : List Int) (a1_0 : Bool) (l1_1 : List Int) : Option (Bool) := (isohyetlaw02_fit.f k).bind fun t545 => (if t545 = true then ((isohyetlaw02_short.f k 4 (([(⟨a0_0, l0_1⟩ : S25), (⟨a1_0, l1_1⟩ : S25)] : List (S25)))).bind fun t549 => (if t549 = true then ((isohyetlaw02_of.f k a0_0 l0_1).bind fun bt550 => ((isohyetlaw02_of.f k a1_0 l1_1).bind fun bt554 => ((isohyetref02_Neg.f bt554.1 bt554.2).bind fun bt560 => ((isohyetref02_Add.f k bt550.1 bt550.2 bt560.1 bt560.2).bind fun bt564 => ((num_Add.f k a0_0 l0_1 a1_0 l1_1).bind fun bt569 => ((isohyetref02_Add.f k bt550.1 bt550.2 bt554.1 bt554.2).bind fun bt573 => ((isohyetlaw02_is.f k bt569.1 bt569.2 bt573.1 bt573.2).bind fun t577 => (if t577 = true then ((num_Sub.f k a0_0 l0_1 a1_0 l1_1).bind fun bt578 => ((isohyetlaw02_is.f k bt578.1 bt578.2 bt564.1 bt564.2).bind fun t582 => (if t582 = true then ((num_Mul.f k a0_0 l0_1 a1_0 l1_1).bind fun bt583 => ((isohyetref02_Mul.f k bt550.1 bt550.2 bt554.1 bt554.2).bind fun bt587 => ((isohyetlaw02_is.f k bt583.1 bt583.2 bt587.1 bt587.2).bind fun t591 => (isohyetlaw02_NumAdds.j0 k (!t591) a0_0 l0_1 a1_0 l1_1 bt550.1 bt550.2 bt564.1 bt564.2)))) else (isohyetlaw02_NumAdds.j0 k true a0_0 l0_1 a1_0 l1_1 bt550.1 bt550.2 bt564.1 bt564.2)))) else (isohyetlaw02_NumAdds.j0 k true a0_0 l0_1 a1_0 l1_1 bt550.1 bt550.2 bt564.1 bt564.2))))))))) else (some true))) else (some false))
def isohyetlaw02_NumAdds.T5 : Bool × List (List Nat × List Nat) := (true, [([], []), ([0], [0]), ([], []), ([2, 1], [2]), ([], []), ([], []), ([4, 1, 3, 0, 1, 4, 5], [1, 4]), ([5, 3, 6, 0, 1, 2, 3, 4, 5, 6], [3, 5])])
def isohyetlaw02_NumAdds.B5 : List Nat := [0, 1, 0, 7, 0, 0, 63, 127]
theorem isohyetlaw02_NumAdds.tab5 : rtab .any (opsOf Try.f7 5) = isohyetlaw02_NumAdds.T5 := by kernel_rfl
theorem isohyetlaw02_NumAdds.bits5 : waitsOk isohyetlaw02_NumAdds.T5.2 isohyetlaw02_NumAdds.B5 = true := by kernel_rfl
def isohyetlaw02_NumAdds.T7 : Bool × List (List Nat × List Nat) := (true, [([], []), ([], []), ([0, 1], [0, 1]), ([], []), ([], []), ([3, 4, 2], [3, 4]), ([2, 5, 5], [2, 5]), ([6], [6]), ([7, 6], [7]), ([8], [8]), ([8], [8]), ([9, 10, 8, 8], [8, 9, 10]), ([8], [8]), ([11, 12, 11, 8], [8, 11, 12]), ([13, 8], [8, 13]), ([8, 14], [8, 14]), ([15, 13], [15]), ([16], [16]), ([16], [16]), ([17, 18, 16, 16], [16, 17, 18]), ([16], [16]), ([16], [16]), ([20, 21, 19, 16], [16, 20, 21]), ([19, 22, 22, 16], [16, 19, 22]), ([23, 16], [16, 23]), ([16, 24], [16, 24])])
def isohyetlaw02_NumAdds.B7 : List Nat := [0, 0, 3, 0, 0, 31, 63, 127, 255, 511, 511, 2047, 511, 8191, 16383, 32767, 65535, 131071, 131071, 524287, 131071, 131071, 4194303, 8388607, 16777215, 33554431]
theorem isohyetlaw02_NumAdds.tab7 : rtab .any (opsOf Try.f7 7) = isohyetlaw02_NumAdds.T7 := by kernel_rfl
theorem isohyetlaw02_NumAdds.bits7 : waitsOk isohyetlaw02_NumAdds.T7.2 isohyetlaw02_NumAdds.B7 = true := by kernel_rfl
def isohyetlaw02_NumAdds.T9 : Bool × List (List Nat × List Nat) := (true, [([], []), ([], []), ([0, 1], [0, 1]), ([], []), ([3, 2], [3]), ([2, 4], [2, 4]), ([5, 4], [5]), ([6], [6]), ([7, 6, 6], [6, 7]), ([6], [6]), ([9, 8, 6], [6, 9]), ([8, 10, 6], [6, 8, 10]), ([6, 11], [6, 11]), ([12, 10], [12]), ([13], [13]), ([14, 13, 13], [13, 14]), ([13], [13]), ([16, 15, 13], [13, 16]), ([15, 17, 17, 13], [13, 15, 17]), ([13, 18], [13, 18]), ([19, 18], [19]), ([20], [20]), ([21, 20, 20], [20, 21]), ([20], [20]), ([23, 20], [20, 23]), ([24, 22, 20], [20, 24]), ([22, 25, 25, 20], [20, 22, 25]), ([20, 26], [20, 26]), ([27, 26, 0, 1, 2, 3, 4, 5, 6, 7, 8, 9, 10, 11, 12, 13, 14, 15, 16, 17, 18, 19, 20, 21, 22, 23, 24, 25, 26, 27], [27])])
def isohyetlaw02_NumAdds.B9 : List Nat := [0, 0, 3, 0, 15, 31, 63, 127, 255, 127, 1023, 2047, 4095, 8191, 16383, 32767, 16383, 131071, 262143, 524287, 1048575, 2097151, 4194303, 2097151, 10485759, 33554431, 67108863, 134217727, 268435455]
theorem isohyetlaw02_NumAdds.tab9 : rtab .any (opsOf Try.f7 9) = isohyetlaw02_NumAdds.T9 := by kernel_rfl
theorem isohyetlaw02_NumAdds.bits9 : waitsOk isohyetlaw02_NumAdds.T9.2 isohyetlaw02_NumAdds.B9 = true := by kernel_rfl
end Go.Proofs.Ytpgmhhkkbjbpgaa.M
