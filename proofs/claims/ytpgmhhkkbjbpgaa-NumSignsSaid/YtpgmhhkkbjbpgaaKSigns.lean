-- By drive.py (this session's program), out of the translation. Lean checks it.
import Derived.Test.YtpgmhhkkbjbpgaaA0
import Derived.Test.YtpgmhhkkbjbpgaaA6
import Derived.Test.YtpgmhhkkbjbpgaaA8
import Derived.Test.YtpgmhhkkbjbpgaaA9
import Derived.Test.YtpgmhhkkbjbpgaaC1
import Derived.Test.YtpgmhhkkbjbpgaaC3
import Derived.Test.YtpgmhhkkbjbpgaaC4
import Derived.Test.YtpgmhhkkbjbpgaaC6
namespace Go.Proofs.Ytpgmhhkkbjbpgaa.M
open Go.Proofs.Ytpgmhhkkbjbpgaa.MB Go.Proofs.Ytpgmhhkkbjbpgaa
open Go.RowKit Go.Proofs.YtpgmhhkkbjbpgaaW.PrintWords Go.Proofs.YtpgmhhkkbjbpgaaW.PrintLast Go.Proofs.YtpgmhhkkbjbpgaaW.PrintMore
attribute [local go_sem] max2_int min2_int max_two min_two max_three min_three max_four min_four   -- for this text's walks alone
set_option linter.unusedVariables false
set_option linter.unusedSimpArgs false
attribute [local go_sem] add64_run sub64_run

/-! ### isohyetlaw02_NumSigns: function 6 -/
def isohyetlaw02_NumSigns.j0 : Nat → Bool → Bool → List Int → Bool → List Int → Bool → List Int → Option (Bool)
 | 0, _, _, _, _, _, _, _ => none
 | k + 1, x40, x554000, x554001, x555000, x555001, x565000, x565001 => if x40 = true then (some false) else ((num_Mul.f k x554000 x554001 x555000 x555001).bind fun bt578 => ((num_Sign.f k bt578.1 bt578.2).bind fun t583 => ((num_Sign.f k x554000 x554001).bind fun t584 => ((num_Sign.f k x555000 x555001).bind fun t585 => (if t583 = (wrap64 (t584 * t585)) then ((num_Abs.f k bt578.1 bt578.2).bind fun bt586 => ((num_Abs.f k x554000 x554001).bind fun bt590 => ((num_Abs.f k x555000 x555001).bind fun bt594 => ((num_Mul.f k bt590.1 bt590.2 bt594.1 bt594.2).bind fun bt598 => ((num_Cmp.f k bt586.1 bt586.2 bt598.1 bt598.2).bind fun t602 => (if t602 = 0 then ((num_Mul.f k x565000 x565001 x555000 x555001).bind fun bt603 => ((num_Neg.f k bt578.1 bt578.2).bind fun bt607 => ((num_Cmp.f k bt603.1 bt603.2 bt607.1 bt607.2).bind fun t611 => (if t611 = 0 then ((isohyetlaw02_Right.f bt578.1 bt578.2).bind fun t612 => (some t612)) else (some false))))) else (some false))))))) else (some false))))))
def isohyetlaw02_NumSigns.f (k : Nat) (a0_0 : Bool) (l0_1 : List Int) (a1_0 : Bool) (l1_1 : List Int) : Option (Bool) := (isohyetlaw02_fit.f k).bind fun t555 => (if t555 = true then ((isohyetlaw02_short.f k 12 (([(⟨a0_0, l0_1⟩ : S25), (⟨a1_0, l1_1⟩ : S25)] : List (S25)))).bind fun t559 => (if t559 = true then ((num_Neg.f k a0_0 l0_1).bind fun bt560 => ((isohyetlaw02_Right.f bt560.1 bt560.2).bind fun t565 => (if t565 = true then ((num_Neg.f k bt560.1 bt560.2).bind fun bt566 => ((num_Cmp.f k bt566.1 bt566.2 a0_0 l0_1).bind fun t570 => (if t570 = 0 then ((num_Add.f k a0_0 l0_1 bt560.1 bt560.2).bind fun bt571 => ((num_Sign.f k bt571.1 bt571.2).bind fun t575 => (if t575 = 0 then ((num_Sign.f k bt560.1 bt560.2).bind fun t576 => ((num_Sign.f k a0_0 l0_1).bind fun t577 => (isohyetlaw02_NumSigns.j0 k (t576 != (wrap64 (-t577))) a0_0 l0_1 a1_0 l1_1 bt560.1 bt560.2))) else (isohyetlaw02_NumSigns.j0 k true a0_0 l0_1 a1_0 l1_1 bt560.1 bt560.2)))) else (isohyetlaw02_NumSigns.j0 k true a0_0 l0_1 a1_0 l1_1 bt560.1 bt560.2)))) else (isohyetlaw02_NumSigns.j0 k true a0_0 l0_1 a1_0 l1_1 bt560.1 bt560.2)))) else (some true))) else (some false))
theorem isohyetlaw02_NumSigns.mono_l : ∀ k, (∀ y0 y1 y2 y3 y4 y5 y6, LeO (isohyetlaw02_NumSigns.j0 k y0 y1 y2 y3 y4 y5 y6) (isohyetlaw02_NumSigns.j0 (k + 1) y0 y1 y2 y3 y4 y5 y6))
 | 0 => fun _ _ _ _ _ _ _ r h => by simp [isohyetlaw02_NumSigns.j0] at h
 | k + 1 => by
  have ih0 := isohyetlaw02_NumSigns.mono_l k
  ·intro y0 y1 y2 y3 y4 y5 y6
   unfold isohyetlaw02_NumSigns.j0
   repeat' first
   | (with_reducible exact ih0 _ _ _ _ _ _ _)
   | (with_reducible exact isohyetlaw02_fit.mono _)
   | (with_reducible exact isohyetlaw02_short.mono _ _ _)
   | (with_reducible exact num_Abs.mono _ _ _)
   | (with_reducible exact num_Add.mono _ _ _ _ _)
   | (with_reducible exact num_Cmp.mono _ _ _ _ _)
   | (with_reducible exact num_Mul.mono _ _ _ _ _)
   | (with_reducible exact num_Neg.mono _ _ _)
   | (with_reducible exact num_Sign.mono _ _ _)
   | (with_reducible exact LeO.refl _)
   | (with_reducible exact LeO.none _)
   | (with_reducible refine LeO.ite ?_ ?_)
   | (with_reducible refine LeO.bind ?_ (fun _ => ?_))
   | exact ih0 _ _ _ _ _ _ _
   | exact isohyetlaw02_fit.mono _
   | exact isohyetlaw02_short.mono _ _ _
   | exact num_Abs.mono _ _ _
   | exact num_Add.mono _ _ _ _ _
   | exact num_Cmp.mono _ _ _ _ _
   | exact num_Mul.mono _ _ _ _ _
   | exact num_Neg.mono _ _ _
   | exact num_Sign.mono _ _ _
   | exact LeO.none _
   | refine LeO.ite ?_ ?_
   | refine LeO.bind ?_ (fun _ => ?_)
theorem isohyetlaw02_NumSigns.mono : ∀ a0 a1 a2 a3 k, LeO (isohyetlaw02_NumSigns.f k a0 a1 a2 a3) (isohyetlaw02_NumSigns.f (k + 1) a0 a1 a2 a3) := by
 intro a0 a1 a2 a3 k
 have ih0 := isohyetlaw02_NumSigns.mono_l k
 unfold isohyetlaw02_NumSigns.f
 repeat' first
   | (with_reducible exact ih0 _ _ _ _ _ _ _)
   | (with_reducible exact isohyetlaw02_fit.mono _)
   | (with_reducible exact isohyetlaw02_short.mono _ _ _)
   | (with_reducible exact num_Abs.mono _ _ _)
   | (with_reducible exact num_Add.mono _ _ _ _ _)
   | (with_reducible exact num_Cmp.mono _ _ _ _ _)
   | (with_reducible exact num_Mul.mono _ _ _ _ _)
   | (with_reducible exact num_Neg.mono _ _ _)
   | (with_reducible exact num_Sign.mono _ _ _)
   | (with_reducible exact LeO.refl _)
   | (with_reducible exact LeO.none _)
   | (with_reducible refine LeO.ite ?_ ?_)
   | (with_reducible refine LeO.bind ?_ (fun _ => ?_))
   | exact ih0 _ _ _ _ _ _ _
   | exact isohyetlaw02_fit.mono _
   | exact isohyetlaw02_short.mono _ _ _
   | exact num_Abs.mono _ _ _
   | exact num_Add.mono _ _ _ _ _
   | exact num_Cmp.mono _ _ _ _ _
   | exact num_Mul.mono _ _ _ _ _
   | exact num_Neg.mono _ _ _
   | exact num_Sign.mono _ _ _
   | exact LeO.none _
   | refine LeO.ite ?_ ?_
   | refine LeO.bind ?_ (fun _ => ?_)
def isohyetlaw02_NumSigns.T6 : Bool × List (List Nat × List Nat) := (true, [([], []), ([0], [0]), ([1], [1]), ([2, 1], [2]), ([3], [3]), ([4, 3, 3], [3, 4]), ([3], [3]), ([5, 6, 5, 3], [3, 5, 6]), ([7, 3], [3, 7]), ([3, 8], [3, 8]), ([9, 7], [9]), ([10], [10]), ([10], [10]), ([11, 12, 10, 10], [10, 11, 12]), ([13, 13, 10], [10, 13]), ([14, 10], [10, 14]), ([10, 15], [10, 15]), ([16, 14], [16]), ([17], [17]), ([18, 17, 17], [17, 18]), ([17], [17]), ([20, 19, 17], [17, 20]), ([21, 17], [17, 21]), ([19, 22, 17], [17, 19, 22]), ([17, 23], [17, 23])])
def isohyetlaw02_NumSigns.B6 : List Nat := [0, 1, 3, 7, 15, 31, 15, 127, 255, 511, 1023, 2047, 2047, 8191, 16383, 32767, 65535, 131071, 262143, 524287, 262143, 2097151, 4194303, 8388607, 16777215]
theorem isohyetlaw02_NumSigns.tab6 : rtab .any (opsOf Try.f6 6) = isohyetlaw02_NumSigns.T6 := by kernel_rfl
theorem isohyetlaw02_NumSigns.bits6 : waitsOk isohyetlaw02_NumSigns.T6.2 isohyetlaw02_NumSigns.B6 = true := by kernel_rfl
def isohyetlaw02_NumSigns.T9 : Bool × List (List Nat × List Nat) := (true, [([], []), ([0], [0]), ([], []), ([2, 1], [2]), ([], []), ([4, 3], [4]), ([3, 5], [3, 5]), ([1, 6], [1, 6]), ([7, 5], [7]), ([8], [8]), ([9, 8, 8], [8, 9]), ([8], [8]), ([11, 10, 8], [8, 11]), ([8], [8]), ([13, 12, 8], [8, 13]), ([12, 14, 14, 8], [8, 12, 14]), ([10, 15, 15, 8], [8, 10, 15]), ([16, 8], [8, 16]), ([8, 17], [8, 17]), ([18, 16], [18]), ([19], [19]), ([19], [19]), ([20, 21, 19, 19], [19, 20, 21]), ([19], [19]), ([23, 22, 19], [19, 23]), ([22, 24, 24, 19], [19, 22, 24]), ([25, 19], [19, 25]), ([19, 26], [19, 26]), ([27, 25], [27]), ([28], [28]), ([29, 28, 28], [28, 29]), ([28, 30], [28, 30]), ([31, 30, 0, 1, 2, 3, 4, 5, 6, 7, 8, 9, 10, 11, 12, 13, 14, 15, 16, 17, 18, 19, 20, 21, 22, 23, 24, 25, 26, 27, 28, 29, 30, 31], [31])])
def isohyetlaw02_NumSigns.B9 : List Nat := [0, 1, 0, 7, 0, 31, 63, 127, 255, 511, 1023, 511, 4095, 511, 16383, 32767, 65535, 131071, 262143, 524287, 1048575, 1048575, 4194303, 1048575, 16777215, 33554431, 67108863, 134217727, 268435455, 536870911, 1073741823, 2147483647, 4294967295]
theorem isohyetlaw02_NumSigns.tab9 : rtab .any (opsOf Try.f6 9) = isohyetlaw02_NumSigns.T9 := by kernel_rfl
theorem isohyetlaw02_NumSigns.bits9 : waitsOk isohyetlaw02_NumSigns.T9.2 isohyetlaw02_NumSigns.B9 = true := by kernel_rfl
set_option maxHeartbeats 8000000 in
set_option maxRecDepth 100000 in
theorem isohyetlaw02_NumSigns.calls (k : Nat) (a0_0 : Bool) (P0_1_ : Nat → Prop) (A0_1 : Option Addr) (c0_1 : Nat) (l0_1 : List Int) (a1_0 : Bool) (P1_1_ : Nat → Prop) (A1_1 : Option Addr) (c1_1 : Nat) (l1_1 : List Int) (r : Bool) (w : World) (hs0_1 : Kd.V (Kd.int .u64) 54 w w.heap.size (fun k_ => P0_1_ k_) (.slice A0_1 l0_1.length c0_1) l0_1) (hs1_1 : Kd.V (Kd.int .u64) 54 w w.heap.size (fun k_ => P1_1_ k_) (.slice A1_1 l1_1.length c1_1) l1_1) (HTRUE : r = true) (h : isohyetlaw02_NumSigns.f k a0_0 l0_1 a1_0 l1_1 = some r) :
  Calls Try.prog 6 #[.agg #[.bool a0_0, .slice A0_1 l0_1.length c0_1], .agg #[.bool a1_0, .slice A1_1 l1_1.length c1_1]] w fun e w' => e = .returned (.bool r) ∧ Below w.heap.size w w' := by
 have hu25 := Try.underlying25
 have HO0_1 := Aside0.mk (show Kd.V (Kd.int .u64) 54 w w.heap.size (fun k_ => ((P0_1_ k_ ∨ P1_1_ k_) ∨ w.heap.size ≤ k_)) (.slice A0_1 l0_1.length c0_1) l0_1 from Kd.V_mono hs0_1 (fun k_ hk => .inl (.inl hk)))
 have HO1_1 := Aside0.mk (show Kd.V (Kd.int .u64) 54 w w.heap.size (fun k_ => ((P0_1_ k_ ∨ P1_1_ k_) ∨ w.heap.size ≤ k_)) (.slice A1_1 l1_1.length c1_1) l1_1 from Kd.V_mono hs1_1 (fun k_ hk => .inl (.inr hk)))
 have HB := Aside0.mk (Below.refl w.heap.size w)
 have H : ((isohyetlaw02_fit.f k).bind fun t555 => (if t555 = true then ((isohyetlaw02_short.f k 12 (([(⟨a0_0, l0_1⟩ : S25), (⟨a1_0, l1_1⟩ : S25)] : List (S25)))).bind fun t559 => (if t559 = true then ((num_Neg.f k a0_0 l0_1).bind fun bt560 => ((isohyetlaw02_Right.f bt560.1 bt560.2).bind fun t565 => (if t565 = true then ((num_Neg.f k bt560.1 bt560.2).bind fun bt566 => ((num_Cmp.f k bt566.1 bt566.2 a0_0 l0_1).bind fun t570 => (if t570 = 0 then ((num_Add.f k a0_0 l0_1 bt560.1 bt560.2).bind fun bt571 => ((num_Sign.f k bt571.1 bt571.2).bind fun t575 => (if t575 = 0 then ((num_Sign.f k bt560.1 bt560.2).bind fun t576 => ((num_Sign.f k a0_0 l0_1).bind fun t577 => (isohyetlaw02_NumSigns.j0 k (t576 != (wrap64 (-t577))) a0_0 l0_1 a1_0 l1_1 bt560.1 bt560.2))) else (isohyetlaw02_NumSigns.j0 k true a0_0 l0_1 a1_0 l1_1 bt560.1 bt560.2)))) else (isohyetlaw02_NumSigns.j0 k true a0_0 l0_1 a1_0 l1_1 bt560.1 bt560.2)))) else (isohyetlaw02_NumSigns.j0 k true a0_0 l0_1 a1_0 l1_1 bt560.1 bt560.2)))) else (some true))) else (some false))) = some r := h
 clear h
 replace H := Option.bind_eq_some_iff.mp H
 obtain ⟨t555, A30, H⟩ := H
 replace H : (if t555 = true then ((isohyetlaw02_short.f k 12 (([(⟨a0_0, l0_1⟩ : S25), (⟨a1_0, l1_1⟩ : S25)] : List (S25)))).bind fun t559 => (if t559 = true then ((num_Neg.f k a0_0 l0_1).bind fun bt560 => ((isohyetlaw02_Right.f bt560.1 bt560.2).bind fun t565 => (if t565 = true then ((num_Neg.f k bt560.1 bt560.2).bind fun bt566 => ((num_Cmp.f k bt566.1 bt566.2 a0_0 l0_1).bind fun t570 => (if t570 = 0 then ((num_Add.f k a0_0 l0_1 bt560.1 bt560.2).bind fun bt571 => ((num_Sign.f k bt571.1 bt571.2).bind fun t575 => (if t575 = 0 then ((num_Sign.f k bt560.1 bt560.2).bind fun t576 => ((num_Sign.f k a0_0 l0_1).bind fun t577 => (isohyetlaw02_NumSigns.j0 k (t576 != (wrap64 (-t577))) a0_0 l0_1 a1_0 l1_1 bt560.1 bt560.2))) else (isohyetlaw02_NumSigns.j0 k true a0_0 l0_1 a1_0 l1_1 bt560.1 bt560.2)))) else (isohyetlaw02_NumSigns.j0 k true a0_0 l0_1 a1_0 l1_1 bt560.1 bt560.2)))) else (isohyetlaw02_NumSigns.j0 k true a0_0 l0_1 a1_0 l1_1 bt560.1 bt560.2)))) else (some true))) else (some false)) = some r := H
 have A3 := Aside0.mk A30
 clear A30
 by_cases c4 : t555 = true
 ·subst c4
  have H1 : ((isohyetlaw02_short.f k 12 (([(⟨a0_0, l0_1⟩ : S25), (⟨a1_0, l1_1⟩ : S25)] : List (S25)))).bind fun t559 => (if t559 = true then ((num_Neg.f k a0_0 l0_1).bind fun bt560 => ((isohyetlaw02_Right.f bt560.1 bt560.2).bind fun t565 => (if t565 = true then ((num_Neg.f k bt560.1 bt560.2).bind fun bt566 => ((num_Cmp.f k bt566.1 bt566.2 a0_0 l0_1).bind fun t570 => (if t570 = 0 then ((num_Add.f k a0_0 l0_1 bt560.1 bt560.2).bind fun bt571 => ((num_Sign.f k bt571.1 bt571.2).bind fun t575 => (if t575 = 0 then ((num_Sign.f k bt560.1 bt560.2).bind fun t576 => ((num_Sign.f k a0_0 l0_1).bind fun t577 => (isohyetlaw02_NumSigns.j0 k (t576 != (wrap64 (-t577))) a0_0 l0_1 a1_0 l1_1 bt560.1 bt560.2))) else (isohyetlaw02_NumSigns.j0 k true a0_0 l0_1 a1_0 l1_1 bt560.1 bt560.2)))) else (isohyetlaw02_NumSigns.j0 k true a0_0 l0_1 a1_0 l1_1 bt560.1 bt560.2)))) else (isohyetlaw02_NumSigns.j0 k true a0_0 l0_1 a1_0 l1_1 bt560.1 bt560.2)))) else (some true))) = some r := by rw [if_pos rfl] at H; exact H
  clear H
  have H := H1
  clear H1
  obtain ⟨y556, hy556⟩ : ∃ y_ : List (S25), y_ = (([(⟨a0_0, l0_1⟩ : S25), (⟨a1_0, l1_1⟩ : S25)] : List (S25))) := ⟨_, rfl⟩
  replace H : ((isohyetlaw02_short.f k 12 y556).bind fun t559 => (if t559 = true then ((num_Neg.f k a0_0 l0_1).bind fun bt560 => ((isohyetlaw02_Right.f bt560.1 bt560.2).bind fun t565 => (if t565 = true then ((num_Neg.f k bt560.1 bt560.2).bind fun bt566 => ((num_Cmp.f k bt566.1 bt566.2 a0_0 l0_1).bind fun t570 => (if t570 = 0 then ((num_Add.f k a0_0 l0_1 bt560.1 bt560.2).bind fun bt571 => ((num_Sign.f k bt571.1 bt571.2).bind fun t575 => (if t575 = 0 then ((num_Sign.f k bt560.1 bt560.2).bind fun t576 => ((num_Sign.f k a0_0 l0_1).bind fun t577 => (isohyetlaw02_NumSigns.j0 k (t576 != (wrap64 (-t577))) a0_0 l0_1 a1_0 l1_1 bt560.1 bt560.2))) else (isohyetlaw02_NumSigns.j0 k true a0_0 l0_1 a1_0 l1_1 bt560.1 bt560.2)))) else (isohyetlaw02_NumSigns.j0 k true a0_0 l0_1 a1_0 l1_1 bt560.1 bt560.2)))) else (isohyetlaw02_NumSigns.j0 k true a0_0 l0_1 a1_0 l1_1 bt560.1 bt560.2)))) else (some true))) = some r := by first | (rw [hy556]; with_reducible exact H) | (have H2_ := (Option.bind_some _ _).symm.trans H; rw [hy556]; with_reducible exact H2_) | (have H2_ := (Option.bind_some _ _).symm.trans H; with_reducible exact H2_) | with_reducible exact H | (rw [hy556]; exact H) | exact H
  have Ny556 := Aside0.mk hy556
  clear hy556
  replace H := Option.bind_eq_some_iff.mp H
  obtain ⟨t559, A50, H⟩ := H
  replace H : (if t559 = true then ((num_Neg.f k a0_0 l0_1).bind fun bt560 => ((isohyetlaw02_Right.f bt560.1 bt560.2).bind fun t565 => (if t565 = true then ((num_Neg.f k bt560.1 bt560.2).bind fun bt566 => ((num_Cmp.f k bt566.1 bt566.2 a0_0 l0_1).bind fun t570 => (if t570 = 0 then ((num_Add.f k a0_0 l0_1 bt560.1 bt560.2).bind fun bt571 => ((num_Sign.f k bt571.1 bt571.2).bind fun t575 => (if t575 = 0 then ((num_Sign.f k bt560.1 bt560.2).bind fun t576 => ((num_Sign.f k a0_0 l0_1).bind fun t577 => (isohyetlaw02_NumSigns.j0 k (t576 != (wrap64 (-t577))) a0_0 l0_1 a1_0 l1_1 bt560.1 bt560.2))) else (isohyetlaw02_NumSigns.j0 k true a0_0 l0_1 a1_0 l1_1 bt560.1 bt560.2)))) else (isohyetlaw02_NumSigns.j0 k true a0_0 l0_1 a1_0 l1_1 bt560.1 bt560.2)))) else (isohyetlaw02_NumSigns.j0 k true a0_0 l0_1 a1_0 l1_1 bt560.1 bt560.2)))) else (some true)) = some r := H
  have A5 := Aside0.mk A50
  clear A50
  by_cases c6 : t559 = true
  ·subst c6
   have H1 : ((num_Neg.f k a0_0 l0_1).bind fun bt560 => ((isohyetlaw02_Right.f bt560.1 bt560.2).bind fun t565 => (if t565 = true then ((num_Neg.f k bt560.1 bt560.2).bind fun bt566 => ((num_Cmp.f k bt566.1 bt566.2 a0_0 l0_1).bind fun t570 => (if t570 = 0 then ((num_Add.f k a0_0 l0_1 bt560.1 bt560.2).bind fun bt571 => ((num_Sign.f k bt571.1 bt571.2).bind fun t575 => (if t575 = 0 then ((num_Sign.f k bt560.1 bt560.2).bind fun t576 => ((num_Sign.f k a0_0 l0_1).bind fun t577 => (isohyetlaw02_NumSigns.j0 k (t576 != (wrap64 (-t577))) a0_0 l0_1 a1_0 l1_1 bt560.1 bt560.2))) else (isohyetlaw02_NumSigns.j0 k true a0_0 l0_1 a1_0 l1_1 bt560.1 bt560.2)))) else (isohyetlaw02_NumSigns.j0 k true a0_0 l0_1 a1_0 l1_1 bt560.1 bt560.2)))) else (isohyetlaw02_NumSigns.j0 k true a0_0 l0_1 a1_0 l1_1 bt560.1 bt560.2)))) = some r := by rw [if_pos rfl] at H; exact H
   clear H
   have H := H1
   clear H1
   replace H := Option.bind_eq_some_iff.mp H
   obtain ⟨⟨t560, t561⟩, A70, H⟩ := H
   replace H : ((isohyetlaw02_Right.f t560 t561).bind fun t565 => (if t565 = true then ((num_Neg.f k t560 t561).bind fun bt566 => ((num_Cmp.f k bt566.1 bt566.2 a0_0 l0_1).bind fun t570 => (if t570 = 0 then ((num_Add.f k a0_0 l0_1 t560 t561).bind fun bt571 => ((num_Sign.f k bt571.1 bt571.2).bind fun t575 => (if t575 = 0 then ((num_Sign.f k t560 t561).bind fun t576 => ((num_Sign.f k a0_0 l0_1).bind fun t577 => (isohyetlaw02_NumSigns.j0 k (t576 != (wrap64 (-t577))) a0_0 l0_1 a1_0 l1_1 t560 t561))) else (isohyetlaw02_NumSigns.j0 k true a0_0 l0_1 a1_0 l1_1 t560 t561)))) else (isohyetlaw02_NumSigns.j0 k true a0_0 l0_1 a1_0 l1_1 t560 t561)))) else (isohyetlaw02_NumSigns.j0 k true a0_0 l0_1 a1_0 l1_1 t560 t561))) = some r := H
   have A7 := Aside0.mk A70
   clear A70
   have HC8 := Aside0.mk H
   clear H
   go_enter Try.func6, Try.ntmps6
   go_upto_region 6 with (first | ((with_reducible refine gate_dst (N := 2) rfl ?_); refine box_event ?hg (N := 2) ?hd (cs := #[.bool a0_0, .slice A0_1 l0_1.length c0_1]) (t := 25) ?hr ?_; (case hd => rfl); (case hg => rfl); (case hr => first | (go_simp; done) | (go_simp; rfl)); intro gb553 hg w9 hbox hb; have n0_ := Aside0.mk (Kd.V_below (Kd.V_elderB (gV HO0_1.out) gb553 (Nat.le_of_eq hg.symm)) hb); have n1_ := Aside0.mk (Kd.V_below (Kd.V_elderB (gV HO1_1.out) gb553 (Nat.le_of_eq hg.symm)) hb); have n2_ := Aside0.mk (below_step (gB HB.out) hb); have n3_ := Aside0.mk (hbox); have n4_ := Aside0.mk ((by rw [hg]; exact (below_size (gB HB.out)) : w.heap.size ≤ gb553)); have n5_ := Aside0.mk ((by rw [hg]; exact (below_size (gB HB.out)) : w.heap.size ≤ gb553)); clear HO0_1; clear HO1_1; clear HB; have HO0_1 := n0_; have HO1_1 := n1_; have HB := n2_; have BK553 := n3_; have GW553 := n4_; have GE553 := n5_; clear n0_ n1_ n2_ n3_ n4_ n5_; clear hb hbox hg) | ((with_reducible refine gate_dst (N := 3) rfl ?_); refine box_event ?hg (N := 3) ?hd (cs := #[.bool a1_0, .slice A1_1 l1_1.length c1_1]) (t := 25) ?hr ?_; (case hd => rfl); (case hg => rfl); (case hr => first | (go_simp; done) | (go_simp; rfl)); intro gb554 hg w10 hbox hb; have n0_ := Aside0.mk (Kd.V_below (Kd.V_elderB (gV HO0_1.out) gb554 (Nat.le_of_eq hg.symm)) hb); have n1_ := Aside0.mk (Kd.V_below (Kd.V_elderB (gV HO1_1.out) gb554 (Nat.le_of_eq hg.symm)) hb); have n2_ := Aside0.mk (blk_below (gK BK553.out) hb); have n3_ := Aside0.mk (below_step (by repeat (first | (with_reducible first | exact HB.out | apply bA | apply bN | apply bD | refine bS ?_ GE553.out) | exact HB.out)) hb); have n4_ := Aside0.mk (hbox); have n5_ := Aside0.mk ((by rw [hg]; exact (below_size (by repeat (first | (with_reducible first | exact HB.out | apply bA | apply bN | apply bD | refine bS ?_ GE553.out) | exact HB.out))) : w.heap.size ≤ gb554)); have n6_ := Aside0.mk ((by rw [hg]; exact (below_size (by repeat (first | (with_reducible first | exact HB.out | apply bA | apply bN | apply bD | refine bS ?_ GE553.out) | exact HB.out))) : w.heap.size ≤ gb554)); have n7_ := Aside0.mk ((by rw [hg]; exact Nat.ne_of_lt (blk_lt (g := gb553) (o := .cells #[.bool a0_0, .slice A0_1 l0_1.length c0_1] 25 (0, 0)) (gK BK553.out)) : gb553 ≠ gb554)); have n8_ := Aside0.mk ((by rw [hg]; exact Nat.ne_of_gt (blk_lt (g := gb553) (o := .cells #[.bool a0_0, .slice A0_1 l0_1.length c0_1] 25 (0, 0)) (gK BK553.out)) : gb554 ≠ gb553)); clear HO0_1; clear HO1_1; clear BK553; clear HB; have HO0_1 := n0_; have HO1_1 := n1_; have BK553 := n2_; have HB := n3_; have BK554 := n4_; have GW554 := n5_; have GE554 := n6_; have NB553_554 := n7_; have NB554_553 := n8_; clear n0_ n1_ n2_ n3_ n4_ n5_ n6_ n7_ n8_; clear hb hbox hg) | ((with_reducible refine gate_callee (f := 9) rfl ?_); refine goesL_ (some 7) rfl rfl Try.func9 (by kernel_rfl) rfl #[] rfl (by (try simp only [List.map_toArray, List.map_cons, List.map_nil]); first | done | rfl | (simp only [List.length_drop, List.length_take]; rfl)) ?_; (with_reducible refine (isohyetlaw02_fit.calls k  true _ rfl A3.out).mono ?_); (try clear A3); rintro e w11 ⟨rfl, hb⟩; refine ⟨_, rfl, ?_⟩; have n0_ := Aside0.mk (Kd.V_below (gV HO0_1.out) hb); have n1_ := Aside0.mk (Kd.V_below (gV HO1_1.out) hb); have n2_ := Aside0.mk (blk_below (gK BK553.out) hb); have n3_ := Aside0.mk (blk_below (gK BK554.out) hb); have n4_ := Aside0.mk (below_step (by repeat (first | (with_reducible first | exact HB.out | apply bA | apply bN | apply bD | refine bS ?_ GE553.out | refine bS ?_ GE554.out) | exact HB.out)) hb); clear HO0_1; clear HO1_1; clear BK553; clear BK554; clear HB; have HO0_1 := n0_; have HO1_1 := n1_; have BK553 := n2_; have BK554 := n3_; have HB := n4_; clear n0_ n1_ n2_ n3_ n4_; (try clear hb); (try clear hb2); (try clear hk); (try clear hi); have hnb12 := NB553_554.out; have hnc12 := NB554_553.out; have hcz13_0 : w11.cell? ⟨gb553, 0, none⟩ = some (.bool a0_0) := (blk_cell BK553.out 0).trans rfl; have hcz13_1 : w11.cell? ⟨gb553, 1, none⟩ = some (.slice A0_1 l0_1.length c0_1) := (blk_cell BK553.out 1).trans rfl; have hfz13_0 := blk_frozen BK553.out 0; have hfz13_1 := blk_frozen BK553.out 1; have hcz14_0 : w11.cell? ⟨gb554, 0, none⟩ = some (.bool a1_0) := (blk_cell BK554.out 0).trans rfl; have hcz14_1 : w11.cell? ⟨gb554, 1, none⟩ = some (.slice A1_1 l1_1.length c1_1) := (blk_cell BK554.out 1).trans rfl; have hfz14_0 := blk_frozen BK554.out 0; have hfz14_1 := blk_frozen BK554.out 1) | ((with_reducible refine gate_dst (N := 11) rfl ?_); refine Kd.N_lit k25 _ 25 ?hg (N' := 11) ?hd (xs := ([(⟨a0_0, l0_1⟩ : S25), (⟨a1_0, l1_1⟩ : S25)] : List (S25))) (inner := [.bool a0_0, .slice A0_1 l0_1.length c0_1, .bool a1_0, .slice A1_1 l1_1.length c1_1]) (ok := (fun k_ => ((P0_1_ k_ ∨ P1_1_ k_) ∨ w.heap.size ≤ k_) ∧ k_ ≠ gb553 ∧ k_ ≠ gb554)) (okp := (fun k_ => ((P0_1_ k_ ∨ P1_1_ k_) ∨ w.heap.size ≤ k_) ∧ k_ ≠ gb553 ∧ k_ ≠ gb554)) ?hr ?hp (fun _ hk => hk) ((show ∀ k_, w11.heap.size ≤ k_ → (fun k_ => ((P0_1_ k_ ∨ P1_1_ k_) ∨ w.heap.size ≤ k_) ∧ k_ ≠ gb553 ∧ k_ ≠ gb554) k_ from fun k_ hk => ⟨(.inr (Nat.le_trans (below_size (by repeat (first | (with_reducible first | exact HB.out | apply bA | apply bN | apply bD | refine bS ?_ GE553.out | refine bS ?_ GE554.out) | exact HB.out))) hk)), Kd.freshB (g := gb553) (o := .cells #[.bool a0_0, .slice A0_1 l0_1.length c0_1] 25 (0, 0)) (gK BK553.out) k_ hk, Kd.freshB (g := gb554) (o := .cells #[.bool a1_0, .slice A1_1 l1_1.length c1_1] 25 (0, 0)) (gK BK554.out) k_ hk⟩) _ (Nat.le_refl _)) (Below.refl _ _) (Nat.le_refl _) (by simp) ?_; (case hd => rfl); (case hg => rfl); (case hr => first | (go_simp; done) | (go_simp; rfl)); (case hp => exact (Reps.c2 (show Kd.FK k25 _ _ (⟨a0_0, l0_1⟩ : S25) [.bool a0_0, .slice A0_1 l0_1.length c0_1] from (k25_mkF _ _ (⟨a0_0, l0_1⟩ : S25) (Kd.V_reads' (Kd.V_mono (ok' := (fun k_ => ((P0_1_ k_ ∨ P1_1_ k_) ∨ w.heap.size ≤ k_) ∧ k_ ≠ gb553 ∧ k_ ≠ gb554)) (HO0_1.out) (fun k_ hk => ⟨hk.1.1, ⟨hk.1.2, hk.2⟩⟩))).2.1 (Kd.V_F (Kd.V_mono (ok' := (fun k_ => ((P0_1_ k_ ∨ P1_1_ k_) ∨ w.heap.size ≤ k_) ∧ k_ ≠ gb553 ∧ k_ ≠ gb554)) (HO0_1.out) (fun k_ hk => ⟨hk.1.1, ⟨hk.1.2, hk.2⟩⟩))))) (Reps.c2 (show Kd.FK k25 _ _ (⟨a1_0, l1_1⟩ : S25) [.bool a1_0, .slice A1_1 l1_1.length c1_1] from (k25_mkF _ _ (⟨a1_0, l1_1⟩ : S25) (Kd.V_reads' (Kd.V_mono (ok' := (fun k_ => ((P0_1_ k_ ∨ P1_1_ k_) ∨ w.heap.size ≤ k_) ∧ k_ ≠ gb553 ∧ k_ ≠ gb554)) (HO1_1.out) (fun k_ hk => ⟨hk.1.1, ⟨hk.1.2, hk.2⟩⟩))).2.1 (Kd.V_F (Kd.V_mono (ok' := (fun k_ => ((P0_1_ k_ ∨ P1_1_ k_) ∨ w.heap.size ≤ k_) ∧ k_ ≠ gb553 ∧ k_ ≠ gb554)) (HO1_1.out) (fun k_ hk => ⟨hk.1.1, ⟨hk.1.2, hk.2⟩⟩))))) (Reps.none _ _)))); intro v557 w15 ho16 hb hg_ hnew_; clear hg_ hnew_; (first | rw [← Ny556.out] at ho16 | (simp only [Int.reduceToNat] at ho16; rw [← Ny556.out] at ho16)); have n0_ := Aside0.mk (Kd.V_elder' (gV HO0_1.out) (Kd.N_base ho16) hb); have n1_ := Aside0.mk (Kd.V_elder' (gV HO1_1.out) (Kd.N_base ho16) hb); have n2_ := Aside0.mk (Kd.N_lower ho16 (below_size (by repeat (first | (with_reducible first | exact HB.out | apply bA | apply bN | apply bD | refine bS ?_ GE553.out | refine bS ?_ GE554.out) | exact HB.out)))); have n3_ := Aside0.mk (blk_below (gK BK553.out) hb); have n4_ := Aside0.mk (blk_below (gK BK554.out) hb); have n5_ := Aside0.mk (below_step (by repeat (first | (with_reducible first | exact HB.out | apply bA | apply bN | apply bD | refine bS ?_ GE553.out | refine bS ?_ GE554.out) | exact HB.out)) hb); clear HO0_1; clear HO1_1; clear BK553; clear BK554; clear HB; have HO0_1 := n0_; have HO1_1 := n1_; have HO558 := n2_; have BK553 := n3_; have BK554 := n4_; have HB := n5_; clear n0_ n1_ n2_ n3_ n4_ n5_; clear hb ho16; obtain ⟨Ao17, co17, eo17⟩ := Kd.N_slice HO558.out; subst eo17) | ((with_reducible refine gate_callee (f := 10) rfl ?_); refine goesL_ (some 12) rfl rfl Try.func10 (by kernel_rfl) rfl #[.int .i64 12, .slice Ao17 y556.length co17] rfl (by (try simp only [List.map_toArray, List.map_cons, List.map_nil]); first | done | rfl | (simp only [List.length_drop, List.length_take]; rfl)) ?_; (with_reducible refine (isohyetlaw02_short.calls k 12 _ _ y556 true _ ?side1 ?side2 A5.out).mono ?_); (case side1 => repeat (first | exact (Kd.N_reads' HO558.out).2.2 | (with_reducible refine Kd.C_alloc ?_ _) | (with_reducible refine Kd.C_drewN ?_ _) | (with_reducible refine Kd.C_drew ?_))); (case side2 => exact (Kd.N_reads' HO558.out).2.1); (try clear A5); rintro e w18 ⟨rfl, hb⟩; refine ⟨_, rfl, ?_⟩; have n0_ := Aside0.mk (Kd.V_below (gV HO0_1.out) hb); have n1_ := Aside0.mk (Kd.V_below (gV HO1_1.out) hb); have n2_ := Aside0.mk (Kd.N_below (gN HO558.out) hb); have n3_ := Aside0.mk (blk_below (gK BK553.out) hb); have n4_ := Aside0.mk (blk_below (gK BK554.out) hb); have n5_ := Aside0.mk (below_step (by repeat (first | (with_reducible first | exact HB.out | apply bA | apply bN | apply bD | refine bS ?_ GE553.out | refine bS ?_ GE554.out) | exact HB.out)) hb); clear HO0_1; clear HO1_1; clear HO558; clear BK553; clear BK554; clear HB; have HO0_1 := n0_; have HO1_1 := n1_; have HO558 := n2_; have BK553 := n3_; have BK554 := n4_; have HB := n5_; clear n0_ n1_ n2_ n3_ n4_ n5_; (try clear hb); (try clear hb2); (try clear hk); (try clear hi); have hcz19_0 : w18.cell? ⟨gb553, 0, none⟩ = some (.bool a0_0) := (blk_cell BK553.out 0).trans rfl; have hcz19_1 : w18.cell? ⟨gb553, 1, none⟩ = some (.slice A0_1 l0_1.length c0_1) := (blk_cell BK553.out 1).trans rfl; have hfz19_0 := blk_frozen BK553.out 0; have hfz19_1 := blk_frozen BK553.out 1) | ((with_reducible refine gate_callee (f := 22) rfl ?_); refine goesL_ (some 15) rfl rfl Try.func22 (by kernel_rfl) rfl #[.agg #[.bool a0_0, .slice A0_1 l0_1.length c0_1]] rfl (by (try simp only [List.map_toArray, List.map_cons, List.map_nil]); first | done | rfl | (simp only [List.length_drop, List.length_take]; rfl)) ?_; (with_reducible refine (num_Neg.calls k a0_0 (fun k_ => (((((P0_1_ k_ ∨ P1_1_ k_) ∨ w.heap.size ≤ k_) ∧ k_ ≠ gb553) ∧ k_ ≠ gb554) ∧ some k_ ≠ (.slice Ao17 y556.length co17 : Value).ownBlock)) _ _ l0_1 t560 t561 _ ?side1 A7.out).mono ?_); (case side1 => exact HO0_1.out); (try clear A7); rintro e w20 ⟨v562, rfl, ho0, hb⟩; refine ⟨_, rfl, ?_⟩; have n0_ := Aside0.mk (Kd.V_below (gV HO0_1.out) hb); have n1_ := Aside0.mk (Kd.V_below (gV HO1_1.out) hb); have n2_ := Aside0.mk (Kd.N_below (gN HO558.out) hb); have n3_ := Aside0.mk (Kd.V_lower (Kd.V_mono (ok' := fun k_ => ((P0_1_ k_ ∨ P1_1_ k_) ∨ w.heap.size ≤ k_) ∧ some k_ ≠ (.slice Ao17 y556.length co17 : Value).ownBlock ∧ k_ ≠ gb553 ∧ k_ ≠ gb554) ho0 (fun k_ hk_ => ⟨Or.elim hk_ (fun hs_ => hs_.1.1.1) (fun hn_ => (.inr (Nat.le_trans (below_size (by repeat (first | (with_reducible first | exact HB.out | apply bA | apply bN | apply bD | refine bS ?_ GE553.out | refine bS ?_ GE554.out) | exact HB.out))) hn_))), Or.elim hk_ (fun hs_ => hs_.2) (fun hn_ => (Kd.fresh' (Kd.N_lt (gN HO558.out)) k_ hn_)), Or.elim hk_ (fun hs_ => hs_.1.1.2) (fun hn_ => (Kd.freshB (g := gb553) (o := .cells #[.bool a0_0, .slice A0_1 l0_1.length c0_1] 25 (0, 0)) (gK BK553.out) k_ hn_)), Or.elim hk_ (fun hs_ => hs_.1.2) (fun hn_ => (Kd.freshB (g := gb554) (o := .cells #[.bool a1_0, .slice A1_1 l1_1.length c1_1] 25 (0, 0)) (gK BK554.out) k_ hn_))⟩)) (below_size (by repeat (first | (with_reducible first | exact HB.out | apply bA | apply bN | apply bD | refine bS ?_ GE553.out | refine bS ?_ GE554.out) | exact HB.out)))); have n4_ := Aside0.mk (blk_below (gK BK553.out) hb); have n5_ := Aside0.mk (blk_below (gK BK554.out) hb); have n6_ := Aside0.mk (below_step (by repeat (first | (with_reducible first | exact HB.out | apply bA | apply bN | apply bD | refine bS ?_ GE553.out | refine bS ?_ GE554.out) | exact HB.out)) hb); clear HO0_1; clear HO1_1; clear HO558; clear BK553; clear BK554; clear HB; have HO0_1 := n0_; have HO1_1 := n1_; have HO558 := n2_; have HO563 := n3_; have BK553 := n4_; have BK554 := n5_; have HB := n6_; clear n0_ n1_ n2_ n3_ n4_ n5_ n6_; (try clear hb); (try clear hb2); (try clear hk); (try clear hi); (try clear ho0)) | ((with_reducible refine gate_dst (N := 5) rfl ?_); refine box_event ?hg (N := 5) ?hd (cs := #[.bool false, .slice none 0 0]) (t := 25) ?hr ?_; (case hd => rfl); (case hg => rfl); (case hr => first | (go_simp; done) | (go_simp; rfl)); intro gb564 hg w21 hbox hb; have n0_ := Aside0.mk (Kd.V_below (Kd.V_elderB (gV HO0_1.out) gb564 (Nat.le_of_eq hg.symm)) hb); have n1_ := Aside0.mk (Kd.V_below (Kd.V_elderB (gV HO1_1.out) gb564 (Nat.le_of_eq hg.symm)) hb); have n2_ := Aside0.mk (Kd.N_below (Kd.N_elderB (gN HO558.out) gb564 (Nat.le_of_eq hg.symm)) hb); have n3_ := Aside0.mk (Kd.V_below (Kd.V_elderB (gV HO563.out) gb564 (Nat.le_of_eq hg.symm)) hb); have n4_ := Aside0.mk (blk_below (gK BK553.out) hb); have n5_ := Aside0.mk (blk_below (gK BK554.out) hb); have n6_ := Aside0.mk (below_step (by repeat (first | (with_reducible first | exact HB.out | apply bA | apply bN | apply bD | refine bS ?_ GE553.out | refine bS ?_ GE554.out) | exact HB.out)) hb); have n7_ := Aside0.mk (hbox); have n8_ := Aside0.mk ((by rw [hg]; exact (below_size (by repeat (first | (with_reducible first | exact HB.out | apply bA | apply bN | apply bD | refine bS ?_ GE553.out | refine bS ?_ GE554.out) | exact HB.out))) : w.heap.size ≤ gb564)); have n9_ := Aside0.mk ((by rw [hg]; exact (below_size (by repeat (first | (with_reducible first | exact HB.out | apply bA | apply bN | apply bD | refine bS ?_ GE553.out | refine bS ?_ GE554.out) | exact HB.out))) : w.heap.size ≤ gb564)); have n10_ := Aside0.mk ((by rw [hg]; exact Nat.ne_of_lt (blk_lt (g := gb553) (o := .cells #[.bool a0_0, .slice A0_1 l0_1.length c0_1] 25 (0, 0)) (gK BK553.out)) : gb553 ≠ gb564)); have n11_ := Aside0.mk ((by rw [hg]; exact Nat.ne_of_gt (blk_lt (g := gb553) (o := .cells #[.bool a0_0, .slice A0_1 l0_1.length c0_1] 25 (0, 0)) (gK BK553.out)) : gb564 ≠ gb553)); have n12_ := Aside0.mk ((by rw [hg]; exact Nat.ne_of_lt (blk_lt (g := gb554) (o := .cells #[.bool a1_0, .slice A1_1 l1_1.length c1_1] 25 (0, 0)) (gK BK554.out)) : gb554 ≠ gb564)); have n13_ := Aside0.mk ((by rw [hg]; exact Nat.ne_of_gt (blk_lt (g := gb554) (o := .cells #[.bool a1_0, .slice A1_1 l1_1.length c1_1] 25 (0, 0)) (gK BK554.out)) : gb564 ≠ gb554)); clear HO0_1; clear HO1_1; clear HO558; clear HO563; clear BK553; clear BK554; clear HB; have HO0_1 := n0_; have HO1_1 := n1_; have HO558 := n2_; have HO563 := n3_; have BK553 := n4_; have BK554 := n5_; have HB := n6_; have BK564 := n7_; have GW564 := n8_; have GE564 := n9_; have NB553_564 := n10_; have NB564_553 := n11_; have NB554_564 := n12_; have NB564_554 := n13_; clear n0_ n1_ n2_ n3_ n4_ n5_ n6_ n7_ n8_ n9_ n10_ n11_ n12_ n13_; clear hb hbox hg; have hnb22 := NB564_553.out; have hnc22 := NB553_564.out; have hnb23 := NB564_554.out; have hnc23 := NB554_564.out; have hcz24_0 : w21.cell? ⟨gb564, 0, none⟩ = some (.bool false) := (blk_cell BK564.out 0).trans rfl; have hcz24_1 : w21.cell? ⟨gb564, 1, none⟩ = some (.slice none 0 0) := (blk_cell BK564.out 1).trans rfl; have hfz24_0 := blk_frozen BK564.out 0; have hfz24_1 := blk_frozen BK564.out 1; obtain ⟨Ao25, co25, eo25⟩ := Kd.V_slice HO563.out; subst eo25))
   (try simp only [Act.put, List.setIfInBounds_toArray, List.set_cons_zero, List.set_cons_succ])
   go_cut [40] (fun v40 wc => ∃ (kq : Nat) (x40_7 : Bool), v40 = .bool x40_7 ∧ Aside0 (isohyetlaw02_NumSigns.j0 kq x40_7 a0_0 l0_1 a1_0 l1_1 t560 t561 = some r) ∧ Aside0 (kq ≤ k) ∧ Aside0 (Kd.V (Kd.int .u64) 54 wc w.heap.size (fun k_ => ((P0_1_ k_ ∨ P1_1_ k_) ∨ w.heap.size ≤ k_) ∧ k_ ≠ gb553 ∧ k_ ≠ gb554 ∧ k_ ≠ gb564) (.slice A0_1 l0_1.length c0_1) l0_1) ∧ Aside0 (Kd.V (Kd.int .u64) 54 wc w.heap.size (fun k_ => ((P0_1_ k_ ∨ P1_1_ k_) ∨ w.heap.size ≤ k_) ∧ k_ ≠ gb553 ∧ k_ ≠ gb554 ∧ k_ ≠ gb564) (.slice A1_1 l1_1.length c1_1) l1_1) ∧ Aside0 (Kd.V (Kd.int .u64) 54 wc w.heap.size (fun k_ => ((P0_1_ k_ ∨ P1_1_ k_) ∨ w.heap.size ≤ k_) ∧ k_ ≠ gb553 ∧ k_ ≠ gb554 ∧ k_ ≠ gb564) (.slice Ao25 t561.length co25) t561) ∧ Aside0 (wc.heap[gb553]? = some (.cells #[.bool a0_0, (.slice A0_1 l0_1.length c0_1)] 25 (0, 0))) ∧ Aside0 (wc.heap[gb554]? = some (.cells #[.bool a1_0, (.slice A1_1 l1_1.length c1_1)] 25 (0, 0))) ∧ Aside0 (wc.heap[gb564]? = some (.cells #[.bool t560, (.slice Ao25 t561.length co25)] 25 (0, 0))) ∧ Aside0 (Below w.heap.size w wc))
   case first =>
    have H := HC8.out
    clear HC8
    replace H := Option.bind_eq_some_iff.mp H
    obtain ⟨t565, A260, H⟩ := H
    replace H : (if t565 = true then ((num_Neg.f k t560 t561).bind fun bt566 => ((num_Cmp.f k bt566.1 bt566.2 a0_0 l0_1).bind fun t570 => (if t570 = 0 then ((num_Add.f k a0_0 l0_1 t560 t561).bind fun bt571 => ((num_Sign.f k bt571.1 bt571.2).bind fun t575 => (if t575 = 0 then ((num_Sign.f k t560 t561).bind fun t576 => ((num_Sign.f k a0_0 l0_1).bind fun t577 => (isohyetlaw02_NumSigns.j0 k (t576 != (wrap64 (-t577))) a0_0 l0_1 a1_0 l1_1 t560 t561))) else (isohyetlaw02_NumSigns.j0 k true a0_0 l0_1 a1_0 l1_1 t560 t561)))) else (isohyetlaw02_NumSigns.j0 k true a0_0 l0_1 a1_0 l1_1 t560 t561)))) else (isohyetlaw02_NumSigns.j0 k true a0_0 l0_1 a1_0 l1_1 t560 t561)) = some r := H
    have A26 := Aside0.mk A260
    clear A260
    by_cases c27 : t565 = true
    ·subst c27
     have H1 : ((num_Neg.f k t560 t561).bind fun bt566 => ((num_Cmp.f k bt566.1 bt566.2 a0_0 l0_1).bind fun t570 => (if t570 = 0 then ((num_Add.f k a0_0 l0_1 t560 t561).bind fun bt571 => ((num_Sign.f k bt571.1 bt571.2).bind fun t575 => (if t575 = 0 then ((num_Sign.f k t560 t561).bind fun t576 => ((num_Sign.f k a0_0 l0_1).bind fun t577 => (isohyetlaw02_NumSigns.j0 k (t576 != (wrap64 (-t577))) a0_0 l0_1 a1_0 l1_1 t560 t561))) else (isohyetlaw02_NumSigns.j0 k true a0_0 l0_1 a1_0 l1_1 t560 t561)))) else (isohyetlaw02_NumSigns.j0 k true a0_0 l0_1 a1_0 l1_1 t560 t561)))) = some r := by rw [if_pos rfl] at H; exact H
     clear H
     have H := H1
     clear H1
     replace H := Option.bind_eq_some_iff.mp H
     obtain ⟨⟨t566, t567⟩, A280, H⟩ := H
     replace H : ((num_Cmp.f k t566 t567 a0_0 l0_1).bind fun t570 => (if t570 = 0 then ((num_Add.f k a0_0 l0_1 t560 t561).bind fun bt571 => ((num_Sign.f k bt571.1 bt571.2).bind fun t575 => (if t575 = 0 then ((num_Sign.f k t560 t561).bind fun t576 => ((num_Sign.f k a0_0 l0_1).bind fun t577 => (isohyetlaw02_NumSigns.j0 k (t576 != (wrap64 (-t577))) a0_0 l0_1 a1_0 l1_1 t560 t561))) else (isohyetlaw02_NumSigns.j0 k true a0_0 l0_1 a1_0 l1_1 t560 t561)))) else (isohyetlaw02_NumSigns.j0 k true a0_0 l0_1 a1_0 l1_1 t560 t561))) = some r := H
     have A28 := Aside0.mk A280
     clear A280
     replace H := Option.bind_eq_some_iff.mp H
     obtain ⟨t570, A290, H⟩ := H
     replace H : (if t570 = 0 then ((num_Add.f k a0_0 l0_1 t560 t561).bind fun bt571 => ((num_Sign.f k bt571.1 bt571.2).bind fun t575 => (if t575 = 0 then ((num_Sign.f k t560 t561).bind fun t576 => ((num_Sign.f k a0_0 l0_1).bind fun t577 => (isohyetlaw02_NumSigns.j0 k (t576 != (wrap64 (-t577))) a0_0 l0_1 a1_0 l1_1 t560 t561))) else (isohyetlaw02_NumSigns.j0 k true a0_0 l0_1 a1_0 l1_1 t560 t561)))) else (isohyetlaw02_NumSigns.j0 k true a0_0 l0_1 a1_0 l1_1 t560 t561)) = some r := H
     have A29 := Aside0.mk A290
     clear A290
     by_cases c30 : t570 = 0
     ·rw [if_pos c30] at H
      have c30b0 : (t570 == 0) = true := beq_iff_eq.mpr c30
      have c30b1 : (t570 != 0) = false := bne_eq_false_iff_eq.mpr c30
      clear c30
      (first | rw [c30b0] | rw [c30b1] | (simp only [i64_w, i32_w]; rw [c30b0]) | skip)
      replace H := Option.bind_eq_some_iff.mp H
      obtain ⟨⟨t571, t572⟩, A310, H⟩ := H
      replace H : ((num_Sign.f k t571 t572).bind fun t575 => (if t575 = 0 then ((num_Sign.f k t560 t561).bind fun t576 => ((num_Sign.f k a0_0 l0_1).bind fun t577 => (isohyetlaw02_NumSigns.j0 k (t576 != (wrap64 (-t577))) a0_0 l0_1 a1_0 l1_1 t560 t561))) else (isohyetlaw02_NumSigns.j0 k true a0_0 l0_1 a1_0 l1_1 t560 t561))) = some r := H
      have A31 := Aside0.mk A310
      clear A310
      replace H := Option.bind_eq_some_iff.mp H
      obtain ⟨t575, A320, H⟩ := H
      replace H : (if t575 = 0 then ((num_Sign.f k t560 t561).bind fun t576 => ((num_Sign.f k a0_0 l0_1).bind fun t577 => (isohyetlaw02_NumSigns.j0 k (t576 != (wrap64 (-t577))) a0_0 l0_1 a1_0 l1_1 t560 t561))) else (isohyetlaw02_NumSigns.j0 k true a0_0 l0_1 a1_0 l1_1 t560 t561)) = some r := H
      have A32 := Aside0.mk A320
      clear A320
      by_cases c33 : t575 = 0
      ·rw [if_pos c33] at H
       have c33b0 : (t575 == 0) = true := beq_iff_eq.mpr c33
       have c33b1 : (t575 != 0) = false := bne_eq_false_iff_eq.mpr c33
       clear c33
       replace H := Option.bind_eq_some_iff.mp H
       obtain ⟨t576, A340, H⟩ := H
       replace H : ((num_Sign.f k a0_0 l0_1).bind fun t577 => (isohyetlaw02_NumSigns.j0 k (t576 != (wrap64 (-t577))) a0_0 l0_1 a1_0 l1_1 t560 t561)) = some r := H
       have A34 := Aside0.mk A340
       clear A340
       replace H := Option.bind_eq_some_iff.mp H
       obtain ⟨t577, A350, H⟩ := H
       replace H : (isohyetlaw02_NumSigns.j0 k (t576 != (wrap64 (-t577))) a0_0 l0_1 a1_0 l1_1 t560 t561) = some r := H
       have A35 := Aside0.mk A350
       clear A350
       have H' := Aside0.mk H
       clear H
       try go_wp2
       have n0_ : Aside0 (Kd.V (Kd.int .u64) 54 ((w21.setCell ⟨gb564, 0, none⟩ (.bool t560)).setCell ⟨gb564, 1, none⟩ (.slice Ao25 t561.length co25)) w.heap.size (fun k_ => ((P0_1_ k_ ∨ P1_1_ k_) ∨ w.heap.size ≤ k_) ∧ some k_ ≠ (.slice Ao17 y556.length co17 : Value).ownBlock ∧ k_ ≠ gb553 ∧ k_ ≠ gb554 ∧ k_ ≠ gb564) (.slice A0_1 l0_1.length c0_1) l0_1) := ⟨by (with_reducible repeat (first | apply Kd.V_alloc | apply Kd.V_drewN | apply Kd.V_drew)); exact Kd.V_mono (Kd.V_far (p := ⟨gb564, 1, none⟩) (Kd.V_far (p := ⟨gb564, 0, none⟩) (Kd.V_mono HO0_1.out (fun k_ hk => (⟨hk, hk.2⟩ : _ ∧ k_ ≠ gb564))) (fun _ hk => hk.2) (.bool t560)) (fun _ hk => hk.2) (.slice Ao25 t561.length co25)) (fun _ hk => ⟨hk.1.1.1.1.1, ⟨hk.1.1.2, ⟨hk.1.1.1.1.2, ⟨hk.1.1.1.2, hk.1.2⟩⟩⟩⟩)⟩
       have n1_ : Aside0 (Kd.V (Kd.int .u64) 54 ((w21.setCell ⟨gb564, 0, none⟩ (.bool t560)).setCell ⟨gb564, 1, none⟩ (.slice Ao25 t561.length co25)) w.heap.size (fun k_ => ((P0_1_ k_ ∨ P1_1_ k_) ∨ w.heap.size ≤ k_) ∧ some k_ ≠ (.slice Ao17 y556.length co17 : Value).ownBlock ∧ k_ ≠ gb553 ∧ k_ ≠ gb554 ∧ k_ ≠ gb564) (.slice A1_1 l1_1.length c1_1) l1_1) := ⟨by (with_reducible repeat (first | apply Kd.V_alloc | apply Kd.V_drewN | apply Kd.V_drew)); exact Kd.V_mono (Kd.V_far (p := ⟨gb564, 1, none⟩) (Kd.V_far (p := ⟨gb564, 0, none⟩) (Kd.V_mono HO1_1.out (fun k_ hk => (⟨hk, hk.2⟩ : _ ∧ k_ ≠ gb564))) (fun _ hk => hk.2) (.bool t560)) (fun _ hk => hk.2) (.slice Ao25 t561.length co25)) (fun _ hk => ⟨hk.1.1.1.1.1, ⟨hk.1.1.2, ⟨hk.1.1.1.1.2, ⟨hk.1.1.1.2, hk.1.2⟩⟩⟩⟩)⟩
       have n2_ : Aside0 (Kd.N k25 25 ((w21.setCell ⟨gb564, 0, none⟩ (.bool t560)).setCell ⟨gb564, 1, none⟩ (.slice Ao25 t561.length co25)) w.heap.size (fun k_ => ((P0_1_ k_ ∨ P1_1_ k_) ∨ w.heap.size ≤ k_) ∧ k_ ≠ gb553 ∧ k_ ≠ gb554 ∧ k_ ≠ gb564) (.slice Ao17 y556.length co17) y556) := ⟨by (with_reducible repeat (first | apply Kd.N_alloc | apply Kd.N_drewN | apply Kd.N_drew)); exact Kd.N_mono (Kd.N_far (p := ⟨gb564, 1, none⟩) (Kd.N_far (p := ⟨gb564, 0, none⟩) (Kd.N_mono HO558.out (fun k_ hk => (⟨hk, hk.2⟩ : _ ∧ k_ ≠ gb564))) (fun _ hk => hk.2) (.bool t560)) (fun _ hk => hk.2) (.slice Ao25 t561.length co25)) (fun _ hk => ⟨hk.1.1.1, ⟨hk.1.1.2.1, ⟨hk.1.1.2.2, hk.1.2⟩⟩⟩)⟩
       have n3_ : Aside0 (Kd.V (Kd.int .u64) 54 ((w21.setCell ⟨gb564, 0, none⟩ (.bool t560)).setCell ⟨gb564, 1, none⟩ (.slice Ao25 t561.length co25)) w.heap.size (fun k_ => ((P0_1_ k_ ∨ P1_1_ k_) ∨ w.heap.size ≤ k_) ∧ some k_ ≠ (.slice Ao17 y556.length co17 : Value).ownBlock ∧ k_ ≠ gb553 ∧ k_ ≠ gb554 ∧ k_ ≠ gb564) (.slice Ao25 t561.length co25) t561) := ⟨by (with_reducible repeat (first | apply Kd.V_alloc | apply Kd.V_drewN | apply Kd.V_drew)); exact Kd.V_mono (Kd.V_far (p := ⟨gb564, 1, none⟩) (Kd.V_far (p := ⟨gb564, 0, none⟩) (Kd.V_mono HO563.out (fun k_ hk => (⟨hk, hk.2⟩ : _ ∧ k_ ≠ gb564))) (fun _ hk => hk.2) (.bool t560)) (fun _ hk => hk.2) (.slice Ao25 t561.length co25)) (fun _ hk => ⟨hk.1.1.1, ⟨hk.1.1.2.1, ⟨hk.1.1.2.2.1, ⟨hk.1.1.2.2.2, hk.1.2⟩⟩⟩⟩)⟩
       have n4_ : Aside0 (((w21.setCell ⟨gb564, 0, none⟩ (.bool t560)).setCell ⟨gb564, 1, none⟩ (.slice Ao25 t561.length co25)).heap[gb553]? = some (.cells #[.bool a0_0, .slice A0_1 l0_1.length c0_1] 25 (0, 0))) := ⟨by (with_reducible repeat (first | refine blk_drewN ?_ _ | refine blk_drew ?_ | refine blk_alloc ?_ _)); refine blk_far ?_ NB553_564.out _; (with_reducible repeat (first | refine blk_drewN ?_ _ | refine blk_drew ?_ | refine blk_alloc ?_ _)); refine blk_far ?_ NB553_564.out _; (with_reducible repeat (first | refine blk_drewN ?_ _ | refine blk_drew ?_ | refine blk_alloc ?_ _)); exact BK553.out⟩
       have n5_ : Aside0 (((w21.setCell ⟨gb564, 0, none⟩ (.bool t560)).setCell ⟨gb564, 1, none⟩ (.slice Ao25 t561.length co25)).heap[gb554]? = some (.cells #[.bool a1_0, .slice A1_1 l1_1.length c1_1] 25 (0, 0))) := ⟨by (with_reducible repeat (first | refine blk_drewN ?_ _ | refine blk_drew ?_ | refine blk_alloc ?_ _)); refine blk_far ?_ NB554_564.out _; (with_reducible repeat (first | refine blk_drewN ?_ _ | refine blk_drew ?_ | refine blk_alloc ?_ _)); refine blk_far ?_ NB554_564.out _; (with_reducible repeat (first | refine blk_drewN ?_ _ | refine blk_drew ?_ | refine blk_alloc ?_ _)); exact BK554.out⟩
       have n6_ : Aside0 (((w21.setCell ⟨gb564, 0, none⟩ (.bool t560)).setCell ⟨gb564, 1, none⟩ (.slice Ao25 t561.length co25)).heap[gb564]? = some (.cells #[.bool t560, .slice Ao25 t561.length co25] 25 (0, 0))) := ⟨by (with_reducible repeat (first | refine blk_drewN ?_ _ | refine blk_drew ?_ | refine blk_alloc ?_ _)); refine blk_put (cs := #[.bool t560, .slice none 0 0]) ?_ 1 _ rfl; (with_reducible repeat (first | refine blk_drewN ?_ _ | refine blk_drew ?_ | refine blk_alloc ?_ _)); refine blk_put (cs := #[.bool false, .slice none 0 0]) ?_ 0 _ rfl; (with_reducible repeat (first | refine blk_drewN ?_ _ | refine blk_drew ?_ | refine blk_alloc ?_ _)); exact BK564.out⟩
       have n7_ : Aside0 (Below w.heap.size w ((w21.setCell ⟨gb564, 0, none⟩ (.bool t560)).setCell ⟨gb564, 1, none⟩ (.slice Ao25 t561.length co25))) := ⟨by repeat (first | (with_reducible first | exact HB.out | apply bA | apply bN | apply bD | refine bS ?_ GE553.out | refine bS ?_ GE554.out | refine bS ?_ GE564.out) | exact HB.out)⟩
       (try clear HO0_1)
       (try clear HO1_1)
       (try clear HO558)
       (try clear HO563)
       (try clear BK553)
       (try clear BK554)
       (try clear BK564)
       (try clear HB)
       generalize ((w21.setCell ⟨gb564, 0, none⟩ (.bool t560)).setCell ⟨gb564, 1, none⟩ (.slice Ao25 t561.length co25)) = w36 at n0_ n1_ n2_ n3_ n4_ n5_ n6_ n7_ ⊢
       have HO0_1 := n0_
       have HO1_1 := n1_
       have HO558 := n2_
       have HO563 := n3_
       have BK553 := n4_
       have BK554 := n5_
       have BK564 := n6_
       have HB := n7_
       clear n0_ n1_ n2_ n3_ n4_ n5_ n6_ n7_
       have n0_ := Aside0.mk (Kd.V_drew HO0_1.out)
       have n1_ := Aside0.mk (Kd.V_drew HO1_1.out)
       have n2_ := Aside0.mk (Kd.N_drew HO558.out)
       have n3_ := Aside0.mk (Kd.V_drew HO563.out)
       have n4_ := Aside0.mk (blk_drew BK553.out)
       have n5_ := Aside0.mk (blk_drew BK554.out)
       have n6_ := Aside0.mk (blk_drew BK564.out)
       have n7_ := Aside0.mk (bD HB.out)
       clear HO0_1
       clear HO1_1
       clear HO558
       clear HO563
       clear BK553
       clear BK554
       clear BK564
       clear HB
       have HO0_1 := n0_
       have HO1_1 := n1_
       have HO558 := n2_
       have HO563 := n3_
       have BK553 := n4_
       have BK554 := n5_
       have BK564 := n6_
       have HB := n7_
       clear n0_ n1_ n2_ n3_ n4_ n5_ n6_ n7_
       refine start_ (n := 25) (S := fun w' => w'.cell? ⟨gb564, 0, none⟩ = some (.bool t560) ∧ w'.cell? ⟨gb564, 1, none⟩ = some (.slice Ao25 t561.length co25) ∧ w'.cell? ⟨gb553, 0, none⟩ = some (.bool a0_0) ∧ w'.cell? ⟨gb553, 1, none⟩ = some (.slice A0_1 l0_1.length c0_1)) (ds := []) #[false, false, false, false, false, false, false, false, false, false, false, false, false, false, false, false, false, false, false, false, false, false, false, false, false] (by kernel_rfl) rfl rfl ⟨(blk_cell BK564.out 0).trans rfl, (blk_cell BK564.out 1).trans rfl, (blk_cell BK553.out 0).trans rfl, (blk_cell BK553.out 1).trans rfl⟩ (fun hHeld => ?_); refine with_tabW isohyetlaw02_NumSigns.tab6 isohyetlaw02_NumSigns.bits6 (fun HT_ HW_ => ?_)
       generalize w36.drew = w37 at HO0_1 HO1_1 HO558 HO563 BK553 BK554 BK564 HB hHeld ⊢
       refine take_ (i := 0) (N := some 16) (v := ?_) (a' := ?_) #[true, false, false, false, false, false, false, false, false, false, false, false, false, false, false, false, false, false, false, false, false, false, false, false, false] rfl rfl (take_ofW HT_.out HW_.out (by kernel_rfl)) (fun _ _ _ h => h) (Or.inl ⟨by rfl, ?_⟩) hHeld ?_ ?_
       rotate_left
       ·rintro w' ⟨s0, s1, s2, s3⟩
        go_simp
        with_reducible rfl
       rotate_left
       ·simp only [Act.put, List.setIfInBounds_toArray, List.set_cons_zero, List.set_cons_succ, i64_w, i32_w]
        rfl
       refine one_ (i := 1) (N := some 17) #[true, true, false, false, false, false, false, false, false, false, false, false, false, false, false, false, false, false, false, false, false, false, false, false, false] rfl rfl (one_of HT_.out (by kernel_rfl)) (by decide) (fun K hK => ?_)
       refine goes_ Try.func13 (by kernel_rfl) rfl #[.agg #[.bool t560, .slice Ao25 t561.length co25]] (by rfl) rfl rfl (by (try simp only [List.map_toArray, List.map_cons, List.map_nil]); first | done | rfl | (simp only [List.length_drop, List.length_take]; rfl)) ?_
       with_reducible refine (isohyetlaw02_Right.calls t560 _ _ t561 true _ ?side1 ?side2 A26.out).mono ?_
       (case side1 => repeat (first | exact (Kd.V_reads' HO563.out).2.2 | (with_reducible refine Kd.C_alloc ?_ _) | (with_reducible refine Kd.C_drewN ?_ _) | (with_reducible refine Kd.C_drew ?_)))
       (case side2 => exact (Kd.V_reads' HO563.out).2.1)
       rintro e w38 ⟨rfl, hb⟩
       refine ⟨_, rfl, ?_⟩
       have n0_ := Aside0.mk (Kd.V_below (gV HO0_1.out) hb)
       have n1_ := Aside0.mk (Kd.V_below (gV HO1_1.out) hb)
       have n2_ := Aside0.mk (Kd.N_below (gN HO558.out) hb)
       have n3_ := Aside0.mk (Kd.V_below (gV HO563.out) hb)
       have n4_ := Aside0.mk (blk_below (gK BK553.out) hb)
       have n5_ := Aside0.mk (blk_below (gK BK554.out) hb)
       have n6_ := Aside0.mk (blk_below (gK BK564.out) hb)
       have n7_ := Aside0.mk (below_step (by repeat (first | (with_reducible first | exact HB.out | apply bA | apply bN | apply bD | refine bS ?_ GE553.out | refine bS ?_ GE554.out | refine bS ?_ GE564.out) | exact HB.out)) hb)
       clear HO0_1
       clear HO1_1
       clear HO558
       clear HO563
       clear BK553
       clear BK554
       clear BK564
       clear HB
       have HO0_1 := n0_
       have HO1_1 := n1_
       have HO558 := n2_
       have HO563 := n3_
       have BK553 := n4_
       have BK554 := n5_
       have BK564 := n6_
       have HB := n7_
       clear n0_ n1_ n2_ n3_ n4_ n5_ n6_ n7_
       (try clear hb)
       (try clear hb2)
       (try clear hk)
       (try clear hi)
       refine hK.out _ _ ⟨(blk_cell BK564.out 0).trans rfl, (blk_cell BK564.out 1).trans rfl, (blk_cell BK553.out 0).trans rfl, (blk_cell BK553.out 1).trans rfl⟩ (fun hHeld => ?_)
       clear hK K
       refine norm_ (a' := ?_) ?_ ?_
       rotate_left
       ·show Act.put _ (some 17) _ = _
        simp only [Act.put, List.setIfInBounds_toArray, List.set_cons_zero, List.set_cons_succ, i64_w, i32_w]
        rfl
       refine pure_ (i := 2) (N := some 18) (v := ?_) (a' := ?_) #[true, true, true, false, false, false, false, false, false, false, false, false, false, false, false, false, false, false, false, false, false, false, false, false, false] rfl rfl (any_of HT_.out (by kernel_rfl)) (fun _ _ _ h => h) (Or.inl ⟨by rfl, ?_⟩) ?_ ?_
       rotate_left
       ·intro w'
        go_simp
        with_reducible rfl
       rotate_left
       ·simp only [Act.put, List.setIfInBounds_toArray, List.set_cons_zero, List.set_cons_succ, i64_w, i32_w]
        rfl
       refine pure_ (i := 3) (N := some 19) (v := ?_) (a' := ?_) #[true, true, true, true, false, false, false, false, false, false, false, false, false, false, false, false, false, false, false, false, false, false, false, false, false] rfl rfl (any_of HT_.out (by kernel_rfl)) (fun _ _ _ h => h) (Or.inl ⟨by rfl, ?_⟩) ?_ ?_
       rotate_left
       ·intro w'
        go_simp
        with_reducible rfl
       rotate_left
       ·simp only [Act.put, List.setIfInBounds_toArray, List.set_cons_zero, List.set_cons_succ, i64_w, i32_w]
        rfl
       refine take_ (i := 4) (N := some 20) (v := ?_) (a' := ?_) #[true, true, true, true, true, false, false, false, false, false, false, false, false, false, false, false, false, false, false, false, false, false, false, false, false] rfl rfl (take_ofW HT_.out HW_.out (by kernel_rfl)) (fun _ _ _ h => h) (Or.inl ⟨by rfl, ?_⟩) hHeld ?_ ?_
       rotate_left
       ·rintro w' ⟨s0, s1, s2, s3⟩
        go_simp
        with_reducible rfl
       rotate_left
       ·simp only [Act.put, List.setIfInBounds_toArray, List.set_cons_zero, List.set_cons_succ, i64_w, i32_w]
        rfl
       refine take_ (i := 6) (N := some 22) (v := ?_) (a' := ?_) #[true, true, true, true, true, false, true, false, false, false, false, false, false, false, false, false, false, false, false, false, false, false, false, false, false] rfl rfl (take_ofW HT_.out HW_.out (by kernel_rfl)) (fun _ _ _ h => h) (Or.inl ⟨by rfl, ?_⟩) hHeld ?_ ?_
       rotate_left
       ·rintro w' ⟨s0, s1, s2, s3⟩
        go_simp
        with_reducible rfl
       rotate_left
       ·simp only [Act.put, List.setIfInBounds_toArray, List.set_cons_zero, List.set_cons_succ, i64_w, i32_w]
        rfl
       refine one_ (i := 5) (N := some 21) #[true, true, true, true, true, true, true, false, false, false, false, false, false, false, false, false, false, false, false, false, false, false, false, false, false] rfl rfl (one_of HT_.out (by kernel_rfl)) (by decide) (fun K hK => ?_)
       refine goes_ Try.func22 (by kernel_rfl) rfl #[.agg #[.bool t560, .slice Ao25 t561.length co25]] (by rfl) rfl rfl (by (try simp only [List.map_toArray, List.map_cons, List.map_nil]); first | done | rfl | (simp only [List.length_drop, List.length_take]; rfl)) ?_
       with_reducible refine (num_Neg.calls k t560 (fun k_ => (((P0_1_ k_ ∨ P1_1_ k_) ∨ w.heap.size ≤ k_) ∧ (some k_ ≠ (.slice Ao17 y556.length co17 : Value).ownBlock ∧ (k_ ≠ gb553 ∧ (k_ ≠ gb554 ∧ k_ ≠ gb564))))) _ _ t561 t566 t567 _ ?side1 A28.out).mono ?_
       (case side1 => exact HO563.out)
       rintro e w39 ⟨v568, rfl, ho0, hb⟩
       refine ⟨_, rfl, ?_⟩
       have n0_ := Aside0.mk (Kd.V_below (gV HO0_1.out) hb)
       have n1_ := Aside0.mk (Kd.V_below (gV HO1_1.out) hb)
       have n2_ := Aside0.mk (Kd.N_below (gN HO558.out) hb)
       have n3_ := Aside0.mk (Kd.V_below (gV HO563.out) hb)
       have n4_ := Aside0.mk (Kd.V_lower (Kd.V_mono (ok' := fun k_ => ((P0_1_ k_ ∨ P1_1_ k_) ∨ w.heap.size ≤ k_) ∧ some k_ ≠ (.slice Ao17 y556.length co17 : Value).ownBlock ∧ k_ ≠ gb553 ∧ k_ ≠ gb554 ∧ k_ ≠ gb564) ho0 (fun k_ hk_ => ⟨Or.elim hk_ (fun hs_ => hs_.1) (fun hn_ => (.inr (Nat.le_trans (below_size (by repeat (first | (with_reducible first | exact HB.out | apply bA | apply bN | apply bD | refine bS ?_ GE553.out | refine bS ?_ GE554.out | refine bS ?_ GE564.out) | exact HB.out))) hn_))), Or.elim hk_ (fun hs_ => hs_.2.1) (fun hn_ => (Kd.fresh' (Kd.N_lt (gN HO558.out)) k_ hn_)), Or.elim hk_ (fun hs_ => hs_.2.2.1) (fun hn_ => (Kd.freshB (g := gb553) (o := .cells #[.bool a0_0, .slice A0_1 l0_1.length c0_1] 25 (0, 0)) (gK BK553.out) k_ hn_)), Or.elim hk_ (fun hs_ => hs_.2.2.2.1) (fun hn_ => (Kd.freshB (g := gb554) (o := .cells #[.bool a1_0, .slice A1_1 l1_1.length c1_1] 25 (0, 0)) (gK BK554.out) k_ hn_)), Or.elim hk_ (fun hs_ => hs_.2.2.2.2) (fun hn_ => (Kd.freshB (g := gb564) (o := .cells #[.bool t560, .slice Ao25 t561.length co25] 25 (0, 0)) (gK BK564.out) k_ hn_))⟩)) (below_size (by repeat (first | (with_reducible first | exact HB.out | apply bA | apply bN | apply bD | refine bS ?_ GE553.out | refine bS ?_ GE554.out | refine bS ?_ GE564.out) | exact HB.out))))
       have n5_ := Aside0.mk (blk_below (gK BK553.out) hb)
       have n6_ := Aside0.mk (blk_below (gK BK554.out) hb)
       have n7_ := Aside0.mk (blk_below (gK BK564.out) hb)
       have n8_ := Aside0.mk (below_step (by repeat (first | (with_reducible first | exact HB.out | apply bA | apply bN | apply bD | refine bS ?_ GE553.out | refine bS ?_ GE554.out | refine bS ?_ GE564.out) | exact HB.out)) hb)
       clear HO0_1
       clear HO1_1
       clear HO558
       clear HO563
       clear BK553
       clear BK554
       clear BK564
       clear HB
       have HO0_1 := n0_
       have HO1_1 := n1_
       have HO558 := n2_
       have HO563 := n3_
       have HO569 := n4_
       have BK553 := n5_
       have BK554 := n6_
       have BK564 := n7_
       have HB := n8_
       clear n0_ n1_ n2_ n3_ n4_ n5_ n6_ n7_ n8_
       (try clear hb)
       (try clear hb2)
       (try clear hk)
       (try clear hi)
       (try clear ho0)
       obtain ⟨Ao40, co40, eo40⟩ := Kd.V_slice HO569.out
       (first | subst eo40 | (injection eo40 with f1_ f2_ f3_; have f4_ := f1_.symm; have f5_ := f3_.symm; clear f1_ f2_ f3_; subst f4_; subst f5_))
       refine hK.out _ _ ⟨(blk_cell BK564.out 0).trans rfl, (blk_cell BK564.out 1).trans rfl, (blk_cell BK553.out 0).trans rfl, (blk_cell BK553.out 1).trans rfl⟩ (fun hHeld => ?_)
       clear hK K
       refine norm_ (a' := ?_) ?_ ?_
       rotate_left
       ·show Act.put _ (some 21) _ = _
        simp only [Act.put, List.setIfInBounds_toArray, List.set_cons_zero, List.set_cons_succ, i64_w, i32_w]
        rfl
       refine one_ (i := 7) (N := some 23) #[true, true, true, true, true, true, true, true, false, false, false, false, false, false, false, false, false, false, false, false, false, false, false, false, false] rfl rfl (one_of HT_.out (by kernel_rfl)) (by decide) (fun K hK => ?_)
       refine goes_ Try.func14 (by kernel_rfl) rfl #[.agg #[.bool t566, .slice Ao40 t567.length co40], .agg #[.bool a0_0, .slice A0_1 l0_1.length c0_1]] (by rfl) rfl rfl (by (try simp only [List.map_toArray, List.map_cons, List.map_nil]); first | done | rfl | (simp only [List.length_drop, List.length_take]; rfl)) ?_
       with_reducible refine (num_Cmp.calls k t566 _ _ t567 a0_0 _ _ l0_1 t570 _ ?side1 ?side2 ?side3 ?side4 A29.out).mono ?_
       (case side1 => repeat (first | exact (Kd.V_reads' HO569.out).2.2 | (with_reducible refine Kd.C_alloc ?_ _) | (with_reducible refine Kd.C_drewN ?_ _) | (with_reducible refine Kd.C_drew ?_)))
       (case side2 => exact (Kd.V_reads' HO569.out).2.1)
       (case side3 => repeat (first | exact (Kd.V_reads' HO0_1.out).2.2 | (with_reducible refine Kd.C_alloc ?_ _) | (with_reducible refine Kd.C_drewN ?_ _) | (with_reducible refine Kd.C_drew ?_)))
       (case side4 => exact (Kd.V_reads' HO0_1.out).2.1)
       rintro e w41 ⟨rfl, hb⟩
       refine ⟨_, rfl, ?_⟩
       have n0_ := Aside0.mk (Kd.V_below (gV HO0_1.out) hb)
       have n1_ := Aside0.mk (Kd.V_below (gV HO1_1.out) hb)
       have n2_ := Aside0.mk (Kd.N_below (gN HO558.out) hb)
       have n3_ := Aside0.mk (Kd.V_below (gV HO563.out) hb)
       have n4_ := Aside0.mk (Kd.V_below (gV HO569.out) hb)
       have n5_ := Aside0.mk (blk_below (gK BK553.out) hb)
       have n6_ := Aside0.mk (blk_below (gK BK554.out) hb)
       have n7_ := Aside0.mk (blk_below (gK BK564.out) hb)
       have n8_ := Aside0.mk (below_step (by repeat (first | (with_reducible first | exact HB.out | apply bA | apply bN | apply bD | refine bS ?_ GE553.out | refine bS ?_ GE554.out | refine bS ?_ GE564.out) | exact HB.out)) hb)
       clear HO0_1
       clear HO1_1
       clear HO558
       clear HO563
       clear HO569
       clear BK553
       clear BK554
       clear BK564
       clear HB
       have HO0_1 := n0_
       have HO1_1 := n1_
       have HO558 := n2_
       have HO563 := n3_
       have HO569 := n4_
       have BK553 := n5_
       have BK554 := n6_
       have BK564 := n7_
       have HB := n8_
       clear n0_ n1_ n2_ n3_ n4_ n5_ n6_ n7_ n8_
       (try clear hb)
       (try clear hb2)
       (try clear hk)
       (try clear hi)
       refine hK.out _ _ ⟨(blk_cell BK564.out 0).trans rfl, (blk_cell BK564.out 1).trans rfl, (blk_cell BK553.out 0).trans rfl, (blk_cell BK553.out 1).trans rfl⟩ (fun hHeld => ?_)
       clear hK K
       refine norm_ (a' := ?_) ?_ ?_
       rotate_left
       ·show Act.put _ (some 23) _ = _
        simp only [Act.put, List.setIfInBounds_toArray, List.set_cons_zero, List.set_cons_succ, i64_w, i32_w]
        rfl
       refine pure_ (i := 8) (N := some 24) (v := ?_) (a' := ?_) #[true, true, true, true, true, true, true, true, true, false, false, false, false, false, false, false, false, false, false, false, false, false, false, false, false] rfl rfl (any_of HT_.out (by kernel_rfl)) (fun _ _ _ h => h) (Or.inl ⟨by rfl, ?_⟩) ?_ ?_
       rotate_left
       ·intro w'
        go_simp
        with_reducible rfl
       rotate_left
       ·simp only [Act.put, List.setIfInBounds_toArray, List.set_cons_zero, List.set_cons_succ, i64_w, i32_w]
        rfl
       refine pure_ (i := 9) (N := some 25) (v := ?_) (a' := ?_) #[true, true, true, true, true, true, true, true, true, true, false, false, false, false, false, false, false, false, false, false, false, false, false, false, false] rfl rfl (any_of HT_.out (by kernel_rfl)) (fun _ _ _ h => h) (Or.inl ⟨by rfl, ?_⟩) ?_ ?_
       rotate_left
       ·intro w'
        go_simp
        with_reducible rfl
       rotate_left
       ·simp only [Act.put, List.setIfInBounds_toArray, List.set_cons_zero, List.set_cons_succ, i64_w, i32_w]
        rfl
       refine pure_ (i := 10) (N := some 26) (v := ?_) (a' := ?_) #[true, true, true, true, true, true, true, true, true, true, true, false, false, false, false, false, false, false, false, false, false, false, false, false, false] rfl rfl (any_of HT_.out (by kernel_rfl)) (fun _ _ _ h => h) (Or.inl ⟨by rfl, ?_⟩) ?_ ?_
       rotate_left
       ·intro w'
        go_simp
        with_reducible rfl
       rotate_left
       ·simp only [Act.put, List.setIfInBounds_toArray, List.set_cons_zero, List.set_cons_succ, i64_w, i32_w]
        rfl
       refine take_ (i := 11) (N := some 27) (v := ?_) (a' := ?_) #[true, true, true, true, true, true, true, true, true, true, true, true, false, false, false, false, false, false, false, false, false, false, false, false, false] rfl rfl (take_ofW HT_.out HW_.out (by kernel_rfl)) (fun _ _ _ h => h) (Or.inl ⟨by rfl, ?_⟩) hHeld ?_ ?_
       rotate_left
       ·rintro w' ⟨s0, s1, s2, s3⟩
        go_simp
        with_reducible rfl
       rotate_left
       ·simp only [Act.put, List.setIfInBounds_toArray, List.set_cons_zero, List.set_cons_succ, i64_w, i32_w]
        rfl
       refine take_ (i := 12) (N := some 28) (v := ?_) (a' := ?_) #[true, true, true, true, true, true, true, true, true, true, true, true, true, false, false, false, false, false, false, false, false, false, false, false, false] rfl rfl (take_ofW HT_.out HW_.out (by kernel_rfl)) (fun _ _ _ h => h) (Or.inl ⟨by rfl, ?_⟩) hHeld ?_ ?_
       rotate_left
       ·rintro w' ⟨s0, s1, s2, s3⟩
        go_simp
        with_reducible rfl
       rotate_left
       ·simp only [Act.put, List.setIfInBounds_toArray, List.set_cons_zero, List.set_cons_succ, i64_w, i32_w]
        rfl
       refine one_ (i := 13) (N := some 29) #[true, true, true, true, true, true, true, true, true, true, true, true, true, true, false, false, false, false, false, false, false, false, false, false, false] rfl rfl (one_of HT_.out (by kernel_rfl)) (by decide) (fun K hK => ?_)
       refine goes_ Try.func17 (by kernel_rfl) rfl #[.agg #[.bool a0_0, .slice A0_1 l0_1.length c0_1], .agg #[.bool t560, .slice Ao25 t561.length co25]] (by rfl) rfl rfl (by (try simp only [List.map_toArray, List.map_cons, List.map_nil]); first | done | rfl | (simp only [List.length_drop, List.length_take]; rfl)) ?_
       with_reducible refine (num_Add.calls k a0_0 (fun k_ => (((P0_1_ k_ ∨ P1_1_ k_) ∨ w.heap.size ≤ k_) ∧ (some k_ ≠ (.slice Ao17 y556.length co17 : Value).ownBlock ∧ (k_ ≠ gb553 ∧ (k_ ≠ gb554 ∧ k_ ≠ gb564))))) _ _ l0_1 t560 (fun k_ => (((P0_1_ k_ ∨ P1_1_ k_) ∨ w.heap.size ≤ k_) ∧ (some k_ ≠ (.slice Ao17 y556.length co17 : Value).ownBlock ∧ (k_ ≠ gb553 ∧ (k_ ≠ gb554 ∧ k_ ≠ gb564))))) _ _ t561 t571 t572 _ ?side1 ?side2 A31.out).mono ?_
       (case side1 => exact HO0_1.out)
       (case side2 => exact HO563.out)
       rintro e w42 ⟨v573, rfl, ho0, hb⟩
       refine ⟨_, rfl, ?_⟩
       have n0_ := Aside0.mk (Kd.V_below (gV HO0_1.out) hb)
       have n1_ := Aside0.mk (Kd.V_below (gV HO1_1.out) hb)
       have n2_ := Aside0.mk (Kd.N_below (gN HO558.out) hb)
       have n3_ := Aside0.mk (Kd.V_below (gV HO563.out) hb)
       have n4_ := Aside0.mk (Kd.V_below (gV HO569.out) hb)
       have n5_ := Aside0.mk (Kd.V_lower (Kd.V_mono (ok' := fun k_ => ((P0_1_ k_ ∨ P1_1_ k_) ∨ w.heap.size ≤ k_) ∧ some k_ ≠ (.slice Ao17 y556.length co17 : Value).ownBlock ∧ k_ ≠ gb553 ∧ k_ ≠ gb554 ∧ k_ ≠ gb564) ho0 (fun k_ hk_ => ⟨Or.elim hk_ (fun hs_ => Or.elim hs_ (fun hs_ => hs_.1) (fun hs_ => hs_.1)) (fun hn_ => (.inr (Nat.le_trans (below_size (by repeat (first | (with_reducible first | exact HB.out | apply bA | apply bN | apply bD | refine bS ?_ GE553.out | refine bS ?_ GE554.out | refine bS ?_ GE564.out) | exact HB.out))) hn_))), Or.elim hk_ (fun hs_ => Or.elim hs_ (fun hs_ => hs_.2.1) (fun hs_ => hs_.2.1)) (fun hn_ => (Kd.fresh' (Kd.N_lt (gN HO558.out)) k_ hn_)), Or.elim hk_ (fun hs_ => Or.elim hs_ (fun hs_ => hs_.2.2.1) (fun hs_ => hs_.2.2.1)) (fun hn_ => (Kd.freshB (g := gb553) (o := .cells #[.bool a0_0, .slice A0_1 l0_1.length c0_1] 25 (0, 0)) (gK BK553.out) k_ hn_)), Or.elim hk_ (fun hs_ => Or.elim hs_ (fun hs_ => hs_.2.2.2.1) (fun hs_ => hs_.2.2.2.1)) (fun hn_ => (Kd.freshB (g := gb554) (o := .cells #[.bool a1_0, .slice A1_1 l1_1.length c1_1] 25 (0, 0)) (gK BK554.out) k_ hn_)), Or.elim hk_ (fun hs_ => Or.elim hs_ (fun hs_ => hs_.2.2.2.2) (fun hs_ => hs_.2.2.2.2)) (fun hn_ => (Kd.freshB (g := gb564) (o := .cells #[.bool t560, .slice Ao25 t561.length co25] 25 (0, 0)) (gK BK564.out) k_ hn_))⟩)) (below_size (by repeat (first | (with_reducible first | exact HB.out | apply bA | apply bN | apply bD | refine bS ?_ GE553.out | refine bS ?_ GE554.out | refine bS ?_ GE564.out) | exact HB.out))))
       have n6_ := Aside0.mk (blk_below (gK BK553.out) hb)
       have n7_ := Aside0.mk (blk_below (gK BK554.out) hb)
       have n8_ := Aside0.mk (blk_below (gK BK564.out) hb)
       have n9_ := Aside0.mk (below_step (by repeat (first | (with_reducible first | exact HB.out | apply bA | apply bN | apply bD | refine bS ?_ GE553.out | refine bS ?_ GE554.out | refine bS ?_ GE564.out) | exact HB.out)) hb)
       clear HO0_1
       clear HO1_1
       clear HO558
       clear HO563
       clear HO569
       clear BK553
       clear BK554
       clear BK564
       clear HB
       have HO0_1 := n0_
       have HO1_1 := n1_
       have HO558 := n2_
       have HO563 := n3_
       have HO569 := n4_
       have HO574 := n5_
       have BK553 := n6_
       have BK554 := n7_
       have BK564 := n8_
       have HB := n9_
       clear n0_ n1_ n2_ n3_ n4_ n5_ n6_ n7_ n8_ n9_
       (try clear hb)
       (try clear hb2)
       (try clear hk)
       (try clear hi)
       (try clear ho0)
       obtain ⟨Ao43, co43, eo43⟩ := Kd.V_slice HO574.out
       (first | subst eo43 | (injection eo43 with f1_ f2_ f3_; have f4_ := f1_.symm; have f5_ := f3_.symm; clear f1_ f2_ f3_; subst f4_; subst f5_))
       refine hK.out _ _ ⟨(blk_cell BK564.out 0).trans rfl, (blk_cell BK564.out 1).trans rfl, (blk_cell BK553.out 0).trans rfl, (blk_cell BK553.out 1).trans rfl⟩ (fun hHeld => ?_)
       clear hK K
       refine norm_ (a' := ?_) ?_ ?_
       rotate_left
       ·show Act.put _ (some 29) _ = _
        simp only [Act.put, List.setIfInBounds_toArray, List.set_cons_zero, List.set_cons_succ, i64_w, i32_w]
        rfl
       refine one_ (i := 14) (N := some 30) #[true, true, true, true, true, true, true, true, true, true, true, true, true, true, true, false, false, false, false, false, false, false, false, false, false] rfl rfl (one_of HT_.out (by kernel_rfl)) (by decide) (fun K hK => ?_)
       refine goes_ Try.func15 (by kernel_rfl) rfl #[.agg #[.bool t571, .slice Ao43 t572.length co43]] (by rfl) rfl rfl (by (try simp only [List.map_toArray, List.map_cons, List.map_nil]); first | done | rfl | (simp only [List.length_drop, List.length_take]; rfl)) ?_
       with_reducible refine (num_Sign.calls k t571 _ _ t572 t575 _ ?side1 ?side2 A32.out).mono ?_
       (case side1 => repeat (first | exact (Kd.V_reads' HO574.out).2.2 | (with_reducible refine Kd.C_alloc ?_ _) | (with_reducible refine Kd.C_drewN ?_ _) | (with_reducible refine Kd.C_drew ?_)))
       (case side2 => exact (Kd.V_reads' HO574.out).2.1)
       rintro e w44 ⟨rfl, hb⟩
       refine ⟨_, rfl, ?_⟩
       have n0_ := Aside0.mk (Kd.V_below (gV HO0_1.out) hb)
       have n1_ := Aside0.mk (Kd.V_below (gV HO1_1.out) hb)
       have n2_ := Aside0.mk (Kd.N_below (gN HO558.out) hb)
       have n3_ := Aside0.mk (Kd.V_below (gV HO563.out) hb)
       have n4_ := Aside0.mk (Kd.V_below (gV HO569.out) hb)
       have n5_ := Aside0.mk (Kd.V_below (gV HO574.out) hb)
       have n6_ := Aside0.mk (blk_below (gK BK553.out) hb)
       have n7_ := Aside0.mk (blk_below (gK BK554.out) hb)
       have n8_ := Aside0.mk (blk_below (gK BK564.out) hb)
       have n9_ := Aside0.mk (below_step (by repeat (first | (with_reducible first | exact HB.out | apply bA | apply bN | apply bD | refine bS ?_ GE553.out | refine bS ?_ GE554.out | refine bS ?_ GE564.out) | exact HB.out)) hb)
       clear HO0_1
       clear HO1_1
       clear HO558
       clear HO563
       clear HO569
       clear HO574
       clear BK553
       clear BK554
       clear BK564
       clear HB
       have HO0_1 := n0_
       have HO1_1 := n1_
       have HO558 := n2_
       have HO563 := n3_
       have HO569 := n4_
       have HO574 := n5_
       have BK553 := n6_
       have BK554 := n7_
       have BK564 := n8_
       have HB := n9_
       clear n0_ n1_ n2_ n3_ n4_ n5_ n6_ n7_ n8_ n9_
       (try clear hb)
       (try clear hb2)
       (try clear hk)
       (try clear hi)
       refine hK.out _ _ ⟨(blk_cell BK564.out 0).trans rfl, (blk_cell BK564.out 1).trans rfl, (blk_cell BK553.out 0).trans rfl, (blk_cell BK553.out 1).trans rfl⟩ (fun hHeld => ?_)
       clear hK K
       refine norm_ (a' := ?_) ?_ ?_
       rotate_left
       ·show Act.put _ (some 30) _ = _
        simp only [Act.put, List.setIfInBounds_toArray, List.set_cons_zero, List.set_cons_succ, i64_w, i32_w]
        rfl
       refine pure_ (i := 15) (N := some 31) (v := ?_) (a' := ?_) #[true, true, true, true, true, true, true, true, true, true, true, true, true, true, true, true, false, false, false, false, false, false, false, false, false] rfl rfl (any_of HT_.out (by kernel_rfl)) (fun _ _ _ h => h) (Or.inl ⟨by rfl, ?_⟩) ?_ ?_
       rotate_left
       ·intro w'
        go_simp
        with_reducible rfl
       rotate_left
       ·simp only [Act.put, List.setIfInBounds_toArray, List.set_cons_zero, List.set_cons_succ, i64_w, i32_w]
        rfl
       refine pure_ (i := 16) (N := some 32) (v := ?_) (a' := ?_) #[true, true, true, true, true, true, true, true, true, true, true, true, true, true, true, true, true, false, false, false, false, false, false, false, false] rfl rfl (any_of HT_.out (by kernel_rfl)) (fun _ _ _ h => h) (Or.inl ⟨by rfl, ?_⟩) ?_ ?_
       rotate_left
       ·intro w'
        go_simp
        with_reducible rfl
       rotate_left
       ·simp only [Act.put, List.setIfInBounds_toArray, List.set_cons_zero, List.set_cons_succ, i64_w, i32_w]
        rfl
       refine pure_ (i := 17) (N := some 33) (v := ?_) (a' := ?_) #[true, true, true, true, true, true, true, true, true, true, true, true, true, true, true, true, true, true, false, false, false, false, false, false, false] rfl rfl (any_of HT_.out (by kernel_rfl)) (fun _ _ _ h => h) (Or.inl ⟨by rfl, ?_⟩) ?_ ?_
       rotate_left
       ·intro w'
        go_simp
        with_reducible rfl
       rotate_left
       ·simp only [Act.put, List.setIfInBounds_toArray, List.set_cons_zero, List.set_cons_succ, i64_w, i32_w]
        rfl
       refine take_ (i := 18) (N := some 34) (v := ?_) (a' := ?_) #[true, true, true, true, true, true, true, true, true, true, true, true, true, true, true, true, true, true, true, false, false, false, false, false, false] rfl rfl (take_ofW HT_.out HW_.out (by kernel_rfl)) (fun _ _ _ h => h) (Or.inl ⟨by rfl, ?_⟩) hHeld ?_ ?_
       rotate_left
       ·rintro w' ⟨s0, s1, s2, s3⟩
        go_simp
        with_reducible rfl
       rotate_left
       ·simp only [Act.put, List.setIfInBounds_toArray, List.set_cons_zero, List.set_cons_succ, i64_w, i32_w]
        rfl
       refine take_ (i := 20) (N := some 36) (v := ?_) (a' := ?_) #[true, true, true, true, true, true, true, true, true, true, true, true, true, true, true, true, true, true, true, false, true, false, false, false, false] rfl rfl (take_ofW HT_.out HW_.out (by kernel_rfl)) (fun _ _ _ h => h) (Or.inl ⟨by rfl, ?_⟩) hHeld ?_ ?_
       rotate_left
       ·rintro w' ⟨s0, s1, s2, s3⟩
        go_simp
        with_reducible rfl
       rotate_left
       ·simp only [Act.put, List.setIfInBounds_toArray, List.set_cons_zero, List.set_cons_succ, i64_w, i32_w]
        rfl
       refine one_ (i := 19) (N := some 35) #[true, true, true, true, true, true, true, true, true, true, true, true, true, true, true, true, true, true, true, true, true, false, false, false, false] rfl rfl (one_of HT_.out (by kernel_rfl)) (by decide) (fun K hK => ?_)
       refine goes_ Try.func15 (by kernel_rfl) rfl #[.agg #[.bool t560, .slice Ao25 t561.length co25]] (by rfl) rfl rfl (by (try simp only [List.map_toArray, List.map_cons, List.map_nil]); first | done | rfl | (simp only [List.length_drop, List.length_take]; rfl)) ?_
       with_reducible refine (num_Sign.calls k t560 _ _ t561 t576 _ ?side1 ?side2 A34.out).mono ?_
       (case side1 => repeat (first | exact (Kd.V_reads' HO563.out).2.2 | (with_reducible refine Kd.C_alloc ?_ _) | (with_reducible refine Kd.C_drewN ?_ _) | (with_reducible refine Kd.C_drew ?_)))
       (case side2 => exact (Kd.V_reads' HO563.out).2.1)
       rintro e w45 ⟨rfl, hb⟩
       refine ⟨_, rfl, ?_⟩
       have n0_ := Aside0.mk (Kd.V_below (gV HO0_1.out) hb)
       have n1_ := Aside0.mk (Kd.V_below (gV HO1_1.out) hb)
       have n2_ := Aside0.mk (Kd.N_below (gN HO558.out) hb)
       have n3_ := Aside0.mk (Kd.V_below (gV HO563.out) hb)
       have n4_ := Aside0.mk (Kd.V_below (gV HO569.out) hb)
       have n5_ := Aside0.mk (Kd.V_below (gV HO574.out) hb)
       have n6_ := Aside0.mk (blk_below (gK BK553.out) hb)
       have n7_ := Aside0.mk (blk_below (gK BK554.out) hb)
       have n8_ := Aside0.mk (blk_below (gK BK564.out) hb)
       have n9_ := Aside0.mk (below_step (by repeat (first | (with_reducible first | exact HB.out | apply bA | apply bN | apply bD | refine bS ?_ GE553.out | refine bS ?_ GE554.out | refine bS ?_ GE564.out) | exact HB.out)) hb)
       clear HO0_1
       clear HO1_1
       clear HO558
       clear HO563
       clear HO569
       clear HO574
       clear BK553
       clear BK554
       clear BK564
       clear HB
       have HO0_1 := n0_
       have HO1_1 := n1_
       have HO558 := n2_
       have HO563 := n3_
       have HO569 := n4_
       have HO574 := n5_
       have BK553 := n6_
       have BK554 := n7_
       have BK564 := n8_
       have HB := n9_
       clear n0_ n1_ n2_ n3_ n4_ n5_ n6_ n7_ n8_ n9_
       (try clear hb)
       (try clear hb2)
       (try clear hk)
       (try clear hi)
       refine hK.out _ _ ⟨(blk_cell BK564.out 0).trans rfl, (blk_cell BK564.out 1).trans rfl, (blk_cell BK553.out 0).trans rfl, (blk_cell BK553.out 1).trans rfl⟩ (fun hHeld => ?_)
       clear hK K
       refine norm_ (a' := ?_) ?_ ?_
       rotate_left
       ·show Act.put _ (some 35) _ = _
        simp only [Act.put, List.setIfInBounds_toArray, List.set_cons_zero, List.set_cons_succ, i64_w, i32_w]
        rfl
       refine one_ (i := 21) (N := some 37) #[true, true, true, true, true, true, true, true, true, true, true, true, true, true, true, true, true, true, true, true, true, true, false, false, false] rfl rfl (one_of HT_.out (by kernel_rfl)) (by decide) (fun K hK => ?_)
       refine goes_ Try.func15 (by kernel_rfl) rfl #[.agg #[.bool a0_0, .slice A0_1 l0_1.length c0_1]] (by rfl) rfl rfl (by (try simp only [List.map_toArray, List.map_cons, List.map_nil]); first | done | rfl | (simp only [List.length_drop, List.length_take]; rfl)) ?_
       with_reducible refine (num_Sign.calls k a0_0 _ _ l0_1 t577 _ ?side1 ?side2 A35.out).mono ?_
       (case side1 => repeat (first | exact (Kd.V_reads' HO0_1.out).2.2 | (with_reducible refine Kd.C_alloc ?_ _) | (with_reducible refine Kd.C_drewN ?_ _) | (with_reducible refine Kd.C_drew ?_)))
       (case side2 => exact (Kd.V_reads' HO0_1.out).2.1)
       rintro e w46 ⟨rfl, hb⟩
       refine ⟨_, rfl, ?_⟩
       have n0_ := Aside0.mk (Kd.V_below (gV HO0_1.out) hb)
       have n1_ := Aside0.mk (Kd.V_below (gV HO1_1.out) hb)
       have n2_ := Aside0.mk (Kd.N_below (gN HO558.out) hb)
       have n3_ := Aside0.mk (Kd.V_below (gV HO563.out) hb)
       have n4_ := Aside0.mk (Kd.V_below (gV HO569.out) hb)
       have n5_ := Aside0.mk (Kd.V_below (gV HO574.out) hb)
       have n6_ := Aside0.mk (blk_below (gK BK553.out) hb)
       have n7_ := Aside0.mk (blk_below (gK BK554.out) hb)
       have n8_ := Aside0.mk (blk_below (gK BK564.out) hb)
       have n9_ := Aside0.mk (below_step (by repeat (first | (with_reducible first | exact HB.out | apply bA | apply bN | apply bD | refine bS ?_ GE553.out | refine bS ?_ GE554.out | refine bS ?_ GE564.out) | exact HB.out)) hb)
       clear HO0_1
       clear HO1_1
       clear HO558
       clear HO563
       clear HO569
       clear HO574
       clear BK553
       clear BK554
       clear BK564
       clear HB
       have HO0_1 := n0_
       have HO1_1 := n1_
       have HO558 := n2_
       have HO563 := n3_
       have HO569 := n4_
       have HO574 := n5_
       have BK553 := n6_
       have BK554 := n7_
       have BK564 := n8_
       have HB := n9_
       clear n0_ n1_ n2_ n3_ n4_ n5_ n6_ n7_ n8_ n9_
       (try clear hb)
       (try clear hb2)
       (try clear hk)
       (try clear hi)
       refine hK.out _ _ ⟨(blk_cell BK564.out 0).trans rfl, (blk_cell BK564.out 1).trans rfl, (blk_cell BK553.out 0).trans rfl, (blk_cell BK553.out 1).trans rfl⟩ (fun hHeld => ?_)
       clear hK K
       refine norm_ (a' := ?_) ?_ ?_
       rotate_left
       ·show Act.put _ (some 37) _ = _
        simp only [Act.put, List.setIfInBounds_toArray, List.set_cons_zero, List.set_cons_succ, i64_w, i32_w]
        rfl
       refine pure_ (i := 22) (N := some 38) (v := ?_) (a' := ?_) #[true, true, true, true, true, true, true, true, true, true, true, true, true, true, true, true, true, true, true, true, true, true, true, false, false] rfl rfl (any_of HT_.out (by kernel_rfl)) (fun _ _ _ h => h) (Or.inl ⟨by rfl, ?_⟩) ?_ ?_
       rotate_left
       ·intro w'
        go_simp
        with_reducible rfl
       rotate_left
       ·simp only [Act.put, List.setIfInBounds_toArray, List.set_cons_zero, List.set_cons_succ, i64_w, i32_w]
        rfl
       refine pure_ (i := 23) (N := some 39) (v := ?_) (a' := ?_) #[true, true, true, true, true, true, true, true, true, true, true, true, true, true, true, true, true, true, true, true, true, true, true, true, false] rfl rfl (any_of HT_.out (by kernel_rfl)) (fun _ _ _ h => h) (Or.inl ⟨by rfl, ?_⟩) ?_ ?_
       rotate_left
       ·intro w'
        go_simp
        with_reducible rfl
       rotate_left
       ·simp only [Act.put, List.setIfInBounds_toArray, List.set_cons_zero, List.set_cons_succ, i64_w, i32_w]
        rfl
       refine pure_ (i := 24) (N := some 40) (v := ?_) (a' := ?_) #[true, true, true, true, true, true, true, true, true, true, true, true, true, true, true, true, true, true, true, true, true, true, true, true, true] rfl rfl (any_of HT_.out (by kernel_rfl)) (fun _ _ _ h => h) (Or.inl ⟨by rfl, ?_⟩) ?_ ?_
       rotate_left
       ·intro w'
        go_simp
        with_reducible rfl
       rotate_left
       ·simp only [Act.put, List.setIfInBounds_toArray, List.set_cons_zero, List.set_cons_succ, i64_w, i32_w]
        rfl
       refine done_ (done_of HT_.out (by kernel_rfl)) ?_
       try go_wp2
       go_meet
       case rel => exact ⟨_, ((t576 != (wrap64 (-t577)))), (by first | rfl | (simp; done) | (simp [*]; done)), H', ⟨by first | omega | exact Nat.le_refl _⟩, ⟨by (with_reducible repeat (first | apply Kd.V_alloc | apply Kd.V_drewN | apply Kd.V_drew)); exact Kd.V_mono HO0_1.out (fun _ hk => ⟨hk.1, ⟨hk.2.2.1, ⟨hk.2.2.2.1, hk.2.2.2.2⟩⟩⟩)⟩, ⟨by (with_reducible repeat (first | apply Kd.V_alloc | apply Kd.V_drewN | apply Kd.V_drew)); exact Kd.V_mono HO1_1.out (fun _ hk => ⟨hk.1, ⟨hk.2.2.1, ⟨hk.2.2.2.1, hk.2.2.2.2⟩⟩⟩)⟩, ⟨by (with_reducible repeat (first | apply Kd.V_alloc | apply Kd.V_drewN | apply Kd.V_drew)); exact Kd.V_mono HO563.out (fun _ hk => ⟨hk.1, ⟨hk.2.2.1, ⟨hk.2.2.2.1, hk.2.2.2.2⟩⟩⟩)⟩, ⟨by (with_reducible repeat (first | refine blk_drewN ?_ _ | refine blk_drew ?_ | refine blk_alloc ?_ _)); exact BK553.out⟩, ⟨by (with_reducible repeat (first | refine blk_drewN ?_ _ | refine blk_drew ?_ | refine blk_alloc ?_ _)); exact BK554.out⟩, ⟨by (with_reducible repeat (first | refine blk_drewN ?_ _ | refine blk_drew ?_ | refine blk_alloc ?_ _)); exact BK564.out⟩, ⟨by repeat (first | (with_reducible first | exact HB.out | apply bA | apply bN | apply bD | refine bS ?_ GE553.out | refine bS ?_ GE554.out | refine bS ?_ GE564.out) | exact HB.out)⟩⟩
      ·rw [if_neg c33] at H
       have c33b0 : (t575 == 0) = false := beq_eq_false_iff_ne.mpr c33
       have c33b1 : (t575 != 0) = true := bne_iff_ne.mpr c33
       have H' := Aside0.mk H
       clear H
       try go_wp2
       have n0_ : Aside0 (Kd.V (Kd.int .u64) 54 ((w21.setCell ⟨gb564, 0, none⟩ (.bool t560)).setCell ⟨gb564, 1, none⟩ (.slice Ao25 t561.length co25)) w.heap.size (fun k_ => ((P0_1_ k_ ∨ P1_1_ k_) ∨ w.heap.size ≤ k_) ∧ some k_ ≠ (.slice Ao17 y556.length co17 : Value).ownBlock ∧ k_ ≠ gb553 ∧ k_ ≠ gb554 ∧ k_ ≠ gb564) (.slice A0_1 l0_1.length c0_1) l0_1) := ⟨by (with_reducible repeat (first | apply Kd.V_alloc | apply Kd.V_drewN | apply Kd.V_drew)); exact Kd.V_mono (Kd.V_far (p := ⟨gb564, 1, none⟩) (Kd.V_far (p := ⟨gb564, 0, none⟩) (Kd.V_mono HO0_1.out (fun k_ hk => (⟨hk, hk.2⟩ : _ ∧ k_ ≠ gb564))) (fun _ hk => hk.2) (.bool t560)) (fun _ hk => hk.2) (.slice Ao25 t561.length co25)) (fun _ hk => ⟨hk.1.1.1.1.1, ⟨hk.1.1.2, ⟨hk.1.1.1.1.2, ⟨hk.1.1.1.2, hk.1.2⟩⟩⟩⟩)⟩
       have n1_ : Aside0 (Kd.V (Kd.int .u64) 54 ((w21.setCell ⟨gb564, 0, none⟩ (.bool t560)).setCell ⟨gb564, 1, none⟩ (.slice Ao25 t561.length co25)) w.heap.size (fun k_ => ((P0_1_ k_ ∨ P1_1_ k_) ∨ w.heap.size ≤ k_) ∧ some k_ ≠ (.slice Ao17 y556.length co17 : Value).ownBlock ∧ k_ ≠ gb553 ∧ k_ ≠ gb554 ∧ k_ ≠ gb564) (.slice A1_1 l1_1.length c1_1) l1_1) := ⟨by (with_reducible repeat (first | apply Kd.V_alloc | apply Kd.V_drewN | apply Kd.V_drew)); exact Kd.V_mono (Kd.V_far (p := ⟨gb564, 1, none⟩) (Kd.V_far (p := ⟨gb564, 0, none⟩) (Kd.V_mono HO1_1.out (fun k_ hk => (⟨hk, hk.2⟩ : _ ∧ k_ ≠ gb564))) (fun _ hk => hk.2) (.bool t560)) (fun _ hk => hk.2) (.slice Ao25 t561.length co25)) (fun _ hk => ⟨hk.1.1.1.1.1, ⟨hk.1.1.2, ⟨hk.1.1.1.1.2, ⟨hk.1.1.1.2, hk.1.2⟩⟩⟩⟩)⟩
       have n2_ : Aside0 (Kd.N k25 25 ((w21.setCell ⟨gb564, 0, none⟩ (.bool t560)).setCell ⟨gb564, 1, none⟩ (.slice Ao25 t561.length co25)) w.heap.size (fun k_ => ((P0_1_ k_ ∨ P1_1_ k_) ∨ w.heap.size ≤ k_) ∧ k_ ≠ gb553 ∧ k_ ≠ gb554 ∧ k_ ≠ gb564) (.slice Ao17 y556.length co17) y556) := ⟨by (with_reducible repeat (first | apply Kd.N_alloc | apply Kd.N_drewN | apply Kd.N_drew)); exact Kd.N_mono (Kd.N_far (p := ⟨gb564, 1, none⟩) (Kd.N_far (p := ⟨gb564, 0, none⟩) (Kd.N_mono HO558.out (fun k_ hk => (⟨hk, hk.2⟩ : _ ∧ k_ ≠ gb564))) (fun _ hk => hk.2) (.bool t560)) (fun _ hk => hk.2) (.slice Ao25 t561.length co25)) (fun _ hk => ⟨hk.1.1.1, ⟨hk.1.1.2.1, ⟨hk.1.1.2.2, hk.1.2⟩⟩⟩)⟩
       have n3_ : Aside0 (Kd.V (Kd.int .u64) 54 ((w21.setCell ⟨gb564, 0, none⟩ (.bool t560)).setCell ⟨gb564, 1, none⟩ (.slice Ao25 t561.length co25)) w.heap.size (fun k_ => ((P0_1_ k_ ∨ P1_1_ k_) ∨ w.heap.size ≤ k_) ∧ some k_ ≠ (.slice Ao17 y556.length co17 : Value).ownBlock ∧ k_ ≠ gb553 ∧ k_ ≠ gb554 ∧ k_ ≠ gb564) (.slice Ao25 t561.length co25) t561) := ⟨by (with_reducible repeat (first | apply Kd.V_alloc | apply Kd.V_drewN | apply Kd.V_drew)); exact Kd.V_mono (Kd.V_far (p := ⟨gb564, 1, none⟩) (Kd.V_far (p := ⟨gb564, 0, none⟩) (Kd.V_mono HO563.out (fun k_ hk => (⟨hk, hk.2⟩ : _ ∧ k_ ≠ gb564))) (fun _ hk => hk.2) (.bool t560)) (fun _ hk => hk.2) (.slice Ao25 t561.length co25)) (fun _ hk => ⟨hk.1.1.1, ⟨hk.1.1.2.1, ⟨hk.1.1.2.2.1, ⟨hk.1.1.2.2.2, hk.1.2⟩⟩⟩⟩)⟩
       have n4_ : Aside0 (((w21.setCell ⟨gb564, 0, none⟩ (.bool t560)).setCell ⟨gb564, 1, none⟩ (.slice Ao25 t561.length co25)).heap[gb553]? = some (.cells #[.bool a0_0, .slice A0_1 l0_1.length c0_1] 25 (0, 0))) := ⟨by (with_reducible repeat (first | refine blk_drewN ?_ _ | refine blk_drew ?_ | refine blk_alloc ?_ _)); refine blk_far ?_ NB553_564.out _; (with_reducible repeat (first | refine blk_drewN ?_ _ | refine blk_drew ?_ | refine blk_alloc ?_ _)); refine blk_far ?_ NB553_564.out _; (with_reducible repeat (first | refine blk_drewN ?_ _ | refine blk_drew ?_ | refine blk_alloc ?_ _)); exact BK553.out⟩
       have n5_ : Aside0 (((w21.setCell ⟨gb564, 0, none⟩ (.bool t560)).setCell ⟨gb564, 1, none⟩ (.slice Ao25 t561.length co25)).heap[gb554]? = some (.cells #[.bool a1_0, .slice A1_1 l1_1.length c1_1] 25 (0, 0))) := ⟨by (with_reducible repeat (first | refine blk_drewN ?_ _ | refine blk_drew ?_ | refine blk_alloc ?_ _)); refine blk_far ?_ NB554_564.out _; (with_reducible repeat (first | refine blk_drewN ?_ _ | refine blk_drew ?_ | refine blk_alloc ?_ _)); refine blk_far ?_ NB554_564.out _; (with_reducible repeat (first | refine blk_drewN ?_ _ | refine blk_drew ?_ | refine blk_alloc ?_ _)); exact BK554.out⟩
       have n6_ : Aside0 (((w21.setCell ⟨gb564, 0, none⟩ (.bool t560)).setCell ⟨gb564, 1, none⟩ (.slice Ao25 t561.length co25)).heap[gb564]? = some (.cells #[.bool t560, .slice Ao25 t561.length co25] 25 (0, 0))) := ⟨by (with_reducible repeat (first | refine blk_drewN ?_ _ | refine blk_drew ?_ | refine blk_alloc ?_ _)); refine blk_put (cs := #[.bool t560, .slice none 0 0]) ?_ 1 _ rfl; (with_reducible repeat (first | refine blk_drewN ?_ _ | refine blk_drew ?_ | refine blk_alloc ?_ _)); refine blk_put (cs := #[.bool false, .slice none 0 0]) ?_ 0 _ rfl; (with_reducible repeat (first | refine blk_drewN ?_ _ | refine blk_drew ?_ | refine blk_alloc ?_ _)); exact BK564.out⟩
       have n7_ : Aside0 (Below w.heap.size w ((w21.setCell ⟨gb564, 0, none⟩ (.bool t560)).setCell ⟨gb564, 1, none⟩ (.slice Ao25 t561.length co25))) := ⟨by repeat (first | (with_reducible first | exact HB.out | apply bA | apply bN | apply bD | refine bS ?_ GE553.out | refine bS ?_ GE554.out | refine bS ?_ GE564.out) | exact HB.out)⟩
       (try clear HO0_1)
       (try clear HO1_1)
       (try clear HO558)
       (try clear HO563)
       (try clear BK553)
       (try clear BK554)
       (try clear BK564)
       (try clear HB)
       generalize ((w21.setCell ⟨gb564, 0, none⟩ (.bool t560)).setCell ⟨gb564, 1, none⟩ (.slice Ao25 t561.length co25)) = w47 at n0_ n1_ n2_ n3_ n4_ n5_ n6_ n7_ ⊢
       have HO0_1 := n0_
       have HO1_1 := n1_
       have HO558 := n2_
       have HO563 := n3_
       have BK553 := n4_
       have BK554 := n5_
       have BK564 := n6_
       have HB := n7_
       clear n0_ n1_ n2_ n3_ n4_ n5_ n6_ n7_
       have n0_ := Aside0.mk (Kd.V_drew HO0_1.out)
       have n1_ := Aside0.mk (Kd.V_drew HO1_1.out)
       have n2_ := Aside0.mk (Kd.N_drew HO558.out)
       have n3_ := Aside0.mk (Kd.V_drew HO563.out)
       have n4_ := Aside0.mk (blk_drew BK553.out)
       have n5_ := Aside0.mk (blk_drew BK554.out)
       have n6_ := Aside0.mk (blk_drew BK564.out)
       have n7_ := Aside0.mk (bD HB.out)
       clear HO0_1
       clear HO1_1
       clear HO558
       clear HO563
       clear BK553
       clear BK554
       clear BK564
       clear HB
       have HO0_1 := n0_
       have HO1_1 := n1_
       have HO558 := n2_
       have HO563 := n3_
       have BK553 := n4_
       have BK554 := n5_
       have BK564 := n6_
       have HB := n7_
       clear n0_ n1_ n2_ n3_ n4_ n5_ n6_ n7_
       refine start_ (n := 25) (S := fun w' => w'.cell? ⟨gb564, 0, none⟩ = some (.bool t560) ∧ w'.cell? ⟨gb564, 1, none⟩ = some (.slice Ao25 t561.length co25) ∧ w'.cell? ⟨gb553, 0, none⟩ = some (.bool a0_0) ∧ w'.cell? ⟨gb553, 1, none⟩ = some (.slice A0_1 l0_1.length c0_1)) (ds := []) #[false, false, false, false, false, false, false, false, false, false, false, false, false, false, false, false, false, false, false, false, false, false, false, false, false] (by kernel_rfl) rfl rfl ⟨(blk_cell BK564.out 0).trans rfl, (blk_cell BK564.out 1).trans rfl, (blk_cell BK553.out 0).trans rfl, (blk_cell BK553.out 1).trans rfl⟩ (fun hHeld => ?_); refine with_tabW isohyetlaw02_NumSigns.tab6 isohyetlaw02_NumSigns.bits6 (fun HT_ HW_ => ?_)
       generalize w47.drew = w48 at HO0_1 HO1_1 HO558 HO563 BK553 BK554 BK564 HB hHeld ⊢
       refine take_ (i := 0) (N := some 16) (v := ?_) (a' := ?_) #[true, false, false, false, false, false, false, false, false, false, false, false, false, false, false, false, false, false, false, false, false, false, false, false, false] rfl rfl (take_ofW HT_.out HW_.out (by kernel_rfl)) (fun _ _ _ h => h) (Or.inl ⟨by rfl, ?_⟩) hHeld ?_ ?_
       rotate_left
       ·rintro w' ⟨s0, s1, s2, s3⟩
        go_simp
        with_reducible rfl
       rotate_left
       ·simp only [Act.put, List.setIfInBounds_toArray, List.set_cons_zero, List.set_cons_succ, i64_w, i32_w]
        rfl
       refine one_ (i := 1) (N := some 17) #[true, true, false, false, false, false, false, false, false, false, false, false, false, false, false, false, false, false, false, false, false, false, false, false, false] rfl rfl (one_of HT_.out (by kernel_rfl)) (by decide) (fun K hK => ?_)
       refine goes_ Try.func13 (by kernel_rfl) rfl #[.agg #[.bool t560, .slice Ao25 t561.length co25]] (by rfl) rfl rfl (by (try simp only [List.map_toArray, List.map_cons, List.map_nil]); first | done | rfl | (simp only [List.length_drop, List.length_take]; rfl)) ?_
       with_reducible refine (isohyetlaw02_Right.calls t560 _ _ t561 true _ ?side1 ?side2 A26.out).mono ?_
       (case side1 => repeat (first | exact (Kd.V_reads' HO563.out).2.2 | (with_reducible refine Kd.C_alloc ?_ _) | (with_reducible refine Kd.C_drewN ?_ _) | (with_reducible refine Kd.C_drew ?_)))
       (case side2 => exact (Kd.V_reads' HO563.out).2.1)
       rintro e w49 ⟨rfl, hb⟩
       refine ⟨_, rfl, ?_⟩
       have n0_ := Aside0.mk (Kd.V_below (gV HO0_1.out) hb)
       have n1_ := Aside0.mk (Kd.V_below (gV HO1_1.out) hb)
       have n2_ := Aside0.mk (Kd.N_below (gN HO558.out) hb)
       have n3_ := Aside0.mk (Kd.V_below (gV HO563.out) hb)
       have n4_ := Aside0.mk (blk_below (gK BK553.out) hb)
       have n5_ := Aside0.mk (blk_below (gK BK554.out) hb)
       have n6_ := Aside0.mk (blk_below (gK BK564.out) hb)
       have n7_ := Aside0.mk (below_step (by repeat (first | (with_reducible first | exact HB.out | apply bA | apply bN | apply bD | refine bS ?_ GE553.out | refine bS ?_ GE554.out | refine bS ?_ GE564.out) | exact HB.out)) hb)
       clear HO0_1
       clear HO1_1
       clear HO558
       clear HO563
       clear BK553
       clear BK554
       clear BK564
       clear HB
       have HO0_1 := n0_
       have HO1_1 := n1_
       have HO558 := n2_
       have HO563 := n3_
       have BK553 := n4_
       have BK554 := n5_
       have BK564 := n6_
       have HB := n7_
       clear n0_ n1_ n2_ n3_ n4_ n5_ n6_ n7_
       (try clear hb)
       (try clear hb2)
       (try clear hk)
       (try clear hi)
       refine hK.out _ _ ⟨(blk_cell BK564.out 0).trans rfl, (blk_cell BK564.out 1).trans rfl, (blk_cell BK553.out 0).trans rfl, (blk_cell BK553.out 1).trans rfl⟩ (fun hHeld => ?_)
       clear hK K
       refine norm_ (a' := ?_) ?_ ?_
       rotate_left
       ·show Act.put _ (some 17) _ = _
        simp only [Act.put, List.setIfInBounds_toArray, List.set_cons_zero, List.set_cons_succ, i64_w, i32_w]
        rfl
       refine pure_ (i := 2) (N := some 18) (v := ?_) (a' := ?_) #[true, true, true, false, false, false, false, false, false, false, false, false, false, false, false, false, false, false, false, false, false, false, false, false, false] rfl rfl (any_of HT_.out (by kernel_rfl)) (fun _ _ _ h => h) (Or.inl ⟨by rfl, ?_⟩) ?_ ?_
       rotate_left
       ·intro w'
        go_simp
        with_reducible rfl
       rotate_left
       ·simp only [Act.put, List.setIfInBounds_toArray, List.set_cons_zero, List.set_cons_succ, i64_w, i32_w]
        rfl
       refine pure_ (i := 3) (N := some 19) (v := ?_) (a' := ?_) #[true, true, true, true, false, false, false, false, false, false, false, false, false, false, false, false, false, false, false, false, false, false, false, false, false] rfl rfl (any_of HT_.out (by kernel_rfl)) (fun _ _ _ h => h) (Or.inl ⟨by rfl, ?_⟩) ?_ ?_
       rotate_left
       ·intro w'
        go_simp
        with_reducible rfl
       rotate_left
       ·simp only [Act.put, List.setIfInBounds_toArray, List.set_cons_zero, List.set_cons_succ, i64_w, i32_w]
        rfl
       refine take_ (i := 4) (N := some 20) (v := ?_) (a' := ?_) #[true, true, true, true, true, false, false, false, false, false, false, false, false, false, false, false, false, false, false, false, false, false, false, false, false] rfl rfl (take_ofW HT_.out HW_.out (by kernel_rfl)) (fun _ _ _ h => h) (Or.inl ⟨by rfl, ?_⟩) hHeld ?_ ?_
       rotate_left
       ·rintro w' ⟨s0, s1, s2, s3⟩
        go_simp
        with_reducible rfl
       rotate_left
       ·simp only [Act.put, List.setIfInBounds_toArray, List.set_cons_zero, List.set_cons_succ, i64_w, i32_w]
        rfl
       refine take_ (i := 6) (N := some 22) (v := ?_) (a' := ?_) #[true, true, true, true, true, false, true, false, false, false, false, false, false, false, false, false, false, false, false, false, false, false, false, false, false] rfl rfl (take_ofW HT_.out HW_.out (by kernel_rfl)) (fun _ _ _ h => h) (Or.inl ⟨by rfl, ?_⟩) hHeld ?_ ?_
       rotate_left
       ·rintro w' ⟨s0, s1, s2, s3⟩
        go_simp
        with_reducible rfl
       rotate_left
       ·simp only [Act.put, List.setIfInBounds_toArray, List.set_cons_zero, List.set_cons_succ, i64_w, i32_w]
        rfl
       refine one_ (i := 5) (N := some 21) #[true, true, true, true, true, true, true, false, false, false, false, false, false, false, false, false, false, false, false, false, false, false, false, false, false] rfl rfl (one_of HT_.out (by kernel_rfl)) (by decide) (fun K hK => ?_)
       refine goes_ Try.func22 (by kernel_rfl) rfl #[.agg #[.bool t560, .slice Ao25 t561.length co25]] (by rfl) rfl rfl (by (try simp only [List.map_toArray, List.map_cons, List.map_nil]); first | done | rfl | (simp only [List.length_drop, List.length_take]; rfl)) ?_
       with_reducible refine (num_Neg.calls k t560 (fun k_ => (((P0_1_ k_ ∨ P1_1_ k_) ∨ w.heap.size ≤ k_) ∧ (some k_ ≠ (.slice Ao17 y556.length co17 : Value).ownBlock ∧ (k_ ≠ gb553 ∧ (k_ ≠ gb554 ∧ k_ ≠ gb564))))) _ _ t561 t566 t567 _ ?side1 A28.out).mono ?_
       (case side1 => exact HO563.out)
       rintro e w50 ⟨v568, rfl, ho0, hb⟩
       refine ⟨_, rfl, ?_⟩
       have n0_ := Aside0.mk (Kd.V_below (gV HO0_1.out) hb)
       have n1_ := Aside0.mk (Kd.V_below (gV HO1_1.out) hb)
       have n2_ := Aside0.mk (Kd.N_below (gN HO558.out) hb)
       have n3_ := Aside0.mk (Kd.V_below (gV HO563.out) hb)
       have n4_ := Aside0.mk (Kd.V_lower (Kd.V_mono (ok' := fun k_ => ((P0_1_ k_ ∨ P1_1_ k_) ∨ w.heap.size ≤ k_) ∧ some k_ ≠ (.slice Ao17 y556.length co17 : Value).ownBlock ∧ k_ ≠ gb553 ∧ k_ ≠ gb554 ∧ k_ ≠ gb564) ho0 (fun k_ hk_ => ⟨Or.elim hk_ (fun hs_ => hs_.1) (fun hn_ => (.inr (Nat.le_trans (below_size (by repeat (first | (with_reducible first | exact HB.out | apply bA | apply bN | apply bD | refine bS ?_ GE553.out | refine bS ?_ GE554.out | refine bS ?_ GE564.out) | exact HB.out))) hn_))), Or.elim hk_ (fun hs_ => hs_.2.1) (fun hn_ => (Kd.fresh' (Kd.N_lt (gN HO558.out)) k_ hn_)), Or.elim hk_ (fun hs_ => hs_.2.2.1) (fun hn_ => (Kd.freshB (g := gb553) (o := .cells #[.bool a0_0, .slice A0_1 l0_1.length c0_1] 25 (0, 0)) (gK BK553.out) k_ hn_)), Or.elim hk_ (fun hs_ => hs_.2.2.2.1) (fun hn_ => (Kd.freshB (g := gb554) (o := .cells #[.bool a1_0, .slice A1_1 l1_1.length c1_1] 25 (0, 0)) (gK BK554.out) k_ hn_)), Or.elim hk_ (fun hs_ => hs_.2.2.2.2) (fun hn_ => (Kd.freshB (g := gb564) (o := .cells #[.bool t560, .slice Ao25 t561.length co25] 25 (0, 0)) (gK BK564.out) k_ hn_))⟩)) (below_size (by repeat (first | (with_reducible first | exact HB.out | apply bA | apply bN | apply bD | refine bS ?_ GE553.out | refine bS ?_ GE554.out | refine bS ?_ GE564.out) | exact HB.out))))
       have n5_ := Aside0.mk (blk_below (gK BK553.out) hb)
       have n6_ := Aside0.mk (blk_below (gK BK554.out) hb)
       have n7_ := Aside0.mk (blk_below (gK BK564.out) hb)
       have n8_ := Aside0.mk (below_step (by repeat (first | (with_reducible first | exact HB.out | apply bA | apply bN | apply bD | refine bS ?_ GE553.out | refine bS ?_ GE554.out | refine bS ?_ GE564.out) | exact HB.out)) hb)
       clear HO0_1
       clear HO1_1
       clear HO558
       clear HO563
       clear BK553
       clear BK554
       clear BK564
       clear HB
       have HO0_1 := n0_
       have HO1_1 := n1_
       have HO558 := n2_
       have HO563 := n3_
       have HO569 := n4_
       have BK553 := n5_
       have BK554 := n6_
       have BK564 := n7_
       have HB := n8_
       clear n0_ n1_ n2_ n3_ n4_ n5_ n6_ n7_ n8_
       (try clear hb)
       (try clear hb2)
       (try clear hk)
       (try clear hi)
       (try clear ho0)
       obtain ⟨Ao51, co51, eo51⟩ := Kd.V_slice HO569.out
       (first | subst eo51 | (injection eo51 with f1_ f2_ f3_; have f4_ := f1_.symm; have f5_ := f3_.symm; clear f1_ f2_ f3_; subst f4_; subst f5_))
       refine hK.out _ _ ⟨(blk_cell BK564.out 0).trans rfl, (blk_cell BK564.out 1).trans rfl, (blk_cell BK553.out 0).trans rfl, (blk_cell BK553.out 1).trans rfl⟩ (fun hHeld => ?_)
       clear hK K
       refine norm_ (a' := ?_) ?_ ?_
       rotate_left
       ·show Act.put _ (some 21) _ = _
        simp only [Act.put, List.setIfInBounds_toArray, List.set_cons_zero, List.set_cons_succ, i64_w, i32_w]
        rfl
       refine one_ (i := 7) (N := some 23) #[true, true, true, true, true, true, true, true, false, false, false, false, false, false, false, false, false, false, false, false, false, false, false, false, false] rfl rfl (one_of HT_.out (by kernel_rfl)) (by decide) (fun K hK => ?_)
       refine goes_ Try.func14 (by kernel_rfl) rfl #[.agg #[.bool t566, .slice Ao51 t567.length co51], .agg #[.bool a0_0, .slice A0_1 l0_1.length c0_1]] (by rfl) rfl rfl (by (try simp only [List.map_toArray, List.map_cons, List.map_nil]); first | done | rfl | (simp only [List.length_drop, List.length_take]; rfl)) ?_
       with_reducible refine (num_Cmp.calls k t566 _ _ t567 a0_0 _ _ l0_1 t570 _ ?side1 ?side2 ?side3 ?side4 A29.out).mono ?_
       (case side1 => repeat (first | exact (Kd.V_reads' HO569.out).2.2 | (with_reducible refine Kd.C_alloc ?_ _) | (with_reducible refine Kd.C_drewN ?_ _) | (with_reducible refine Kd.C_drew ?_)))
       (case side2 => exact (Kd.V_reads' HO569.out).2.1)
       (case side3 => repeat (first | exact (Kd.V_reads' HO0_1.out).2.2 | (with_reducible refine Kd.C_alloc ?_ _) | (with_reducible refine Kd.C_drewN ?_ _) | (with_reducible refine Kd.C_drew ?_)))
       (case side4 => exact (Kd.V_reads' HO0_1.out).2.1)
       rintro e w52 ⟨rfl, hb⟩
       refine ⟨_, rfl, ?_⟩
       have n0_ := Aside0.mk (Kd.V_below (gV HO0_1.out) hb)
       have n1_ := Aside0.mk (Kd.V_below (gV HO1_1.out) hb)
       have n2_ := Aside0.mk (Kd.N_below (gN HO558.out) hb)
       have n3_ := Aside0.mk (Kd.V_below (gV HO563.out) hb)
       have n4_ := Aside0.mk (Kd.V_below (gV HO569.out) hb)
       have n5_ := Aside0.mk (blk_below (gK BK553.out) hb)
       have n6_ := Aside0.mk (blk_below (gK BK554.out) hb)
       have n7_ := Aside0.mk (blk_below (gK BK564.out) hb)
       have n8_ := Aside0.mk (below_step (by repeat (first | (with_reducible first | exact HB.out | apply bA | apply bN | apply bD | refine bS ?_ GE553.out | refine bS ?_ GE554.out | refine bS ?_ GE564.out) | exact HB.out)) hb)
       clear HO0_1
       clear HO1_1
       clear HO558
       clear HO563
       clear HO569
       clear BK553
       clear BK554
       clear BK564
       clear HB
       have HO0_1 := n0_
       have HO1_1 := n1_
       have HO558 := n2_
       have HO563 := n3_
       have HO569 := n4_
       have BK553 := n5_
       have BK554 := n6_
       have BK564 := n7_
       have HB := n8_
       clear n0_ n1_ n2_ n3_ n4_ n5_ n6_ n7_ n8_
       (try clear hb)
       (try clear hb2)
       (try clear hk)
       (try clear hi)
       refine hK.out _ _ ⟨(blk_cell BK564.out 0).trans rfl, (blk_cell BK564.out 1).trans rfl, (blk_cell BK553.out 0).trans rfl, (blk_cell BK553.out 1).trans rfl⟩ (fun hHeld => ?_)
       clear hK K
       refine norm_ (a' := ?_) ?_ ?_
       rotate_left
       ·show Act.put _ (some 23) _ = _
        simp only [Act.put, List.setIfInBounds_toArray, List.set_cons_zero, List.set_cons_succ, i64_w, i32_w]
        rfl
       refine pure_ (i := 8) (N := some 24) (v := ?_) (a' := ?_) #[true, true, true, true, true, true, true, true, true, false, false, false, false, false, false, false, false, false, false, false, false, false, false, false, false] rfl rfl (any_of HT_.out (by kernel_rfl)) (fun _ _ _ h => h) (Or.inl ⟨by rfl, ?_⟩) ?_ ?_
       rotate_left
       ·intro w'
        go_simp
        with_reducible rfl
       rotate_left
       ·simp only [Act.put, List.setIfInBounds_toArray, List.set_cons_zero, List.set_cons_succ, i64_w, i32_w]
        rfl
       refine pure_ (i := 9) (N := some 25) (v := ?_) (a' := ?_) #[true, true, true, true, true, true, true, true, true, true, false, false, false, false, false, false, false, false, false, false, false, false, false, false, false] rfl rfl (any_of HT_.out (by kernel_rfl)) (fun _ _ _ h => h) (Or.inl ⟨by rfl, ?_⟩) ?_ ?_
       rotate_left
       ·intro w'
        go_simp
        with_reducible rfl
       rotate_left
       ·simp only [Act.put, List.setIfInBounds_toArray, List.set_cons_zero, List.set_cons_succ, i64_w, i32_w]
        rfl
       refine pure_ (i := 10) (N := some 26) (v := ?_) (a' := ?_) #[true, true, true, true, true, true, true, true, true, true, true, false, false, false, false, false, false, false, false, false, false, false, false, false, false] rfl rfl (any_of HT_.out (by kernel_rfl)) (fun _ _ _ h => h) (Or.inl ⟨by rfl, ?_⟩) ?_ ?_
       rotate_left
       ·intro w'
        go_simp
        with_reducible rfl
       rotate_left
       ·simp only [Act.put, List.setIfInBounds_toArray, List.set_cons_zero, List.set_cons_succ, i64_w, i32_w]
        rfl
       refine take_ (i := 11) (N := some 27) (v := ?_) (a' := ?_) #[true, true, true, true, true, true, true, true, true, true, true, true, false, false, false, false, false, false, false, false, false, false, false, false, false] rfl rfl (take_ofW HT_.out HW_.out (by kernel_rfl)) (fun _ _ _ h => h) (Or.inl ⟨by rfl, ?_⟩) hHeld ?_ ?_
       rotate_left
       ·rintro w' ⟨s0, s1, s2, s3⟩
        go_simp
        with_reducible rfl
       rotate_left
       ·simp only [Act.put, List.setIfInBounds_toArray, List.set_cons_zero, List.set_cons_succ, i64_w, i32_w]
        rfl
       refine take_ (i := 12) (N := some 28) (v := ?_) (a' := ?_) #[true, true, true, true, true, true, true, true, true, true, true, true, true, false, false, false, false, false, false, false, false, false, false, false, false] rfl rfl (take_ofW HT_.out HW_.out (by kernel_rfl)) (fun _ _ _ h => h) (Or.inl ⟨by rfl, ?_⟩) hHeld ?_ ?_
       rotate_left
       ·rintro w' ⟨s0, s1, s2, s3⟩
        go_simp
        with_reducible rfl
       rotate_left
       ·simp only [Act.put, List.setIfInBounds_toArray, List.set_cons_zero, List.set_cons_succ, i64_w, i32_w]
        rfl
       refine one_ (i := 13) (N := some 29) #[true, true, true, true, true, true, true, true, true, true, true, true, true, true, false, false, false, false, false, false, false, false, false, false, false] rfl rfl (one_of HT_.out (by kernel_rfl)) (by decide) (fun K hK => ?_)
       refine goes_ Try.func17 (by kernel_rfl) rfl #[.agg #[.bool a0_0, .slice A0_1 l0_1.length c0_1], .agg #[.bool t560, .slice Ao25 t561.length co25]] (by rfl) rfl rfl (by (try simp only [List.map_toArray, List.map_cons, List.map_nil]); first | done | rfl | (simp only [List.length_drop, List.length_take]; rfl)) ?_
       with_reducible refine (num_Add.calls k a0_0 (fun k_ => (((P0_1_ k_ ∨ P1_1_ k_) ∨ w.heap.size ≤ k_) ∧ (some k_ ≠ (.slice Ao17 y556.length co17 : Value).ownBlock ∧ (k_ ≠ gb553 ∧ (k_ ≠ gb554 ∧ k_ ≠ gb564))))) _ _ l0_1 t560 (fun k_ => (((P0_1_ k_ ∨ P1_1_ k_) ∨ w.heap.size ≤ k_) ∧ (some k_ ≠ (.slice Ao17 y556.length co17 : Value).ownBlock ∧ (k_ ≠ gb553 ∧ (k_ ≠ gb554 ∧ k_ ≠ gb564))))) _ _ t561 t571 t572 _ ?side1 ?side2 A31.out).mono ?_
       (case side1 => exact HO0_1.out)
       (case side2 => exact HO563.out)
       rintro e w53 ⟨v573, rfl, ho0, hb⟩
       refine ⟨_, rfl, ?_⟩
       have n0_ := Aside0.mk (Kd.V_below (gV HO0_1.out) hb)
       have n1_ := Aside0.mk (Kd.V_below (gV HO1_1.out) hb)
       have n2_ := Aside0.mk (Kd.N_below (gN HO558.out) hb)
       have n3_ := Aside0.mk (Kd.V_below (gV HO563.out) hb)
       have n4_ := Aside0.mk (Kd.V_below (gV HO569.out) hb)
       have n5_ := Aside0.mk (Kd.V_lower (Kd.V_mono (ok' := fun k_ => ((P0_1_ k_ ∨ P1_1_ k_) ∨ w.heap.size ≤ k_) ∧ some k_ ≠ (.slice Ao17 y556.length co17 : Value).ownBlock ∧ k_ ≠ gb553 ∧ k_ ≠ gb554 ∧ k_ ≠ gb564) ho0 (fun k_ hk_ => ⟨Or.elim hk_ (fun hs_ => Or.elim hs_ (fun hs_ => hs_.1) (fun hs_ => hs_.1)) (fun hn_ => (.inr (Nat.le_trans (below_size (by repeat (first | (with_reducible first | exact HB.out | apply bA | apply bN | apply bD | refine bS ?_ GE553.out | refine bS ?_ GE554.out | refine bS ?_ GE564.out) | exact HB.out))) hn_))), Or.elim hk_ (fun hs_ => Or.elim hs_ (fun hs_ => hs_.2.1) (fun hs_ => hs_.2.1)) (fun hn_ => (Kd.fresh' (Kd.N_lt (gN HO558.out)) k_ hn_)), Or.elim hk_ (fun hs_ => Or.elim hs_ (fun hs_ => hs_.2.2.1) (fun hs_ => hs_.2.2.1)) (fun hn_ => (Kd.freshB (g := gb553) (o := .cells #[.bool a0_0, .slice A0_1 l0_1.length c0_1] 25 (0, 0)) (gK BK553.out) k_ hn_)), Or.elim hk_ (fun hs_ => Or.elim hs_ (fun hs_ => hs_.2.2.2.1) (fun hs_ => hs_.2.2.2.1)) (fun hn_ => (Kd.freshB (g := gb554) (o := .cells #[.bool a1_0, .slice A1_1 l1_1.length c1_1] 25 (0, 0)) (gK BK554.out) k_ hn_)), Or.elim hk_ (fun hs_ => Or.elim hs_ (fun hs_ => hs_.2.2.2.2) (fun hs_ => hs_.2.2.2.2)) (fun hn_ => (Kd.freshB (g := gb564) (o := .cells #[.bool t560, .slice Ao25 t561.length co25] 25 (0, 0)) (gK BK564.out) k_ hn_))⟩)) (below_size (by repeat (first | (with_reducible first | exact HB.out | apply bA | apply bN | apply bD | refine bS ?_ GE553.out | refine bS ?_ GE554.out | refine bS ?_ GE564.out) | exact HB.out))))
       have n6_ := Aside0.mk (blk_below (gK BK553.out) hb)
       have n7_ := Aside0.mk (blk_below (gK BK554.out) hb)
       have n8_ := Aside0.mk (blk_below (gK BK564.out) hb)
       have n9_ := Aside0.mk (below_step (by repeat (first | (with_reducible first | exact HB.out | apply bA | apply bN | apply bD | refine bS ?_ GE553.out | refine bS ?_ GE554.out | refine bS ?_ GE564.out) | exact HB.out)) hb)
       clear HO0_1
       clear HO1_1
       clear HO558
       clear HO563
       clear HO569
       clear BK553
       clear BK554
       clear BK564
       clear HB
       have HO0_1 := n0_
       have HO1_1 := n1_
       have HO558 := n2_
       have HO563 := n3_
       have HO569 := n4_
       have HO574 := n5_
       have BK553 := n6_
       have BK554 := n7_
       have BK564 := n8_
       have HB := n9_
       clear n0_ n1_ n2_ n3_ n4_ n5_ n6_ n7_ n8_ n9_
       (try clear hb)
       (try clear hb2)
       (try clear hk)
       (try clear hi)
       (try clear ho0)
       obtain ⟨Ao54, co54, eo54⟩ := Kd.V_slice HO574.out
       (first | subst eo54 | (injection eo54 with f1_ f2_ f3_; have f4_ := f1_.symm; have f5_ := f3_.symm; clear f1_ f2_ f3_; subst f4_; subst f5_))
       refine hK.out _ _ ⟨(blk_cell BK564.out 0).trans rfl, (blk_cell BK564.out 1).trans rfl, (blk_cell BK553.out 0).trans rfl, (blk_cell BK553.out 1).trans rfl⟩ (fun hHeld => ?_)
       clear hK K
       refine norm_ (a' := ?_) ?_ ?_
       rotate_left
       ·show Act.put _ (some 29) _ = _
        simp only [Act.put, List.setIfInBounds_toArray, List.set_cons_zero, List.set_cons_succ, i64_w, i32_w]
        rfl
       refine one_ (i := 14) (N := some 30) #[true, true, true, true, true, true, true, true, true, true, true, true, true, true, true, false, false, false, false, false, false, false, false, false, false] rfl rfl (one_of HT_.out (by kernel_rfl)) (by decide) (fun K hK => ?_)
       refine goes_ Try.func15 (by kernel_rfl) rfl #[.agg #[.bool t571, .slice Ao54 t572.length co54]] (by rfl) rfl rfl (by (try simp only [List.map_toArray, List.map_cons, List.map_nil]); first | done | rfl | (simp only [List.length_drop, List.length_take]; rfl)) ?_
       with_reducible refine (num_Sign.calls k t571 _ _ t572 t575 _ ?side1 ?side2 A32.out).mono ?_
       (case side1 => repeat (first | exact (Kd.V_reads' HO574.out).2.2 | (with_reducible refine Kd.C_alloc ?_ _) | (with_reducible refine Kd.C_drewN ?_ _) | (with_reducible refine Kd.C_drew ?_)))
       (case side2 => exact (Kd.V_reads' HO574.out).2.1)
       rintro e w55 ⟨rfl, hb⟩
       refine ⟨_, rfl, ?_⟩
       have n0_ := Aside0.mk (Kd.V_below (gV HO0_1.out) hb)
       have n1_ := Aside0.mk (Kd.V_below (gV HO1_1.out) hb)
       have n2_ := Aside0.mk (Kd.N_below (gN HO558.out) hb)
       have n3_ := Aside0.mk (Kd.V_below (gV HO563.out) hb)
       have n4_ := Aside0.mk (Kd.V_below (gV HO569.out) hb)
       have n5_ := Aside0.mk (Kd.V_below (gV HO574.out) hb)
       have n6_ := Aside0.mk (blk_below (gK BK553.out) hb)
       have n7_ := Aside0.mk (blk_below (gK BK554.out) hb)
       have n8_ := Aside0.mk (blk_below (gK BK564.out) hb)
       have n9_ := Aside0.mk (below_step (by repeat (first | (with_reducible first | exact HB.out | apply bA | apply bN | apply bD | refine bS ?_ GE553.out | refine bS ?_ GE554.out | refine bS ?_ GE564.out) | exact HB.out)) hb)
       clear HO0_1
       clear HO1_1
       clear HO558
       clear HO563
       clear HO569
       clear HO574
       clear BK553
       clear BK554
       clear BK564
       clear HB
       have HO0_1 := n0_
       have HO1_1 := n1_
       have HO558 := n2_
       have HO563 := n3_
       have HO569 := n4_
       have HO574 := n5_
       have BK553 := n6_
       have BK554 := n7_
       have BK564 := n8_
       have HB := n9_
       clear n0_ n1_ n2_ n3_ n4_ n5_ n6_ n7_ n8_ n9_
       (try clear hb)
       (try clear hb2)
       (try clear hk)
       (try clear hi)
       refine hK.out _ _ ⟨(blk_cell BK564.out 0).trans rfl, (blk_cell BK564.out 1).trans rfl, (blk_cell BK553.out 0).trans rfl, (blk_cell BK553.out 1).trans rfl⟩ (fun hHeld => ?_)
       clear hK K
       refine norm_ (a' := ?_) ?_ ?_
       rotate_left
       ·show Act.put _ (some 30) _ = _
        simp only [Act.put, List.setIfInBounds_toArray, List.set_cons_zero, List.set_cons_succ, i64_w, i32_w]
        rfl
       refine pure_ (i := 15) (N := some 31) (v := ?_) (a' := ?_) #[true, true, true, true, true, true, true, true, true, true, true, true, true, true, true, true, false, false, false, false, false, false, false, false, false] rfl rfl (any_of HT_.out (by kernel_rfl)) (fun _ _ _ h => h) (Or.inl ⟨by rfl, ?_⟩) ?_ ?_
       rotate_left
       ·intro w'
        go_simp
        with_reducible rfl
       rotate_left
       ·simp only [Act.put, List.setIfInBounds_toArray, List.set_cons_zero, List.set_cons_succ, i64_w, i32_w]
        rfl
       refine pure_ (i := 16) (N := some 32) (v := ?_) (a' := ?_) #[true, true, true, true, true, true, true, true, true, true, true, true, true, true, true, true, true, false, false, false, false, false, false, false, false] rfl rfl (any_of HT_.out (by kernel_rfl)) (fun _ _ _ h => h) (Or.inl ⟨by rfl, ?_⟩) ?_ ?_
       rotate_left
       ·intro w'
        go_simp
        with_reducible rfl
       rotate_left
       ·simp only [Act.put, List.setIfInBounds_toArray, List.set_cons_zero, List.set_cons_succ, i64_w, i32_w]
        rfl
       refine pure_ (i := 17) (N := some 33) (v := ?_) (a' := ?_) #[true, true, true, true, true, true, true, true, true, true, true, true, true, true, true, true, true, true, false, false, false, false, false, false, false] rfl rfl (any_of HT_.out (by kernel_rfl)) (fun _ _ _ h => h) (Or.inl ⟨by rfl, ?_⟩) ?_ ?_
       rotate_left
       ·intro w'
        go_simp
        with_reducible rfl
       rotate_left
       ·simp only [Act.put, List.setIfInBounds_toArray, List.set_cons_zero, List.set_cons_succ, i64_w, i32_w]
        rfl
       refine pure_ (i := 18) (N := some 34) (v := undef) (a' := ?_) #[true, true, true, true, true, true, true, true, true, true, true, true, true, true, true, true, true, true, true, false, false, false, false, false, false] rfl rfl (any_of HT_.out (by kernel_rfl)) (fun _ _ _ h => h) (Or.inr ⟨by rfl, rfl⟩) ?_ ?_
       rotate_left
       ·simp only [Act.put, List.setIfInBounds_toArray, List.set_cons_zero, List.set_cons_succ, i64_w, i32_w]
        rfl
       refine pure_ (i := 19) (N := some 35) (v := undef) (a' := ?_) #[true, true, true, true, true, true, true, true, true, true, true, true, true, true, true, true, true, true, true, true, false, false, false, false, false] rfl rfl (any_of HT_.out (by kernel_rfl)) (fun _ _ _ h => h) (Or.inr ⟨by rfl, rfl⟩) ?_ ?_
       rotate_left
       ·simp only [Act.put, List.setIfInBounds_toArray, List.set_cons_zero, List.set_cons_succ, i64_w, i32_w]
        rfl
       refine pure_ (i := 20) (N := some 36) (v := undef) (a' := ?_) #[true, true, true, true, true, true, true, true, true, true, true, true, true, true, true, true, true, true, true, true, true, false, false, false, false] rfl rfl (any_of HT_.out (by kernel_rfl)) (fun _ _ _ h => h) (Or.inr ⟨by rfl, rfl⟩) ?_ ?_
       rotate_left
       ·simp only [Act.put, List.setIfInBounds_toArray, List.set_cons_zero, List.set_cons_succ, i64_w, i32_w]
        rfl
       refine pure_ (i := 21) (N := some 37) (v := undef) (a' := ?_) #[true, true, true, true, true, true, true, true, true, true, true, true, true, true, true, true, true, true, true, true, true, true, false, false, false] rfl rfl (any_of HT_.out (by kernel_rfl)) (fun _ _ _ h => h) (Or.inr ⟨by rfl, rfl⟩) ?_ ?_
       rotate_left
       ·simp only [Act.put, List.setIfInBounds_toArray, List.set_cons_zero, List.set_cons_succ, i64_w, i32_w]
        rfl
       refine pure_ (i := 22) (N := some 38) (v := undef) (a' := ?_) #[true, true, true, true, true, true, true, true, true, true, true, true, true, true, true, true, true, true, true, true, true, true, true, false, false] rfl rfl (any_of HT_.out (by kernel_rfl)) (fun _ _ _ h => h) (Or.inr ⟨by rfl, rfl⟩) ?_ ?_
       rotate_left
       ·simp only [Act.put, List.setIfInBounds_toArray, List.set_cons_zero, List.set_cons_succ, i64_w, i32_w]
        rfl
       refine pure_ (i := 23) (N := some 39) (v := undef) (a' := ?_) #[true, true, true, true, true, true, true, true, true, true, true, true, true, true, true, true, true, true, true, true, true, true, true, true, false] rfl rfl (any_of HT_.out (by kernel_rfl)) (fun _ _ _ h => h) (Or.inr ⟨by rfl, rfl⟩) ?_ ?_
       rotate_left
       ·simp only [Act.put, List.setIfInBounds_toArray, List.set_cons_zero, List.set_cons_succ, i64_w, i32_w]
        rfl
       refine pure_ (i := 24) (N := some 40) (v := ?_) (a' := ?_) #[true, true, true, true, true, true, true, true, true, true, true, true, true, true, true, true, true, true, true, true, true, true, true, true, true] rfl rfl (any_of HT_.out (by kernel_rfl)) (fun _ _ _ h => h) (Or.inl ⟨by rfl, ?_⟩) ?_ ?_
       rotate_left
       ·intro w'
        go_simp
        with_reducible rfl
       rotate_left
       ·simp only [Act.put, List.setIfInBounds_toArray, List.set_cons_zero, List.set_cons_succ, i64_w, i32_w]
        rfl
       refine done_ (done_of HT_.out (by kernel_rfl)) ?_
       try go_wp2
       go_meet
       case rel => exact ⟨_, (true), (by first | rfl | (simp; done) | (simp [*]; done)), H', ⟨by first | omega | exact Nat.le_refl _⟩, ⟨by (with_reducible repeat (first | apply Kd.V_alloc | apply Kd.V_drewN | apply Kd.V_drew)); exact Kd.V_mono HO0_1.out (fun _ hk => ⟨hk.1, ⟨hk.2.2.1, ⟨hk.2.2.2.1, hk.2.2.2.2⟩⟩⟩)⟩, ⟨by (with_reducible repeat (first | apply Kd.V_alloc | apply Kd.V_drewN | apply Kd.V_drew)); exact Kd.V_mono HO1_1.out (fun _ hk => ⟨hk.1, ⟨hk.2.2.1, ⟨hk.2.2.2.1, hk.2.2.2.2⟩⟩⟩)⟩, ⟨by (with_reducible repeat (first | apply Kd.V_alloc | apply Kd.V_drewN | apply Kd.V_drew)); exact Kd.V_mono HO563.out (fun _ hk => ⟨hk.1, ⟨hk.2.2.1, ⟨hk.2.2.2.1, hk.2.2.2.2⟩⟩⟩)⟩, ⟨by (with_reducible repeat (first | refine blk_drewN ?_ _ | refine blk_drew ?_ | refine blk_alloc ?_ _)); exact BK553.out⟩, ⟨by (with_reducible repeat (first | refine blk_drewN ?_ _ | refine blk_drew ?_ | refine blk_alloc ?_ _)); exact BK554.out⟩, ⟨by (with_reducible repeat (first | refine blk_drewN ?_ _ | refine blk_drew ?_ | refine blk_alloc ?_ _)); exact BK564.out⟩, ⟨by repeat (first | (with_reducible first | exact HB.out | apply bA | apply bN | apply bD | refine bS ?_ GE553.out | refine bS ?_ GE554.out | refine bS ?_ GE564.out) | exact HB.out)⟩⟩
     ·rw [if_neg c30] at H
      have c30b0 : (t570 == 0) = false := beq_eq_false_iff_ne.mpr c30
      have c30b1 : (t570 != 0) = true := bne_iff_ne.mpr c30
      (first | rw [c30b0] | rw [c30b1] | (simp only [i64_w, i32_w]; rw [c30b0]) | skip)
      have H' := Aside0.mk H
      clear H
      try go_wp2
      have n0_ : Aside0 (Kd.V (Kd.int .u64) 54 ((w21.setCell ⟨gb564, 0, none⟩ (.bool t560)).setCell ⟨gb564, 1, none⟩ (.slice Ao25 t561.length co25)) w.heap.size (fun k_ => ((P0_1_ k_ ∨ P1_1_ k_) ∨ w.heap.size ≤ k_) ∧ some k_ ≠ (.slice Ao17 y556.length co17 : Value).ownBlock ∧ k_ ≠ gb553 ∧ k_ ≠ gb554 ∧ k_ ≠ gb564) (.slice A0_1 l0_1.length c0_1) l0_1) := ⟨by (with_reducible repeat (first | apply Kd.V_alloc | apply Kd.V_drewN | apply Kd.V_drew)); exact Kd.V_mono (Kd.V_far (p := ⟨gb564, 1, none⟩) (Kd.V_far (p := ⟨gb564, 0, none⟩) (Kd.V_mono HO0_1.out (fun k_ hk => (⟨hk, hk.2⟩ : _ ∧ k_ ≠ gb564))) (fun _ hk => hk.2) (.bool t560)) (fun _ hk => hk.2) (.slice Ao25 t561.length co25)) (fun _ hk => ⟨hk.1.1.1.1.1, ⟨hk.1.1.2, ⟨hk.1.1.1.1.2, ⟨hk.1.1.1.2, hk.1.2⟩⟩⟩⟩)⟩
      have n1_ : Aside0 (Kd.V (Kd.int .u64) 54 ((w21.setCell ⟨gb564, 0, none⟩ (.bool t560)).setCell ⟨gb564, 1, none⟩ (.slice Ao25 t561.length co25)) w.heap.size (fun k_ => ((P0_1_ k_ ∨ P1_1_ k_) ∨ w.heap.size ≤ k_) ∧ some k_ ≠ (.slice Ao17 y556.length co17 : Value).ownBlock ∧ k_ ≠ gb553 ∧ k_ ≠ gb554 ∧ k_ ≠ gb564) (.slice A1_1 l1_1.length c1_1) l1_1) := ⟨by (with_reducible repeat (first | apply Kd.V_alloc | apply Kd.V_drewN | apply Kd.V_drew)); exact Kd.V_mono (Kd.V_far (p := ⟨gb564, 1, none⟩) (Kd.V_far (p := ⟨gb564, 0, none⟩) (Kd.V_mono HO1_1.out (fun k_ hk => (⟨hk, hk.2⟩ : _ ∧ k_ ≠ gb564))) (fun _ hk => hk.2) (.bool t560)) (fun _ hk => hk.2) (.slice Ao25 t561.length co25)) (fun _ hk => ⟨hk.1.1.1.1.1, ⟨hk.1.1.2, ⟨hk.1.1.1.1.2, ⟨hk.1.1.1.2, hk.1.2⟩⟩⟩⟩)⟩
      have n2_ : Aside0 (Kd.N k25 25 ((w21.setCell ⟨gb564, 0, none⟩ (.bool t560)).setCell ⟨gb564, 1, none⟩ (.slice Ao25 t561.length co25)) w.heap.size (fun k_ => ((P0_1_ k_ ∨ P1_1_ k_) ∨ w.heap.size ≤ k_) ∧ k_ ≠ gb553 ∧ k_ ≠ gb554 ∧ k_ ≠ gb564) (.slice Ao17 y556.length co17) y556) := ⟨by (with_reducible repeat (first | apply Kd.N_alloc | apply Kd.N_drewN | apply Kd.N_drew)); exact Kd.N_mono (Kd.N_far (p := ⟨gb564, 1, none⟩) (Kd.N_far (p := ⟨gb564, 0, none⟩) (Kd.N_mono HO558.out (fun k_ hk => (⟨hk, hk.2⟩ : _ ∧ k_ ≠ gb564))) (fun _ hk => hk.2) (.bool t560)) (fun _ hk => hk.2) (.slice Ao25 t561.length co25)) (fun _ hk => ⟨hk.1.1.1, ⟨hk.1.1.2.1, ⟨hk.1.1.2.2, hk.1.2⟩⟩⟩)⟩
      have n3_ : Aside0 (Kd.V (Kd.int .u64) 54 ((w21.setCell ⟨gb564, 0, none⟩ (.bool t560)).setCell ⟨gb564, 1, none⟩ (.slice Ao25 t561.length co25)) w.heap.size (fun k_ => ((P0_1_ k_ ∨ P1_1_ k_) ∨ w.heap.size ≤ k_) ∧ some k_ ≠ (.slice Ao17 y556.length co17 : Value).ownBlock ∧ k_ ≠ gb553 ∧ k_ ≠ gb554 ∧ k_ ≠ gb564) (.slice Ao25 t561.length co25) t561) := ⟨by (with_reducible repeat (first | apply Kd.V_alloc | apply Kd.V_drewN | apply Kd.V_drew)); exact Kd.V_mono (Kd.V_far (p := ⟨gb564, 1, none⟩) (Kd.V_far (p := ⟨gb564, 0, none⟩) (Kd.V_mono HO563.out (fun k_ hk => (⟨hk, hk.2⟩ : _ ∧ k_ ≠ gb564))) (fun _ hk => hk.2) (.bool t560)) (fun _ hk => hk.2) (.slice Ao25 t561.length co25)) (fun _ hk => ⟨hk.1.1.1, ⟨hk.1.1.2.1, ⟨hk.1.1.2.2.1, ⟨hk.1.1.2.2.2, hk.1.2⟩⟩⟩⟩)⟩
      have n4_ : Aside0 (((w21.setCell ⟨gb564, 0, none⟩ (.bool t560)).setCell ⟨gb564, 1, none⟩ (.slice Ao25 t561.length co25)).heap[gb553]? = some (.cells #[.bool a0_0, .slice A0_1 l0_1.length c0_1] 25 (0, 0))) := ⟨by (with_reducible repeat (first | refine blk_drewN ?_ _ | refine blk_drew ?_ | refine blk_alloc ?_ _)); refine blk_far ?_ NB553_564.out _; (with_reducible repeat (first | refine blk_drewN ?_ _ | refine blk_drew ?_ | refine blk_alloc ?_ _)); refine blk_far ?_ NB553_564.out _; (with_reducible repeat (first | refine blk_drewN ?_ _ | refine blk_drew ?_ | refine blk_alloc ?_ _)); exact BK553.out⟩
      have n5_ : Aside0 (((w21.setCell ⟨gb564, 0, none⟩ (.bool t560)).setCell ⟨gb564, 1, none⟩ (.slice Ao25 t561.length co25)).heap[gb554]? = some (.cells #[.bool a1_0, .slice A1_1 l1_1.length c1_1] 25 (0, 0))) := ⟨by (with_reducible repeat (first | refine blk_drewN ?_ _ | refine blk_drew ?_ | refine blk_alloc ?_ _)); refine blk_far ?_ NB554_564.out _; (with_reducible repeat (first | refine blk_drewN ?_ _ | refine blk_drew ?_ | refine blk_alloc ?_ _)); refine blk_far ?_ NB554_564.out _; (with_reducible repeat (first | refine blk_drewN ?_ _ | refine blk_drew ?_ | refine blk_alloc ?_ _)); exact BK554.out⟩
      have n6_ : Aside0 (((w21.setCell ⟨gb564, 0, none⟩ (.bool t560)).setCell ⟨gb564, 1, none⟩ (.slice Ao25 t561.length co25)).heap[gb564]? = some (.cells #[.bool t560, .slice Ao25 t561.length co25] 25 (0, 0))) := ⟨by (with_reducible repeat (first | refine blk_drewN ?_ _ | refine blk_drew ?_ | refine blk_alloc ?_ _)); refine blk_put (cs := #[.bool t560, .slice none 0 0]) ?_ 1 _ rfl; (with_reducible repeat (first | refine blk_drewN ?_ _ | refine blk_drew ?_ | refine blk_alloc ?_ _)); refine blk_put (cs := #[.bool false, .slice none 0 0]) ?_ 0 _ rfl; (with_reducible repeat (first | refine blk_drewN ?_ _ | refine blk_drew ?_ | refine blk_alloc ?_ _)); exact BK564.out⟩
      have n7_ : Aside0 (Below w.heap.size w ((w21.setCell ⟨gb564, 0, none⟩ (.bool t560)).setCell ⟨gb564, 1, none⟩ (.slice Ao25 t561.length co25))) := ⟨by repeat (first | (with_reducible first | exact HB.out | apply bA | apply bN | apply bD | refine bS ?_ GE553.out | refine bS ?_ GE554.out | refine bS ?_ GE564.out) | exact HB.out)⟩
      (try clear HO0_1)
      (try clear HO1_1)
      (try clear HO558)
      (try clear HO563)
      (try clear BK553)
      (try clear BK554)
      (try clear BK564)
      (try clear HB)
      generalize ((w21.setCell ⟨gb564, 0, none⟩ (.bool t560)).setCell ⟨gb564, 1, none⟩ (.slice Ao25 t561.length co25)) = w56 at n0_ n1_ n2_ n3_ n4_ n5_ n6_ n7_ ⊢
      have HO0_1 := n0_
      have HO1_1 := n1_
      have HO558 := n2_
      have HO563 := n3_
      have BK553 := n4_
      have BK554 := n5_
      have BK564 := n6_
      have HB := n7_
      clear n0_ n1_ n2_ n3_ n4_ n5_ n6_ n7_
      have n0_ := Aside0.mk (Kd.V_drew HO0_1.out)
      have n1_ := Aside0.mk (Kd.V_drew HO1_1.out)
      have n2_ := Aside0.mk (Kd.N_drew HO558.out)
      have n3_ := Aside0.mk (Kd.V_drew HO563.out)
      have n4_ := Aside0.mk (blk_drew BK553.out)
      have n5_ := Aside0.mk (blk_drew BK554.out)
      have n6_ := Aside0.mk (blk_drew BK564.out)
      have n7_ := Aside0.mk (bD HB.out)
      clear HO0_1
      clear HO1_1
      clear HO558
      clear HO563
      clear BK553
      clear BK554
      clear BK564
      clear HB
      have HO0_1 := n0_
      have HO1_1 := n1_
      have HO558 := n2_
      have HO563 := n3_
      have BK553 := n4_
      have BK554 := n5_
      have BK564 := n6_
      have HB := n7_
      clear n0_ n1_ n2_ n3_ n4_ n5_ n6_ n7_
      refine start_ (n := 25) (S := fun w' => w'.cell? ⟨gb564, 0, none⟩ = some (.bool t560) ∧ w'.cell? ⟨gb564, 1, none⟩ = some (.slice Ao25 t561.length co25) ∧ w'.cell? ⟨gb553, 0, none⟩ = some (.bool a0_0) ∧ w'.cell? ⟨gb553, 1, none⟩ = some (.slice A0_1 l0_1.length c0_1)) (ds := []) #[false, false, false, false, false, false, false, false, false, false, false, false, false, false, false, false, false, false, false, false, false, false, false, false, false] (by kernel_rfl) rfl rfl ⟨(blk_cell BK564.out 0).trans rfl, (blk_cell BK564.out 1).trans rfl, (blk_cell BK553.out 0).trans rfl, (blk_cell BK553.out 1).trans rfl⟩ (fun hHeld => ?_); refine with_tabW isohyetlaw02_NumSigns.tab6 isohyetlaw02_NumSigns.bits6 (fun HT_ HW_ => ?_)
      generalize w56.drew = w57 at HO0_1 HO1_1 HO558 HO563 BK553 BK554 BK564 HB hHeld ⊢
      refine take_ (i := 0) (N := some 16) (v := ?_) (a' := ?_) #[true, false, false, false, false, false, false, false, false, false, false, false, false, false, false, false, false, false, false, false, false, false, false, false, false] rfl rfl (take_ofW HT_.out HW_.out (by kernel_rfl)) (fun _ _ _ h => h) (Or.inl ⟨by rfl, ?_⟩) hHeld ?_ ?_
      rotate_left
      ·rintro w' ⟨s0, s1, s2, s3⟩
       go_simp
       with_reducible rfl
      rotate_left
      ·simp only [Act.put, List.setIfInBounds_toArray, List.set_cons_zero, List.set_cons_succ, i64_w, i32_w]
       rfl
      refine one_ (i := 1) (N := some 17) #[true, true, false, false, false, false, false, false, false, false, false, false, false, false, false, false, false, false, false, false, false, false, false, false, false] rfl rfl (one_of HT_.out (by kernel_rfl)) (by decide) (fun K hK => ?_)
      refine goes_ Try.func13 (by kernel_rfl) rfl #[.agg #[.bool t560, .slice Ao25 t561.length co25]] (by rfl) rfl rfl (by (try simp only [List.map_toArray, List.map_cons, List.map_nil]); first | done | rfl | (simp only [List.length_drop, List.length_take]; rfl)) ?_
      with_reducible refine (isohyetlaw02_Right.calls t560 _ _ t561 true _ ?side1 ?side2 A26.out).mono ?_
      (case side1 => repeat (first | exact (Kd.V_reads' HO563.out).2.2 | (with_reducible refine Kd.C_alloc ?_ _) | (with_reducible refine Kd.C_drewN ?_ _) | (with_reducible refine Kd.C_drew ?_)))
      (case side2 => exact (Kd.V_reads' HO563.out).2.1)
      rintro e w58 ⟨rfl, hb⟩
      refine ⟨_, rfl, ?_⟩
      have n0_ := Aside0.mk (Kd.V_below (gV HO0_1.out) hb)
      have n1_ := Aside0.mk (Kd.V_below (gV HO1_1.out) hb)
      have n2_ := Aside0.mk (Kd.N_below (gN HO558.out) hb)
      have n3_ := Aside0.mk (Kd.V_below (gV HO563.out) hb)
      have n4_ := Aside0.mk (blk_below (gK BK553.out) hb)
      have n5_ := Aside0.mk (blk_below (gK BK554.out) hb)
      have n6_ := Aside0.mk (blk_below (gK BK564.out) hb)
      have n7_ := Aside0.mk (below_step (by repeat (first | (with_reducible first | exact HB.out | apply bA | apply bN | apply bD | refine bS ?_ GE553.out | refine bS ?_ GE554.out | refine bS ?_ GE564.out) | exact HB.out)) hb)
      clear HO0_1
      clear HO1_1
      clear HO558
      clear HO563
      clear BK553
      clear BK554
      clear BK564
      clear HB
      have HO0_1 := n0_
      have HO1_1 := n1_
      have HO558 := n2_
      have HO563 := n3_
      have BK553 := n4_
      have BK554 := n5_
      have BK564 := n6_
      have HB := n7_
      clear n0_ n1_ n2_ n3_ n4_ n5_ n6_ n7_
      (try clear hb)
      (try clear hb2)
      (try clear hk)
      (try clear hi)
      refine hK.out _ _ ⟨(blk_cell BK564.out 0).trans rfl, (blk_cell BK564.out 1).trans rfl, (blk_cell BK553.out 0).trans rfl, (blk_cell BK553.out 1).trans rfl⟩ (fun hHeld => ?_)
      clear hK K
      refine norm_ (a' := ?_) ?_ ?_
      rotate_left
      ·show Act.put _ (some 17) _ = _
       simp only [Act.put, List.setIfInBounds_toArray, List.set_cons_zero, List.set_cons_succ, i64_w, i32_w]
       rfl
      refine pure_ (i := 2) (N := some 18) (v := ?_) (a' := ?_) #[true, true, true, false, false, false, false, false, false, false, false, false, false, false, false, false, false, false, false, false, false, false, false, false, false] rfl rfl (any_of HT_.out (by kernel_rfl)) (fun _ _ _ h => h) (Or.inl ⟨by rfl, ?_⟩) ?_ ?_
      rotate_left
      ·intro w'
       go_simp
       with_reducible rfl
      rotate_left
      ·simp only [Act.put, List.setIfInBounds_toArray, List.set_cons_zero, List.set_cons_succ, i64_w, i32_w]
       rfl
      refine pure_ (i := 3) (N := some 19) (v := ?_) (a' := ?_) #[true, true, true, true, false, false, false, false, false, false, false, false, false, false, false, false, false, false, false, false, false, false, false, false, false] rfl rfl (any_of HT_.out (by kernel_rfl)) (fun _ _ _ h => h) (Or.inl ⟨by rfl, ?_⟩) ?_ ?_
      rotate_left
      ·intro w'
       go_simp
       with_reducible rfl
      rotate_left
      ·simp only [Act.put, List.setIfInBounds_toArray, List.set_cons_zero, List.set_cons_succ, i64_w, i32_w]
       rfl
      refine take_ (i := 4) (N := some 20) (v := ?_) (a' := ?_) #[true, true, true, true, true, false, false, false, false, false, false, false, false, false, false, false, false, false, false, false, false, false, false, false, false] rfl rfl (take_ofW HT_.out HW_.out (by kernel_rfl)) (fun _ _ _ h => h) (Or.inl ⟨by rfl, ?_⟩) hHeld ?_ ?_
      rotate_left
      ·rintro w' ⟨s0, s1, s2, s3⟩
       go_simp
       with_reducible rfl
      rotate_left
      ·simp only [Act.put, List.setIfInBounds_toArray, List.set_cons_zero, List.set_cons_succ, i64_w, i32_w]
       rfl
      refine take_ (i := 6) (N := some 22) (v := ?_) (a' := ?_) #[true, true, true, true, true, false, true, false, false, false, false, false, false, false, false, false, false, false, false, false, false, false, false, false, false] rfl rfl (take_ofW HT_.out HW_.out (by kernel_rfl)) (fun _ _ _ h => h) (Or.inl ⟨by rfl, ?_⟩) hHeld ?_ ?_
      rotate_left
      ·rintro w' ⟨s0, s1, s2, s3⟩
       go_simp
       with_reducible rfl
      rotate_left
      ·simp only [Act.put, List.setIfInBounds_toArray, List.set_cons_zero, List.set_cons_succ, i64_w, i32_w]
       rfl
      refine one_ (i := 5) (N := some 21) #[true, true, true, true, true, true, true, false, false, false, false, false, false, false, false, false, false, false, false, false, false, false, false, false, false] rfl rfl (one_of HT_.out (by kernel_rfl)) (by decide) (fun K hK => ?_)
      refine goes_ Try.func22 (by kernel_rfl) rfl #[.agg #[.bool t560, .slice Ao25 t561.length co25]] (by rfl) rfl rfl (by (try simp only [List.map_toArray, List.map_cons, List.map_nil]); first | done | rfl | (simp only [List.length_drop, List.length_take]; rfl)) ?_
      with_reducible refine (num_Neg.calls k t560 (fun k_ => (((P0_1_ k_ ∨ P1_1_ k_) ∨ w.heap.size ≤ k_) ∧ (some k_ ≠ (.slice Ao17 y556.length co17 : Value).ownBlock ∧ (k_ ≠ gb553 ∧ (k_ ≠ gb554 ∧ k_ ≠ gb564))))) _ _ t561 t566 t567 _ ?side1 A28.out).mono ?_
      (case side1 => exact HO563.out)
      rintro e w59 ⟨v568, rfl, ho0, hb⟩
      refine ⟨_, rfl, ?_⟩
      have n0_ := Aside0.mk (Kd.V_below (gV HO0_1.out) hb)
      have n1_ := Aside0.mk (Kd.V_below (gV HO1_1.out) hb)
      have n2_ := Aside0.mk (Kd.N_below (gN HO558.out) hb)
      have n3_ := Aside0.mk (Kd.V_below (gV HO563.out) hb)
      have n4_ := Aside0.mk (Kd.V_lower (Kd.V_mono (ok' := fun k_ => ((P0_1_ k_ ∨ P1_1_ k_) ∨ w.heap.size ≤ k_) ∧ some k_ ≠ (.slice Ao17 y556.length co17 : Value).ownBlock ∧ k_ ≠ gb553 ∧ k_ ≠ gb554 ∧ k_ ≠ gb564) ho0 (fun k_ hk_ => ⟨Or.elim hk_ (fun hs_ => hs_.1) (fun hn_ => (.inr (Nat.le_trans (below_size (by repeat (first | (with_reducible first | exact HB.out | apply bA | apply bN | apply bD | refine bS ?_ GE553.out | refine bS ?_ GE554.out | refine bS ?_ GE564.out) | exact HB.out))) hn_))), Or.elim hk_ (fun hs_ => hs_.2.1) (fun hn_ => (Kd.fresh' (Kd.N_lt (gN HO558.out)) k_ hn_)), Or.elim hk_ (fun hs_ => hs_.2.2.1) (fun hn_ => (Kd.freshB (g := gb553) (o := .cells #[.bool a0_0, .slice A0_1 l0_1.length c0_1] 25 (0, 0)) (gK BK553.out) k_ hn_)), Or.elim hk_ (fun hs_ => hs_.2.2.2.1) (fun hn_ => (Kd.freshB (g := gb554) (o := .cells #[.bool a1_0, .slice A1_1 l1_1.length c1_1] 25 (0, 0)) (gK BK554.out) k_ hn_)), Or.elim hk_ (fun hs_ => hs_.2.2.2.2) (fun hn_ => (Kd.freshB (g := gb564) (o := .cells #[.bool t560, .slice Ao25 t561.length co25] 25 (0, 0)) (gK BK564.out) k_ hn_))⟩)) (below_size (by repeat (first | (with_reducible first | exact HB.out | apply bA | apply bN | apply bD | refine bS ?_ GE553.out | refine bS ?_ GE554.out | refine bS ?_ GE564.out) | exact HB.out))))
      have n5_ := Aside0.mk (blk_below (gK BK553.out) hb)
      have n6_ := Aside0.mk (blk_below (gK BK554.out) hb)
      have n7_ := Aside0.mk (blk_below (gK BK564.out) hb)
      have n8_ := Aside0.mk (below_step (by repeat (first | (with_reducible first | exact HB.out | apply bA | apply bN | apply bD | refine bS ?_ GE553.out | refine bS ?_ GE554.out | refine bS ?_ GE564.out) | exact HB.out)) hb)
      clear HO0_1
      clear HO1_1
      clear HO558
      clear HO563
      clear BK553
      clear BK554
      clear BK564
      clear HB
      have HO0_1 := n0_
      have HO1_1 := n1_
      have HO558 := n2_
      have HO563 := n3_
      have HO569 := n4_
      have BK553 := n5_
      have BK554 := n6_
      have BK564 := n7_
      have HB := n8_
      clear n0_ n1_ n2_ n3_ n4_ n5_ n6_ n7_ n8_
      (try clear hb)
      (try clear hb2)
      (try clear hk)
      (try clear hi)
      (try clear ho0)
      obtain ⟨Ao60, co60, eo60⟩ := Kd.V_slice HO569.out
      (first | subst eo60 | (injection eo60 with f1_ f2_ f3_; have f4_ := f1_.symm; have f5_ := f3_.symm; clear f1_ f2_ f3_; subst f4_; subst f5_))
      refine hK.out _ _ ⟨(blk_cell BK564.out 0).trans rfl, (blk_cell BK564.out 1).trans rfl, (blk_cell BK553.out 0).trans rfl, (blk_cell BK553.out 1).trans rfl⟩ (fun hHeld => ?_)
      clear hK K
      refine norm_ (a' := ?_) ?_ ?_
      rotate_left
      ·show Act.put _ (some 21) _ = _
       simp only [Act.put, List.setIfInBounds_toArray, List.set_cons_zero, List.set_cons_succ, i64_w, i32_w]
       rfl
      refine one_ (i := 7) (N := some 23) #[true, true, true, true, true, true, true, true, false, false, false, false, false, false, false, false, false, false, false, false, false, false, false, false, false] rfl rfl (one_of HT_.out (by kernel_rfl)) (by decide) (fun K hK => ?_)
      refine goes_ Try.func14 (by kernel_rfl) rfl #[.agg #[.bool t566, .slice Ao60 t567.length co60], .agg #[.bool a0_0, .slice A0_1 l0_1.length c0_1]] (by rfl) rfl rfl (by (try simp only [List.map_toArray, List.map_cons, List.map_nil]); first | done | rfl | (simp only [List.length_drop, List.length_take]; rfl)) ?_
      with_reducible refine (num_Cmp.calls k t566 _ _ t567 a0_0 _ _ l0_1 t570 _ ?side1 ?side2 ?side3 ?side4 A29.out).mono ?_
      (case side1 => repeat (first | exact (Kd.V_reads' HO569.out).2.2 | (with_reducible refine Kd.C_alloc ?_ _) | (with_reducible refine Kd.C_drewN ?_ _) | (with_reducible refine Kd.C_drew ?_)))
      (case side2 => exact (Kd.V_reads' HO569.out).2.1)
      (case side3 => repeat (first | exact (Kd.V_reads' HO0_1.out).2.2 | (with_reducible refine Kd.C_alloc ?_ _) | (with_reducible refine Kd.C_drewN ?_ _) | (with_reducible refine Kd.C_drew ?_)))
      (case side4 => exact (Kd.V_reads' HO0_1.out).2.1)
      rintro e w61 ⟨rfl, hb⟩
      refine ⟨_, rfl, ?_⟩
      have n0_ := Aside0.mk (Kd.V_below (gV HO0_1.out) hb)
      have n1_ := Aside0.mk (Kd.V_below (gV HO1_1.out) hb)
      have n2_ := Aside0.mk (Kd.N_below (gN HO558.out) hb)
      have n3_ := Aside0.mk (Kd.V_below (gV HO563.out) hb)
      have n4_ := Aside0.mk (Kd.V_below (gV HO569.out) hb)
      have n5_ := Aside0.mk (blk_below (gK BK553.out) hb)
      have n6_ := Aside0.mk (blk_below (gK BK554.out) hb)
      have n7_ := Aside0.mk (blk_below (gK BK564.out) hb)
      have n8_ := Aside0.mk (below_step (by repeat (first | (with_reducible first | exact HB.out | apply bA | apply bN | apply bD | refine bS ?_ GE553.out | refine bS ?_ GE554.out | refine bS ?_ GE564.out) | exact HB.out)) hb)
      clear HO0_1
      clear HO1_1
      clear HO558
      clear HO563
      clear HO569
      clear BK553
      clear BK554
      clear BK564
      clear HB
      have HO0_1 := n0_
      have HO1_1 := n1_
      have HO558 := n2_
      have HO563 := n3_
      have HO569 := n4_
      have BK553 := n5_
      have BK554 := n6_
      have BK564 := n7_
      have HB := n8_
      clear n0_ n1_ n2_ n3_ n4_ n5_ n6_ n7_ n8_
      (try clear hb)
      (try clear hb2)
      (try clear hk)
      (try clear hi)
      refine hK.out _ _ ⟨(blk_cell BK564.out 0).trans rfl, (blk_cell BK564.out 1).trans rfl, (blk_cell BK553.out 0).trans rfl, (blk_cell BK553.out 1).trans rfl⟩ (fun hHeld => ?_)
      clear hK K
      refine norm_ (a' := ?_) ?_ ?_
      rotate_left
      ·show Act.put _ (some 23) _ = _
       simp only [Act.put, List.setIfInBounds_toArray, List.set_cons_zero, List.set_cons_succ, i64_w, i32_w]
       rfl
      refine pure_ (i := 8) (N := some 24) (v := ?_) (a' := ?_) #[true, true, true, true, true, true, true, true, true, false, false, false, false, false, false, false, false, false, false, false, false, false, false, false, false] rfl rfl (any_of HT_.out (by kernel_rfl)) (fun _ _ _ h => h) (Or.inl ⟨by rfl, ?_⟩) ?_ ?_
      rotate_left
      ·intro w'
       go_simp
       with_reducible rfl
      rotate_left
      ·simp only [Act.put, List.setIfInBounds_toArray, List.set_cons_zero, List.set_cons_succ, i64_w, i32_w]
       rfl
      refine pure_ (i := 9) (N := some 25) (v := ?_) (a' := ?_) #[true, true, true, true, true, true, true, true, true, true, false, false, false, false, false, false, false, false, false, false, false, false, false, false, false] rfl rfl (any_of HT_.out (by kernel_rfl)) (fun _ _ _ h => h) (Or.inl ⟨by rfl, ?_⟩) ?_ ?_
      rotate_left
      ·intro w'
       go_simp
       with_reducible rfl
      rotate_left
      ·simp only [Act.put, List.setIfInBounds_toArray, List.set_cons_zero, List.set_cons_succ, i64_w, i32_w]
       rfl
      refine pure_ (i := 10) (N := some 26) (v := ?_) (a' := ?_) #[true, true, true, true, true, true, true, true, true, true, true, false, false, false, false, false, false, false, false, false, false, false, false, false, false] rfl rfl (any_of HT_.out (by kernel_rfl)) (fun _ _ _ h => h) (Or.inl ⟨by rfl, ?_⟩) ?_ ?_
      rotate_left
      ·intro w'
       go_simp
       with_reducible rfl
      rotate_left
      ·simp only [Act.put, List.setIfInBounds_toArray, List.set_cons_zero, List.set_cons_succ, i64_w, i32_w]
       rfl
      refine pure_ (i := 11) (N := some 27) (v := undef) (a' := ?_) #[true, true, true, true, true, true, true, true, true, true, true, true, false, false, false, false, false, false, false, false, false, false, false, false, false] rfl rfl (any_of HT_.out (by kernel_rfl)) (fun _ _ _ h => h) (Or.inr ⟨by rfl, rfl⟩) ?_ ?_
      rotate_left
      ·simp only [Act.put, List.setIfInBounds_toArray, List.set_cons_zero, List.set_cons_succ, i64_w, i32_w]
       rfl
      refine pure_ (i := 12) (N := some 28) (v := undef) (a' := ?_) #[true, true, true, true, true, true, true, true, true, true, true, true, true, false, false, false, false, false, false, false, false, false, false, false, false] rfl rfl (any_of HT_.out (by kernel_rfl)) (fun _ _ _ h => h) (Or.inr ⟨by rfl, rfl⟩) ?_ ?_
      rotate_left
      ·simp only [Act.put, List.setIfInBounds_toArray, List.set_cons_zero, List.set_cons_succ, i64_w, i32_w]
       rfl
      refine pure_ (i := 13) (N := some 29) (v := undef) (a' := ?_) #[true, true, true, true, true, true, true, true, true, true, true, true, true, true, false, false, false, false, false, false, false, false, false, false, false] rfl rfl (any_of HT_.out (by kernel_rfl)) (fun _ _ _ h => h) (Or.inr ⟨by rfl, rfl⟩) ?_ ?_
      rotate_left
      ·simp only [Act.put, List.setIfInBounds_toArray, List.set_cons_zero, List.set_cons_succ, i64_w, i32_w]
       rfl
      refine pure_ (i := 14) (N := some 30) (v := undef) (a' := ?_) #[true, true, true, true, true, true, true, true, true, true, true, true, true, true, true, false, false, false, false, false, false, false, false, false, false] rfl rfl (any_of HT_.out (by kernel_rfl)) (fun _ _ _ h => h) (Or.inr ⟨by rfl, rfl⟩) ?_ ?_
      rotate_left
      ·simp only [Act.put, List.setIfInBounds_toArray, List.set_cons_zero, List.set_cons_succ, i64_w, i32_w]
       rfl
      refine pure_ (i := 15) (N := some 31) (v := undef) (a' := ?_) #[true, true, true, true, true, true, true, true, true, true, true, true, true, true, true, true, false, false, false, false, false, false, false, false, false] rfl rfl (any_of HT_.out (by kernel_rfl)) (fun _ _ _ h => h) (Or.inr ⟨by rfl, rfl⟩) ?_ ?_
      rotate_left
      ·simp only [Act.put, List.setIfInBounds_toArray, List.set_cons_zero, List.set_cons_succ, i64_w, i32_w]
       rfl
      refine pure_ (i := 16) (N := some 32) (v := ?_) (a' := ?_) #[true, true, true, true, true, true, true, true, true, true, true, true, true, true, true, true, true, false, false, false, false, false, false, false, false] rfl rfl (any_of HT_.out (by kernel_rfl)) (fun _ _ _ h => h) (Or.inl ⟨by rfl, ?_⟩) ?_ ?_
      rotate_left
      ·intro w'
       go_simp
       with_reducible rfl
      rotate_left
      ·simp only [Act.put, List.setIfInBounds_toArray, List.set_cons_zero, List.set_cons_succ, i64_w, i32_w]
       rfl
      refine pure_ (i := 17) (N := some 33) (v := ?_) (a' := ?_) #[true, true, true, true, true, true, true, true, true, true, true, true, true, true, true, true, true, true, false, false, false, false, false, false, false] rfl rfl (any_of HT_.out (by kernel_rfl)) (fun _ _ _ h => h) (Or.inl ⟨by rfl, ?_⟩) ?_ ?_
      rotate_left
      ·intro w'
       go_simp
       with_reducible rfl
      rotate_left
      ·simp only [Act.put, List.setIfInBounds_toArray, List.set_cons_zero, List.set_cons_succ, i64_w, i32_w]
       rfl
      refine pure_ (i := 18) (N := some 34) (v := undef) (a' := ?_) #[true, true, true, true, true, true, true, true, true, true, true, true, true, true, true, true, true, true, true, false, false, false, false, false, false] rfl rfl (any_of HT_.out (by kernel_rfl)) (fun _ _ _ h => h) (Or.inr ⟨by rfl, rfl⟩) ?_ ?_
      rotate_left
      ·simp only [Act.put, List.setIfInBounds_toArray, List.set_cons_zero, List.set_cons_succ, i64_w, i32_w]
       rfl
      refine pure_ (i := 19) (N := some 35) (v := undef) (a' := ?_) #[true, true, true, true, true, true, true, true, true, true, true, true, true, true, true, true, true, true, true, true, false, false, false, false, false] rfl rfl (any_of HT_.out (by kernel_rfl)) (fun _ _ _ h => h) (Or.inr ⟨by rfl, rfl⟩) ?_ ?_
      rotate_left
      ·simp only [Act.put, List.setIfInBounds_toArray, List.set_cons_zero, List.set_cons_succ, i64_w, i32_w]
       rfl
      refine pure_ (i := 20) (N := some 36) (v := undef) (a' := ?_) #[true, true, true, true, true, true, true, true, true, true, true, true, true, true, true, true, true, true, true, true, true, false, false, false, false] rfl rfl (any_of HT_.out (by kernel_rfl)) (fun _ _ _ h => h) (Or.inr ⟨by rfl, rfl⟩) ?_ ?_
      rotate_left
      ·simp only [Act.put, List.setIfInBounds_toArray, List.set_cons_zero, List.set_cons_succ, i64_w, i32_w]
       rfl
      refine pure_ (i := 21) (N := some 37) (v := undef) (a' := ?_) #[true, true, true, true, true, true, true, true, true, true, true, true, true, true, true, true, true, true, true, true, true, true, false, false, false] rfl rfl (any_of HT_.out (by kernel_rfl)) (fun _ _ _ h => h) (Or.inr ⟨by rfl, rfl⟩) ?_ ?_
      rotate_left
      ·simp only [Act.put, List.setIfInBounds_toArray, List.set_cons_zero, List.set_cons_succ, i64_w, i32_w]
       rfl
      refine pure_ (i := 22) (N := some 38) (v := undef) (a' := ?_) #[true, true, true, true, true, true, true, true, true, true, true, true, true, true, true, true, true, true, true, true, true, true, true, false, false] rfl rfl (any_of HT_.out (by kernel_rfl)) (fun _ _ _ h => h) (Or.inr ⟨by rfl, rfl⟩) ?_ ?_
      rotate_left
      ·simp only [Act.put, List.setIfInBounds_toArray, List.set_cons_zero, List.set_cons_succ, i64_w, i32_w]
       rfl
      refine pure_ (i := 23) (N := some 39) (v := undef) (a' := ?_) #[true, true, true, true, true, true, true, true, true, true, true, true, true, true, true, true, true, true, true, true, true, true, true, true, false] rfl rfl (any_of HT_.out (by kernel_rfl)) (fun _ _ _ h => h) (Or.inr ⟨by rfl, rfl⟩) ?_ ?_
      rotate_left
      ·simp only [Act.put, List.setIfInBounds_toArray, List.set_cons_zero, List.set_cons_succ, i64_w, i32_w]
       rfl
      refine pure_ (i := 24) (N := some 40) (v := ?_) (a' := ?_) #[true, true, true, true, true, true, true, true, true, true, true, true, true, true, true, true, true, true, true, true, true, true, true, true, true] rfl rfl (any_of HT_.out (by kernel_rfl)) (fun _ _ _ h => h) (Or.inl ⟨by rfl, ?_⟩) ?_ ?_
      rotate_left
      ·intro w'
       go_simp
       with_reducible rfl
      rotate_left
      ·simp only [Act.put, List.setIfInBounds_toArray, List.set_cons_zero, List.set_cons_succ, i64_w, i32_w]
       rfl
      refine done_ (done_of HT_.out (by kernel_rfl)) ?_
      try go_wp2
      go_meet
      case rel => exact ⟨_, (true), (by first | rfl | (simp; done) | (simp [*]; done)), H', ⟨by first | omega | exact Nat.le_refl _⟩, ⟨by (with_reducible repeat (first | apply Kd.V_alloc | apply Kd.V_drewN | apply Kd.V_drew)); exact Kd.V_mono HO0_1.out (fun _ hk => ⟨hk.1, ⟨hk.2.2.1, ⟨hk.2.2.2.1, hk.2.2.2.2⟩⟩⟩)⟩, ⟨by (with_reducible repeat (first | apply Kd.V_alloc | apply Kd.V_drewN | apply Kd.V_drew)); exact Kd.V_mono HO1_1.out (fun _ hk => ⟨hk.1, ⟨hk.2.2.1, ⟨hk.2.2.2.1, hk.2.2.2.2⟩⟩⟩)⟩, ⟨by (with_reducible repeat (first | apply Kd.V_alloc | apply Kd.V_drewN | apply Kd.V_drew)); exact Kd.V_mono HO563.out (fun _ hk => ⟨hk.1, ⟨hk.2.2.1, ⟨hk.2.2.2.1, hk.2.2.2.2⟩⟩⟩)⟩, ⟨by (with_reducible repeat (first | refine blk_drewN ?_ _ | refine blk_drew ?_ | refine blk_alloc ?_ _)); exact BK553.out⟩, ⟨by (with_reducible repeat (first | refine blk_drewN ?_ _ | refine blk_drew ?_ | refine blk_alloc ?_ _)); exact BK554.out⟩, ⟨by (with_reducible repeat (first | refine blk_drewN ?_ _ | refine blk_drew ?_ | refine blk_alloc ?_ _)); exact BK564.out⟩, ⟨by repeat (first | (with_reducible first | exact HB.out | apply bA | apply bN | apply bD | refine bS ?_ GE553.out | refine bS ?_ GE554.out | refine bS ?_ GE564.out) | exact HB.out)⟩⟩
    ·replace c27 := Bool.eq_false_iff.mpr c27
     subst c27
     have H1 : (isohyetlaw02_NumSigns.j0 k true a0_0 l0_1 a1_0 l1_1 t560 t561) = some r := by rw [if_neg (show ¬ (false = true) by decide)] at H; exact H
     clear H
     have H := H1
     clear H1
     have H' := Aside0.mk H
     clear H
     try go_wp2
     have n0_ : Aside0 (Kd.V (Kd.int .u64) 54 ((w21.setCell ⟨gb564, 0, none⟩ (.bool t560)).setCell ⟨gb564, 1, none⟩ (.slice Ao25 t561.length co25)) w.heap.size (fun k_ => ((P0_1_ k_ ∨ P1_1_ k_) ∨ w.heap.size ≤ k_) ∧ some k_ ≠ (.slice Ao17 y556.length co17 : Value).ownBlock ∧ k_ ≠ gb553 ∧ k_ ≠ gb554 ∧ k_ ≠ gb564) (.slice A0_1 l0_1.length c0_1) l0_1) := ⟨by (with_reducible repeat (first | apply Kd.V_alloc | apply Kd.V_drewN | apply Kd.V_drew)); exact Kd.V_mono (Kd.V_far (p := ⟨gb564, 1, none⟩) (Kd.V_far (p := ⟨gb564, 0, none⟩) (Kd.V_mono HO0_1.out (fun k_ hk => (⟨hk, hk.2⟩ : _ ∧ k_ ≠ gb564))) (fun _ hk => hk.2) (.bool t560)) (fun _ hk => hk.2) (.slice Ao25 t561.length co25)) (fun _ hk => ⟨hk.1.1.1.1.1, ⟨hk.1.1.2, ⟨hk.1.1.1.1.2, ⟨hk.1.1.1.2, hk.1.2⟩⟩⟩⟩)⟩
     have n1_ : Aside0 (Kd.V (Kd.int .u64) 54 ((w21.setCell ⟨gb564, 0, none⟩ (.bool t560)).setCell ⟨gb564, 1, none⟩ (.slice Ao25 t561.length co25)) w.heap.size (fun k_ => ((P0_1_ k_ ∨ P1_1_ k_) ∨ w.heap.size ≤ k_) ∧ some k_ ≠ (.slice Ao17 y556.length co17 : Value).ownBlock ∧ k_ ≠ gb553 ∧ k_ ≠ gb554 ∧ k_ ≠ gb564) (.slice A1_1 l1_1.length c1_1) l1_1) := ⟨by (with_reducible repeat (first | apply Kd.V_alloc | apply Kd.V_drewN | apply Kd.V_drew)); exact Kd.V_mono (Kd.V_far (p := ⟨gb564, 1, none⟩) (Kd.V_far (p := ⟨gb564, 0, none⟩) (Kd.V_mono HO1_1.out (fun k_ hk => (⟨hk, hk.2⟩ : _ ∧ k_ ≠ gb564))) (fun _ hk => hk.2) (.bool t560)) (fun _ hk => hk.2) (.slice Ao25 t561.length co25)) (fun _ hk => ⟨hk.1.1.1.1.1, ⟨hk.1.1.2, ⟨hk.1.1.1.1.2, ⟨hk.1.1.1.2, hk.1.2⟩⟩⟩⟩)⟩
     have n2_ : Aside0 (Kd.N k25 25 ((w21.setCell ⟨gb564, 0, none⟩ (.bool t560)).setCell ⟨gb564, 1, none⟩ (.slice Ao25 t561.length co25)) w.heap.size (fun k_ => ((P0_1_ k_ ∨ P1_1_ k_) ∨ w.heap.size ≤ k_) ∧ k_ ≠ gb553 ∧ k_ ≠ gb554 ∧ k_ ≠ gb564) (.slice Ao17 y556.length co17) y556) := ⟨by (with_reducible repeat (first | apply Kd.N_alloc | apply Kd.N_drewN | apply Kd.N_drew)); exact Kd.N_mono (Kd.N_far (p := ⟨gb564, 1, none⟩) (Kd.N_far (p := ⟨gb564, 0, none⟩) (Kd.N_mono HO558.out (fun k_ hk => (⟨hk, hk.2⟩ : _ ∧ k_ ≠ gb564))) (fun _ hk => hk.2) (.bool t560)) (fun _ hk => hk.2) (.slice Ao25 t561.length co25)) (fun _ hk => ⟨hk.1.1.1, ⟨hk.1.1.2.1, ⟨hk.1.1.2.2, hk.1.2⟩⟩⟩)⟩
     have n3_ : Aside0 (Kd.V (Kd.int .u64) 54 ((w21.setCell ⟨gb564, 0, none⟩ (.bool t560)).setCell ⟨gb564, 1, none⟩ (.slice Ao25 t561.length co25)) w.heap.size (fun k_ => ((P0_1_ k_ ∨ P1_1_ k_) ∨ w.heap.size ≤ k_) ∧ some k_ ≠ (.slice Ao17 y556.length co17 : Value).ownBlock ∧ k_ ≠ gb553 ∧ k_ ≠ gb554 ∧ k_ ≠ gb564) (.slice Ao25 t561.length co25) t561) := ⟨by (with_reducible repeat (first | apply Kd.V_alloc | apply Kd.V_drewN | apply Kd.V_drew)); exact Kd.V_mono (Kd.V_far (p := ⟨gb564, 1, none⟩) (Kd.V_far (p := ⟨gb564, 0, none⟩) (Kd.V_mono HO563.out (fun k_ hk => (⟨hk, hk.2⟩ : _ ∧ k_ ≠ gb564))) (fun _ hk => hk.2) (.bool t560)) (fun _ hk => hk.2) (.slice Ao25 t561.length co25)) (fun _ hk => ⟨hk.1.1.1, ⟨hk.1.1.2.1, ⟨hk.1.1.2.2.1, ⟨hk.1.1.2.2.2, hk.1.2⟩⟩⟩⟩)⟩
     have n4_ : Aside0 (((w21.setCell ⟨gb564, 0, none⟩ (.bool t560)).setCell ⟨gb564, 1, none⟩ (.slice Ao25 t561.length co25)).heap[gb553]? = some (.cells #[.bool a0_0, .slice A0_1 l0_1.length c0_1] 25 (0, 0))) := ⟨by (with_reducible repeat (first | refine blk_drewN ?_ _ | refine blk_drew ?_ | refine blk_alloc ?_ _)); refine blk_far ?_ NB553_564.out _; (with_reducible repeat (first | refine blk_drewN ?_ _ | refine blk_drew ?_ | refine blk_alloc ?_ _)); refine blk_far ?_ NB553_564.out _; (with_reducible repeat (first | refine blk_drewN ?_ _ | refine blk_drew ?_ | refine blk_alloc ?_ _)); exact BK553.out⟩
     have n5_ : Aside0 (((w21.setCell ⟨gb564, 0, none⟩ (.bool t560)).setCell ⟨gb564, 1, none⟩ (.slice Ao25 t561.length co25)).heap[gb554]? = some (.cells #[.bool a1_0, .slice A1_1 l1_1.length c1_1] 25 (0, 0))) := ⟨by (with_reducible repeat (first | refine blk_drewN ?_ _ | refine blk_drew ?_ | refine blk_alloc ?_ _)); refine blk_far ?_ NB554_564.out _; (with_reducible repeat (first | refine blk_drewN ?_ _ | refine blk_drew ?_ | refine blk_alloc ?_ _)); refine blk_far ?_ NB554_564.out _; (with_reducible repeat (first | refine blk_drewN ?_ _ | refine blk_drew ?_ | refine blk_alloc ?_ _)); exact BK554.out⟩
     have n6_ : Aside0 (((w21.setCell ⟨gb564, 0, none⟩ (.bool t560)).setCell ⟨gb564, 1, none⟩ (.slice Ao25 t561.length co25)).heap[gb564]? = some (.cells #[.bool t560, .slice Ao25 t561.length co25] 25 (0, 0))) := ⟨by (with_reducible repeat (first | refine blk_drewN ?_ _ | refine blk_drew ?_ | refine blk_alloc ?_ _)); refine blk_put (cs := #[.bool t560, .slice none 0 0]) ?_ 1 _ rfl; (with_reducible repeat (first | refine blk_drewN ?_ _ | refine blk_drew ?_ | refine blk_alloc ?_ _)); refine blk_put (cs := #[.bool false, .slice none 0 0]) ?_ 0 _ rfl; (with_reducible repeat (first | refine blk_drewN ?_ _ | refine blk_drew ?_ | refine blk_alloc ?_ _)); exact BK564.out⟩
     have n7_ : Aside0 (Below w.heap.size w ((w21.setCell ⟨gb564, 0, none⟩ (.bool t560)).setCell ⟨gb564, 1, none⟩ (.slice Ao25 t561.length co25))) := ⟨by repeat (first | (with_reducible first | exact HB.out | apply bA | apply bN | apply bD | refine bS ?_ GE553.out | refine bS ?_ GE554.out | refine bS ?_ GE564.out) | exact HB.out)⟩
     (try clear HO0_1)
     (try clear HO1_1)
     (try clear HO558)
     (try clear HO563)
     (try clear BK553)
     (try clear BK554)
     (try clear BK564)
     (try clear HB)
     generalize ((w21.setCell ⟨gb564, 0, none⟩ (.bool t560)).setCell ⟨gb564, 1, none⟩ (.slice Ao25 t561.length co25)) = w62 at n0_ n1_ n2_ n3_ n4_ n5_ n6_ n7_ ⊢
     have HO0_1 := n0_
     have HO1_1 := n1_
     have HO558 := n2_
     have HO563 := n3_
     have BK553 := n4_
     have BK554 := n5_
     have BK564 := n6_
     have HB := n7_
     clear n0_ n1_ n2_ n3_ n4_ n5_ n6_ n7_
     have n0_ := Aside0.mk (Kd.V_drew HO0_1.out)
     have n1_ := Aside0.mk (Kd.V_drew HO1_1.out)
     have n2_ := Aside0.mk (Kd.N_drew HO558.out)
     have n3_ := Aside0.mk (Kd.V_drew HO563.out)
     have n4_ := Aside0.mk (blk_drew BK553.out)
     have n5_ := Aside0.mk (blk_drew BK554.out)
     have n6_ := Aside0.mk (blk_drew BK564.out)
     have n7_ := Aside0.mk (bD HB.out)
     clear HO0_1
     clear HO1_1
     clear HO558
     clear HO563
     clear BK553
     clear BK554
     clear BK564
     clear HB
     have HO0_1 := n0_
     have HO1_1 := n1_
     have HO558 := n2_
     have HO563 := n3_
     have BK553 := n4_
     have BK554 := n5_
     have BK564 := n6_
     have HB := n7_
     clear n0_ n1_ n2_ n3_ n4_ n5_ n6_ n7_
     refine start_ (n := 25) (S := fun w' => w'.cell? ⟨gb564, 0, none⟩ = some (.bool t560) ∧ w'.cell? ⟨gb564, 1, none⟩ = some (.slice Ao25 t561.length co25)) (ds := []) #[false, false, false, false, false, false, false, false, false, false, false, false, false, false, false, false, false, false, false, false, false, false, false, false, false] (by kernel_rfl) rfl rfl ⟨(blk_cell BK564.out 0).trans rfl, (blk_cell BK564.out 1).trans rfl⟩ (fun hHeld => ?_); refine with_tabW isohyetlaw02_NumSigns.tab6 isohyetlaw02_NumSigns.bits6 (fun HT_ HW_ => ?_)
     generalize w62.drew = w63 at HO0_1 HO1_1 HO558 HO563 BK553 BK554 BK564 HB hHeld ⊢
     refine take_ (i := 0) (N := some 16) (v := ?_) (a' := ?_) #[true, false, false, false, false, false, false, false, false, false, false, false, false, false, false, false, false, false, false, false, false, false, false, false, false] rfl rfl (take_ofW HT_.out HW_.out (by kernel_rfl)) (fun _ _ _ h => h) (Or.inl ⟨by rfl, ?_⟩) hHeld ?_ ?_
     rotate_left
     ·rintro w' ⟨s0, s1⟩
      go_simp
      with_reducible rfl
     rotate_left
     ·simp only [Act.put, List.setIfInBounds_toArray, List.set_cons_zero, List.set_cons_succ, i64_w, i32_w]
      rfl
     refine one_ (i := 1) (N := some 17) #[true, true, false, false, false, false, false, false, false, false, false, false, false, false, false, false, false, false, false, false, false, false, false, false, false] rfl rfl (one_of HT_.out (by kernel_rfl)) (by decide) (fun K hK => ?_)
     refine goes_ Try.func13 (by kernel_rfl) rfl #[.agg #[.bool t560, .slice Ao25 t561.length co25]] (by rfl) rfl rfl (by (try simp only [List.map_toArray, List.map_cons, List.map_nil]); first | done | rfl | (simp only [List.length_drop, List.length_take]; rfl)) ?_
     with_reducible refine (isohyetlaw02_Right.calls t560 _ _ t561 false _ ?side1 ?side2 A26.out).mono ?_
     (case side1 => repeat (first | exact (Kd.V_reads' HO563.out).2.2 | (with_reducible refine Kd.C_alloc ?_ _) | (with_reducible refine Kd.C_drewN ?_ _) | (with_reducible refine Kd.C_drew ?_)))
     (case side2 => exact (Kd.V_reads' HO563.out).2.1)
     rintro e w64 ⟨rfl, hb⟩
     refine ⟨_, rfl, ?_⟩
     have n0_ := Aside0.mk (Kd.V_below (gV HO0_1.out) hb)
     have n1_ := Aside0.mk (Kd.V_below (gV HO1_1.out) hb)
     have n2_ := Aside0.mk (Kd.N_below (gN HO558.out) hb)
     have n3_ := Aside0.mk (Kd.V_below (gV HO563.out) hb)
     have n4_ := Aside0.mk (blk_below (gK BK553.out) hb)
     have n5_ := Aside0.mk (blk_below (gK BK554.out) hb)
     have n6_ := Aside0.mk (blk_below (gK BK564.out) hb)
     have n7_ := Aside0.mk (below_step (by repeat (first | (with_reducible first | exact HB.out | apply bA | apply bN | apply bD | refine bS ?_ GE553.out | refine bS ?_ GE554.out | refine bS ?_ GE564.out) | exact HB.out)) hb)
     clear HO0_1
     clear HO1_1
     clear HO558
     clear HO563
     clear BK553
     clear BK554
     clear BK564
     clear HB
     have HO0_1 := n0_
     have HO1_1 := n1_
     have HO558 := n2_
     have HO563 := n3_
     have BK553 := n4_
     have BK554 := n5_
     have BK564 := n6_
     have HB := n7_
     clear n0_ n1_ n2_ n3_ n4_ n5_ n6_ n7_
     (try clear hb)
     (try clear hb2)
     (try clear hk)
     (try clear hi)
     refine hK.out _ _ ⟨(blk_cell BK564.out 0).trans rfl, (blk_cell BK564.out 1).trans rfl⟩ (fun hHeld => ?_)
     clear hK K
     refine norm_ (a' := ?_) ?_ ?_
     rotate_left
     ·show Act.put _ (some 17) _ = _
      simp only [Act.put, List.setIfInBounds_toArray, List.set_cons_zero, List.set_cons_succ, i64_w, i32_w]
      rfl
     refine pure_ (i := 2) (N := some 18) (v := ?_) (a' := ?_) #[true, true, true, false, false, false, false, false, false, false, false, false, false, false, false, false, false, false, false, false, false, false, false, false, false] rfl rfl (any_of HT_.out (by kernel_rfl)) (fun _ _ _ h => h) (Or.inl ⟨by rfl, ?_⟩) ?_ ?_
     rotate_left
     ·intro w'
      go_simp
      with_reducible rfl
     rotate_left
     ·simp only [Act.put, List.setIfInBounds_toArray, List.set_cons_zero, List.set_cons_succ, i64_w, i32_w]
      rfl
     refine pure_ (i := 3) (N := some 19) (v := ?_) (a' := ?_) #[true, true, true, true, false, false, false, false, false, false, false, false, false, false, false, false, false, false, false, false, false, false, false, false, false] rfl rfl (any_of HT_.out (by kernel_rfl)) (fun _ _ _ h => h) (Or.inl ⟨by rfl, ?_⟩) ?_ ?_
     rotate_left
     ·intro w'
      go_simp
      with_reducible rfl
     rotate_left
     ·simp only [Act.put, List.setIfInBounds_toArray, List.set_cons_zero, List.set_cons_succ, i64_w, i32_w]
      rfl
     refine pure_ (i := 4) (N := some 20) (v := undef) (a' := ?_) #[true, true, true, true, true, false, false, false, false, false, false, false, false, false, false, false, false, false, false, false, false, false, false, false, false] rfl rfl (any_of HT_.out (by kernel_rfl)) (fun _ _ _ h => h) (Or.inr ⟨by rfl, rfl⟩) ?_ ?_
     rotate_left
     ·simp only [Act.put, List.setIfInBounds_toArray, List.set_cons_zero, List.set_cons_succ, i64_w, i32_w]
      rfl
     refine pure_ (i := 5) (N := some 21) (v := undef) (a' := ?_) #[true, true, true, true, true, true, false, false, false, false, false, false, false, false, false, false, false, false, false, false, false, false, false, false, false] rfl rfl (any_of HT_.out (by kernel_rfl)) (fun _ _ _ h => h) (Or.inr ⟨by rfl, rfl⟩) ?_ ?_
     rotate_left
     ·simp only [Act.put, List.setIfInBounds_toArray, List.set_cons_zero, List.set_cons_succ, i64_w, i32_w]
      rfl
     refine pure_ (i := 6) (N := some 22) (v := undef) (a' := ?_) #[true, true, true, true, true, true, true, false, false, false, false, false, false, false, false, false, false, false, false, false, false, false, false, false, false] rfl rfl (any_of HT_.out (by kernel_rfl)) (fun _ _ _ h => h) (Or.inr ⟨by rfl, rfl⟩) ?_ ?_
     rotate_left
     ·simp only [Act.put, List.setIfInBounds_toArray, List.set_cons_zero, List.set_cons_succ, i64_w, i32_w]
      rfl
     refine pure_ (i := 7) (N := some 23) (v := undef) (a' := ?_) #[true, true, true, true, true, true, true, true, false, false, false, false, false, false, false, false, false, false, false, false, false, false, false, false, false] rfl rfl (any_of HT_.out (by kernel_rfl)) (fun _ _ _ h => h) (Or.inr ⟨by rfl, rfl⟩) ?_ ?_
     rotate_left
     ·simp only [Act.put, List.setIfInBounds_toArray, List.set_cons_zero, List.set_cons_succ, i64_w, i32_w]
      rfl
     refine pure_ (i := 8) (N := some 24) (v := undef) (a' := ?_) #[true, true, true, true, true, true, true, true, true, false, false, false, false, false, false, false, false, false, false, false, false, false, false, false, false] rfl rfl (any_of HT_.out (by kernel_rfl)) (fun _ _ _ h => h) (Or.inr ⟨by rfl, rfl⟩) ?_ ?_
     rotate_left
     ·simp only [Act.put, List.setIfInBounds_toArray, List.set_cons_zero, List.set_cons_succ, i64_w, i32_w]
      rfl
     refine pure_ (i := 9) (N := some 25) (v := ?_) (a' := ?_) #[true, true, true, true, true, true, true, true, true, true, false, false, false, false, false, false, false, false, false, false, false, false, false, false, false] rfl rfl (any_of HT_.out (by kernel_rfl)) (fun _ _ _ h => h) (Or.inl ⟨by rfl, ?_⟩) ?_ ?_
     rotate_left
     ·intro w'
      go_simp
      with_reducible rfl
     rotate_left
     ·simp only [Act.put, List.setIfInBounds_toArray, List.set_cons_zero, List.set_cons_succ, i64_w, i32_w]
      rfl
     refine pure_ (i := 10) (N := some 26) (v := ?_) (a' := ?_) #[true, true, true, true, true, true, true, true, true, true, true, false, false, false, false, false, false, false, false, false, false, false, false, false, false] rfl rfl (any_of HT_.out (by kernel_rfl)) (fun _ _ _ h => h) (Or.inl ⟨by rfl, ?_⟩) ?_ ?_
     rotate_left
     ·intro w'
      go_simp
      with_reducible rfl
     rotate_left
     ·simp only [Act.put, List.setIfInBounds_toArray, List.set_cons_zero, List.set_cons_succ, i64_w, i32_w]
      rfl
     refine pure_ (i := 11) (N := some 27) (v := undef) (a' := ?_) #[true, true, true, true, true, true, true, true, true, true, true, true, false, false, false, false, false, false, false, false, false, false, false, false, false] rfl rfl (any_of HT_.out (by kernel_rfl)) (fun _ _ _ h => h) (Or.inr ⟨by rfl, rfl⟩) ?_ ?_
     rotate_left
     ·simp only [Act.put, List.setIfInBounds_toArray, List.set_cons_zero, List.set_cons_succ, i64_w, i32_w]
      rfl
     refine pure_ (i := 12) (N := some 28) (v := undef) (a' := ?_) #[true, true, true, true, true, true, true, true, true, true, true, true, true, false, false, false, false, false, false, false, false, false, false, false, false] rfl rfl (any_of HT_.out (by kernel_rfl)) (fun _ _ _ h => h) (Or.inr ⟨by rfl, rfl⟩) ?_ ?_
     rotate_left
     ·simp only [Act.put, List.setIfInBounds_toArray, List.set_cons_zero, List.set_cons_succ, i64_w, i32_w]
      rfl
     refine pure_ (i := 13) (N := some 29) (v := undef) (a' := ?_) #[true, true, true, true, true, true, true, true, true, true, true, true, true, true, false, false, false, false, false, false, false, false, false, false, false] rfl rfl (any_of HT_.out (by kernel_rfl)) (fun _ _ _ h => h) (Or.inr ⟨by rfl, rfl⟩) ?_ ?_
     rotate_left
     ·simp only [Act.put, List.setIfInBounds_toArray, List.set_cons_zero, List.set_cons_succ, i64_w, i32_w]
      rfl
     refine pure_ (i := 14) (N := some 30) (v := undef) (a' := ?_) #[true, true, true, true, true, true, true, true, true, true, true, true, true, true, true, false, false, false, false, false, false, false, false, false, false] rfl rfl (any_of HT_.out (by kernel_rfl)) (fun _ _ _ h => h) (Or.inr ⟨by rfl, rfl⟩) ?_ ?_
     rotate_left
     ·simp only [Act.put, List.setIfInBounds_toArray, List.set_cons_zero, List.set_cons_succ, i64_w, i32_w]
      rfl
     refine pure_ (i := 15) (N := some 31) (v := undef) (a' := ?_) #[true, true, true, true, true, true, true, true, true, true, true, true, true, true, true, true, false, false, false, false, false, false, false, false, false] rfl rfl (any_of HT_.out (by kernel_rfl)) (fun _ _ _ h => h) (Or.inr ⟨by rfl, rfl⟩) ?_ ?_
     rotate_left
     ·simp only [Act.put, List.setIfInBounds_toArray, List.set_cons_zero, List.set_cons_succ, i64_w, i32_w]
      rfl
     refine pure_ (i := 16) (N := some 32) (v := ?_) (a' := ?_) #[true, true, true, true, true, true, true, true, true, true, true, true, true, true, true, true, true, false, false, false, false, false, false, false, false] rfl rfl (any_of HT_.out (by kernel_rfl)) (fun _ _ _ h => h) (Or.inl ⟨by rfl, ?_⟩) ?_ ?_
     rotate_left
     ·intro w'
      go_simp
      with_reducible rfl
     rotate_left
     ·simp only [Act.put, List.setIfInBounds_toArray, List.set_cons_zero, List.set_cons_succ, i64_w, i32_w]
      rfl
     refine pure_ (i := 17) (N := some 33) (v := ?_) (a' := ?_) #[true, true, true, true, true, true, true, true, true, true, true, true, true, true, true, true, true, true, false, false, false, false, false, false, false] rfl rfl (any_of HT_.out (by kernel_rfl)) (fun _ _ _ h => h) (Or.inl ⟨by rfl, ?_⟩) ?_ ?_
     rotate_left
     ·intro w'
      go_simp
      with_reducible rfl
     rotate_left
     ·simp only [Act.put, List.setIfInBounds_toArray, List.set_cons_zero, List.set_cons_succ, i64_w, i32_w]
      rfl
     refine pure_ (i := 18) (N := some 34) (v := undef) (a' := ?_) #[true, true, true, true, true, true, true, true, true, true, true, true, true, true, true, true, true, true, true, false, false, false, false, false, false] rfl rfl (any_of HT_.out (by kernel_rfl)) (fun _ _ _ h => h) (Or.inr ⟨by rfl, rfl⟩) ?_ ?_
     rotate_left
     ·simp only [Act.put, List.setIfInBounds_toArray, List.set_cons_zero, List.set_cons_succ, i64_w, i32_w]
      rfl
     refine pure_ (i := 19) (N := some 35) (v := undef) (a' := ?_) #[true, true, true, true, true, true, true, true, true, true, true, true, true, true, true, true, true, true, true, true, false, false, false, false, false] rfl rfl (any_of HT_.out (by kernel_rfl)) (fun _ _ _ h => h) (Or.inr ⟨by rfl, rfl⟩) ?_ ?_
     rotate_left
     ·simp only [Act.put, List.setIfInBounds_toArray, List.set_cons_zero, List.set_cons_succ, i64_w, i32_w]
      rfl
     refine pure_ (i := 20) (N := some 36) (v := undef) (a' := ?_) #[true, true, true, true, true, true, true, true, true, true, true, true, true, true, true, true, true, true, true, true, true, false, false, false, false] rfl rfl (any_of HT_.out (by kernel_rfl)) (fun _ _ _ h => h) (Or.inr ⟨by rfl, rfl⟩) ?_ ?_
     rotate_left
     ·simp only [Act.put, List.setIfInBounds_toArray, List.set_cons_zero, List.set_cons_succ, i64_w, i32_w]
      rfl
     refine pure_ (i := 21) (N := some 37) (v := undef) (a' := ?_) #[true, true, true, true, true, true, true, true, true, true, true, true, true, true, true, true, true, true, true, true, true, true, false, false, false] rfl rfl (any_of HT_.out (by kernel_rfl)) (fun _ _ _ h => h) (Or.inr ⟨by rfl, rfl⟩) ?_ ?_
     rotate_left
     ·simp only [Act.put, List.setIfInBounds_toArray, List.set_cons_zero, List.set_cons_succ, i64_w, i32_w]
      rfl
     refine pure_ (i := 22) (N := some 38) (v := undef) (a' := ?_) #[true, true, true, true, true, true, true, true, true, true, true, true, true, true, true, true, true, true, true, true, true, true, true, false, false] rfl rfl (any_of HT_.out (by kernel_rfl)) (fun _ _ _ h => h) (Or.inr ⟨by rfl, rfl⟩) ?_ ?_
     rotate_left
     ·simp only [Act.put, List.setIfInBounds_toArray, List.set_cons_zero, List.set_cons_succ, i64_w, i32_w]
      rfl
     refine pure_ (i := 23) (N := some 39) (v := undef) (a' := ?_) #[true, true, true, true, true, true, true, true, true, true, true, true, true, true, true, true, true, true, true, true, true, true, true, true, false] rfl rfl (any_of HT_.out (by kernel_rfl)) (fun _ _ _ h => h) (Or.inr ⟨by rfl, rfl⟩) ?_ ?_
     rotate_left
     ·simp only [Act.put, List.setIfInBounds_toArray, List.set_cons_zero, List.set_cons_succ, i64_w, i32_w]
      rfl
     refine pure_ (i := 24) (N := some 40) (v := ?_) (a' := ?_) #[true, true, true, true, true, true, true, true, true, true, true, true, true, true, true, true, true, true, true, true, true, true, true, true, true] rfl rfl (any_of HT_.out (by kernel_rfl)) (fun _ _ _ h => h) (Or.inl ⟨by rfl, ?_⟩) ?_ ?_
     rotate_left
     ·intro w'
      go_simp
      with_reducible rfl
     rotate_left
     ·simp only [Act.put, List.setIfInBounds_toArray, List.set_cons_zero, List.set_cons_succ, i64_w, i32_w]
      rfl
     refine done_ (done_of HT_.out (by kernel_rfl)) ?_
     try go_wp2
     go_meet
     case rel => exact ⟨_, (true), (by first | rfl | (simp; done) | (simp [*]; done)), H', ⟨by first | omega | exact Nat.le_refl _⟩, ⟨by (with_reducible repeat (first | apply Kd.V_alloc | apply Kd.V_drewN | apply Kd.V_drew)); exact Kd.V_mono HO0_1.out (fun _ hk => ⟨hk.1, ⟨hk.2.2.1, ⟨hk.2.2.2.1, hk.2.2.2.2⟩⟩⟩)⟩, ⟨by (with_reducible repeat (first | apply Kd.V_alloc | apply Kd.V_drewN | apply Kd.V_drew)); exact Kd.V_mono HO1_1.out (fun _ hk => ⟨hk.1, ⟨hk.2.2.1, ⟨hk.2.2.2.1, hk.2.2.2.2⟩⟩⟩)⟩, ⟨by (with_reducible repeat (first | apply Kd.V_alloc | apply Kd.V_drewN | apply Kd.V_drew)); exact Kd.V_mono HO563.out (fun _ hk => ⟨hk.1, ⟨hk.2.2.1, ⟨hk.2.2.2.1, hk.2.2.2.2⟩⟩⟩)⟩, ⟨by (with_reducible repeat (first | refine blk_drewN ?_ _ | refine blk_drew ?_ | refine blk_alloc ?_ _)); exact BK553.out⟩, ⟨by (with_reducible repeat (first | refine blk_drewN ?_ _ | refine blk_drew ?_ | refine blk_alloc ?_ _)); exact BK554.out⟩, ⟨by (with_reducible repeat (first | refine blk_drewN ?_ _ | refine blk_drew ?_ | refine blk_alloc ?_ _)); exact BK564.out⟩, ⟨by repeat (first | (with_reducible first | exact HB.out | apply bA | apply bN | apply bD | refine bS ?_ GE553.out | refine bS ?_ GE554.out | refine bS ?_ GE564.out) | exact HB.out)⟩⟩
   case rest =>
    clear HC8
    try clear c1
    try clear c2
    try clear p2
    try clear c3
    try clear c13
    try clear c14
    try clear c22
    try clear c27
    try clear c30
    try clear c30b0
    try clear c30b1
    obtain ⟨kq, x40_7, rfl, HA, HJ7, HO_554001, HO_555001, HO_565001, BK553, BK554, BK564, HB⟩ := hcut
    cases kq with
    | zero => exact absurd HA.out (by simp [isohyetlaw02_NumSigns.j0])
    | succ kj7 =>
     have H := HA.out
     clear HA
     simp only [isohyetlaw02_NumSigns.j0] at H
     by_cases c65 : x40_7 = true
     ·subst c65
      have H1 : (some false) = some r := by rw [if_pos rfl] at H; exact H
      clear H
      have H := H1
      clear H1
      exact absurd ((Option.some.inj H).trans HTRUE) (by decide)
     ·replace c65 := Bool.eq_false_iff.mpr c65
      subst c65
      have H1 : ((num_Mul.f kj7 a0_0 l0_1 a1_0 l1_1).bind fun bt578 => ((num_Sign.f kj7 bt578.1 bt578.2).bind fun t583 => ((num_Sign.f kj7 a0_0 l0_1).bind fun t584 => ((num_Sign.f kj7 a1_0 l1_1).bind fun t585 => (if t583 = (wrap64 (t584 * t585)) then ((num_Abs.f kj7 bt578.1 bt578.2).bind fun bt586 => ((num_Abs.f kj7 a0_0 l0_1).bind fun bt590 => ((num_Abs.f kj7 a1_0 l1_1).bind fun bt594 => ((num_Mul.f kj7 bt590.1 bt590.2 bt594.1 bt594.2).bind fun bt598 => ((num_Cmp.f kj7 bt586.1 bt586.2 bt598.1 bt598.2).bind fun t602 => (if t602 = 0 then ((num_Mul.f kj7 t560 t561 a1_0 l1_1).bind fun bt603 => ((num_Neg.f kj7 bt578.1 bt578.2).bind fun bt607 => ((num_Cmp.f kj7 bt603.1 bt603.2 bt607.1 bt607.2).bind fun t611 => (if t611 = 0 then ((isohyetlaw02_Right.f bt578.1 bt578.2).bind fun t612 => (some t612)) else (some false))))) else (some false))))))) else (some false)))))) = some r := by rw [if_neg (show ¬ (false = true) by decide)] at H; exact H
      clear H
      have H := H1
      clear H1
      replace H := Option.bind_eq_some_iff.mp H
      obtain ⟨⟨t578, t579⟩, A660, H⟩ := H
      replace H : ((num_Sign.f kj7 t578 t579).bind fun t583 => ((num_Sign.f kj7 a0_0 l0_1).bind fun t584 => ((num_Sign.f kj7 a1_0 l1_1).bind fun t585 => (if t583 = (wrap64 (t584 * t585)) then ((num_Abs.f kj7 t578 t579).bind fun bt586 => ((num_Abs.f kj7 a0_0 l0_1).bind fun bt590 => ((num_Abs.f kj7 a1_0 l1_1).bind fun bt594 => ((num_Mul.f kj7 bt590.1 bt590.2 bt594.1 bt594.2).bind fun bt598 => ((num_Cmp.f kj7 bt586.1 bt586.2 bt598.1 bt598.2).bind fun t602 => (if t602 = 0 then ((num_Mul.f kj7 t560 t561 a1_0 l1_1).bind fun bt603 => ((num_Neg.f kj7 t578 t579).bind fun bt607 => ((num_Cmp.f kj7 bt603.1 bt603.2 bt607.1 bt607.2).bind fun t611 => (if t611 = 0 then ((isohyetlaw02_Right.f t578 t579).bind fun t612 => (some t612)) else (some false))))) else (some false))))))) else (some false))))) = some r := H
      have A66 := Aside0.mk A660
      clear A660
      replace H := Option.bind_eq_some_iff.mp H
      obtain ⟨t583, A670, H⟩ := H
      replace H : ((num_Sign.f kj7 a0_0 l0_1).bind fun t584 => ((num_Sign.f kj7 a1_0 l1_1).bind fun t585 => (if t583 = (wrap64 (t584 * t585)) then ((num_Abs.f kj7 t578 t579).bind fun bt586 => ((num_Abs.f kj7 a0_0 l0_1).bind fun bt590 => ((num_Abs.f kj7 a1_0 l1_1).bind fun bt594 => ((num_Mul.f kj7 bt590.1 bt590.2 bt594.1 bt594.2).bind fun bt598 => ((num_Cmp.f kj7 bt586.1 bt586.2 bt598.1 bt598.2).bind fun t602 => (if t602 = 0 then ((num_Mul.f kj7 t560 t561 a1_0 l1_1).bind fun bt603 => ((num_Neg.f kj7 t578 t579).bind fun bt607 => ((num_Cmp.f kj7 bt603.1 bt603.2 bt607.1 bt607.2).bind fun t611 => (if t611 = 0 then ((isohyetlaw02_Right.f t578 t579).bind fun t612 => (some t612)) else (some false))))) else (some false))))))) else (some false)))) = some r := H
      have A67 := Aside0.mk A670
      clear A670
      replace H := Option.bind_eq_some_iff.mp H
      obtain ⟨t584, A680, H⟩ := H
      replace H : ((num_Sign.f kj7 a1_0 l1_1).bind fun t585 => (if t583 = (wrap64 (t584 * t585)) then ((num_Abs.f kj7 t578 t579).bind fun bt586 => ((num_Abs.f kj7 a0_0 l0_1).bind fun bt590 => ((num_Abs.f kj7 a1_0 l1_1).bind fun bt594 => ((num_Mul.f kj7 bt590.1 bt590.2 bt594.1 bt594.2).bind fun bt598 => ((num_Cmp.f kj7 bt586.1 bt586.2 bt598.1 bt598.2).bind fun t602 => (if t602 = 0 then ((num_Mul.f kj7 t560 t561 a1_0 l1_1).bind fun bt603 => ((num_Neg.f kj7 t578 t579).bind fun bt607 => ((num_Cmp.f kj7 bt603.1 bt603.2 bt607.1 bt607.2).bind fun t611 => (if t611 = 0 then ((isohyetlaw02_Right.f t578 t579).bind fun t612 => (some t612)) else (some false))))) else (some false))))))) else (some false))) = some r := H
      have A68 := Aside0.mk A680
      clear A680
      replace H := Option.bind_eq_some_iff.mp H
      obtain ⟨t585, A690, H⟩ := H
      replace H : (if t583 = (wrap64 (t584 * t585)) then ((num_Abs.f kj7 t578 t579).bind fun bt586 => ((num_Abs.f kj7 a0_0 l0_1).bind fun bt590 => ((num_Abs.f kj7 a1_0 l1_1).bind fun bt594 => ((num_Mul.f kj7 bt590.1 bt590.2 bt594.1 bt594.2).bind fun bt598 => ((num_Cmp.f kj7 bt586.1 bt586.2 bt598.1 bt598.2).bind fun t602 => (if t602 = 0 then ((num_Mul.f kj7 t560 t561 a1_0 l1_1).bind fun bt603 => ((num_Neg.f kj7 t578 t579).bind fun bt607 => ((num_Cmp.f kj7 bt603.1 bt603.2 bt607.1 bt607.2).bind fun t611 => (if t611 = 0 then ((isohyetlaw02_Right.f t578 t579).bind fun t612 => (some t612)) else (some false))))) else (some false))))))) else (some false)) = some r := H
      have A69 := Aside0.mk A690
      clear A690
      by_cases c70 : t583 = (wrap64 (t584 * t585))
      ·rw [if_pos c70] at H
       have c70b0 : (t583 == (wrap64 (t584 * t585))) = true := beq_iff_eq.mpr c70
       have c70b1 : (t583 != (wrap64 (t584 * t585))) = false := bne_eq_false_iff_eq.mpr c70
       clear c70
       replace H := Option.bind_eq_some_iff.mp H
       obtain ⟨⟨t586, t587⟩, A710, H⟩ := H
       replace H : ((num_Abs.f kj7 a0_0 l0_1).bind fun bt590 => ((num_Abs.f kj7 a1_0 l1_1).bind fun bt594 => ((num_Mul.f kj7 bt590.1 bt590.2 bt594.1 bt594.2).bind fun bt598 => ((num_Cmp.f kj7 t586 t587 bt598.1 bt598.2).bind fun t602 => (if t602 = 0 then ((num_Mul.f kj7 t560 t561 a1_0 l1_1).bind fun bt603 => ((num_Neg.f kj7 t578 t579).bind fun bt607 => ((num_Cmp.f kj7 bt603.1 bt603.2 bt607.1 bt607.2).bind fun t611 => (if t611 = 0 then ((isohyetlaw02_Right.f t578 t579).bind fun t612 => (some t612)) else (some false))))) else (some false)))))) = some r := H
       have A71 := Aside0.mk A710
       clear A710
       replace H := Option.bind_eq_some_iff.mp H
       obtain ⟨⟨t590, t591⟩, A720, H⟩ := H
       replace H : ((num_Abs.f kj7 a1_0 l1_1).bind fun bt594 => ((num_Mul.f kj7 t590 t591 bt594.1 bt594.2).bind fun bt598 => ((num_Cmp.f kj7 t586 t587 bt598.1 bt598.2).bind fun t602 => (if t602 = 0 then ((num_Mul.f kj7 t560 t561 a1_0 l1_1).bind fun bt603 => ((num_Neg.f kj7 t578 t579).bind fun bt607 => ((num_Cmp.f kj7 bt603.1 bt603.2 bt607.1 bt607.2).bind fun t611 => (if t611 = 0 then ((isohyetlaw02_Right.f t578 t579).bind fun t612 => (some t612)) else (some false))))) else (some false))))) = some r := H
       have A72 := Aside0.mk A720
       clear A720
       replace H := Option.bind_eq_some_iff.mp H
       obtain ⟨⟨t594, t595⟩, A730, H⟩ := H
       replace H : ((num_Mul.f kj7 t590 t591 t594 t595).bind fun bt598 => ((num_Cmp.f kj7 t586 t587 bt598.1 bt598.2).bind fun t602 => (if t602 = 0 then ((num_Mul.f kj7 t560 t561 a1_0 l1_1).bind fun bt603 => ((num_Neg.f kj7 t578 t579).bind fun bt607 => ((num_Cmp.f kj7 bt603.1 bt603.2 bt607.1 bt607.2).bind fun t611 => (if t611 = 0 then ((isohyetlaw02_Right.f t578 t579).bind fun t612 => (some t612)) else (some false))))) else (some false)))) = some r := H
       have A73 := Aside0.mk A730
       clear A730
       replace H := Option.bind_eq_some_iff.mp H
       obtain ⟨⟨t598, t599⟩, A740, H⟩ := H
       replace H : ((num_Cmp.f kj7 t586 t587 t598 t599).bind fun t602 => (if t602 = 0 then ((num_Mul.f kj7 t560 t561 a1_0 l1_1).bind fun bt603 => ((num_Neg.f kj7 t578 t579).bind fun bt607 => ((num_Cmp.f kj7 bt603.1 bt603.2 bt607.1 bt607.2).bind fun t611 => (if t611 = 0 then ((isohyetlaw02_Right.f t578 t579).bind fun t612 => (some t612)) else (some false))))) else (some false))) = some r := H
       have A74 := Aside0.mk A740
       clear A740
       replace H := Option.bind_eq_some_iff.mp H
       obtain ⟨t602, A750, H⟩ := H
       replace H : (if t602 = 0 then ((num_Mul.f kj7 t560 t561 a1_0 l1_1).bind fun bt603 => ((num_Neg.f kj7 t578 t579).bind fun bt607 => ((num_Cmp.f kj7 bt603.1 bt603.2 bt607.1 bt607.2).bind fun t611 => (if t611 = 0 then ((isohyetlaw02_Right.f t578 t579).bind fun t612 => (some t612)) else (some false))))) else (some false)) = some r := H
       have A75 := Aside0.mk A750
       clear A750
       by_cases c76 : t602 = 0
       ·rw [if_pos c76] at H
        have c76b0 : (t602 == 0) = true := beq_iff_eq.mpr c76
        have c76b1 : (t602 != 0) = false := bne_eq_false_iff_eq.mpr c76
        clear c76
        replace H := Option.bind_eq_some_iff.mp H
        obtain ⟨⟨t603, t604⟩, A770, H⟩ := H
        replace H : ((num_Neg.f kj7 t578 t579).bind fun bt607 => ((num_Cmp.f kj7 t603 t604 bt607.1 bt607.2).bind fun t611 => (if t611 = 0 then ((isohyetlaw02_Right.f t578 t579).bind fun t612 => (some t612)) else (some false)))) = some r := H
        have A77 := Aside0.mk A770
        clear A770
        replace H := Option.bind_eq_some_iff.mp H
        obtain ⟨⟨t607, t608⟩, A780, H⟩ := H
        replace H : ((num_Cmp.f kj7 t603 t604 t607 t608).bind fun t611 => (if t611 = 0 then ((isohyetlaw02_Right.f t578 t579).bind fun t612 => (some t612)) else (some false))) = some r := H
        have A78 := Aside0.mk A780
        clear A780
        replace H := Option.bind_eq_some_iff.mp H
        obtain ⟨t611, A790, H⟩ := H
        replace H : (if t611 = 0 then ((isohyetlaw02_Right.f t578 t579).bind fun t612 => (some t612)) else (some false)) = some r := H
        have A79 := Aside0.mk A790
        clear A790
        by_cases c80 : t611 = 0
        ·rw [if_pos c80] at H
         have c80b0 : (t611 == 0) = true := beq_iff_eq.mpr c80
         have c80b1 : (t611 != 0) = false := bne_eq_false_iff_eq.mpr c80
         clear c80
         replace H := Option.bind_eq_some_iff.mp H
         obtain ⟨t612, A810, H⟩ := H
         replace H : (some t612) = some r := H
         have A81 := Aside0.mk A810
         clear A810
         obtain rfl := Option.some.inj H
         have hnb82 := NB553_554.out
         have hnc82 := NB554_553.out
         have hnb83 := NB553_564.out
         have hnc83 := NB564_553.out
         have hcz84_0 : wc.cell? ⟨gb553, 0, none⟩ = some (.bool a0_0) := (blk_cell BK553.out 0).trans rfl
         have hcz84_1 : wc.cell? ⟨gb553, 1, none⟩ = some (.slice A0_1 l0_1.length c0_1) := (blk_cell BK553.out 1).trans rfl
         have hfz84_0 := blk_frozen BK553.out 0
         have hfz84_1 := blk_frozen BK553.out 1
         have hnb85 := NB554_564.out
         have hnc85 := NB564_554.out
         have hcz86_0 : wc.cell? ⟨gb554, 0, none⟩ = some (.bool a1_0) := (blk_cell BK554.out 0).trans rfl
         have hcz86_1 : wc.cell? ⟨gb554, 1, none⟩ = some (.slice A1_1 l1_1.length c1_1) := (blk_cell BK554.out 1).trans rfl
         have hfz86_0 := blk_frozen BK554.out 0
         have hfz86_1 := blk_frozen BK554.out 1
         try go_wp2_with (first | ((with_reducible refine gate_callee (f := 20) rfl ?_); refine goesL_ (some 43) rfl rfl Try.func20 (by kernel_rfl) rfl #[.agg #[.bool a0_0, .slice A0_1 l0_1.length c0_1], .agg #[.bool a1_0, .slice A1_1 l1_1.length c1_1]] rfl (by (try simp only [List.map_toArray, List.map_cons, List.map_nil]); first | done | rfl | (simp only [List.length_drop, List.length_take]; rfl)) ?_; (with_reducible refine (num_Mul.calls kj7 a0_0 _ _ l0_1 a1_0 _ _ l1_1 t578 t579 _ ?side1 ?side2 ?side3 ?side4 A66.out).mono ?_); (case side1 => repeat (first | exact (Kd.V_reads' HO_554001.out).2.2 | (with_reducible refine Kd.C_alloc ?_ _) | (with_reducible refine Kd.C_drewN ?_ _) | (with_reducible refine Kd.C_drew ?_))); (case side2 => exact (Kd.V_reads' HO_554001.out).2.1); (case side3 => repeat (first | exact (Kd.V_reads' HO_555001.out).2.2 | (with_reducible refine Kd.C_alloc ?_ _) | (with_reducible refine Kd.C_drewN ?_ _) | (with_reducible refine Kd.C_drew ?_))); (case side4 => exact (Kd.V_reads' HO_555001.out).2.1); (try clear A66); rintro e w87 ⟨v580, rfl, ho0, hb⟩; refine ⟨_, rfl, ?_⟩; have n0_ := Aside0.mk (Kd.V_below (gV HO_554001.out) hb); have n1_ := Aside0.mk (Kd.V_below (gV HO_555001.out) hb); have n2_ := Aside0.mk (Kd.V_below (gV HO_565001.out) hb); have n3_ := Aside0.mk (Kd.V_lower (Kd.V_mono (ok' := fun k_ => ((P0_1_ k_ ∨ P1_1_ k_) ∨ w.heap.size ≤ k_) ∧ k_ ≠ gb553 ∧ k_ ≠ gb554 ∧ k_ ≠ gb564) ho0 (fun k_ hk_ => ⟨(.inr (Nat.le_trans (below_size (by repeat (first | (with_reducible first | exact HB.out | apply bA | apply bN | apply bD | refine bS ?_ GE553.out | refine bS ?_ GE554.out | refine bS ?_ GE564.out) | exact HB.out))) hk_)), (Kd.freshB (g := gb553) (o := .cells #[.bool a0_0, .slice A0_1 l0_1.length c0_1] 25 (0, 0)) (gK BK553.out) k_ hk_), (Kd.freshB (g := gb554) (o := .cells #[.bool a1_0, .slice A1_1 l1_1.length c1_1] 25 (0, 0)) (gK BK554.out) k_ hk_), (Kd.freshB (g := gb564) (o := .cells #[.bool t560, .slice Ao25 t561.length co25] 25 (0, 0)) (gK BK564.out) k_ hk_)⟩)) (below_size (by repeat (first | (with_reducible first | exact HB.out | apply bA | apply bN | apply bD | refine bS ?_ GE553.out | refine bS ?_ GE554.out | refine bS ?_ GE564.out) | exact HB.out)))); have n4_ := Aside0.mk (blk_below (gK BK553.out) hb); have n5_ := Aside0.mk (blk_below (gK BK554.out) hb); have n6_ := Aside0.mk (blk_below (gK BK564.out) hb); have n7_ := Aside0.mk (below_step (by repeat (first | (with_reducible first | exact HB.out | apply bA | apply bN | apply bD | refine bS ?_ GE553.out | refine bS ?_ GE554.out | refine bS ?_ GE564.out) | exact HB.out)) hb); clear HO_554001; clear HO_555001; clear HO_565001; clear BK553; clear BK554; clear BK564; clear HB; have HO_554001 := n0_; have HO_555001 := n1_; have HO_565001 := n2_; have HO581 := n3_; have BK553 := n4_; have BK554 := n5_; have BK564 := n6_; have HB := n7_; clear n0_ n1_ n2_ n3_ n4_ n5_ n6_ n7_; (try clear hb); (try clear hb2); (try clear hk); (try clear hi); (try clear ho0)) | ((with_reducible refine gate_dst (N := 6) rfl ?_); refine box_event ?hg (N := 6) ?hd (cs := #[.bool false, .slice none 0 0]) (t := 25) ?hr ?_; (case hd => rfl); (case hg => rfl); (case hr => first | (go_simp; done) | (go_simp; rfl)); intro gb582 hg w88 hbox hb; have n0_ := Aside0.mk (Kd.V_below (Kd.V_elderB (gV HO_554001.out) gb582 (Nat.le_of_eq hg.symm)) hb); have n1_ := Aside0.mk (Kd.V_below (Kd.V_elderB (gV HO_555001.out) gb582 (Nat.le_of_eq hg.symm)) hb); have n2_ := Aside0.mk (Kd.V_below (Kd.V_elderB (gV HO_565001.out) gb582 (Nat.le_of_eq hg.symm)) hb); have n3_ := Aside0.mk (Kd.V_below (Kd.V_elderB (gV HO581.out) gb582 (Nat.le_of_eq hg.symm)) hb); have n4_ := Aside0.mk (blk_below (gK BK553.out) hb); have n5_ := Aside0.mk (blk_below (gK BK554.out) hb); have n6_ := Aside0.mk (blk_below (gK BK564.out) hb); have n7_ := Aside0.mk (below_step (by repeat (first | (with_reducible first | exact HB.out | apply bA | apply bN | apply bD | refine bS ?_ GE553.out | refine bS ?_ GE554.out | refine bS ?_ GE564.out) | exact HB.out)) hb); have n8_ := Aside0.mk (hbox); have n9_ := Aside0.mk ((by rw [hg]; exact (below_size (by repeat (first | (with_reducible first | exact HB.out | apply bA | apply bN | apply bD | refine bS ?_ GE553.out | refine bS ?_ GE554.out | refine bS ?_ GE564.out) | exact HB.out))) : w.heap.size ≤ gb582)); have n10_ := Aside0.mk ((by rw [hg]; exact (below_size (by repeat (first | (with_reducible first | exact HB.out | apply bA | apply bN | apply bD | refine bS ?_ GE553.out | refine bS ?_ GE554.out | refine bS ?_ GE564.out) | exact HB.out))) : w.heap.size ≤ gb582)); have n11_ := Aside0.mk ((by rw [hg]; exact Nat.ne_of_lt (blk_lt (g := gb553) (o := .cells #[.bool a0_0, .slice A0_1 l0_1.length c0_1] 25 (0, 0)) (gK BK553.out)) : gb553 ≠ gb582)); have n12_ := Aside0.mk ((by rw [hg]; exact Nat.ne_of_gt (blk_lt (g := gb553) (o := .cells #[.bool a0_0, .slice A0_1 l0_1.length c0_1] 25 (0, 0)) (gK BK553.out)) : gb582 ≠ gb553)); have n13_ := Aside0.mk ((by rw [hg]; exact Nat.ne_of_lt (blk_lt (g := gb554) (o := .cells #[.bool a1_0, .slice A1_1 l1_1.length c1_1] 25 (0, 0)) (gK BK554.out)) : gb554 ≠ gb582)); have n14_ := Aside0.mk ((by rw [hg]; exact Nat.ne_of_gt (blk_lt (g := gb554) (o := .cells #[.bool a1_0, .slice A1_1 l1_1.length c1_1] 25 (0, 0)) (gK BK554.out)) : gb582 ≠ gb554)); have n15_ := Aside0.mk ((by rw [hg]; exact Nat.ne_of_lt (blk_lt (g := gb564) (o := .cells #[.bool t560, .slice Ao25 t561.length co25] 25 (0, 0)) (gK BK564.out)) : gb564 ≠ gb582)); have n16_ := Aside0.mk ((by rw [hg]; exact Nat.ne_of_gt (blk_lt (g := gb564) (o := .cells #[.bool t560, .slice Ao25 t561.length co25] 25 (0, 0)) (gK BK564.out)) : gb582 ≠ gb564)); clear HO_554001; clear HO_555001; clear HO_565001; clear HO581; clear BK553; clear BK554; clear BK564; clear HB; have HO_554001 := n0_; have HO_555001 := n1_; have HO_565001 := n2_; have HO581 := n3_; have BK553 := n4_; have BK554 := n5_; have BK564 := n6_; have HB := n7_; have BK582 := n8_; have GW582 := n9_; have GE582 := n10_; have NB553_582 := n11_; have NB582_553 := n12_; have NB554_582 := n13_; have NB582_554 := n14_; have NB564_582 := n15_; have NB582_564 := n16_; clear n0_ n1_ n2_ n3_ n4_ n5_ n6_ n7_ n8_ n9_ n10_ n11_ n12_ n13_ n14_ n15_ n16_; clear hb hbox hg; have hnb89 := NB582_553.out; have hnc89 := NB553_582.out; have hnb90 := NB582_554.out; have hnc90 := NB554_582.out; have hnb91 := NB582_564.out; have hnc91 := NB564_582.out; have hcz92_0 : w88.cell? ⟨gb582, 0, none⟩ = some (.bool false) := (blk_cell BK582.out 0).trans rfl; have hcz92_1 : w88.cell? ⟨gb582, 1, none⟩ = some (.slice none 0 0) := (blk_cell BK582.out 1).trans rfl; have hfz92_0 := blk_frozen BK582.out 0; have hfz92_1 := blk_frozen BK582.out 1; obtain ⟨Ao93, co93, eo93⟩ := Kd.V_slice HO581.out; subst eo93))
         have n0_ : Aside0 (Kd.V (Kd.int .u64) 54 ((w88.setCell ⟨gb582, 0, none⟩ (.bool t578)).setCell ⟨gb582, 1, none⟩ (.slice Ao93 t579.length co93)) w.heap.size (fun k_ => ((P0_1_ k_ ∨ P1_1_ k_) ∨ w.heap.size ≤ k_) ∧ k_ ≠ gb553 ∧ k_ ≠ gb554 ∧ k_ ≠ gb564 ∧ k_ ≠ gb582) (.slice A0_1 l0_1.length c0_1) l0_1) := ⟨by (with_reducible repeat (first | apply Kd.V_alloc | apply Kd.V_drewN | apply Kd.V_drew)); exact Kd.V_mono (Kd.V_far (p := ⟨gb582, 1, none⟩) (Kd.V_far (p := ⟨gb582, 0, none⟩) (Kd.V_mono HO_554001.out (fun k_ hk => (⟨hk, hk.2⟩ : _ ∧ k_ ≠ gb582))) (fun _ hk => hk.2) (.bool t578)) (fun _ hk => hk.2) (.slice Ao93 t579.length co93)) (fun _ hk => ⟨hk.1.1.1, ⟨hk.1.1.2.1, ⟨hk.1.1.2.2.1, ⟨hk.1.1.2.2.2, hk.1.2⟩⟩⟩⟩)⟩
         have n1_ : Aside0 (Kd.V (Kd.int .u64) 54 ((w88.setCell ⟨gb582, 0, none⟩ (.bool t578)).setCell ⟨gb582, 1, none⟩ (.slice Ao93 t579.length co93)) w.heap.size (fun k_ => ((P0_1_ k_ ∨ P1_1_ k_) ∨ w.heap.size ≤ k_) ∧ k_ ≠ gb553 ∧ k_ ≠ gb554 ∧ k_ ≠ gb564 ∧ k_ ≠ gb582) (.slice A1_1 l1_1.length c1_1) l1_1) := ⟨by (with_reducible repeat (first | apply Kd.V_alloc | apply Kd.V_drewN | apply Kd.V_drew)); exact Kd.V_mono (Kd.V_far (p := ⟨gb582, 1, none⟩) (Kd.V_far (p := ⟨gb582, 0, none⟩) (Kd.V_mono HO_555001.out (fun k_ hk => (⟨hk, hk.2⟩ : _ ∧ k_ ≠ gb582))) (fun _ hk => hk.2) (.bool t578)) (fun _ hk => hk.2) (.slice Ao93 t579.length co93)) (fun _ hk => ⟨hk.1.1.1, ⟨hk.1.1.2.1, ⟨hk.1.1.2.2.1, ⟨hk.1.1.2.2.2, hk.1.2⟩⟩⟩⟩)⟩
         have n2_ : Aside0 (Kd.V (Kd.int .u64) 54 ((w88.setCell ⟨gb582, 0, none⟩ (.bool t578)).setCell ⟨gb582, 1, none⟩ (.slice Ao93 t579.length co93)) w.heap.size (fun k_ => ((P0_1_ k_ ∨ P1_1_ k_) ∨ w.heap.size ≤ k_) ∧ k_ ≠ gb553 ∧ k_ ≠ gb554 ∧ k_ ≠ gb564 ∧ k_ ≠ gb582) (.slice Ao25 t561.length co25) t561) := ⟨by (with_reducible repeat (first | apply Kd.V_alloc | apply Kd.V_drewN | apply Kd.V_drew)); exact Kd.V_mono (Kd.V_far (p := ⟨gb582, 1, none⟩) (Kd.V_far (p := ⟨gb582, 0, none⟩) (Kd.V_mono HO_565001.out (fun k_ hk => (⟨hk, hk.2⟩ : _ ∧ k_ ≠ gb582))) (fun _ hk => hk.2) (.bool t578)) (fun _ hk => hk.2) (.slice Ao93 t579.length co93)) (fun _ hk => ⟨hk.1.1.1, ⟨hk.1.1.2.1, ⟨hk.1.1.2.2.1, ⟨hk.1.1.2.2.2, hk.1.2⟩⟩⟩⟩)⟩
         have n3_ : Aside0 (Kd.V (Kd.int .u64) 54 ((w88.setCell ⟨gb582, 0, none⟩ (.bool t578)).setCell ⟨gb582, 1, none⟩ (.slice Ao93 t579.length co93)) w.heap.size (fun k_ => ((P0_1_ k_ ∨ P1_1_ k_) ∨ w.heap.size ≤ k_) ∧ k_ ≠ gb553 ∧ k_ ≠ gb554 ∧ k_ ≠ gb564 ∧ k_ ≠ gb582) (.slice Ao93 t579.length co93) t579) := ⟨by (with_reducible repeat (first | apply Kd.V_alloc | apply Kd.V_drewN | apply Kd.V_drew)); exact Kd.V_mono (Kd.V_far (p := ⟨gb582, 1, none⟩) (Kd.V_far (p := ⟨gb582, 0, none⟩) (Kd.V_mono HO581.out (fun k_ hk => (⟨hk, hk.2⟩ : _ ∧ k_ ≠ gb582))) (fun _ hk => hk.2) (.bool t578)) (fun _ hk => hk.2) (.slice Ao93 t579.length co93)) (fun _ hk => ⟨hk.1.1.1, ⟨hk.1.1.2.1, ⟨hk.1.1.2.2.1, ⟨hk.1.1.2.2.2, hk.1.2⟩⟩⟩⟩)⟩
         have n4_ : Aside0 (((w88.setCell ⟨gb582, 0, none⟩ (.bool t578)).setCell ⟨gb582, 1, none⟩ (.slice Ao93 t579.length co93)).heap[gb553]? = some (.cells #[.bool a0_0, .slice A0_1 l0_1.length c0_1] 25 (0, 0))) := ⟨by (with_reducible repeat (first | refine blk_drewN ?_ _ | refine blk_drew ?_ | refine blk_alloc ?_ _)); refine blk_far ?_ NB553_582.out _; (with_reducible repeat (first | refine blk_drewN ?_ _ | refine blk_drew ?_ | refine blk_alloc ?_ _)); refine blk_far ?_ NB553_582.out _; (with_reducible repeat (first | refine blk_drewN ?_ _ | refine blk_drew ?_ | refine blk_alloc ?_ _)); exact BK553.out⟩
         have n5_ : Aside0 (((w88.setCell ⟨gb582, 0, none⟩ (.bool t578)).setCell ⟨gb582, 1, none⟩ (.slice Ao93 t579.length co93)).heap[gb554]? = some (.cells #[.bool a1_0, .slice A1_1 l1_1.length c1_1] 25 (0, 0))) := ⟨by (with_reducible repeat (first | refine blk_drewN ?_ _ | refine blk_drew ?_ | refine blk_alloc ?_ _)); refine blk_far ?_ NB554_582.out _; (with_reducible repeat (first | refine blk_drewN ?_ _ | refine blk_drew ?_ | refine blk_alloc ?_ _)); refine blk_far ?_ NB554_582.out _; (with_reducible repeat (first | refine blk_drewN ?_ _ | refine blk_drew ?_ | refine blk_alloc ?_ _)); exact BK554.out⟩
         have n6_ : Aside0 (((w88.setCell ⟨gb582, 0, none⟩ (.bool t578)).setCell ⟨gb582, 1, none⟩ (.slice Ao93 t579.length co93)).heap[gb564]? = some (.cells #[.bool t560, .slice Ao25 t561.length co25] 25 (0, 0))) := ⟨by (with_reducible repeat (first | refine blk_drewN ?_ _ | refine blk_drew ?_ | refine blk_alloc ?_ _)); refine blk_far ?_ NB564_582.out _; (with_reducible repeat (first | refine blk_drewN ?_ _ | refine blk_drew ?_ | refine blk_alloc ?_ _)); refine blk_far ?_ NB564_582.out _; (with_reducible repeat (first | refine blk_drewN ?_ _ | refine blk_drew ?_ | refine blk_alloc ?_ _)); exact BK564.out⟩
         have n7_ : Aside0 (((w88.setCell ⟨gb582, 0, none⟩ (.bool t578)).setCell ⟨gb582, 1, none⟩ (.slice Ao93 t579.length co93)).heap[gb582]? = some (.cells #[.bool t578, .slice Ao93 t579.length co93] 25 (0, 0))) := ⟨by (with_reducible repeat (first | refine blk_drewN ?_ _ | refine blk_drew ?_ | refine blk_alloc ?_ _)); refine blk_put (cs := #[.bool t578, .slice none 0 0]) ?_ 1 _ rfl; (with_reducible repeat (first | refine blk_drewN ?_ _ | refine blk_drew ?_ | refine blk_alloc ?_ _)); refine blk_put (cs := #[.bool false, .slice none 0 0]) ?_ 0 _ rfl; (with_reducible repeat (first | refine blk_drewN ?_ _ | refine blk_drew ?_ | refine blk_alloc ?_ _)); exact BK582.out⟩
         have n8_ : Aside0 (Below w.heap.size w ((w88.setCell ⟨gb582, 0, none⟩ (.bool t578)).setCell ⟨gb582, 1, none⟩ (.slice Ao93 t579.length co93))) := ⟨by repeat (first | (with_reducible first | exact HB.out | apply bA | apply bN | apply bD | refine bS ?_ GE553.out | refine bS ?_ GE554.out | refine bS ?_ GE564.out | refine bS ?_ GE582.out) | exact HB.out)⟩
         (try clear HO_554001)
         (try clear HO_555001)
         (try clear HO_565001)
         (try clear HO581)
         (try clear BK553)
         (try clear BK554)
         (try clear BK564)
         (try clear BK582)
         (try clear HB)
         generalize ((w88.setCell ⟨gb582, 0, none⟩ (.bool t578)).setCell ⟨gb582, 1, none⟩ (.slice Ao93 t579.length co93)) = w94 at n0_ n1_ n2_ n3_ n4_ n5_ n6_ n7_ n8_ ⊢
         have HO_554001 := n0_
         have HO_555001 := n1_
         have HO_565001 := n2_
         have HO581 := n3_
         have BK553 := n4_
         have BK554 := n5_
         have BK564 := n6_
         have BK582 := n7_
         have HB := n8_
         clear n0_ n1_ n2_ n3_ n4_ n5_ n6_ n7_ n8_
         have n0_ := Aside0.mk (Kd.V_drew HO_554001.out)
         have n1_ := Aside0.mk (Kd.V_drew HO_555001.out)
         have n2_ := Aside0.mk (Kd.V_drew HO_565001.out)
         have n3_ := Aside0.mk (Kd.V_drew HO581.out)
         have n4_ := Aside0.mk (blk_drew BK553.out)
         have n5_ := Aside0.mk (blk_drew BK554.out)
         have n6_ := Aside0.mk (blk_drew BK564.out)
         have n7_ := Aside0.mk (blk_drew BK582.out)
         have n8_ := Aside0.mk (bD HB.out)
         clear HO_554001
         clear HO_555001
         clear HO_565001
         clear HO581
         clear BK553
         clear BK554
         clear BK564
         clear BK582
         clear HB
         have HO_554001 := n0_
         have HO_555001 := n1_
         have HO_565001 := n2_
         have HO581 := n3_
         have BK553 := n4_
         have BK554 := n5_
         have BK564 := n6_
         have BK582 := n7_
         have HB := n8_
         clear n0_ n1_ n2_ n3_ n4_ n5_ n6_ n7_ n8_
         refine start_ (n := 33) (S := fun w' => w'.cell? ⟨gb582, 0, none⟩ = some (.bool t578) ∧ w'.cell? ⟨gb582, 1, none⟩ = some (.slice Ao93 t579.length co93) ∧ w'.cell? ⟨gb553, 0, none⟩ = some (.bool a0_0) ∧ w'.cell? ⟨gb553, 1, none⟩ = some (.slice A0_1 l0_1.length c0_1) ∧ w'.cell? ⟨gb554, 0, none⟩ = some (.bool a1_0) ∧ w'.cell? ⟨gb554, 1, none⟩ = some (.slice A1_1 l1_1.length c1_1) ∧ w'.cell? ⟨gb564, 0, none⟩ = some (.bool t560) ∧ w'.cell? ⟨gb564, 1, none⟩ = some (.slice Ao25 t561.length co25)) (ds := []) #[false, false, false, false, false, false, false, false, false, false, false, false, false, false, false, false, false, false, false, false, false, false, false, false, false, false, false, false, false, false, false, false, false] (by kernel_rfl) rfl rfl ⟨(blk_cell BK582.out 0).trans rfl, (blk_cell BK582.out 1).trans rfl, (blk_cell BK553.out 0).trans rfl, (blk_cell BK553.out 1).trans rfl, (blk_cell BK554.out 0).trans rfl, (blk_cell BK554.out 1).trans rfl, (blk_cell BK564.out 0).trans rfl, (blk_cell BK564.out 1).trans rfl⟩ (fun hHeld => ?_); refine with_tabW isohyetlaw02_NumSigns.tab9 isohyetlaw02_NumSigns.bits9 (fun HT_ HW_ => ?_)
         generalize w94.drew = w95 at HO_554001 HO_555001 HO_565001 HO581 BK553 BK554 BK564 BK582 HB hHeld ⊢
         refine take_ (i := 0) (N := some 44) (v := ?_) (a' := ?_) #[true, false, false, false, false, false, false, false, false, false, false, false, false, false, false, false, false, false, false, false, false, false, false, false, false, false, false, false, false, false, false, false, false] rfl rfl (take_ofW HT_.out HW_.out (by kernel_rfl)) (fun _ _ _ h => h) (Or.inl ⟨by rfl, ?_⟩) hHeld ?_ ?_
         rotate_left
         ·rintro w' ⟨s0, s1, s2, s3, s4, s5, s6, s7⟩
          go_simp
          with_reducible rfl
         rotate_left
         ·simp only [Act.put, List.setIfInBounds_toArray, List.set_cons_zero, List.set_cons_succ, i64_w, i32_w]
          rfl
         refine take_ (i := 2) (N := some 46) (v := ?_) (a' := ?_) #[true, false, true, false, false, false, false, false, false, false, false, false, false, false, false, false, false, false, false, false, false, false, false, false, false, false, false, false, false, false, false, false, false] rfl rfl (take_ofW HT_.out HW_.out (by kernel_rfl)) (fun _ _ _ h => h) (Or.inl ⟨by rfl, ?_⟩) hHeld ?_ ?_
         rotate_left
         ·rintro w' ⟨s0, s1, s2, s3, s4, s5, s6, s7⟩
          go_simp
          with_reducible rfl
         rotate_left
         ·simp only [Act.put, List.setIfInBounds_toArray, List.set_cons_zero, List.set_cons_succ, i64_w, i32_w]
          rfl
         refine take_ (i := 4) (N := some 48) (v := ?_) (a' := ?_) #[true, false, true, false, true, false, false, false, false, false, false, false, false, false, false, false, false, false, false, false, false, false, false, false, false, false, false, false, false, false, false, false, false] rfl rfl (take_ofW HT_.out HW_.out (by kernel_rfl)) (fun _ _ _ h => h) (Or.inl ⟨by rfl, ?_⟩) hHeld ?_ ?_
         rotate_left
         ·rintro w' ⟨s0, s1, s2, s3, s4, s5, s6, s7⟩
          go_simp
          with_reducible rfl
         rotate_left
         ·simp only [Act.put, List.setIfInBounds_toArray, List.set_cons_zero, List.set_cons_succ, i64_w, i32_w]
          rfl
         refine one_ (i := 1) (N := some 45) #[true, true, true, false, true, false, false, false, false, false, false, false, false, false, false, false, false, false, false, false, false, false, false, false, false, false, false, false, false, false, false, false, false] rfl rfl (one_of HT_.out (by kernel_rfl)) (by decide) (fun K hK => ?_)
         refine goes_ Try.func15 (by kernel_rfl) rfl #[.agg #[.bool t578, .slice Ao93 t579.length co93]] (by rfl) rfl rfl (by (try simp only [List.map_toArray, List.map_cons, List.map_nil]); first | done | rfl | (simp only [List.length_drop, List.length_take]; rfl)) ?_
         with_reducible refine (num_Sign.calls kj7 t578 _ _ t579 t583 _ ?side1 ?side2 A67.out).mono ?_
         (case side1 => repeat (first | exact (Kd.V_reads' HO581.out).2.2 | (with_reducible refine Kd.C_alloc ?_ _) | (with_reducible refine Kd.C_drewN ?_ _) | (with_reducible refine Kd.C_drew ?_)))
         (case side2 => exact (Kd.V_reads' HO581.out).2.1)
         rintro e w96 ⟨rfl, hb⟩
         refine ⟨_, rfl, ?_⟩
         have n0_ := Aside0.mk (Kd.V_below (gV HO_554001.out) hb)
         have n1_ := Aside0.mk (Kd.V_below (gV HO_555001.out) hb)
         have n2_ := Aside0.mk (Kd.V_below (gV HO_565001.out) hb)
         have n3_ := Aside0.mk (Kd.V_below (gV HO581.out) hb)
         have n4_ := Aside0.mk (blk_below (gK BK553.out) hb)
         have n5_ := Aside0.mk (blk_below (gK BK554.out) hb)
         have n6_ := Aside0.mk (blk_below (gK BK564.out) hb)
         have n7_ := Aside0.mk (blk_below (gK BK582.out) hb)
         have n8_ := Aside0.mk (below_step (by repeat (first | (with_reducible first | exact HB.out | apply bA | apply bN | apply bD | refine bS ?_ GE553.out | refine bS ?_ GE554.out | refine bS ?_ GE564.out | refine bS ?_ GE582.out) | exact HB.out)) hb)
         clear HO_554001
         clear HO_555001
         clear HO_565001
         clear HO581
         clear BK553
         clear BK554
         clear BK564
         clear BK582
         clear HB
         have HO_554001 := n0_
         have HO_555001 := n1_
         have HO_565001 := n2_
         have HO581 := n3_
         have BK553 := n4_
         have BK554 := n5_
         have BK564 := n6_
         have BK582 := n7_
         have HB := n8_
         clear n0_ n1_ n2_ n3_ n4_ n5_ n6_ n7_ n8_
         (try clear hb)
         (try clear hb2)
         (try clear hk)
         (try clear hi)
         refine hK.out _ _ ⟨(blk_cell BK582.out 0).trans rfl, (blk_cell BK582.out 1).trans rfl, (blk_cell BK553.out 0).trans rfl, (blk_cell BK553.out 1).trans rfl, (blk_cell BK554.out 0).trans rfl, (blk_cell BK554.out 1).trans rfl, (blk_cell BK564.out 0).trans rfl, (blk_cell BK564.out 1).trans rfl⟩ (fun hHeld => ?_)
         clear hK K
         refine norm_ (a' := ?_) ?_ ?_
         rotate_left
         ·show Act.put _ (some 45) _ = _
          simp only [Act.put, List.setIfInBounds_toArray, List.set_cons_zero, List.set_cons_succ, i64_w, i32_w]
          rfl
         refine one_ (i := 3) (N := some 47) #[true, true, true, true, true, false, false, false, false, false, false, false, false, false, false, false, false, false, false, false, false, false, false, false, false, false, false, false, false, false, false, false, false] rfl rfl (one_of HT_.out (by kernel_rfl)) (by decide) (fun K hK => ?_)
         refine goes_ Try.func15 (by kernel_rfl) rfl #[.agg #[.bool a0_0, .slice A0_1 l0_1.length c0_1]] (by rfl) rfl rfl (by (try simp only [List.map_toArray, List.map_cons, List.map_nil]); first | done | rfl | (simp only [List.length_drop, List.length_take]; rfl)) ?_
         with_reducible refine (num_Sign.calls kj7 a0_0 _ _ l0_1 t584 _ ?side1 ?side2 A68.out).mono ?_
         (case side1 => repeat (first | exact (Kd.V_reads' HO_554001.out).2.2 | (with_reducible refine Kd.C_alloc ?_ _) | (with_reducible refine Kd.C_drewN ?_ _) | (with_reducible refine Kd.C_drew ?_)))
         (case side2 => exact (Kd.V_reads' HO_554001.out).2.1)
         rintro e w97 ⟨rfl, hb⟩
         refine ⟨_, rfl, ?_⟩
         have n0_ := Aside0.mk (Kd.V_below (gV HO_554001.out) hb)
         have n1_ := Aside0.mk (Kd.V_below (gV HO_555001.out) hb)
         have n2_ := Aside0.mk (Kd.V_below (gV HO_565001.out) hb)
         have n3_ := Aside0.mk (Kd.V_below (gV HO581.out) hb)
         have n4_ := Aside0.mk (blk_below (gK BK553.out) hb)
         have n5_ := Aside0.mk (blk_below (gK BK554.out) hb)
         have n6_ := Aside0.mk (blk_below (gK BK564.out) hb)
         have n7_ := Aside0.mk (blk_below (gK BK582.out) hb)
         have n8_ := Aside0.mk (below_step (by repeat (first | (with_reducible first | exact HB.out | apply bA | apply bN | apply bD | refine bS ?_ GE553.out | refine bS ?_ GE554.out | refine bS ?_ GE564.out | refine bS ?_ GE582.out) | exact HB.out)) hb)
         clear HO_554001
         clear HO_555001
         clear HO_565001
         clear HO581
         clear BK553
         clear BK554
         clear BK564
         clear BK582
         clear HB
         have HO_554001 := n0_
         have HO_555001 := n1_
         have HO_565001 := n2_
         have HO581 := n3_
         have BK553 := n4_
         have BK554 := n5_
         have BK564 := n6_
         have BK582 := n7_
         have HB := n8_
         clear n0_ n1_ n2_ n3_ n4_ n5_ n6_ n7_ n8_
         (try clear hb)
         (try clear hb2)
         (try clear hk)
         (try clear hi)
         refine hK.out _ _ ⟨(blk_cell BK582.out 0).trans rfl, (blk_cell BK582.out 1).trans rfl, (blk_cell BK553.out 0).trans rfl, (blk_cell BK553.out 1).trans rfl, (blk_cell BK554.out 0).trans rfl, (blk_cell BK554.out 1).trans rfl, (blk_cell BK564.out 0).trans rfl, (blk_cell BK564.out 1).trans rfl⟩ (fun hHeld => ?_)
         clear hK K
         refine norm_ (a' := ?_) ?_ ?_
         rotate_left
         ·show Act.put _ (some 47) _ = _
          simp only [Act.put, List.setIfInBounds_toArray, List.set_cons_zero, List.set_cons_succ, i64_w, i32_w]
          rfl
         refine one_ (i := 5) (N := some 49) #[true, true, true, true, true, true, false, false, false, false, false, false, false, false, false, false, false, false, false, false, false, false, false, false, false, false, false, false, false, false, false, false, false] rfl rfl (one_of HT_.out (by kernel_rfl)) (by decide) (fun K hK => ?_)
         refine goes_ Try.func15 (by kernel_rfl) rfl #[.agg #[.bool a1_0, .slice A1_1 l1_1.length c1_1]] (by rfl) rfl rfl (by (try simp only [List.map_toArray, List.map_cons, List.map_nil]); first | done | rfl | (simp only [List.length_drop, List.length_take]; rfl)) ?_
         with_reducible refine (num_Sign.calls kj7 a1_0 _ _ l1_1 t585 _ ?side1 ?side2 A69.out).mono ?_
         (case side1 => repeat (first | exact (Kd.V_reads' HO_555001.out).2.2 | (with_reducible refine Kd.C_alloc ?_ _) | (with_reducible refine Kd.C_drewN ?_ _) | (with_reducible refine Kd.C_drew ?_)))
         (case side2 => exact (Kd.V_reads' HO_555001.out).2.1)
         rintro e w98 ⟨rfl, hb⟩
         refine ⟨_, rfl, ?_⟩
         have n0_ := Aside0.mk (Kd.V_below (gV HO_554001.out) hb)
         have n1_ := Aside0.mk (Kd.V_below (gV HO_555001.out) hb)
         have n2_ := Aside0.mk (Kd.V_below (gV HO_565001.out) hb)
         have n3_ := Aside0.mk (Kd.V_below (gV HO581.out) hb)
         have n4_ := Aside0.mk (blk_below (gK BK553.out) hb)
         have n5_ := Aside0.mk (blk_below (gK BK554.out) hb)
         have n6_ := Aside0.mk (blk_below (gK BK564.out) hb)
         have n7_ := Aside0.mk (blk_below (gK BK582.out) hb)
         have n8_ := Aside0.mk (below_step (by repeat (first | (with_reducible first | exact HB.out | apply bA | apply bN | apply bD | refine bS ?_ GE553.out | refine bS ?_ GE554.out | refine bS ?_ GE564.out | refine bS ?_ GE582.out) | exact HB.out)) hb)
         clear HO_554001
         clear HO_555001
         clear HO_565001
         clear HO581
         clear BK553
         clear BK554
         clear BK564
         clear BK582
         clear HB
         have HO_554001 := n0_
         have HO_555001 := n1_
         have HO_565001 := n2_
         have HO581 := n3_
         have BK553 := n4_
         have BK554 := n5_
         have BK564 := n6_
         have BK582 := n7_
         have HB := n8_
         clear n0_ n1_ n2_ n3_ n4_ n5_ n6_ n7_ n8_
         (try clear hb)
         (try clear hb2)
         (try clear hk)
         (try clear hi)
         refine hK.out _ _ ⟨(blk_cell BK582.out 0).trans rfl, (blk_cell BK582.out 1).trans rfl, (blk_cell BK553.out 0).trans rfl, (blk_cell BK553.out 1).trans rfl, (blk_cell BK554.out 0).trans rfl, (blk_cell BK554.out 1).trans rfl, (blk_cell BK564.out 0).trans rfl, (blk_cell BK564.out 1).trans rfl⟩ (fun hHeld => ?_)
         clear hK K
         refine norm_ (a' := ?_) ?_ ?_
         rotate_left
         ·show Act.put _ (some 49) _ = _
          simp only [Act.put, List.setIfInBounds_toArray, List.set_cons_zero, List.set_cons_succ, i64_w, i32_w]
          rfl
         refine pure_ (i := 6) (N := some 50) (v := ?_) (a' := ?_) #[true, true, true, true, true, true, true, false, false, false, false, false, false, false, false, false, false, false, false, false, false, false, false, false, false, false, false, false, false, false, false, false, false] rfl rfl (any_of HT_.out (by kernel_rfl)) (fun _ _ _ h => h) (Or.inl ⟨by rfl, ?_⟩) ?_ ?_
         rotate_left
         ·intro w'
          go_simp
          with_reducible rfl
         rotate_left
         ·simp only [Act.put, List.setIfInBounds_toArray, List.set_cons_zero, List.set_cons_succ, i64_w, i32_w]
          rfl
         refine pure_ (i := 7) (N := some 51) (v := ?_) (a' := ?_) #[true, true, true, true, true, true, true, true, false, false, false, false, false, false, false, false, false, false, false, false, false, false, false, false, false, false, false, false, false, false, false, false, false] rfl rfl (any_of HT_.out (by kernel_rfl)) (fun _ _ _ h => h) (Or.inl ⟨by rfl, ?_⟩) ?_ ?_
         rotate_left
         ·intro w'
          go_simp
          with_reducible rfl
         rotate_left
         ·simp only [Act.put, List.setIfInBounds_toArray, List.set_cons_zero, List.set_cons_succ, i64_w, i32_w]
          rfl
         refine pure_ (i := 8) (N := some 52) (v := ?_) (a' := ?_) #[true, true, true, true, true, true, true, true, true, false, false, false, false, false, false, false, false, false, false, false, false, false, false, false, false, false, false, false, false, false, false, false, false] rfl rfl (any_of HT_.out (by kernel_rfl)) (fun _ _ _ h => h) (Or.inl ⟨by rfl, ?_⟩) ?_ ?_
         rotate_left
         ·intro w'
          go_simp
          with_reducible rfl
         rotate_left
         ·simp only [Act.put, List.setIfInBounds_toArray, List.set_cons_zero, List.set_cons_succ, i64_w, i32_w]
          rfl
         refine take_ (i := 9) (N := some 53) (v := ?_) (a' := ?_) #[true, true, true, true, true, true, true, true, true, true, false, false, false, false, false, false, false, false, false, false, false, false, false, false, false, false, false, false, false, false, false, false, false] rfl rfl (take_ofW HT_.out HW_.out (by kernel_rfl)) (fun _ _ _ h => h) (Or.inl ⟨by rfl, ?_⟩) hHeld ?_ ?_
         rotate_left
         ·rintro w' ⟨s0, s1, s2, s3, s4, s5, s6, s7⟩
          go_simp
          with_reducible rfl
         rotate_left
         ·simp only [Act.put, List.setIfInBounds_toArray, List.set_cons_zero, List.set_cons_succ, i64_w, i32_w]
          rfl
         refine take_ (i := 11) (N := some 55) (v := ?_) (a' := ?_) #[true, true, true, true, true, true, true, true, true, true, false, true, false, false, false, false, false, false, false, false, false, false, false, false, false, false, false, false, false, false, false, false, false] rfl rfl (take_ofW HT_.out HW_.out (by kernel_rfl)) (fun _ _ _ h => h) (Or.inl ⟨by rfl, ?_⟩) hHeld ?_ ?_
         rotate_left
         ·rintro w' ⟨s0, s1, s2, s3, s4, s5, s6, s7⟩
          go_simp
          with_reducible rfl
         rotate_left
         ·simp only [Act.put, List.setIfInBounds_toArray, List.set_cons_zero, List.set_cons_succ, i64_w, i32_w]
          rfl
         refine take_ (i := 13) (N := some 57) (v := ?_) (a' := ?_) #[true, true, true, true, true, true, true, true, true, true, false, true, false, true, false, false, false, false, false, false, false, false, false, false, false, false, false, false, false, false, false, false, false] rfl rfl (take_ofW HT_.out HW_.out (by kernel_rfl)) (fun _ _ _ h => h) (Or.inl ⟨by rfl, ?_⟩) hHeld ?_ ?_
         rotate_left
         ·rintro w' ⟨s0, s1, s2, s3, s4, s5, s6, s7⟩
          go_simp
          with_reducible rfl
         rotate_left
         ·simp only [Act.put, List.setIfInBounds_toArray, List.set_cons_zero, List.set_cons_succ, i64_w, i32_w]
          rfl
         refine one_ (i := 10) (N := some 54) #[true, true, true, true, true, true, true, true, true, true, true, true, false, true, false, false, false, false, false, false, false, false, false, false, false, false, false, false, false, false, false, false, false] rfl rfl (one_of HT_.out (by kernel_rfl)) (by decide) (fun K hK => ?_)
         refine goes_ Try.func21 (by kernel_rfl) rfl #[.agg #[.bool t578, .slice Ao93 t579.length co93]] (by rfl) rfl rfl (by (try simp only [List.map_toArray, List.map_cons, List.map_nil]); first | done | rfl | (simp only [List.length_drop, List.length_take]; rfl)) ?_
         with_reducible refine (num_Abs.calls kj7 t578 (fun k_ => (((P0_1_ k_ ∨ P1_1_ k_) ∨ w.heap.size ≤ k_) ∧ (k_ ≠ gb553 ∧ (k_ ≠ gb554 ∧ (k_ ≠ gb564 ∧ k_ ≠ gb582))))) _ _ t579 t586 t587 _ ?side1 A71.out).mono ?_
         (case side1 => exact HO581.out)
         rintro e w99 ⟨v588, rfl, ho0, hb⟩
         refine ⟨_, rfl, ?_⟩
         have n0_ := Aside0.mk (Kd.V_below (gV HO_554001.out) hb)
         have n1_ := Aside0.mk (Kd.V_below (gV HO_555001.out) hb)
         have n2_ := Aside0.mk (Kd.V_below (gV HO_565001.out) hb)
         have n3_ := Aside0.mk (Kd.V_below (gV HO581.out) hb)
         have n4_ := Aside0.mk (Kd.V_lower (Kd.V_mono (ok' := fun k_ => ((P0_1_ k_ ∨ P1_1_ k_) ∨ w.heap.size ≤ k_) ∧ k_ ≠ gb553 ∧ k_ ≠ gb554 ∧ k_ ≠ gb564 ∧ k_ ≠ gb582) ho0 (fun k_ hk_ => ⟨Or.elim hk_ (fun hs_ => hs_.1) (fun hn_ => (.inr (Nat.le_trans (below_size (by repeat (first | (with_reducible first | exact HB.out | apply bA | apply bN | apply bD | refine bS ?_ GE553.out | refine bS ?_ GE554.out | refine bS ?_ GE564.out | refine bS ?_ GE582.out) | exact HB.out))) hn_))), Or.elim hk_ (fun hs_ => hs_.2.1) (fun hn_ => (Kd.freshB (g := gb553) (o := .cells #[.bool a0_0, .slice A0_1 l0_1.length c0_1] 25 (0, 0)) (gK BK553.out) k_ hn_)), Or.elim hk_ (fun hs_ => hs_.2.2.1) (fun hn_ => (Kd.freshB (g := gb554) (o := .cells #[.bool a1_0, .slice A1_1 l1_1.length c1_1] 25 (0, 0)) (gK BK554.out) k_ hn_)), Or.elim hk_ (fun hs_ => hs_.2.2.2.1) (fun hn_ => (Kd.freshB (g := gb564) (o := .cells #[.bool t560, .slice Ao25 t561.length co25] 25 (0, 0)) (gK BK564.out) k_ hn_)), Or.elim hk_ (fun hs_ => hs_.2.2.2.2) (fun hn_ => (Kd.freshB (g := gb582) (o := .cells #[.bool t578, .slice Ao93 t579.length co93] 25 (0, 0)) (gK BK582.out) k_ hn_))⟩)) (below_size (by repeat (first | (with_reducible first | exact HB.out | apply bA | apply bN | apply bD | refine bS ?_ GE553.out | refine bS ?_ GE554.out | refine bS ?_ GE564.out | refine bS ?_ GE582.out) | exact HB.out))))
         have n5_ := Aside0.mk (blk_below (gK BK553.out) hb)
         have n6_ := Aside0.mk (blk_below (gK BK554.out) hb)
         have n7_ := Aside0.mk (blk_below (gK BK564.out) hb)
         have n8_ := Aside0.mk (blk_below (gK BK582.out) hb)
         have n9_ := Aside0.mk (below_step (by repeat (first | (with_reducible first | exact HB.out | apply bA | apply bN | apply bD | refine bS ?_ GE553.out | refine bS ?_ GE554.out | refine bS ?_ GE564.out | refine bS ?_ GE582.out) | exact HB.out)) hb)
         clear HO_554001
         clear HO_555001
         clear HO_565001
         clear HO581
         clear BK553
         clear BK554
         clear BK564
         clear BK582
         clear HB
         have HO_554001 := n0_
         have HO_555001 := n1_
         have HO_565001 := n2_
         have HO581 := n3_
         have HO589 := n4_
         have BK553 := n5_
         have BK554 := n6_
         have BK564 := n7_
         have BK582 := n8_
         have HB := n9_
         clear n0_ n1_ n2_ n3_ n4_ n5_ n6_ n7_ n8_ n9_
         (try clear hb)
         (try clear hb2)
         (try clear hk)
         (try clear hi)
         (try clear ho0)
         refine hK.out _ _ ⟨(blk_cell BK582.out 0).trans rfl, (blk_cell BK582.out 1).trans rfl, (blk_cell BK553.out 0).trans rfl, (blk_cell BK553.out 1).trans rfl, (blk_cell BK554.out 0).trans rfl, (blk_cell BK554.out 1).trans rfl, (blk_cell BK564.out 0).trans rfl, (blk_cell BK564.out 1).trans rfl⟩ (fun hHeld => ?_)
         clear hK K
         refine norm_ (a' := ?_) ?_ ?_
         rotate_left
         ·show Act.put _ (some 54) _ = _
          simp only [Act.put, List.setIfInBounds_toArray, List.set_cons_zero, List.set_cons_succ, i64_w, i32_w]
          rfl
         refine one_ (i := 12) (N := some 56) #[true, true, true, true, true, true, true, true, true, true, true, true, true, true, false, false, false, false, false, false, false, false, false, false, false, false, false, false, false, false, false, false, false] rfl rfl (one_of HT_.out (by kernel_rfl)) (by decide) (fun K hK => ?_)
         refine goes_ Try.func21 (by kernel_rfl) rfl #[.agg #[.bool a0_0, .slice A0_1 l0_1.length c0_1]] (by rfl) rfl rfl (by (try simp only [List.map_toArray, List.map_cons, List.map_nil]); first | done | rfl | (simp only [List.length_drop, List.length_take]; rfl)) ?_
         with_reducible refine (num_Abs.calls kj7 a0_0 (fun k_ => (((P0_1_ k_ ∨ P1_1_ k_) ∨ w.heap.size ≤ k_) ∧ (k_ ≠ gb553 ∧ (k_ ≠ gb554 ∧ (k_ ≠ gb564 ∧ k_ ≠ gb582))))) _ _ l0_1 t590 t591 _ ?side1 A72.out).mono ?_
         (case side1 => exact HO_554001.out)
         rintro e w100 ⟨v592, rfl, ho0, hb⟩
         refine ⟨_, rfl, ?_⟩
         have n0_ := Aside0.mk (Kd.V_below (gV HO_554001.out) hb)
         have n1_ := Aside0.mk (Kd.V_below (gV HO_555001.out) hb)
         have n2_ := Aside0.mk (Kd.V_below (gV HO_565001.out) hb)
         have n3_ := Aside0.mk (Kd.V_below (gV HO581.out) hb)
         have n4_ := Aside0.mk (Kd.V_below (gV HO589.out) hb)
         have n5_ := Aside0.mk (Kd.V_lower (Kd.V_mono (ok' := fun k_ => ((P0_1_ k_ ∨ P1_1_ k_) ∨ w.heap.size ≤ k_) ∧ k_ ≠ gb553 ∧ k_ ≠ gb554 ∧ k_ ≠ gb564 ∧ k_ ≠ gb582) ho0 (fun k_ hk_ => ⟨Or.elim hk_ (fun hs_ => hs_.1) (fun hn_ => (.inr (Nat.le_trans (below_size (by repeat (first | (with_reducible first | exact HB.out | apply bA | apply bN | apply bD | refine bS ?_ GE553.out | refine bS ?_ GE554.out | refine bS ?_ GE564.out | refine bS ?_ GE582.out) | exact HB.out))) hn_))), Or.elim hk_ (fun hs_ => hs_.2.1) (fun hn_ => (Kd.freshB (g := gb553) (o := .cells #[.bool a0_0, .slice A0_1 l0_1.length c0_1] 25 (0, 0)) (gK BK553.out) k_ hn_)), Or.elim hk_ (fun hs_ => hs_.2.2.1) (fun hn_ => (Kd.freshB (g := gb554) (o := .cells #[.bool a1_0, .slice A1_1 l1_1.length c1_1] 25 (0, 0)) (gK BK554.out) k_ hn_)), Or.elim hk_ (fun hs_ => hs_.2.2.2.1) (fun hn_ => (Kd.freshB (g := gb564) (o := .cells #[.bool t560, .slice Ao25 t561.length co25] 25 (0, 0)) (gK BK564.out) k_ hn_)), Or.elim hk_ (fun hs_ => hs_.2.2.2.2) (fun hn_ => (Kd.freshB (g := gb582) (o := .cells #[.bool t578, .slice Ao93 t579.length co93] 25 (0, 0)) (gK BK582.out) k_ hn_))⟩)) (below_size (by repeat (first | (with_reducible first | exact HB.out | apply bA | apply bN | apply bD | refine bS ?_ GE553.out | refine bS ?_ GE554.out | refine bS ?_ GE564.out | refine bS ?_ GE582.out) | exact HB.out))))
         have n6_ := Aside0.mk (blk_below (gK BK553.out) hb)
         have n7_ := Aside0.mk (blk_below (gK BK554.out) hb)
         have n8_ := Aside0.mk (blk_below (gK BK564.out) hb)
         have n9_ := Aside0.mk (blk_below (gK BK582.out) hb)
         have n10_ := Aside0.mk (below_step (by repeat (first | (with_reducible first | exact HB.out | apply bA | apply bN | apply bD | refine bS ?_ GE553.out | refine bS ?_ GE554.out | refine bS ?_ GE564.out | refine bS ?_ GE582.out) | exact HB.out)) hb)
         clear HO_554001
         clear HO_555001
         clear HO_565001
         clear HO581
         clear HO589
         clear BK553
         clear BK554
         clear BK564
         clear BK582
         clear HB
         have HO_554001 := n0_
         have HO_555001 := n1_
         have HO_565001 := n2_
         have HO581 := n3_
         have HO589 := n4_
         have HO593 := n5_
         have BK553 := n6_
         have BK554 := n7_
         have BK564 := n8_
         have BK582 := n9_
         have HB := n10_
         clear n0_ n1_ n2_ n3_ n4_ n5_ n6_ n7_ n8_ n9_ n10_
         (try clear hb)
         (try clear hb2)
         (try clear hk)
         (try clear hi)
         (try clear ho0)
         refine hK.out _ _ ⟨(blk_cell BK582.out 0).trans rfl, (blk_cell BK582.out 1).trans rfl, (blk_cell BK553.out 0).trans rfl, (blk_cell BK553.out 1).trans rfl, (blk_cell BK554.out 0).trans rfl, (blk_cell BK554.out 1).trans rfl, (blk_cell BK564.out 0).trans rfl, (blk_cell BK564.out 1).trans rfl⟩ (fun hHeld => ?_)
         clear hK K
         refine norm_ (a' := ?_) ?_ ?_
         rotate_left
         ·show Act.put _ (some 56) _ = _
          simp only [Act.put, List.setIfInBounds_toArray, List.set_cons_zero, List.set_cons_succ, i64_w, i32_w]
          rfl
         refine one_ (i := 14) (N := some 58) #[true, true, true, true, true, true, true, true, true, true, true, true, true, true, true, false, false, false, false, false, false, false, false, false, false, false, false, false, false, false, false, false, false] rfl rfl (one_of HT_.out (by kernel_rfl)) (by decide) (fun K hK => ?_)
         refine goes_ Try.func21 (by kernel_rfl) rfl #[.agg #[.bool a1_0, .slice A1_1 l1_1.length c1_1]] (by rfl) rfl rfl (by (try simp only [List.map_toArray, List.map_cons, List.map_nil]); first | done | rfl | (simp only [List.length_drop, List.length_take]; rfl)) ?_
         with_reducible refine (num_Abs.calls kj7 a1_0 (fun k_ => (((P0_1_ k_ ∨ P1_1_ k_) ∨ w.heap.size ≤ k_) ∧ (k_ ≠ gb553 ∧ (k_ ≠ gb554 ∧ (k_ ≠ gb564 ∧ k_ ≠ gb582))))) _ _ l1_1 t594 t595 _ ?side1 A73.out).mono ?_
         (case side1 => exact HO_555001.out)
         rintro e w101 ⟨v596, rfl, ho0, hb⟩
         refine ⟨_, rfl, ?_⟩
         have n0_ := Aside0.mk (Kd.V_below (gV HO_554001.out) hb)
         have n1_ := Aside0.mk (Kd.V_below (gV HO_555001.out) hb)
         have n2_ := Aside0.mk (Kd.V_below (gV HO_565001.out) hb)
         have n3_ := Aside0.mk (Kd.V_below (gV HO581.out) hb)
         have n4_ := Aside0.mk (Kd.V_below (gV HO589.out) hb)
         have n5_ := Aside0.mk (Kd.V_below (gV HO593.out) hb)
         have n6_ := Aside0.mk (Kd.V_lower (Kd.V_mono (ok' := fun k_ => ((P0_1_ k_ ∨ P1_1_ k_) ∨ w.heap.size ≤ k_) ∧ k_ ≠ gb553 ∧ k_ ≠ gb554 ∧ k_ ≠ gb564 ∧ k_ ≠ gb582) ho0 (fun k_ hk_ => ⟨Or.elim hk_ (fun hs_ => hs_.1) (fun hn_ => (.inr (Nat.le_trans (below_size (by repeat (first | (with_reducible first | exact HB.out | apply bA | apply bN | apply bD | refine bS ?_ GE553.out | refine bS ?_ GE554.out | refine bS ?_ GE564.out | refine bS ?_ GE582.out) | exact HB.out))) hn_))), Or.elim hk_ (fun hs_ => hs_.2.1) (fun hn_ => (Kd.freshB (g := gb553) (o := .cells #[.bool a0_0, .slice A0_1 l0_1.length c0_1] 25 (0, 0)) (gK BK553.out) k_ hn_)), Or.elim hk_ (fun hs_ => hs_.2.2.1) (fun hn_ => (Kd.freshB (g := gb554) (o := .cells #[.bool a1_0, .slice A1_1 l1_1.length c1_1] 25 (0, 0)) (gK BK554.out) k_ hn_)), Or.elim hk_ (fun hs_ => hs_.2.2.2.1) (fun hn_ => (Kd.freshB (g := gb564) (o := .cells #[.bool t560, .slice Ao25 t561.length co25] 25 (0, 0)) (gK BK564.out) k_ hn_)), Or.elim hk_ (fun hs_ => hs_.2.2.2.2) (fun hn_ => (Kd.freshB (g := gb582) (o := .cells #[.bool t578, .slice Ao93 t579.length co93] 25 (0, 0)) (gK BK582.out) k_ hn_))⟩)) (below_size (by repeat (first | (with_reducible first | exact HB.out | apply bA | apply bN | apply bD | refine bS ?_ GE553.out | refine bS ?_ GE554.out | refine bS ?_ GE564.out | refine bS ?_ GE582.out) | exact HB.out))))
         have n7_ := Aside0.mk (blk_below (gK BK553.out) hb)
         have n8_ := Aside0.mk (blk_below (gK BK554.out) hb)
         have n9_ := Aside0.mk (blk_below (gK BK564.out) hb)
         have n10_ := Aside0.mk (blk_below (gK BK582.out) hb)
         have n11_ := Aside0.mk (below_step (by repeat (first | (with_reducible first | exact HB.out | apply bA | apply bN | apply bD | refine bS ?_ GE553.out | refine bS ?_ GE554.out | refine bS ?_ GE564.out | refine bS ?_ GE582.out) | exact HB.out)) hb)
         clear HO_554001
         clear HO_555001
         clear HO_565001
         clear HO581
         clear HO589
         clear HO593
         clear BK553
         clear BK554
         clear BK564
         clear BK582
         clear HB
         have HO_554001 := n0_
         have HO_555001 := n1_
         have HO_565001 := n2_
         have HO581 := n3_
         have HO589 := n4_
         have HO593 := n5_
         have HO597 := n6_
         have BK553 := n7_
         have BK554 := n8_
         have BK564 := n9_
         have BK582 := n10_
         have HB := n11_
         clear n0_ n1_ n2_ n3_ n4_ n5_ n6_ n7_ n8_ n9_ n10_ n11_
         (try clear hb)
         (try clear hb2)
         (try clear hk)
         (try clear hi)
         (try clear ho0)
         obtain ⟨Ao102, co102, eo102⟩ := Kd.V_slice HO593.out
         (first | subst eo102 | (injection eo102 with f1_ f2_ f3_; have f4_ := f1_.symm; have f5_ := f3_.symm; clear f1_ f2_ f3_; subst f4_; subst f5_))
         obtain ⟨Ao103, co103, eo103⟩ := Kd.V_slice HO597.out
         (first | subst eo103 | (injection eo103 with f1_ f2_ f3_; have f4_ := f1_.symm; have f5_ := f3_.symm; clear f1_ f2_ f3_; subst f4_; subst f5_))
         refine hK.out _ _ ⟨(blk_cell BK582.out 0).trans rfl, (blk_cell BK582.out 1).trans rfl, (blk_cell BK553.out 0).trans rfl, (blk_cell BK553.out 1).trans rfl, (blk_cell BK554.out 0).trans rfl, (blk_cell BK554.out 1).trans rfl, (blk_cell BK564.out 0).trans rfl, (blk_cell BK564.out 1).trans rfl⟩ (fun hHeld => ?_)
         clear hK K
         refine norm_ (a' := ?_) ?_ ?_
         rotate_left
         ·show Act.put _ (some 58) _ = _
          simp only [Act.put, List.setIfInBounds_toArray, List.set_cons_zero, List.set_cons_succ, i64_w, i32_w]
          rfl
         refine one_ (i := 15) (N := some 59) #[true, true, true, true, true, true, true, true, true, true, true, true, true, true, true, true, false, false, false, false, false, false, false, false, false, false, false, false, false, false, false, false, false] rfl rfl (one_of HT_.out (by kernel_rfl)) (by decide) (fun K hK => ?_)
         refine goes_ Try.func20 (by kernel_rfl) rfl #[.agg #[.bool t590, .slice Ao102 t591.length co102], .agg #[.bool t594, .slice Ao103 t595.length co103]] (by rfl) rfl rfl (by (try simp only [List.map_toArray, List.map_cons, List.map_nil]); first | done | rfl | (simp only [List.length_drop, List.length_take]; rfl)) ?_
         with_reducible refine (num_Mul.calls kj7 t590 _ _ t591 t594 _ _ t595 t598 t599 _ ?side1 ?side2 ?side3 ?side4 A74.out).mono ?_
         (case side1 => repeat (first | exact (Kd.V_reads' HO593.out).2.2 | (with_reducible refine Kd.C_alloc ?_ _) | (with_reducible refine Kd.C_drewN ?_ _) | (with_reducible refine Kd.C_drew ?_)))
         (case side2 => exact (Kd.V_reads' HO593.out).2.1)
         (case side3 => repeat (first | exact (Kd.V_reads' HO597.out).2.2 | (with_reducible refine Kd.C_alloc ?_ _) | (with_reducible refine Kd.C_drewN ?_ _) | (with_reducible refine Kd.C_drew ?_)))
         (case side4 => exact (Kd.V_reads' HO597.out).2.1)
         rintro e w104 ⟨v600, rfl, ho0, hb⟩
         refine ⟨_, rfl, ?_⟩
         have n0_ := Aside0.mk (Kd.V_below (gV HO_554001.out) hb)
         have n1_ := Aside0.mk (Kd.V_below (gV HO_555001.out) hb)
         have n2_ := Aside0.mk (Kd.V_below (gV HO_565001.out) hb)
         have n3_ := Aside0.mk (Kd.V_below (gV HO581.out) hb)
         have n4_ := Aside0.mk (Kd.V_below (gV HO589.out) hb)
         have n5_ := Aside0.mk (Kd.V_below (gV HO593.out) hb)
         have n6_ := Aside0.mk (Kd.V_below (gV HO597.out) hb)
         have n7_ := Aside0.mk (Kd.V_lower (Kd.V_mono (ok' := fun k_ => ((P0_1_ k_ ∨ P1_1_ k_) ∨ w.heap.size ≤ k_) ∧ k_ ≠ gb553 ∧ k_ ≠ gb554 ∧ k_ ≠ gb564 ∧ k_ ≠ gb582) ho0 (fun k_ hk_ => ⟨(.inr (Nat.le_trans (below_size (by repeat (first | (with_reducible first | exact HB.out | apply bA | apply bN | apply bD | refine bS ?_ GE553.out | refine bS ?_ GE554.out | refine bS ?_ GE564.out | refine bS ?_ GE582.out) | exact HB.out))) hk_)), (Kd.freshB (g := gb553) (o := .cells #[.bool a0_0, .slice A0_1 l0_1.length c0_1] 25 (0, 0)) (gK BK553.out) k_ hk_), (Kd.freshB (g := gb554) (o := .cells #[.bool a1_0, .slice A1_1 l1_1.length c1_1] 25 (0, 0)) (gK BK554.out) k_ hk_), (Kd.freshB (g := gb564) (o := .cells #[.bool t560, .slice Ao25 t561.length co25] 25 (0, 0)) (gK BK564.out) k_ hk_), (Kd.freshB (g := gb582) (o := .cells #[.bool t578, .slice Ao93 t579.length co93] 25 (0, 0)) (gK BK582.out) k_ hk_)⟩)) (below_size (by repeat (first | (with_reducible first | exact HB.out | apply bA | apply bN | apply bD | refine bS ?_ GE553.out | refine bS ?_ GE554.out | refine bS ?_ GE564.out | refine bS ?_ GE582.out) | exact HB.out))))
         have n8_ := Aside0.mk (blk_below (gK BK553.out) hb)
         have n9_ := Aside0.mk (blk_below (gK BK554.out) hb)
         have n10_ := Aside0.mk (blk_below (gK BK564.out) hb)
         have n11_ := Aside0.mk (blk_below (gK BK582.out) hb)
         have n12_ := Aside0.mk (below_step (by repeat (first | (with_reducible first | exact HB.out | apply bA | apply bN | apply bD | refine bS ?_ GE553.out | refine bS ?_ GE554.out | refine bS ?_ GE564.out | refine bS ?_ GE582.out) | exact HB.out)) hb)
         clear HO_554001
         clear HO_555001
         clear HO_565001
         clear HO581
         clear HO589
         clear HO593
         clear HO597
         clear BK553
         clear BK554
         clear BK564
         clear BK582
         clear HB
         have HO_554001 := n0_
         have HO_555001 := n1_
         have HO_565001 := n2_
         have HO581 := n3_
         have HO589 := n4_
         have HO593 := n5_
         have HO597 := n6_
         have HO601 := n7_
         have BK553 := n8_
         have BK554 := n9_
         have BK564 := n10_
         have BK582 := n11_
         have HB := n12_
         clear n0_ n1_ n2_ n3_ n4_ n5_ n6_ n7_ n8_ n9_ n10_ n11_ n12_
         (try clear hb)
         (try clear hb2)
         (try clear hk)
         (try clear hi)
         (try clear ho0)
         obtain ⟨Ao105, co105, eo105⟩ := Kd.V_slice HO589.out
         (first | subst eo105 | (injection eo105 with f1_ f2_ f3_; have f4_ := f1_.symm; have f5_ := f3_.symm; clear f1_ f2_ f3_; subst f4_; subst f5_))
         obtain ⟨Ao106, co106, eo106⟩ := Kd.V_slice HO601.out
         (first | subst eo106 | (injection eo106 with f1_ f2_ f3_; have f4_ := f1_.symm; have f5_ := f3_.symm; clear f1_ f2_ f3_; subst f4_; subst f5_))
         refine hK.out _ _ ⟨(blk_cell BK582.out 0).trans rfl, (blk_cell BK582.out 1).trans rfl, (blk_cell BK553.out 0).trans rfl, (blk_cell BK553.out 1).trans rfl, (blk_cell BK554.out 0).trans rfl, (blk_cell BK554.out 1).trans rfl, (blk_cell BK564.out 0).trans rfl, (blk_cell BK564.out 1).trans rfl⟩ (fun hHeld => ?_)
         clear hK K
         refine norm_ (a' := ?_) ?_ ?_
         rotate_left
         ·show Act.put _ (some 59) _ = _
          simp only [Act.put, List.setIfInBounds_toArray, List.set_cons_zero, List.set_cons_succ, i64_w, i32_w]
          rfl
         refine one_ (i := 16) (N := some 60) #[true, true, true, true, true, true, true, true, true, true, true, true, true, true, true, true, true, false, false, false, false, false, false, false, false, false, false, false, false, false, false, false, false] rfl rfl (one_of HT_.out (by kernel_rfl)) (by decide) (fun K hK => ?_)
         refine goes_ Try.func14 (by kernel_rfl) rfl #[.agg #[.bool t586, .slice Ao105 t587.length co105], .agg #[.bool t598, .slice Ao106 t599.length co106]] (by rfl) rfl rfl (by (try simp only [List.map_toArray, List.map_cons, List.map_nil]); first | done | rfl | (simp only [List.length_drop, List.length_take]; rfl)) ?_
         with_reducible refine (num_Cmp.calls kj7 t586 _ _ t587 t598 _ _ t599 t602 _ ?side1 ?side2 ?side3 ?side4 A75.out).mono ?_
         (case side1 => repeat (first | exact (Kd.V_reads' HO589.out).2.2 | (with_reducible refine Kd.C_alloc ?_ _) | (with_reducible refine Kd.C_drewN ?_ _) | (with_reducible refine Kd.C_drew ?_)))
         (case side2 => exact (Kd.V_reads' HO589.out).2.1)
         (case side3 => repeat (first | exact (Kd.V_reads' HO601.out).2.2 | (with_reducible refine Kd.C_alloc ?_ _) | (with_reducible refine Kd.C_drewN ?_ _) | (with_reducible refine Kd.C_drew ?_)))
         (case side4 => exact (Kd.V_reads' HO601.out).2.1)
         rintro e w107 ⟨rfl, hb⟩
         refine ⟨_, rfl, ?_⟩
         have n0_ := Aside0.mk (Kd.V_below (gV HO_554001.out) hb)
         have n1_ := Aside0.mk (Kd.V_below (gV HO_555001.out) hb)
         have n2_ := Aside0.mk (Kd.V_below (gV HO_565001.out) hb)
         have n3_ := Aside0.mk (Kd.V_below (gV HO581.out) hb)
         have n4_ := Aside0.mk (Kd.V_below (gV HO589.out) hb)
         have n5_ := Aside0.mk (Kd.V_below (gV HO593.out) hb)
         have n6_ := Aside0.mk (Kd.V_below (gV HO597.out) hb)
         have n7_ := Aside0.mk (Kd.V_below (gV HO601.out) hb)
         have n8_ := Aside0.mk (blk_below (gK BK553.out) hb)
         have n9_ := Aside0.mk (blk_below (gK BK554.out) hb)
         have n10_ := Aside0.mk (blk_below (gK BK564.out) hb)
         have n11_ := Aside0.mk (blk_below (gK BK582.out) hb)
         have n12_ := Aside0.mk (below_step (by repeat (first | (with_reducible first | exact HB.out | apply bA | apply bN | apply bD | refine bS ?_ GE553.out | refine bS ?_ GE554.out | refine bS ?_ GE564.out | refine bS ?_ GE582.out) | exact HB.out)) hb)
         clear HO_554001
         clear HO_555001
         clear HO_565001
         clear HO581
         clear HO589
         clear HO593
         clear HO597
         clear HO601
         clear BK553
         clear BK554
         clear BK564
         clear BK582
         clear HB
         have HO_554001 := n0_
         have HO_555001 := n1_
         have HO_565001 := n2_
         have HO581 := n3_
         have HO589 := n4_
         have HO593 := n5_
         have HO597 := n6_
         have HO601 := n7_
         have BK553 := n8_
         have BK554 := n9_
         have BK564 := n10_
         have BK582 := n11_
         have HB := n12_
         clear n0_ n1_ n2_ n3_ n4_ n5_ n6_ n7_ n8_ n9_ n10_ n11_ n12_
         (try clear hb)
         (try clear hb2)
         (try clear hk)
         (try clear hi)
         refine hK.out _ _ ⟨(blk_cell BK582.out 0).trans rfl, (blk_cell BK582.out 1).trans rfl, (blk_cell BK553.out 0).trans rfl, (blk_cell BK553.out 1).trans rfl, (blk_cell BK554.out 0).trans rfl, (blk_cell BK554.out 1).trans rfl, (blk_cell BK564.out 0).trans rfl, (blk_cell BK564.out 1).trans rfl⟩ (fun hHeld => ?_)
         clear hK K
         refine norm_ (a' := ?_) ?_ ?_
         rotate_left
         ·show Act.put _ (some 60) _ = _
          simp only [Act.put, List.setIfInBounds_toArray, List.set_cons_zero, List.set_cons_succ, i64_w, i32_w]
          rfl
         refine pure_ (i := 17) (N := some 61) (v := ?_) (a' := ?_) #[true, true, true, true, true, true, true, true, true, true, true, true, true, true, true, true, true, true, false, false, false, false, false, false, false, false, false, false, false, false, false, false, false] rfl rfl (any_of HT_.out (by kernel_rfl)) (fun _ _ _ h => h) (Or.inl ⟨by rfl, ?_⟩) ?_ ?_
         rotate_left
         ·intro w'
          go_simp
          with_reducible rfl
         rotate_left
         ·simp only [Act.put, List.setIfInBounds_toArray, List.set_cons_zero, List.set_cons_succ, i64_w, i32_w]
          rfl
         refine pure_ (i := 18) (N := some 62) (v := ?_) (a' := ?_) #[true, true, true, true, true, true, true, true, true, true, true, true, true, true, true, true, true, true, true, false, false, false, false, false, false, false, false, false, false, false, false, false, false] rfl rfl (any_of HT_.out (by kernel_rfl)) (fun _ _ _ h => h) (Or.inl ⟨by rfl, ?_⟩) ?_ ?_
         rotate_left
         ·intro w'
          go_simp
          with_reducible rfl
         rotate_left
         ·simp only [Act.put, List.setIfInBounds_toArray, List.set_cons_zero, List.set_cons_succ, i64_w, i32_w]
          rfl
         refine pure_ (i := 19) (N := some 63) (v := ?_) (a' := ?_) #[true, true, true, true, true, true, true, true, true, true, true, true, true, true, true, true, true, true, true, true, false, false, false, false, false, false, false, false, false, false, false, false, false] rfl rfl (any_of HT_.out (by kernel_rfl)) (fun _ _ _ h => h) (Or.inl ⟨by rfl, ?_⟩) ?_ ?_
         rotate_left
         ·intro w'
          go_simp
          with_reducible rfl
         rotate_left
         ·simp only [Act.put, List.setIfInBounds_toArray, List.set_cons_zero, List.set_cons_succ, i64_w, i32_w]
          rfl
         refine take_ (i := 20) (N := some 64) (v := ?_) (a' := ?_) #[true, true, true, true, true, true, true, true, true, true, true, true, true, true, true, true, true, true, true, true, true, false, false, false, false, false, false, false, false, false, false, false, false] rfl rfl (take_ofW HT_.out HW_.out (by kernel_rfl)) (fun _ _ _ h => h) (Or.inl ⟨by rfl, ?_⟩) hHeld ?_ ?_
         rotate_left
         ·rintro w' ⟨s0, s1, s2, s3, s4, s5, s6, s7⟩
          go_simp
          with_reducible rfl
         rotate_left
         ·simp only [Act.put, List.setIfInBounds_toArray, List.set_cons_zero, List.set_cons_succ, i64_w, i32_w]
          rfl
         refine take_ (i := 21) (N := some 65) (v := ?_) (a' := ?_) #[true, true, true, true, true, true, true, true, true, true, true, true, true, true, true, true, true, true, true, true, true, true, false, false, false, false, false, false, false, false, false, false, false] rfl rfl (take_ofW HT_.out HW_.out (by kernel_rfl)) (fun _ _ _ h => h) (Or.inl ⟨by rfl, ?_⟩) hHeld ?_ ?_
         rotate_left
         ·rintro w' ⟨s0, s1, s2, s3, s4, s5, s6, s7⟩
          go_simp
          with_reducible rfl
         rotate_left
         ·simp only [Act.put, List.setIfInBounds_toArray, List.set_cons_zero, List.set_cons_succ, i64_w, i32_w]
          rfl
         refine take_ (i := 23) (N := some 67) (v := ?_) (a' := ?_) #[true, true, true, true, true, true, true, true, true, true, true, true, true, true, true, true, true, true, true, true, true, true, false, true, false, false, false, false, false, false, false, false, false] rfl rfl (take_ofW HT_.out HW_.out (by kernel_rfl)) (fun _ _ _ h => h) (Or.inl ⟨by rfl, ?_⟩) hHeld ?_ ?_
         rotate_left
         ·rintro w' ⟨s0, s1, s2, s3, s4, s5, s6, s7⟩
          go_simp
          with_reducible rfl
         rotate_left
         ·simp only [Act.put, List.setIfInBounds_toArray, List.set_cons_zero, List.set_cons_succ, i64_w, i32_w]
          rfl
         refine one_ (i := 22) (N := some 66) #[true, true, true, true, true, true, true, true, true, true, true, true, true, true, true, true, true, true, true, true, true, true, true, true, false, false, false, false, false, false, false, false, false] rfl rfl (one_of HT_.out (by kernel_rfl)) (by decide) (fun K hK => ?_)
         refine goes_ Try.func20 (by kernel_rfl) rfl #[.agg #[.bool t560, .slice Ao25 t561.length co25], .agg #[.bool a1_0, .slice A1_1 l1_1.length c1_1]] (by rfl) rfl rfl (by (try simp only [List.map_toArray, List.map_cons, List.map_nil]); first | done | rfl | (simp only [List.length_drop, List.length_take]; rfl)) ?_
         with_reducible refine (num_Mul.calls kj7 t560 _ _ t561 a1_0 _ _ l1_1 t603 t604 _ ?side1 ?side2 ?side3 ?side4 A77.out).mono ?_
         (case side1 => repeat (first | exact (Kd.V_reads' HO_565001.out).2.2 | (with_reducible refine Kd.C_alloc ?_ _) | (with_reducible refine Kd.C_drewN ?_ _) | (with_reducible refine Kd.C_drew ?_)))
         (case side2 => exact (Kd.V_reads' HO_565001.out).2.1)
         (case side3 => repeat (first | exact (Kd.V_reads' HO_555001.out).2.2 | (with_reducible refine Kd.C_alloc ?_ _) | (with_reducible refine Kd.C_drewN ?_ _) | (with_reducible refine Kd.C_drew ?_)))
         (case side4 => exact (Kd.V_reads' HO_555001.out).2.1)
         rintro e w108 ⟨v605, rfl, ho0, hb⟩
         refine ⟨_, rfl, ?_⟩
         have n0_ := Aside0.mk (Kd.V_below (gV HO_554001.out) hb)
         have n1_ := Aside0.mk (Kd.V_below (gV HO_555001.out) hb)
         have n2_ := Aside0.mk (Kd.V_below (gV HO_565001.out) hb)
         have n3_ := Aside0.mk (Kd.V_below (gV HO581.out) hb)
         have n4_ := Aside0.mk (Kd.V_below (gV HO589.out) hb)
         have n5_ := Aside0.mk (Kd.V_below (gV HO593.out) hb)
         have n6_ := Aside0.mk (Kd.V_below (gV HO597.out) hb)
         have n7_ := Aside0.mk (Kd.V_below (gV HO601.out) hb)
         have n8_ := Aside0.mk (Kd.V_lower (Kd.V_mono (ok' := fun k_ => ((P0_1_ k_ ∨ P1_1_ k_) ∨ w.heap.size ≤ k_) ∧ k_ ≠ gb553 ∧ k_ ≠ gb554 ∧ k_ ≠ gb564 ∧ k_ ≠ gb582) ho0 (fun k_ hk_ => ⟨(.inr (Nat.le_trans (below_size (by repeat (first | (with_reducible first | exact HB.out | apply bA | apply bN | apply bD | refine bS ?_ GE553.out | refine bS ?_ GE554.out | refine bS ?_ GE564.out | refine bS ?_ GE582.out) | exact HB.out))) hk_)), (Kd.freshB (g := gb553) (o := .cells #[.bool a0_0, .slice A0_1 l0_1.length c0_1] 25 (0, 0)) (gK BK553.out) k_ hk_), (Kd.freshB (g := gb554) (o := .cells #[.bool a1_0, .slice A1_1 l1_1.length c1_1] 25 (0, 0)) (gK BK554.out) k_ hk_), (Kd.freshB (g := gb564) (o := .cells #[.bool t560, .slice Ao25 t561.length co25] 25 (0, 0)) (gK BK564.out) k_ hk_), (Kd.freshB (g := gb582) (o := .cells #[.bool t578, .slice Ao93 t579.length co93] 25 (0, 0)) (gK BK582.out) k_ hk_)⟩)) (below_size (by repeat (first | (with_reducible first | exact HB.out | apply bA | apply bN | apply bD | refine bS ?_ GE553.out | refine bS ?_ GE554.out | refine bS ?_ GE564.out | refine bS ?_ GE582.out) | exact HB.out))))
         have n9_ := Aside0.mk (blk_below (gK BK553.out) hb)
         have n10_ := Aside0.mk (blk_below (gK BK554.out) hb)
         have n11_ := Aside0.mk (blk_below (gK BK564.out) hb)
         have n12_ := Aside0.mk (blk_below (gK BK582.out) hb)
         have n13_ := Aside0.mk (below_step (by repeat (first | (with_reducible first | exact HB.out | apply bA | apply bN | apply bD | refine bS ?_ GE553.out | refine bS ?_ GE554.out | refine bS ?_ GE564.out | refine bS ?_ GE582.out) | exact HB.out)) hb)
         clear HO_554001
         clear HO_555001
         clear HO_565001
         clear HO581
         clear HO589
         clear HO593
         clear HO597
         clear HO601
         clear BK553
         clear BK554
         clear BK564
         clear BK582
         clear HB
         have HO_554001 := n0_
         have HO_555001 := n1_
         have HO_565001 := n2_
         have HO581 := n3_
         have HO589 := n4_
         have HO593 := n5_
         have HO597 := n6_
         have HO601 := n7_
         have HO606 := n8_
         have BK553 := n9_
         have BK554 := n10_
         have BK564 := n11_
         have BK582 := n12_
         have HB := n13_
         clear n0_ n1_ n2_ n3_ n4_ n5_ n6_ n7_ n8_ n9_ n10_ n11_ n12_ n13_
         (try clear hb)
         (try clear hb2)
         (try clear hk)
         (try clear hi)
         (try clear ho0)
         refine hK.out _ _ ⟨(blk_cell BK582.out 0).trans rfl, (blk_cell BK582.out 1).trans rfl, (blk_cell BK553.out 0).trans rfl, (blk_cell BK553.out 1).trans rfl, (blk_cell BK554.out 0).trans rfl, (blk_cell BK554.out 1).trans rfl, (blk_cell BK564.out 0).trans rfl, (blk_cell BK564.out 1).trans rfl⟩ (fun hHeld => ?_)
         clear hK K
         refine norm_ (a' := ?_) ?_ ?_
         rotate_left
         ·show Act.put _ (some 66) _ = _
          simp only [Act.put, List.setIfInBounds_toArray, List.set_cons_zero, List.set_cons_succ, i64_w, i32_w]
          rfl
         refine one_ (i := 24) (N := some 68) #[true, true, true, true, true, true, true, true, true, true, true, true, true, true, true, true, true, true, true, true, true, true, true, true, true, false, false, false, false, false, false, false, false] rfl rfl (one_of HT_.out (by kernel_rfl)) (by decide) (fun K hK => ?_)
         refine goes_ Try.func22 (by kernel_rfl) rfl #[.agg #[.bool t578, .slice Ao93 t579.length co93]] (by rfl) rfl rfl (by (try simp only [List.map_toArray, List.map_cons, List.map_nil]); first | done | rfl | (simp only [List.length_drop, List.length_take]; rfl)) ?_
         with_reducible refine (num_Neg.calls kj7 t578 (fun k_ => (((P0_1_ k_ ∨ P1_1_ k_) ∨ w.heap.size ≤ k_) ∧ (k_ ≠ gb553 ∧ (k_ ≠ gb554 ∧ (k_ ≠ gb564 ∧ k_ ≠ gb582))))) _ _ t579 t607 t608 _ ?side1 A78.out).mono ?_
         (case side1 => exact HO581.out)
         rintro e w109 ⟨v609, rfl, ho0, hb⟩
         refine ⟨_, rfl, ?_⟩
         have n0_ := Aside0.mk (Kd.V_below (gV HO_554001.out) hb)
         have n1_ := Aside0.mk (Kd.V_below (gV HO_555001.out) hb)
         have n2_ := Aside0.mk (Kd.V_below (gV HO_565001.out) hb)
         have n3_ := Aside0.mk (Kd.V_below (gV HO581.out) hb)
         have n4_ := Aside0.mk (Kd.V_below (gV HO589.out) hb)
         have n5_ := Aside0.mk (Kd.V_below (gV HO593.out) hb)
         have n6_ := Aside0.mk (Kd.V_below (gV HO597.out) hb)
         have n7_ := Aside0.mk (Kd.V_below (gV HO601.out) hb)
         have n8_ := Aside0.mk (Kd.V_below (gV HO606.out) hb)
         have n9_ := Aside0.mk (Kd.V_lower (Kd.V_mono (ok' := fun k_ => ((P0_1_ k_ ∨ P1_1_ k_) ∨ w.heap.size ≤ k_) ∧ k_ ≠ gb553 ∧ k_ ≠ gb554 ∧ k_ ≠ gb564 ∧ k_ ≠ gb582) ho0 (fun k_ hk_ => ⟨Or.elim hk_ (fun hs_ => hs_.1) (fun hn_ => (.inr (Nat.le_trans (below_size (by repeat (first | (with_reducible first | exact HB.out | apply bA | apply bN | apply bD | refine bS ?_ GE553.out | refine bS ?_ GE554.out | refine bS ?_ GE564.out | refine bS ?_ GE582.out) | exact HB.out))) hn_))), Or.elim hk_ (fun hs_ => hs_.2.1) (fun hn_ => (Kd.freshB (g := gb553) (o := .cells #[.bool a0_0, .slice A0_1 l0_1.length c0_1] 25 (0, 0)) (gK BK553.out) k_ hn_)), Or.elim hk_ (fun hs_ => hs_.2.2.1) (fun hn_ => (Kd.freshB (g := gb554) (o := .cells #[.bool a1_0, .slice A1_1 l1_1.length c1_1] 25 (0, 0)) (gK BK554.out) k_ hn_)), Or.elim hk_ (fun hs_ => hs_.2.2.2.1) (fun hn_ => (Kd.freshB (g := gb564) (o := .cells #[.bool t560, .slice Ao25 t561.length co25] 25 (0, 0)) (gK BK564.out) k_ hn_)), Or.elim hk_ (fun hs_ => hs_.2.2.2.2) (fun hn_ => (Kd.freshB (g := gb582) (o := .cells #[.bool t578, .slice Ao93 t579.length co93] 25 (0, 0)) (gK BK582.out) k_ hn_))⟩)) (below_size (by repeat (first | (with_reducible first | exact HB.out | apply bA | apply bN | apply bD | refine bS ?_ GE553.out | refine bS ?_ GE554.out | refine bS ?_ GE564.out | refine bS ?_ GE582.out) | exact HB.out))))
         have n10_ := Aside0.mk (blk_below (gK BK553.out) hb)
         have n11_ := Aside0.mk (blk_below (gK BK554.out) hb)
         have n12_ := Aside0.mk (blk_below (gK BK564.out) hb)
         have n13_ := Aside0.mk (blk_below (gK BK582.out) hb)
         have n14_ := Aside0.mk (below_step (by repeat (first | (with_reducible first | exact HB.out | apply bA | apply bN | apply bD | refine bS ?_ GE553.out | refine bS ?_ GE554.out | refine bS ?_ GE564.out | refine bS ?_ GE582.out) | exact HB.out)) hb)
         clear HO_554001
         clear HO_555001
         clear HO_565001
         clear HO581
         clear HO589
         clear HO593
         clear HO597
         clear HO601
         clear HO606
         clear BK553
         clear BK554
         clear BK564
         clear BK582
         clear HB
         have HO_554001 := n0_
         have HO_555001 := n1_
         have HO_565001 := n2_
         have HO581 := n3_
         have HO589 := n4_
         have HO593 := n5_
         have HO597 := n6_
         have HO601 := n7_
         have HO606 := n8_
         have HO610 := n9_
         have BK553 := n10_
         have BK554 := n11_
         have BK564 := n12_
         have BK582 := n13_
         have HB := n14_
         clear n0_ n1_ n2_ n3_ n4_ n5_ n6_ n7_ n8_ n9_ n10_ n11_ n12_ n13_ n14_
         (try clear hb)
         (try clear hb2)
         (try clear hk)
         (try clear hi)
         (try clear ho0)
         obtain ⟨Ao110, co110, eo110⟩ := Kd.V_slice HO606.out
         (first | subst eo110 | (injection eo110 with f1_ f2_ f3_; have f4_ := f1_.symm; have f5_ := f3_.symm; clear f1_ f2_ f3_; subst f4_; subst f5_))
         obtain ⟨Ao111, co111, eo111⟩ := Kd.V_slice HO610.out
         (first | subst eo111 | (injection eo111 with f1_ f2_ f3_; have f4_ := f1_.symm; have f5_ := f3_.symm; clear f1_ f2_ f3_; subst f4_; subst f5_))
         refine hK.out _ _ ⟨(blk_cell BK582.out 0).trans rfl, (blk_cell BK582.out 1).trans rfl, (blk_cell BK553.out 0).trans rfl, (blk_cell BK553.out 1).trans rfl, (blk_cell BK554.out 0).trans rfl, (blk_cell BK554.out 1).trans rfl, (blk_cell BK564.out 0).trans rfl, (blk_cell BK564.out 1).trans rfl⟩ (fun hHeld => ?_)
         clear hK K
         refine norm_ (a' := ?_) ?_ ?_
         rotate_left
         ·show Act.put _ (some 68) _ = _
          simp only [Act.put, List.setIfInBounds_toArray, List.set_cons_zero, List.set_cons_succ, i64_w, i32_w]
          rfl
         refine one_ (i := 25) (N := some 69) #[true, true, true, true, true, true, true, true, true, true, true, true, true, true, true, true, true, true, true, true, true, true, true, true, true, true, false, false, false, false, false, false, false] rfl rfl (one_of HT_.out (by kernel_rfl)) (by decide) (fun K hK => ?_)
         refine goes_ Try.func14 (by kernel_rfl) rfl #[.agg #[.bool t603, .slice Ao110 t604.length co110], .agg #[.bool t607, .slice Ao111 t608.length co111]] (by rfl) rfl rfl (by (try simp only [List.map_toArray, List.map_cons, List.map_nil]); first | done | rfl | (simp only [List.length_drop, List.length_take]; rfl)) ?_
         with_reducible refine (num_Cmp.calls kj7 t603 _ _ t604 t607 _ _ t608 t611 _ ?side1 ?side2 ?side3 ?side4 A79.out).mono ?_
         (case side1 => repeat (first | exact (Kd.V_reads' HO606.out).2.2 | (with_reducible refine Kd.C_alloc ?_ _) | (with_reducible refine Kd.C_drewN ?_ _) | (with_reducible refine Kd.C_drew ?_)))
         (case side2 => exact (Kd.V_reads' HO606.out).2.1)
         (case side3 => repeat (first | exact (Kd.V_reads' HO610.out).2.2 | (with_reducible refine Kd.C_alloc ?_ _) | (with_reducible refine Kd.C_drewN ?_ _) | (with_reducible refine Kd.C_drew ?_)))
         (case side4 => exact (Kd.V_reads' HO610.out).2.1)
         rintro e w112 ⟨rfl, hb⟩
         refine ⟨_, rfl, ?_⟩
         have n0_ := Aside0.mk (Kd.V_below (gV HO_554001.out) hb)
         have n1_ := Aside0.mk (Kd.V_below (gV HO_555001.out) hb)
         have n2_ := Aside0.mk (Kd.V_below (gV HO_565001.out) hb)
         have n3_ := Aside0.mk (Kd.V_below (gV HO581.out) hb)
         have n4_ := Aside0.mk (Kd.V_below (gV HO589.out) hb)
         have n5_ := Aside0.mk (Kd.V_below (gV HO593.out) hb)
         have n6_ := Aside0.mk (Kd.V_below (gV HO597.out) hb)
         have n7_ := Aside0.mk (Kd.V_below (gV HO601.out) hb)
         have n8_ := Aside0.mk (Kd.V_below (gV HO606.out) hb)
         have n9_ := Aside0.mk (Kd.V_below (gV HO610.out) hb)
         have n10_ := Aside0.mk (blk_below (gK BK553.out) hb)
         have n11_ := Aside0.mk (blk_below (gK BK554.out) hb)
         have n12_ := Aside0.mk (blk_below (gK BK564.out) hb)
         have n13_ := Aside0.mk (blk_below (gK BK582.out) hb)
         have n14_ := Aside0.mk (below_step (by repeat (first | (with_reducible first | exact HB.out | apply bA | apply bN | apply bD | refine bS ?_ GE553.out | refine bS ?_ GE554.out | refine bS ?_ GE564.out | refine bS ?_ GE582.out) | exact HB.out)) hb)
         clear HO_554001
         clear HO_555001
         clear HO_565001
         clear HO581
         clear HO589
         clear HO593
         clear HO597
         clear HO601
         clear HO606
         clear HO610
         clear BK553
         clear BK554
         clear BK564
         clear BK582
         clear HB
         have HO_554001 := n0_
         have HO_555001 := n1_
         have HO_565001 := n2_
         have HO581 := n3_
         have HO589 := n4_
         have HO593 := n5_
         have HO597 := n6_
         have HO601 := n7_
         have HO606 := n8_
         have HO610 := n9_
         have BK553 := n10_
         have BK554 := n11_
         have BK564 := n12_
         have BK582 := n13_
         have HB := n14_
         clear n0_ n1_ n2_ n3_ n4_ n5_ n6_ n7_ n8_ n9_ n10_ n11_ n12_ n13_ n14_
         (try clear hb)
         (try clear hb2)
         (try clear hk)
         (try clear hi)
         refine hK.out _ _ ⟨(blk_cell BK582.out 0).trans rfl, (blk_cell BK582.out 1).trans rfl, (blk_cell BK553.out 0).trans rfl, (blk_cell BK553.out 1).trans rfl, (blk_cell BK554.out 0).trans rfl, (blk_cell BK554.out 1).trans rfl, (blk_cell BK564.out 0).trans rfl, (blk_cell BK564.out 1).trans rfl⟩ (fun hHeld => ?_)
         clear hK K
         refine norm_ (a' := ?_) ?_ ?_
         rotate_left
         ·show Act.put _ (some 69) _ = _
          simp only [Act.put, List.setIfInBounds_toArray, List.set_cons_zero, List.set_cons_succ, i64_w, i32_w]
          rfl
         refine pure_ (i := 26) (N := some 70) (v := ?_) (a' := ?_) #[true, true, true, true, true, true, true, true, true, true, true, true, true, true, true, true, true, true, true, true, true, true, true, true, true, true, true, false, false, false, false, false, false] rfl rfl (any_of HT_.out (by kernel_rfl)) (fun _ _ _ h => h) (Or.inl ⟨by rfl, ?_⟩) ?_ ?_
         rotate_left
         ·intro w'
          go_simp
          with_reducible rfl
         rotate_left
         ·simp only [Act.put, List.setIfInBounds_toArray, List.set_cons_zero, List.set_cons_succ, i64_w, i32_w]
          rfl
         refine pure_ (i := 27) (N := some 71) (v := ?_) (a' := ?_) #[true, true, true, true, true, true, true, true, true, true, true, true, true, true, true, true, true, true, true, true, true, true, true, true, true, true, true, true, false, false, false, false, false] rfl rfl (any_of HT_.out (by kernel_rfl)) (fun _ _ _ h => h) (Or.inl ⟨by rfl, ?_⟩) ?_ ?_
         rotate_left
         ·intro w'
          go_simp
          with_reducible rfl
         rotate_left
         ·simp only [Act.put, List.setIfInBounds_toArray, List.set_cons_zero, List.set_cons_succ, i64_w, i32_w]
          rfl
         refine pure_ (i := 28) (N := some 72) (v := ?_) (a' := ?_) #[true, true, true, true, true, true, true, true, true, true, true, true, true, true, true, true, true, true, true, true, true, true, true, true, true, true, true, true, true, false, false, false, false] rfl rfl (any_of HT_.out (by kernel_rfl)) (fun _ _ _ h => h) (Or.inl ⟨by rfl, ?_⟩) ?_ ?_
         rotate_left
         ·intro w'
          go_simp
          with_reducible rfl
         rotate_left
         ·simp only [Act.put, List.setIfInBounds_toArray, List.set_cons_zero, List.set_cons_succ, i64_w, i32_w]
          rfl
         refine take_ (i := 29) (N := some 73) (v := ?_) (a' := ?_) #[true, true, true, true, true, true, true, true, true, true, true, true, true, true, true, true, true, true, true, true, true, true, true, true, true, true, true, true, true, true, false, false, false] rfl rfl (take_ofW HT_.out HW_.out (by kernel_rfl)) (fun _ _ _ h => h) (Or.inl ⟨by rfl, ?_⟩) hHeld ?_ ?_
         rotate_left
         ·rintro w' ⟨s0, s1, s2, s3, s4, s5, s6, s7⟩
          go_simp
          with_reducible rfl
         rotate_left
         ·simp only [Act.put, List.setIfInBounds_toArray, List.set_cons_zero, List.set_cons_succ, i64_w, i32_w]
          rfl
         refine one_ (i := 30) (N := some 74) #[true, true, true, true, true, true, true, true, true, true, true, true, true, true, true, true, true, true, true, true, true, true, true, true, true, true, true, true, true, true, true, false, false] rfl rfl (one_of HT_.out (by kernel_rfl)) (by decide) (fun K hK => ?_)
         refine goes_ Try.func13 (by kernel_rfl) rfl #[.agg #[.bool t578, .slice Ao93 t579.length co93]] (by rfl) rfl rfl (by (try simp only [List.map_toArray, List.map_cons, List.map_nil]); first | done | rfl | (simp only [List.length_drop, List.length_take]; rfl)) ?_
         with_reducible refine (isohyetlaw02_Right.calls t578 _ _ t579 t612 _ ?side1 ?side2 A81.out).mono ?_
         (case side1 => repeat (first | exact (Kd.V_reads' HO581.out).2.2 | (with_reducible refine Kd.C_alloc ?_ _) | (with_reducible refine Kd.C_drewN ?_ _) | (with_reducible refine Kd.C_drew ?_)))
         (case side2 => exact (Kd.V_reads' HO581.out).2.1)
         rintro e w113 ⟨rfl, hb⟩
         refine ⟨_, rfl, ?_⟩
         have n0_ := Aside0.mk (Kd.V_below (gV HO_554001.out) hb)
         have n1_ := Aside0.mk (Kd.V_below (gV HO_555001.out) hb)
         have n2_ := Aside0.mk (Kd.V_below (gV HO_565001.out) hb)
         have n3_ := Aside0.mk (Kd.V_below (gV HO581.out) hb)
         have n4_ := Aside0.mk (Kd.V_below (gV HO589.out) hb)
         have n5_ := Aside0.mk (Kd.V_below (gV HO593.out) hb)
         have n6_ := Aside0.mk (Kd.V_below (gV HO597.out) hb)
         have n7_ := Aside0.mk (Kd.V_below (gV HO601.out) hb)
         have n8_ := Aside0.mk (Kd.V_below (gV HO606.out) hb)
         have n9_ := Aside0.mk (Kd.V_below (gV HO610.out) hb)
         have n10_ := Aside0.mk (blk_below (gK BK553.out) hb)
         have n11_ := Aside0.mk (blk_below (gK BK554.out) hb)
         have n12_ := Aside0.mk (blk_below (gK BK564.out) hb)
         have n13_ := Aside0.mk (blk_below (gK BK582.out) hb)
         have n14_ := Aside0.mk (below_step (by repeat (first | (with_reducible first | exact HB.out | apply bA | apply bN | apply bD | refine bS ?_ GE553.out | refine bS ?_ GE554.out | refine bS ?_ GE564.out | refine bS ?_ GE582.out) | exact HB.out)) hb)
         clear HO_554001
         clear HO_555001
         clear HO_565001
         clear HO581
         clear HO589
         clear HO593
         clear HO597
         clear HO601
         clear HO606
         clear HO610
         clear BK553
         clear BK554
         clear BK564
         clear BK582
         clear HB
         have HO_554001 := n0_
         have HO_555001 := n1_
         have HO_565001 := n2_
         have HO581 := n3_
         have HO589 := n4_
         have HO593 := n5_
         have HO597 := n6_
         have HO601 := n7_
         have HO606 := n8_
         have HO610 := n9_
         have BK553 := n10_
         have BK554 := n11_
         have BK564 := n12_
         have BK582 := n13_
         have HB := n14_
         clear n0_ n1_ n2_ n3_ n4_ n5_ n6_ n7_ n8_ n9_ n10_ n11_ n12_ n13_ n14_
         (try clear hb)
         (try clear hb2)
         (try clear hk)
         (try clear hi)
         refine hK.out _ _ ⟨(blk_cell BK582.out 0).trans rfl, (blk_cell BK582.out 1).trans rfl, (blk_cell BK553.out 0).trans rfl, (blk_cell BK553.out 1).trans rfl, (blk_cell BK554.out 0).trans rfl, (blk_cell BK554.out 1).trans rfl, (blk_cell BK564.out 0).trans rfl, (blk_cell BK564.out 1).trans rfl⟩ (fun hHeld => ?_)
         clear hK K
         refine norm_ (a' := ?_) ?_ ?_
         rotate_left
         ·show Act.put _ (some 74) _ = _
          simp only [Act.put, List.setIfInBounds_toArray, List.set_cons_zero, List.set_cons_succ, i64_w, i32_w]
          rfl
         refine pure_ (i := 31) (N := some 75) (v := ?_) (a' := ?_) #[true, true, true, true, true, true, true, true, true, true, true, true, true, true, true, true, true, true, true, true, true, true, true, true, true, true, true, true, true, true, true, true, false] rfl rfl (any_of HT_.out (by kernel_rfl)) (fun _ _ _ h => h) (Or.inl ⟨by rfl, ?_⟩) ?_ ?_
         rotate_left
         ·intro w'
          go_simp
          with_reducible rfl
         rotate_left
         ·simp only [Act.put, List.setIfInBounds_toArray, List.set_cons_zero, List.set_cons_succ, i64_w, i32_w]
          rfl
         refine pure_ (i := 32) (N := some 4) (v := ?_) (a' := ?_) #[true, true, true, true, true, true, true, true, true, true, true, true, true, true, true, true, true, true, true, true, true, true, true, true, true, true, true, true, true, true, true, true, true] rfl rfl (any_of HT_.out (by kernel_rfl)) (fun _ _ _ h => h) (Or.inl ⟨by rfl, ?_⟩) ?_ ?_
         rotate_left
         ·intro w'
          go_simp
          with_reducible rfl
         rotate_left
         ·simp only [Act.put, List.setIfInBounds_toArray, List.set_cons_zero, List.set_cons_succ, i64_w, i32_w]
          rfl
         refine done_ (done_of HT_.out (by kernel_rfl)) ?_
         try go_wp2
         go_ret
         exact ⟨by first | rfl | (simp [errW_none, errW_some] <;> rfl) | (simp [*, errW_none, errW_some] <;> rfl), by repeat (first | (with_reducible first | exact HB.out | apply bA | apply bN | apply bD | refine bS ?_ GE553.out | refine bS ?_ GE554.out | refine bS ?_ GE564.out | refine bS ?_ GE582.out) | exact HB.out)⟩
        ·rw [if_neg c80] at H
         have c80b0 : (t611 == 0) = false := beq_eq_false_iff_ne.mpr c80
         have c80b1 : (t611 != 0) = true := bne_iff_ne.mpr c80
         exact absurd ((Option.some.inj H).trans HTRUE) (by decide)
       ·rw [if_neg c76] at H
        have c76b0 : (t602 == 0) = false := beq_eq_false_iff_ne.mpr c76
        have c76b1 : (t602 != 0) = true := bne_iff_ne.mpr c76
        exact absurd ((Option.some.inj H).trans HTRUE) (by decide)
      ·rw [if_neg c70] at H
       have c70b0 : (t583 == (wrap64 (t584 * t585))) = false := beq_eq_false_iff_ne.mpr c70
       have c70b1 : (t583 != (wrap64 (t584 * t585))) = true := bne_iff_ne.mpr c70
       exact absurd ((Option.some.inj H).trans HTRUE) (by decide)
  ·replace c6 := Bool.eq_false_iff.mpr c6
   subst c6
   have H1 : (some true) = some r := by rw [if_neg (show ¬ (false = true) by decide)] at H; exact H
   clear H
   have H := H1
   clear H1
   obtain rfl := Option.some.inj H
   go_enter Try.func6, Try.ntmps6
   go_wp2_with (first | ((with_reducible refine gate_dst (N := 2) rfl ?_); refine box_event ?hg (N := 2) ?hd (cs := #[.bool a0_0, .slice A0_1 l0_1.length c0_1]) (t := 25) ?hr ?_; (case hd => rfl); (case hg => rfl); (case hr => first | (go_simp; done) | (go_simp; rfl)); intro gb553 hg w114 hbox hb; have n0_ := Aside0.mk (Kd.V_below (Kd.V_elderB (gV HO0_1.out) gb553 (Nat.le_of_eq hg.symm)) hb); have n1_ := Aside0.mk (Kd.V_below (Kd.V_elderB (gV HO1_1.out) gb553 (Nat.le_of_eq hg.symm)) hb); have n2_ := Aside0.mk (below_step (gB HB.out) hb); have n3_ := Aside0.mk (hbox); have n4_ := Aside0.mk ((by rw [hg]; exact (below_size (gB HB.out)) : w.heap.size ≤ gb553)); have n5_ := Aside0.mk ((by rw [hg]; exact (below_size (gB HB.out)) : w.heap.size ≤ gb553)); clear HO0_1; clear HO1_1; clear HB; have HO0_1 := n0_; have HO1_1 := n1_; have HB := n2_; have BK553 := n3_; have GW553 := n4_; have GE553 := n5_; clear n0_ n1_ n2_ n3_ n4_ n5_; clear hb hbox hg) | ((with_reducible refine gate_dst (N := 3) rfl ?_); refine box_event ?hg (N := 3) ?hd (cs := #[.bool a1_0, .slice A1_1 l1_1.length c1_1]) (t := 25) ?hr ?_; (case hd => rfl); (case hg => rfl); (case hr => first | (go_simp; done) | (go_simp; rfl)); intro gb554 hg w115 hbox hb; have n0_ := Aside0.mk (Kd.V_below (Kd.V_elderB (gV HO0_1.out) gb554 (Nat.le_of_eq hg.symm)) hb); have n1_ := Aside0.mk (Kd.V_below (Kd.V_elderB (gV HO1_1.out) gb554 (Nat.le_of_eq hg.symm)) hb); have n2_ := Aside0.mk (blk_below (gK BK553.out) hb); have n3_ := Aside0.mk (below_step (by repeat (first | (with_reducible first | exact HB.out | apply bA | apply bN | apply bD | refine bS ?_ GE553.out) | exact HB.out)) hb); have n4_ := Aside0.mk (hbox); have n5_ := Aside0.mk ((by rw [hg]; exact (below_size (by repeat (first | (with_reducible first | exact HB.out | apply bA | apply bN | apply bD | refine bS ?_ GE553.out) | exact HB.out))) : w.heap.size ≤ gb554)); have n6_ := Aside0.mk ((by rw [hg]; exact (below_size (by repeat (first | (with_reducible first | exact HB.out | apply bA | apply bN | apply bD | refine bS ?_ GE553.out) | exact HB.out))) : w.heap.size ≤ gb554)); have n7_ := Aside0.mk ((by rw [hg]; exact Nat.ne_of_lt (blk_lt (g := gb553) (o := .cells #[.bool a0_0, .slice A0_1 l0_1.length c0_1] 25 (0, 0)) (gK BK553.out)) : gb553 ≠ gb554)); have n8_ := Aside0.mk ((by rw [hg]; exact Nat.ne_of_gt (blk_lt (g := gb553) (o := .cells #[.bool a0_0, .slice A0_1 l0_1.length c0_1] 25 (0, 0)) (gK BK553.out)) : gb554 ≠ gb553)); clear HO0_1; clear HO1_1; clear BK553; clear HB; have HO0_1 := n0_; have HO1_1 := n1_; have BK553 := n2_; have HB := n3_; have BK554 := n4_; have GW554 := n5_; have GE554 := n6_; have NB553_554 := n7_; have NB554_553 := n8_; clear n0_ n1_ n2_ n3_ n4_ n5_ n6_ n7_ n8_; clear hb hbox hg) | ((with_reducible refine gate_callee (f := 9) rfl ?_); refine goesL_ (some 7) rfl rfl Try.func9 (by kernel_rfl) rfl #[] rfl (by (try simp only [List.map_toArray, List.map_cons, List.map_nil]); first | done | rfl | (simp only [List.length_drop, List.length_take]; rfl)) ?_; (with_reducible refine (isohyetlaw02_fit.calls k  true _ rfl A3.out).mono ?_); (try clear A3); rintro e w116 ⟨rfl, hb⟩; refine ⟨_, rfl, ?_⟩; have n0_ := Aside0.mk (Kd.V_below (gV HO0_1.out) hb); have n1_ := Aside0.mk (Kd.V_below (gV HO1_1.out) hb); have n2_ := Aside0.mk (blk_below (gK BK553.out) hb); have n3_ := Aside0.mk (blk_below (gK BK554.out) hb); have n4_ := Aside0.mk (below_step (by repeat (first | (with_reducible first | exact HB.out | apply bA | apply bN | apply bD | refine bS ?_ GE553.out | refine bS ?_ GE554.out) | exact HB.out)) hb); clear HO0_1; clear HO1_1; clear BK553; clear BK554; clear HB; have HO0_1 := n0_; have HO1_1 := n1_; have BK553 := n2_; have BK554 := n3_; have HB := n4_; clear n0_ n1_ n2_ n3_ n4_; (try clear hb); (try clear hb2); (try clear hk); (try clear hi); have hnb117 := NB553_554.out; have hnc117 := NB554_553.out; have hcz118_0 : w116.cell? ⟨gb553, 0, none⟩ = some (.bool a0_0) := (blk_cell BK553.out 0).trans rfl; have hcz118_1 : w116.cell? ⟨gb553, 1, none⟩ = some (.slice A0_1 l0_1.length c0_1) := (blk_cell BK553.out 1).trans rfl; have hfz118_0 := blk_frozen BK553.out 0; have hfz118_1 := blk_frozen BK553.out 1; have hcz119_0 : w116.cell? ⟨gb554, 0, none⟩ = some (.bool a1_0) := (blk_cell BK554.out 0).trans rfl; have hcz119_1 : w116.cell? ⟨gb554, 1, none⟩ = some (.slice A1_1 l1_1.length c1_1) := (blk_cell BK554.out 1).trans rfl; have hfz119_0 := blk_frozen BK554.out 0; have hfz119_1 := blk_frozen BK554.out 1) | ((with_reducible refine gate_dst (N := 11) rfl ?_); refine Kd.N_lit k25 _ 25 ?hg (N' := 11) ?hd (xs := ([(⟨a0_0, l0_1⟩ : S25), (⟨a1_0, l1_1⟩ : S25)] : List (S25))) (inner := [.bool a0_0, .slice A0_1 l0_1.length c0_1, .bool a1_0, .slice A1_1 l1_1.length c1_1]) (ok := (fun k_ => ((P0_1_ k_ ∨ P1_1_ k_) ∨ w.heap.size ≤ k_) ∧ k_ ≠ gb553 ∧ k_ ≠ gb554)) (okp := (fun k_ => ((P0_1_ k_ ∨ P1_1_ k_) ∨ w.heap.size ≤ k_) ∧ k_ ≠ gb553 ∧ k_ ≠ gb554)) ?hr ?hp (fun _ hk => hk) ((show ∀ k_, w116.heap.size ≤ k_ → (fun k_ => ((P0_1_ k_ ∨ P1_1_ k_) ∨ w.heap.size ≤ k_) ∧ k_ ≠ gb553 ∧ k_ ≠ gb554) k_ from fun k_ hk => ⟨(.inr (Nat.le_trans (below_size (by repeat (first | (with_reducible first | exact HB.out | apply bA | apply bN | apply bD | refine bS ?_ GE553.out | refine bS ?_ GE554.out) | exact HB.out))) hk)), Kd.freshB (g := gb553) (o := .cells #[.bool a0_0, .slice A0_1 l0_1.length c0_1] 25 (0, 0)) (gK BK553.out) k_ hk, Kd.freshB (g := gb554) (o := .cells #[.bool a1_0, .slice A1_1 l1_1.length c1_1] 25 (0, 0)) (gK BK554.out) k_ hk⟩) _ (Nat.le_refl _)) (Below.refl _ _) (Nat.le_refl _) (by simp) ?_; (case hd => rfl); (case hg => rfl); (case hr => first | (go_simp; done) | (go_simp; rfl)); (case hp => exact (Reps.c2 (show Kd.FK k25 _ _ (⟨a0_0, l0_1⟩ : S25) [.bool a0_0, .slice A0_1 l0_1.length c0_1] from (k25_mkF _ _ (⟨a0_0, l0_1⟩ : S25) (Kd.V_reads' (Kd.V_mono (ok' := (fun k_ => ((P0_1_ k_ ∨ P1_1_ k_) ∨ w.heap.size ≤ k_) ∧ k_ ≠ gb553 ∧ k_ ≠ gb554)) (HO0_1.out) (fun k_ hk => ⟨hk.1.1, ⟨hk.1.2, hk.2⟩⟩))).2.1 (Kd.V_F (Kd.V_mono (ok' := (fun k_ => ((P0_1_ k_ ∨ P1_1_ k_) ∨ w.heap.size ≤ k_) ∧ k_ ≠ gb553 ∧ k_ ≠ gb554)) (HO0_1.out) (fun k_ hk => ⟨hk.1.1, ⟨hk.1.2, hk.2⟩⟩))))) (Reps.c2 (show Kd.FK k25 _ _ (⟨a1_0, l1_1⟩ : S25) [.bool a1_0, .slice A1_1 l1_1.length c1_1] from (k25_mkF _ _ (⟨a1_0, l1_1⟩ : S25) (Kd.V_reads' (Kd.V_mono (ok' := (fun k_ => ((P0_1_ k_ ∨ P1_1_ k_) ∨ w.heap.size ≤ k_) ∧ k_ ≠ gb553 ∧ k_ ≠ gb554)) (HO1_1.out) (fun k_ hk => ⟨hk.1.1, ⟨hk.1.2, hk.2⟩⟩))).2.1 (Kd.V_F (Kd.V_mono (ok' := (fun k_ => ((P0_1_ k_ ∨ P1_1_ k_) ∨ w.heap.size ≤ k_) ∧ k_ ≠ gb553 ∧ k_ ≠ gb554)) (HO1_1.out) (fun k_ hk => ⟨hk.1.1, ⟨hk.1.2, hk.2⟩⟩))))) (Reps.none _ _)))); intro v557 w120 ho121 hb hg_ hnew_; clear hg_ hnew_; (first | rw [← Ny556.out] at ho121 | (simp only [Int.reduceToNat] at ho121; rw [← Ny556.out] at ho121)); have n0_ := Aside0.mk (Kd.V_elder' (gV HO0_1.out) (Kd.N_base ho121) hb); have n1_ := Aside0.mk (Kd.V_elder' (gV HO1_1.out) (Kd.N_base ho121) hb); have n2_ := Aside0.mk (Kd.N_lower ho121 (below_size (by repeat (first | (with_reducible first | exact HB.out | apply bA | apply bN | apply bD | refine bS ?_ GE553.out | refine bS ?_ GE554.out) | exact HB.out)))); have n3_ := Aside0.mk (blk_below (gK BK553.out) hb); have n4_ := Aside0.mk (blk_below (gK BK554.out) hb); have n5_ := Aside0.mk (below_step (by repeat (first | (with_reducible first | exact HB.out | apply bA | apply bN | apply bD | refine bS ?_ GE553.out | refine bS ?_ GE554.out) | exact HB.out)) hb); clear HO0_1; clear HO1_1; clear BK553; clear BK554; clear HB; have HO0_1 := n0_; have HO1_1 := n1_; have HO558 := n2_; have BK553 := n3_; have BK554 := n4_; have HB := n5_; clear n0_ n1_ n2_ n3_ n4_ n5_; clear hb ho121; obtain ⟨Ao122, co122, eo122⟩ := Kd.N_slice HO558.out; subst eo122) | ((with_reducible refine gate_callee (f := 10) rfl ?_); refine goesL_ (some 12) rfl rfl Try.func10 (by kernel_rfl) rfl #[.int .i64 12, .slice Ao122 y556.length co122] rfl (by (try simp only [List.map_toArray, List.map_cons, List.map_nil]); first | done | rfl | (simp only [List.length_drop, List.length_take]; rfl)) ?_; (with_reducible refine (isohyetlaw02_short.calls k 12 _ _ y556 false _ ?side1 ?side2 A5.out).mono ?_); (case side1 => repeat (first | exact (Kd.N_reads' HO558.out).2.2 | (with_reducible refine Kd.C_alloc ?_ _) | (with_reducible refine Kd.C_drewN ?_ _) | (with_reducible refine Kd.C_drew ?_))); (case side2 => exact (Kd.N_reads' HO558.out).2.1); (try clear A5); rintro e w123 ⟨rfl, hb⟩; refine ⟨_, rfl, ?_⟩; have n0_ := Aside0.mk (Kd.V_below (gV HO0_1.out) hb); have n1_ := Aside0.mk (Kd.V_below (gV HO1_1.out) hb); have n2_ := Aside0.mk (Kd.N_below (gN HO558.out) hb); have n3_ := Aside0.mk (blk_below (gK BK553.out) hb); have n4_ := Aside0.mk (blk_below (gK BK554.out) hb); have n5_ := Aside0.mk (below_step (by repeat (first | (with_reducible first | exact HB.out | apply bA | apply bN | apply bD | refine bS ?_ GE553.out | refine bS ?_ GE554.out) | exact HB.out)) hb); clear HO0_1; clear HO1_1; clear HO558; clear BK553; clear BK554; clear HB; have HO0_1 := n0_; have HO1_1 := n1_; have HO558 := n2_; have BK553 := n3_; have BK554 := n4_; have HB := n5_; clear n0_ n1_ n2_ n3_ n4_ n5_; (try clear hb); (try clear hb2); (try clear hk); (try clear hi)))
   go_ret
   exact ⟨by first | rfl | (simp [errW_none, errW_some] <;> rfl) | (simp [*, errW_none, errW_some] <;> rfl), by repeat (first | (with_reducible first | exact HB.out | apply bA | apply bN | apply bD | refine bS ?_ GE553.out | refine bS ?_ GE554.out) | exact HB.out)⟩
 ·replace c4 := Bool.eq_false_iff.mpr c4
  subst c4
  have H1 : (some false) = some r := by rw [if_neg (show ¬ (false = true) by decide)] at H; exact H
  clear H
  have H := H1
  clear H1
  exact absurd ((Option.some.inj H).trans HTRUE) (by decide)

end Go.Proofs.Ytpgmhhkkbjbpgaa.M
