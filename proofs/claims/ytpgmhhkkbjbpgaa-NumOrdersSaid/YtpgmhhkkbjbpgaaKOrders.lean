-- By drive.py (this session's program), out of the translation. Lean checks it.
import Derived.Test.YtpgmhhkkbjbpgaaA0
import Derived.Test.YtpgmhhkkbjbpgaaA6
import Derived.Test.YtpgmhhkkbjbpgaaA8
import Derived.Test.YtpgmhhkkbjbpgaaA9
import Derived.Test.YtpgmhhkkbjbpgaaC1
import Derived.Test.YtpgmhhkkbjbpgaaC4
import Derived.Test.YtpgmhhkkbjbpgaaC5
namespace Go.Proofs.Ytpgmhhkkbjbpgaa.M
open Go.Proofs.Ytpgmhhkkbjbpgaa.MB Go.Proofs.Ytpgmhhkkbjbpgaa
open Go.RowKit Go.Proofs.YtpgmhhkkbjbpgaaW.PrintWords Go.Proofs.YtpgmhhkkbjbpgaaW.PrintLast Go.Proofs.YtpgmhhkkbjbpgaaW.PrintMore
attribute [local go_sem] max2_int min2_int max_two min_two max_three min_three max_four min_four   -- for this text's walks alone
set_option linter.unusedVariables false
set_option linter.unusedSimpArgs false
attribute [local go_sem] add64_run sub64_run

/-! ### isohyetlaw02_NumOrders: function 4 -/
def isohyetlaw02_NumOrders.j0 : Nat → Int → Int → Bool → Bool → List Int → Bool → List Int → Option (Bool)
 | 0, _, _, _, _, _, _, _ => none
 | k + 1, x7, x8, x48, x479000, x479001, x481000, x481001 => if x48 = true then (some false) else ((num_Make.f k x479000 x479001).bind fun bt503 => ((isohyetlaw02_Right.f bt503.1 bt503.2).bind fun t508 => (if t508 = true then ((num_Cmp.f k bt503.1 bt503.2 x479000 x479001).bind fun t509 => (if t509 = 0 then (if x7 < 0 then (some true) else (if x8 < 0 then (some true) else ((num_Cmp.f k x479000 x479001 x481000 x481001).bind fun t510 => (some (decide (t510 ≥ 0)))))) else (some false))) else (some false))))
def isohyetlaw02_NumOrders.f (k : Nat) (a0_0 : Bool) (l0_1 : List Int) (a1_0 : Bool) (l1_1 : List Int) (a2_0 : Bool) (l2_1 : List Int) : Option (Bool) := (isohyetlaw02_fit.f k).bind fun t481 => (if t481 = true then ((isohyetlaw02_short.f k 20 (([(⟨a0_0, l0_1⟩ : S25), (⟨a1_0, l1_1⟩ : S25), (⟨a2_0, l2_1⟩ : S25)] : List (S25)))).bind fun t485 => (if t485 = true then ((num_Cmp.f k a0_0 l0_1 a1_0 l1_1).bind fun t486 => ((num_Cmp.f k a1_0 l1_1 a2_0 l2_1).bind fun t487 => ((num_Sub.f k a0_0 l0_1 a1_0 l1_1).bind fun bt488 => ((num_Sign.f k bt488.1 bt488.2).bind fun t492 => (if t486 = t492 then ((num_Cmp.f k a1_0 l1_1 a0_0 l0_1).bind fun t493 => (if t486 = (wrap64 (-t493)) then ((num_Add.f k a0_0 l0_1 a2_0 l2_1).bind fun bt494 => ((num_Add.f k a1_0 l1_1 a2_0 l2_1).bind fun bt498 => ((num_Cmp.f k bt494.1 bt494.2 bt498.1 bt498.2).bind fun t502 => (isohyetlaw02_NumOrders.j0 k t486 t487 (t486 != t502) a0_0 l0_1 a2_0 l2_1)))) else (isohyetlaw02_NumOrders.j0 k t486 t487 true a0_0 l0_1 a2_0 l2_1))) else (isohyetlaw02_NumOrders.j0 k t486 t487 true a0_0 l0_1 a2_0 l2_1)))))) else (some true))) else (some false))
theorem isohyetlaw02_NumOrders.mono_l : ∀ k, (∀ y0 y1 y2 y3 y4 y5 y6, LeO (isohyetlaw02_NumOrders.j0 k y0 y1 y2 y3 y4 y5 y6) (isohyetlaw02_NumOrders.j0 (k + 1) y0 y1 y2 y3 y4 y5 y6))
 | 0 => fun _ _ _ _ _ _ _ r h => by simp [isohyetlaw02_NumOrders.j0] at h
 | k + 1 => by
  have ih0 := isohyetlaw02_NumOrders.mono_l k
  ·intro y0 y1 y2 y3 y4 y5 y6
   unfold isohyetlaw02_NumOrders.j0
   repeat' first
   | (with_reducible exact ih0 _ _ _ _ _ _ _)
   | (with_reducible exact isohyetlaw02_fit.mono _)
   | (with_reducible exact isohyetlaw02_short.mono _ _ _)
   | (with_reducible exact num_Add.mono _ _ _ _ _)
   | (with_reducible exact num_Cmp.mono _ _ _ _ _)
   | (with_reducible exact num_Make.mono _ _ _)
   | (with_reducible exact num_Sign.mono _ _ _)
   | (with_reducible exact num_Sub.mono _ _ _ _ _)
   | (with_reducible exact LeO.refl _)
   | (with_reducible exact LeO.none _)
   | (with_reducible refine LeO.ite ?_ ?_)
   | (with_reducible refine LeO.bind ?_ (fun _ => ?_))
   | exact ih0 _ _ _ _ _ _ _
   | exact isohyetlaw02_fit.mono _
   | exact isohyetlaw02_short.mono _ _ _
   | exact num_Add.mono _ _ _ _ _
   | exact num_Cmp.mono _ _ _ _ _
   | exact num_Make.mono _ _ _
   | exact num_Sign.mono _ _ _
   | exact num_Sub.mono _ _ _ _ _
   | exact LeO.none _
   | refine LeO.ite ?_ ?_
   | refine LeO.bind ?_ (fun _ => ?_)
theorem isohyetlaw02_NumOrders.mono : ∀ a0 a1 a2 a3 a4 a5 k, LeO (isohyetlaw02_NumOrders.f k a0 a1 a2 a3 a4 a5) (isohyetlaw02_NumOrders.f (k + 1) a0 a1 a2 a3 a4 a5) := by
 intro a0 a1 a2 a3 a4 a5 k
 have ih0 := isohyetlaw02_NumOrders.mono_l k
 unfold isohyetlaw02_NumOrders.f
 repeat' first
   | (with_reducible exact ih0 _ _ _ _ _ _ _)
   | (with_reducible exact isohyetlaw02_fit.mono _)
   | (with_reducible exact isohyetlaw02_short.mono _ _ _)
   | (with_reducible exact num_Add.mono _ _ _ _ _)
   | (with_reducible exact num_Cmp.mono _ _ _ _ _)
   | (with_reducible exact num_Make.mono _ _ _)
   | (with_reducible exact num_Sign.mono _ _ _)
   | (with_reducible exact num_Sub.mono _ _ _ _ _)
   | (with_reducible exact LeO.refl _)
   | (with_reducible exact LeO.none _)
   | (with_reducible refine LeO.ite ?_ ?_)
   | (with_reducible refine LeO.bind ?_ (fun _ => ?_))
   | exact ih0 _ _ _ _ _ _ _
   | exact isohyetlaw02_fit.mono _
   | exact isohyetlaw02_short.mono _ _ _
   | exact num_Add.mono _ _ _ _ _
   | exact num_Cmp.mono _ _ _ _ _
   | exact num_Make.mono _ _ _
   | exact num_Sign.mono _ _ _
   | exact num_Sub.mono _ _ _ _ _
   | exact LeO.none _
   | refine LeO.ite ?_ ?_
   | refine LeO.bind ?_ (fun _ => ?_)
def isohyetlaw02_NumOrders.T5 : Bool × List (List Nat × List Nat) := (true, [([], []), ([], []), ([0, 1], [0, 1]), ([], []), ([], []), ([3, 4, 2], [3, 4]), ([2, 5, 0, 1, 2], [2]), ([5, 6, 0, 1, 2, 3, 4, 5, 6], [5])])
def isohyetlaw02_NumOrders.B5 : List Nat := [0, 0, 3, 0, 0, 31, 63, 127]
theorem isohyetlaw02_NumOrders.tab5 : rtab .any (opsOf Try.f4 5) = isohyetlaw02_NumOrders.T5 := by kernel_rfl
theorem isohyetlaw02_NumOrders.bits5 : waitsOk isohyetlaw02_NumOrders.T5.2 isohyetlaw02_NumOrders.B5 = true := by kernel_rfl
def isohyetlaw02_NumOrders.T6 : Bool × List (List Nat × List Nat) := (true, [([], []), ([], []), ([], []), ([1, 2], [1, 2]), ([3, 3], [3]), ([0, 4], [0, 4]), ([5, 4], [5]), ([6], [6]), ([6], [6]), ([6], [6]), ([8, 9, 6, 6], [6, 8, 9]), ([10, 6], [6, 10]), ([7, 11, 6], [6, 7, 11]), ([6, 12], [6, 12]), ([13, 10], [13]), ([14], [14]), ([14], [14]), ([14], [14]), ([16, 17, 14, 14], [14, 16, 17]), ([14], [14]), ([14], [14]), ([19, 20, 18, 14], [14, 19, 20]), ([18, 21, 21, 14], [14, 18, 21]), ([15, 22, 14], [14, 15, 22]), ([14, 23], [14, 23])])
def isohyetlaw02_NumOrders.B6 : List Nat := [0, 0, 0, 6, 14, 31, 63, 127, 127, 127, 895, 1919, 4095, 8191, 16383, 32767, 32767, 32767, 229375, 32767, 32767, 2064383, 4161535, 8388607, 16777215]
theorem isohyetlaw02_NumOrders.tab6 : rtab .any (opsOf Try.f4 6) = isohyetlaw02_NumOrders.T6 := by kernel_rfl
theorem isohyetlaw02_NumOrders.bits6 : waitsOk isohyetlaw02_NumOrders.T6.2 isohyetlaw02_NumOrders.B6 = true := by kernel_rfl
set_option maxHeartbeats 8000000 in
set_option maxRecDepth 100000 in
theorem isohyetlaw02_NumOrders.calls (k : Nat) (a0_0 : Bool) (P0_1_ : Nat → Prop) (A0_1 : Option Addr) (c0_1 : Nat) (l0_1 : List Int) (a1_0 : Bool) (P1_1_ : Nat → Prop) (A1_1 : Option Addr) (c1_1 : Nat) (l1_1 : List Int) (a2_0 : Bool) (P2_1_ : Nat → Prop) (A2_1 : Option Addr) (c2_1 : Nat) (l2_1 : List Int) (r : Bool) (w : World) (hs0_1 : Kd.V (Kd.int .u64) 54 w w.heap.size (fun k_ => P0_1_ k_) (.slice A0_1 l0_1.length c0_1) l0_1) (hs1_1 : Kd.V (Kd.int .u64) 54 w w.heap.size (fun k_ => P1_1_ k_) (.slice A1_1 l1_1.length c1_1) l1_1) (hs2_1 : Kd.V (Kd.int .u64) 54 w w.heap.size (fun k_ => P2_1_ k_) (.slice A2_1 l2_1.length c2_1) l2_1) (HTRUE : r = true) (h : isohyetlaw02_NumOrders.f k a0_0 l0_1 a1_0 l1_1 a2_0 l2_1 = some r) :
  Calls Try.prog 4 #[.agg #[.bool a0_0, .slice A0_1 l0_1.length c0_1], .agg #[.bool a1_0, .slice A1_1 l1_1.length c1_1], .agg #[.bool a2_0, .slice A2_1 l2_1.length c2_1]] w fun e w' => e = .returned (.bool r) ∧ Below w.heap.size w w' := by
 have hu25 := Try.underlying25
 have HO0_1 := Aside0.mk (show Kd.V (Kd.int .u64) 54 w w.heap.size (fun k_ => ((P0_1_ k_ ∨ P1_1_ k_ ∨ P2_1_ k_) ∨ w.heap.size ≤ k_)) (.slice A0_1 l0_1.length c0_1) l0_1 from Kd.V_mono hs0_1 (fun k_ hk => .inl (.inl hk)))
 have HO1_1 := Aside0.mk (show Kd.V (Kd.int .u64) 54 w w.heap.size (fun k_ => ((P0_1_ k_ ∨ P1_1_ k_ ∨ P2_1_ k_) ∨ w.heap.size ≤ k_)) (.slice A1_1 l1_1.length c1_1) l1_1 from Kd.V_mono hs1_1 (fun k_ hk => .inl (.inr (.inl hk))))
 have HO2_1 := Aside0.mk (show Kd.V (Kd.int .u64) 54 w w.heap.size (fun k_ => ((P0_1_ k_ ∨ P1_1_ k_ ∨ P2_1_ k_) ∨ w.heap.size ≤ k_)) (.slice A2_1 l2_1.length c2_1) l2_1 from Kd.V_mono hs2_1 (fun k_ hk => .inl (.inr (.inr hk))))
 have HB := Aside0.mk (Below.refl w.heap.size w)
 have H : ((isohyetlaw02_fit.f k).bind fun t481 => (if t481 = true then ((isohyetlaw02_short.f k 20 (([(⟨a0_0, l0_1⟩ : S25), (⟨a1_0, l1_1⟩ : S25), (⟨a2_0, l2_1⟩ : S25)] : List (S25)))).bind fun t485 => (if t485 = true then ((num_Cmp.f k a0_0 l0_1 a1_0 l1_1).bind fun t486 => ((num_Cmp.f k a1_0 l1_1 a2_0 l2_1).bind fun t487 => ((num_Sub.f k a0_0 l0_1 a1_0 l1_1).bind fun bt488 => ((num_Sign.f k bt488.1 bt488.2).bind fun t492 => (if t486 = t492 then ((num_Cmp.f k a1_0 l1_1 a0_0 l0_1).bind fun t493 => (if t486 = (wrap64 (-t493)) then ((num_Add.f k a0_0 l0_1 a2_0 l2_1).bind fun bt494 => ((num_Add.f k a1_0 l1_1 a2_0 l2_1).bind fun bt498 => ((num_Cmp.f k bt494.1 bt494.2 bt498.1 bt498.2).bind fun t502 => (isohyetlaw02_NumOrders.j0 k t486 t487 (t486 != t502) a0_0 l0_1 a2_0 l2_1)))) else (isohyetlaw02_NumOrders.j0 k t486 t487 true a0_0 l0_1 a2_0 l2_1))) else (isohyetlaw02_NumOrders.j0 k t486 t487 true a0_0 l0_1 a2_0 l2_1)))))) else (some true))) else (some false))) = some r := h
 clear h
 replace H := Option.bind_eq_some_iff.mp H
 obtain ⟨t481, A40, H⟩ := H
 replace H : (if t481 = true then ((isohyetlaw02_short.f k 20 (([(⟨a0_0, l0_1⟩ : S25), (⟨a1_0, l1_1⟩ : S25), (⟨a2_0, l2_1⟩ : S25)] : List (S25)))).bind fun t485 => (if t485 = true then ((num_Cmp.f k a0_0 l0_1 a1_0 l1_1).bind fun t486 => ((num_Cmp.f k a1_0 l1_1 a2_0 l2_1).bind fun t487 => ((num_Sub.f k a0_0 l0_1 a1_0 l1_1).bind fun bt488 => ((num_Sign.f k bt488.1 bt488.2).bind fun t492 => (if t486 = t492 then ((num_Cmp.f k a1_0 l1_1 a0_0 l0_1).bind fun t493 => (if t486 = (wrap64 (-t493)) then ((num_Add.f k a0_0 l0_1 a2_0 l2_1).bind fun bt494 => ((num_Add.f k a1_0 l1_1 a2_0 l2_1).bind fun bt498 => ((num_Cmp.f k bt494.1 bt494.2 bt498.1 bt498.2).bind fun t502 => (isohyetlaw02_NumOrders.j0 k t486 t487 (t486 != t502) a0_0 l0_1 a2_0 l2_1)))) else (isohyetlaw02_NumOrders.j0 k t486 t487 true a0_0 l0_1 a2_0 l2_1))) else (isohyetlaw02_NumOrders.j0 k t486 t487 true a0_0 l0_1 a2_0 l2_1)))))) else (some true))) else (some false)) = some r := H
 have A4 := Aside0.mk A40
 clear A40
 by_cases c5 : t481 = true
 ·subst c5
  have H1 : ((isohyetlaw02_short.f k 20 (([(⟨a0_0, l0_1⟩ : S25), (⟨a1_0, l1_1⟩ : S25), (⟨a2_0, l2_1⟩ : S25)] : List (S25)))).bind fun t485 => (if t485 = true then ((num_Cmp.f k a0_0 l0_1 a1_0 l1_1).bind fun t486 => ((num_Cmp.f k a1_0 l1_1 a2_0 l2_1).bind fun t487 => ((num_Sub.f k a0_0 l0_1 a1_0 l1_1).bind fun bt488 => ((num_Sign.f k bt488.1 bt488.2).bind fun t492 => (if t486 = t492 then ((num_Cmp.f k a1_0 l1_1 a0_0 l0_1).bind fun t493 => (if t486 = (wrap64 (-t493)) then ((num_Add.f k a0_0 l0_1 a2_0 l2_1).bind fun bt494 => ((num_Add.f k a1_0 l1_1 a2_0 l2_1).bind fun bt498 => ((num_Cmp.f k bt494.1 bt494.2 bt498.1 bt498.2).bind fun t502 => (isohyetlaw02_NumOrders.j0 k t486 t487 (t486 != t502) a0_0 l0_1 a2_0 l2_1)))) else (isohyetlaw02_NumOrders.j0 k t486 t487 true a0_0 l0_1 a2_0 l2_1))) else (isohyetlaw02_NumOrders.j0 k t486 t487 true a0_0 l0_1 a2_0 l2_1)))))) else (some true))) = some r := by rw [if_pos rfl] at H; exact H
  clear H
  have H := H1
  clear H1
  obtain ⟨y482, hy482⟩ : ∃ y_ : List (S25), y_ = (([(⟨a0_0, l0_1⟩ : S25), (⟨a1_0, l1_1⟩ : S25), (⟨a2_0, l2_1⟩ : S25)] : List (S25))) := ⟨_, rfl⟩
  replace H : ((isohyetlaw02_short.f k 20 y482).bind fun t485 => (if t485 = true then ((num_Cmp.f k a0_0 l0_1 a1_0 l1_1).bind fun t486 => ((num_Cmp.f k a1_0 l1_1 a2_0 l2_1).bind fun t487 => ((num_Sub.f k a0_0 l0_1 a1_0 l1_1).bind fun bt488 => ((num_Sign.f k bt488.1 bt488.2).bind fun t492 => (if t486 = t492 then ((num_Cmp.f k a1_0 l1_1 a0_0 l0_1).bind fun t493 => (if t486 = (wrap64 (-t493)) then ((num_Add.f k a0_0 l0_1 a2_0 l2_1).bind fun bt494 => ((num_Add.f k a1_0 l1_1 a2_0 l2_1).bind fun bt498 => ((num_Cmp.f k bt494.1 bt494.2 bt498.1 bt498.2).bind fun t502 => (isohyetlaw02_NumOrders.j0 k t486 t487 (t486 != t502) a0_0 l0_1 a2_0 l2_1)))) else (isohyetlaw02_NumOrders.j0 k t486 t487 true a0_0 l0_1 a2_0 l2_1))) else (isohyetlaw02_NumOrders.j0 k t486 t487 true a0_0 l0_1 a2_0 l2_1)))))) else (some true))) = some r := by first | (rw [hy482]; with_reducible exact H) | (have H2_ := (Option.bind_some _ _).symm.trans H; rw [hy482]; with_reducible exact H2_) | (have H2_ := (Option.bind_some _ _).symm.trans H; with_reducible exact H2_) | with_reducible exact H | (rw [hy482]; exact H) | exact H
  have Ny482 := Aside0.mk hy482
  clear hy482
  replace H := Option.bind_eq_some_iff.mp H
  obtain ⟨t485, A60, H⟩ := H
  replace H : (if t485 = true then ((num_Cmp.f k a0_0 l0_1 a1_0 l1_1).bind fun t486 => ((num_Cmp.f k a1_0 l1_1 a2_0 l2_1).bind fun t487 => ((num_Sub.f k a0_0 l0_1 a1_0 l1_1).bind fun bt488 => ((num_Sign.f k bt488.1 bt488.2).bind fun t492 => (if t486 = t492 then ((num_Cmp.f k a1_0 l1_1 a0_0 l0_1).bind fun t493 => (if t486 = (wrap64 (-t493)) then ((num_Add.f k a0_0 l0_1 a2_0 l2_1).bind fun bt494 => ((num_Add.f k a1_0 l1_1 a2_0 l2_1).bind fun bt498 => ((num_Cmp.f k bt494.1 bt494.2 bt498.1 bt498.2).bind fun t502 => (isohyetlaw02_NumOrders.j0 k t486 t487 (t486 != t502) a0_0 l0_1 a2_0 l2_1)))) else (isohyetlaw02_NumOrders.j0 k t486 t487 true a0_0 l0_1 a2_0 l2_1))) else (isohyetlaw02_NumOrders.j0 k t486 t487 true a0_0 l0_1 a2_0 l2_1)))))) else (some true)) = some r := H
  have A6 := Aside0.mk A60
  clear A60
  by_cases c7 : t485 = true
  ·subst c7
   have H1 : ((num_Cmp.f k a0_0 l0_1 a1_0 l1_1).bind fun t486 => ((num_Cmp.f k a1_0 l1_1 a2_0 l2_1).bind fun t487 => ((num_Sub.f k a0_0 l0_1 a1_0 l1_1).bind fun bt488 => ((num_Sign.f k bt488.1 bt488.2).bind fun t492 => (if t486 = t492 then ((num_Cmp.f k a1_0 l1_1 a0_0 l0_1).bind fun t493 => (if t486 = (wrap64 (-t493)) then ((num_Add.f k a0_0 l0_1 a2_0 l2_1).bind fun bt494 => ((num_Add.f k a1_0 l1_1 a2_0 l2_1).bind fun bt498 => ((num_Cmp.f k bt494.1 bt494.2 bt498.1 bt498.2).bind fun t502 => (isohyetlaw02_NumOrders.j0 k t486 t487 (t486 != t502) a0_0 l0_1 a2_0 l2_1)))) else (isohyetlaw02_NumOrders.j0 k t486 t487 true a0_0 l0_1 a2_0 l2_1))) else (isohyetlaw02_NumOrders.j0 k t486 t487 true a0_0 l0_1 a2_0 l2_1)))))) = some r := by rw [if_pos rfl] at H; exact H
   clear H
   have H := H1
   clear H1
   replace H := Option.bind_eq_some_iff.mp H
   obtain ⟨t486, A80, H⟩ := H
   replace H : ((num_Cmp.f k a1_0 l1_1 a2_0 l2_1).bind fun t487 => ((num_Sub.f k a0_0 l0_1 a1_0 l1_1).bind fun bt488 => ((num_Sign.f k bt488.1 bt488.2).bind fun t492 => (if t486 = t492 then ((num_Cmp.f k a1_0 l1_1 a0_0 l0_1).bind fun t493 => (if t486 = (wrap64 (-t493)) then ((num_Add.f k a0_0 l0_1 a2_0 l2_1).bind fun bt494 => ((num_Add.f k a1_0 l1_1 a2_0 l2_1).bind fun bt498 => ((num_Cmp.f k bt494.1 bt494.2 bt498.1 bt498.2).bind fun t502 => (isohyetlaw02_NumOrders.j0 k t486 t487 (t486 != t502) a0_0 l0_1 a2_0 l2_1)))) else (isohyetlaw02_NumOrders.j0 k t486 t487 true a0_0 l0_1 a2_0 l2_1))) else (isohyetlaw02_NumOrders.j0 k t486 t487 true a0_0 l0_1 a2_0 l2_1))))) = some r := H
   have A8 := Aside0.mk A80
   clear A80
   replace H := Option.bind_eq_some_iff.mp H
   obtain ⟨t487, A90, H⟩ := H
   replace H : ((num_Sub.f k a0_0 l0_1 a1_0 l1_1).bind fun bt488 => ((num_Sign.f k bt488.1 bt488.2).bind fun t492 => (if t486 = t492 then ((num_Cmp.f k a1_0 l1_1 a0_0 l0_1).bind fun t493 => (if t486 = (wrap64 (-t493)) then ((num_Add.f k a0_0 l0_1 a2_0 l2_1).bind fun bt494 => ((num_Add.f k a1_0 l1_1 a2_0 l2_1).bind fun bt498 => ((num_Cmp.f k bt494.1 bt494.2 bt498.1 bt498.2).bind fun t502 => (isohyetlaw02_NumOrders.j0 k t486 t487 (t486 != t502) a0_0 l0_1 a2_0 l2_1)))) else (isohyetlaw02_NumOrders.j0 k t486 t487 true a0_0 l0_1 a2_0 l2_1))) else (isohyetlaw02_NumOrders.j0 k t486 t487 true a0_0 l0_1 a2_0 l2_1)))) = some r := H
   have A9 := Aside0.mk A90
   clear A90
   have HC10 := Aside0.mk H
   clear H
   go_enter Try.func4, Try.ntmps4
   try go_wp2_with (first | ((with_reducible refine gate_dst (N := 3) rfl ?_); refine box_event ?hg (N := 3) ?hd (cs := #[.bool a0_0, .slice A0_1 l0_1.length c0_1]) (t := 25) ?hr ?_; (case hd => rfl); (case hg => rfl); (case hr => first | (go_simp; done) | (go_simp; rfl)); intro gb478 hg w11 hbox hb; have n0_ := Aside0.mk (Kd.V_below (Kd.V_elderB (gV HO0_1.out) gb478 (Nat.le_of_eq hg.symm)) hb); have n1_ := Aside0.mk (Kd.V_below (Kd.V_elderB (gV HO1_1.out) gb478 (Nat.le_of_eq hg.symm)) hb); have n2_ := Aside0.mk (Kd.V_below (Kd.V_elderB (gV HO2_1.out) gb478 (Nat.le_of_eq hg.symm)) hb); have n3_ := Aside0.mk (below_step (gB HB.out) hb); have n4_ := Aside0.mk (hbox); have n5_ := Aside0.mk ((by rw [hg]; exact (below_size (gB HB.out)) : w.heap.size ≤ gb478)); have n6_ := Aside0.mk ((by rw [hg]; exact (below_size (gB HB.out)) : w.heap.size ≤ gb478)); clear HO0_1; clear HO1_1; clear HO2_1; clear HB; have HO0_1 := n0_; have HO1_1 := n1_; have HO2_1 := n2_; have HB := n3_; have BK478 := n4_; have GW478 := n5_; have GE478 := n6_; clear n0_ n1_ n2_ n3_ n4_ n5_ n6_; clear hb hbox hg) | ((with_reducible refine gate_dst (N := 4) rfl ?_); refine box_event ?hg (N := 4) ?hd (cs := #[.bool a1_0, .slice A1_1 l1_1.length c1_1]) (t := 25) ?hr ?_; (case hd => rfl); (case hg => rfl); (case hr => first | (go_simp; done) | (go_simp; rfl)); intro gb479 hg w12 hbox hb; have n0_ := Aside0.mk (Kd.V_below (Kd.V_elderB (gV HO0_1.out) gb479 (Nat.le_of_eq hg.symm)) hb); have n1_ := Aside0.mk (Kd.V_below (Kd.V_elderB (gV HO1_1.out) gb479 (Nat.le_of_eq hg.symm)) hb); have n2_ := Aside0.mk (Kd.V_below (Kd.V_elderB (gV HO2_1.out) gb479 (Nat.le_of_eq hg.symm)) hb); have n3_ := Aside0.mk (blk_below (gK BK478.out) hb); have n4_ := Aside0.mk (below_step (by repeat (first | (with_reducible first | exact HB.out | apply bA | apply bN | apply bD | refine bS ?_ GE478.out) | exact HB.out)) hb); have n5_ := Aside0.mk (hbox); have n6_ := Aside0.mk ((by rw [hg]; exact (below_size (by repeat (first | (with_reducible first | exact HB.out | apply bA | apply bN | apply bD | refine bS ?_ GE478.out) | exact HB.out))) : w.heap.size ≤ gb479)); have n7_ := Aside0.mk ((by rw [hg]; exact (below_size (by repeat (first | (with_reducible first | exact HB.out | apply bA | apply bN | apply bD | refine bS ?_ GE478.out) | exact HB.out))) : w.heap.size ≤ gb479)); have n8_ := Aside0.mk ((by rw [hg]; exact Nat.ne_of_lt (blk_lt (g := gb478) (o := .cells #[.bool a0_0, .slice A0_1 l0_1.length c0_1] 25 (0, 0)) (gK BK478.out)) : gb478 ≠ gb479)); have n9_ := Aside0.mk ((by rw [hg]; exact Nat.ne_of_gt (blk_lt (g := gb478) (o := .cells #[.bool a0_0, .slice A0_1 l0_1.length c0_1] 25 (0, 0)) (gK BK478.out)) : gb479 ≠ gb478)); clear HO0_1; clear HO1_1; clear HO2_1; clear BK478; clear HB; have HO0_1 := n0_; have HO1_1 := n1_; have HO2_1 := n2_; have BK478 := n3_; have HB := n4_; have BK479 := n5_; have GW479 := n6_; have GE479 := n7_; have NB478_479 := n8_; have NB479_478 := n9_; clear n0_ n1_ n2_ n3_ n4_ n5_ n6_ n7_ n8_ n9_; clear hb hbox hg) | ((with_reducible refine gate_dst (N := 5) rfl ?_); refine box_event ?hg (N := 5) ?hd (cs := #[.bool a2_0, .slice A2_1 l2_1.length c2_1]) (t := 25) ?hr ?_; (case hd => rfl); (case hg => rfl); (case hr => first | (go_simp; done) | (go_simp; rfl)); intro gb480 hg w13 hbox hb; have n0_ := Aside0.mk (Kd.V_below (Kd.V_elderB (gV HO0_1.out) gb480 (Nat.le_of_eq hg.symm)) hb); have n1_ := Aside0.mk (Kd.V_below (Kd.V_elderB (gV HO1_1.out) gb480 (Nat.le_of_eq hg.symm)) hb); have n2_ := Aside0.mk (Kd.V_below (Kd.V_elderB (gV HO2_1.out) gb480 (Nat.le_of_eq hg.symm)) hb); have n3_ := Aside0.mk (blk_below (gK BK478.out) hb); have n4_ := Aside0.mk (blk_below (gK BK479.out) hb); have n5_ := Aside0.mk (below_step (by repeat (first | (with_reducible first | exact HB.out | apply bA | apply bN | apply bD | refine bS ?_ GE478.out | refine bS ?_ GE479.out) | exact HB.out)) hb); have n6_ := Aside0.mk (hbox); have n7_ := Aside0.mk ((by rw [hg]; exact (below_size (by repeat (first | (with_reducible first | exact HB.out | apply bA | apply bN | apply bD | refine bS ?_ GE478.out | refine bS ?_ GE479.out) | exact HB.out))) : w.heap.size ≤ gb480)); have n8_ := Aside0.mk ((by rw [hg]; exact (below_size (by repeat (first | (with_reducible first | exact HB.out | apply bA | apply bN | apply bD | refine bS ?_ GE478.out | refine bS ?_ GE479.out) | exact HB.out))) : w.heap.size ≤ gb480)); have n9_ := Aside0.mk ((by rw [hg]; exact Nat.ne_of_lt (blk_lt (g := gb478) (o := .cells #[.bool a0_0, .slice A0_1 l0_1.length c0_1] 25 (0, 0)) (gK BK478.out)) : gb478 ≠ gb480)); have n10_ := Aside0.mk ((by rw [hg]; exact Nat.ne_of_gt (blk_lt (g := gb478) (o := .cells #[.bool a0_0, .slice A0_1 l0_1.length c0_1] 25 (0, 0)) (gK BK478.out)) : gb480 ≠ gb478)); have n11_ := Aside0.mk ((by rw [hg]; exact Nat.ne_of_lt (blk_lt (g := gb479) (o := .cells #[.bool a1_0, .slice A1_1 l1_1.length c1_1] 25 (0, 0)) (gK BK479.out)) : gb479 ≠ gb480)); have n12_ := Aside0.mk ((by rw [hg]; exact Nat.ne_of_gt (blk_lt (g := gb479) (o := .cells #[.bool a1_0, .slice A1_1 l1_1.length c1_1] 25 (0, 0)) (gK BK479.out)) : gb480 ≠ gb479)); clear HO0_1; clear HO1_1; clear HO2_1; clear BK478; clear BK479; clear HB; have HO0_1 := n0_; have HO1_1 := n1_; have HO2_1 := n2_; have BK478 := n3_; have BK479 := n4_; have HB := n5_; have BK480 := n6_; have GW480 := n7_; have GE480 := n8_; have NB478_480 := n9_; have NB480_478 := n10_; have NB479_480 := n11_; have NB480_479 := n12_; clear n0_ n1_ n2_ n3_ n4_ n5_ n6_ n7_ n8_ n9_ n10_ n11_ n12_; clear hb hbox hg) | ((with_reducible refine gate_callee (f := 9) rfl ?_); refine goesL_ (some 10) rfl rfl Try.func9 (by kernel_rfl) rfl #[] rfl (by (try simp only [List.map_toArray, List.map_cons, List.map_nil]); first | done | rfl | (simp only [List.length_drop, List.length_take]; rfl)) ?_; (with_reducible refine (isohyetlaw02_fit.calls k  true _ rfl A4.out).mono ?_); (try clear A4); rintro e w14 ⟨rfl, hb⟩; refine ⟨_, rfl, ?_⟩; have n0_ := Aside0.mk (Kd.V_below (gV HO0_1.out) hb); have n1_ := Aside0.mk (Kd.V_below (gV HO1_1.out) hb); have n2_ := Aside0.mk (Kd.V_below (gV HO2_1.out) hb); have n3_ := Aside0.mk (blk_below (gK BK478.out) hb); have n4_ := Aside0.mk (blk_below (gK BK479.out) hb); have n5_ := Aside0.mk (blk_below (gK BK480.out) hb); have n6_ := Aside0.mk (below_step (by repeat (first | (with_reducible first | exact HB.out | apply bA | apply bN | apply bD | refine bS ?_ GE478.out | refine bS ?_ GE479.out | refine bS ?_ GE480.out) | exact HB.out)) hb); clear HO0_1; clear HO1_1; clear HO2_1; clear BK478; clear BK479; clear BK480; clear HB; have HO0_1 := n0_; have HO1_1 := n1_; have HO2_1 := n2_; have BK478 := n3_; have BK479 := n4_; have BK480 := n5_; have HB := n6_; clear n0_ n1_ n2_ n3_ n4_ n5_ n6_; (try clear hb); (try clear hb2); (try clear hk); (try clear hi); have hnb15 := NB478_479.out; have hnc15 := NB479_478.out; have hnb16 := NB478_480.out; have hnc16 := NB480_478.out; have hcz17_0 : w14.cell? ⟨gb478, 0, none⟩ = some (.bool a0_0) := (blk_cell BK478.out 0).trans rfl; have hcz17_1 : w14.cell? ⟨gb478, 1, none⟩ = some (.slice A0_1 l0_1.length c0_1) := (blk_cell BK478.out 1).trans rfl; have hfz17_0 := blk_frozen BK478.out 0; have hfz17_1 := blk_frozen BK478.out 1; have hnb18 := NB479_480.out; have hnc18 := NB480_479.out; have hcz19_0 : w14.cell? ⟨gb479, 0, none⟩ = some (.bool a1_0) := (blk_cell BK479.out 0).trans rfl; have hcz19_1 : w14.cell? ⟨gb479, 1, none⟩ = some (.slice A1_1 l1_1.length c1_1) := (blk_cell BK479.out 1).trans rfl; have hfz19_0 := blk_frozen BK479.out 0; have hfz19_1 := blk_frozen BK479.out 1; have hcz20_0 : w14.cell? ⟨gb480, 0, none⟩ = some (.bool a2_0) := (blk_cell BK480.out 0).trans rfl; have hcz20_1 : w14.cell? ⟨gb480, 1, none⟩ = some (.slice A2_1 l2_1.length c2_1) := (blk_cell BK480.out 1).trans rfl; have hfz20_0 := blk_frozen BK480.out 0; have hfz20_1 := blk_frozen BK480.out 1) | ((with_reducible refine gate_dst (N := 15) rfl ?_); refine Kd.N_lit k25 _ 25 ?hg (N' := 15) ?hd (xs := ([(⟨a0_0, l0_1⟩ : S25), (⟨a1_0, l1_1⟩ : S25), (⟨a2_0, l2_1⟩ : S25)] : List (S25))) (inner := [.bool a0_0, .slice A0_1 l0_1.length c0_1, .bool a1_0, .slice A1_1 l1_1.length c1_1, .bool a2_0, .slice A2_1 l2_1.length c2_1]) (ok := (fun k_ => ((P0_1_ k_ ∨ P1_1_ k_ ∨ P2_1_ k_) ∨ w.heap.size ≤ k_) ∧ k_ ≠ gb478 ∧ k_ ≠ gb479 ∧ k_ ≠ gb480)) (okp := (fun k_ => ((P0_1_ k_ ∨ P1_1_ k_ ∨ P2_1_ k_) ∨ w.heap.size ≤ k_) ∧ k_ ≠ gb478 ∧ k_ ≠ gb479 ∧ k_ ≠ gb480)) ?hr ?hp (fun _ hk => hk) ((show ∀ k_, w14.heap.size ≤ k_ → (fun k_ => ((P0_1_ k_ ∨ P1_1_ k_ ∨ P2_1_ k_) ∨ w.heap.size ≤ k_) ∧ k_ ≠ gb478 ∧ k_ ≠ gb479 ∧ k_ ≠ gb480) k_ from fun k_ hk => ⟨(.inr (Nat.le_trans (below_size (by repeat (first | (with_reducible first | exact HB.out | apply bA | apply bN | apply bD | refine bS ?_ GE478.out | refine bS ?_ GE479.out | refine bS ?_ GE480.out) | exact HB.out))) hk)), Kd.freshB (g := gb478) (o := .cells #[.bool a0_0, .slice A0_1 l0_1.length c0_1] 25 (0, 0)) (gK BK478.out) k_ hk, Kd.freshB (g := gb479) (o := .cells #[.bool a1_0, .slice A1_1 l1_1.length c1_1] 25 (0, 0)) (gK BK479.out) k_ hk, Kd.freshB (g := gb480) (o := .cells #[.bool a2_0, .slice A2_1 l2_1.length c2_1] 25 (0, 0)) (gK BK480.out) k_ hk⟩) _ (Nat.le_refl _)) (Below.refl _ _) (Nat.le_refl _) (by simp) ?_; (case hd => rfl); (case hg => rfl); (case hr => first | (go_simp; done) | (go_simp; rfl)); (case hp => exact (Reps.c2 (show Kd.FK k25 _ _ (⟨a0_0, l0_1⟩ : S25) [.bool a0_0, .slice A0_1 l0_1.length c0_1] from (k25_mkF _ _ (⟨a0_0, l0_1⟩ : S25) (Kd.V_reads' (Kd.V_mono (ok' := (fun k_ => ((P0_1_ k_ ∨ P1_1_ k_ ∨ P2_1_ k_) ∨ w.heap.size ≤ k_) ∧ k_ ≠ gb478 ∧ k_ ≠ gb479 ∧ k_ ≠ gb480)) (HO0_1.out) (fun k_ hk => ⟨hk.1.1.1, ⟨hk.1.1.2, ⟨hk.1.2, hk.2⟩⟩⟩))).2.1 (Kd.V_F (Kd.V_mono (ok' := (fun k_ => ((P0_1_ k_ ∨ P1_1_ k_ ∨ P2_1_ k_) ∨ w.heap.size ≤ k_) ∧ k_ ≠ gb478 ∧ k_ ≠ gb479 ∧ k_ ≠ gb480)) (HO0_1.out) (fun k_ hk => ⟨hk.1.1.1, ⟨hk.1.1.2, ⟨hk.1.2, hk.2⟩⟩⟩))))) (Reps.c2 (show Kd.FK k25 _ _ (⟨a1_0, l1_1⟩ : S25) [.bool a1_0, .slice A1_1 l1_1.length c1_1] from (k25_mkF _ _ (⟨a1_0, l1_1⟩ : S25) (Kd.V_reads' (Kd.V_mono (ok' := (fun k_ => ((P0_1_ k_ ∨ P1_1_ k_ ∨ P2_1_ k_) ∨ w.heap.size ≤ k_) ∧ k_ ≠ gb478 ∧ k_ ≠ gb479 ∧ k_ ≠ gb480)) (HO1_1.out) (fun k_ hk => ⟨hk.1.1.1, ⟨hk.1.1.2, ⟨hk.1.2, hk.2⟩⟩⟩))).2.1 (Kd.V_F (Kd.V_mono (ok' := (fun k_ => ((P0_1_ k_ ∨ P1_1_ k_ ∨ P2_1_ k_) ∨ w.heap.size ≤ k_) ∧ k_ ≠ gb478 ∧ k_ ≠ gb479 ∧ k_ ≠ gb480)) (HO1_1.out) (fun k_ hk => ⟨hk.1.1.1, ⟨hk.1.1.2, ⟨hk.1.2, hk.2⟩⟩⟩))))) (Reps.c2 (show Kd.FK k25 _ _ (⟨a2_0, l2_1⟩ : S25) [.bool a2_0, .slice A2_1 l2_1.length c2_1] from (k25_mkF _ _ (⟨a2_0, l2_1⟩ : S25) (Kd.V_reads' (Kd.V_mono (ok' := (fun k_ => ((P0_1_ k_ ∨ P1_1_ k_ ∨ P2_1_ k_) ∨ w.heap.size ≤ k_) ∧ k_ ≠ gb478 ∧ k_ ≠ gb479 ∧ k_ ≠ gb480)) (HO2_1.out) (fun k_ hk => ⟨hk.1.1.1, ⟨hk.1.1.2, ⟨hk.1.2, hk.2⟩⟩⟩))).2.1 (Kd.V_F (Kd.V_mono (ok' := (fun k_ => ((P0_1_ k_ ∨ P1_1_ k_ ∨ P2_1_ k_) ∨ w.heap.size ≤ k_) ∧ k_ ≠ gb478 ∧ k_ ≠ gb479 ∧ k_ ≠ gb480)) (HO2_1.out) (fun k_ hk => ⟨hk.1.1.1, ⟨hk.1.1.2, ⟨hk.1.2, hk.2⟩⟩⟩))))) (Reps.none _ _))))); intro v483 w21 ho22 hb hg_ hnew_; clear hg_ hnew_; (first | rw [← Ny482.out] at ho22 | (simp only [Int.reduceToNat] at ho22; rw [← Ny482.out] at ho22)); have n0_ := Aside0.mk (Kd.V_elder' (gV HO0_1.out) (Kd.N_base ho22) hb); have n1_ := Aside0.mk (Kd.V_elder' (gV HO1_1.out) (Kd.N_base ho22) hb); have n2_ := Aside0.mk (Kd.V_elder' (gV HO2_1.out) (Kd.N_base ho22) hb); have n3_ := Aside0.mk (Kd.N_lower ho22 (below_size (by repeat (first | (with_reducible first | exact HB.out | apply bA | apply bN | apply bD | refine bS ?_ GE478.out | refine bS ?_ GE479.out | refine bS ?_ GE480.out) | exact HB.out)))); have n4_ := Aside0.mk (blk_below (gK BK478.out) hb); have n5_ := Aside0.mk (blk_below (gK BK479.out) hb); have n6_ := Aside0.mk (blk_below (gK BK480.out) hb); have n7_ := Aside0.mk (below_step (by repeat (first | (with_reducible first | exact HB.out | apply bA | apply bN | apply bD | refine bS ?_ GE478.out | refine bS ?_ GE479.out | refine bS ?_ GE480.out) | exact HB.out)) hb); clear HO0_1; clear HO1_1; clear HO2_1; clear BK478; clear BK479; clear BK480; clear HB; have HO0_1 := n0_; have HO1_1 := n1_; have HO2_1 := n2_; have HO484 := n3_; have BK478 := n4_; have BK479 := n5_; have BK480 := n6_; have HB := n7_; clear n0_ n1_ n2_ n3_ n4_ n5_ n6_ n7_; clear hb ho22; obtain ⟨Ao23, co23, eo23⟩ := Kd.N_slice HO484.out; subst eo23) | ((with_reducible refine gate_callee (f := 10) rfl ?_); refine goesL_ (some 16) rfl rfl Try.func10 (by kernel_rfl) rfl #[.int .i64 20, .slice Ao23 y482.length co23] rfl (by (try simp only [List.map_toArray, List.map_cons, List.map_nil]); first | done | rfl | (simp only [List.length_drop, List.length_take]; rfl)) ?_; (with_reducible refine (isohyetlaw02_short.calls k 20 _ _ y482 true _ ?side1 ?side2 A6.out).mono ?_); (case side1 => repeat (first | exact (Kd.N_reads' HO484.out).2.2 | (with_reducible refine Kd.C_alloc ?_ _) | (with_reducible refine Kd.C_drewN ?_ _) | (with_reducible refine Kd.C_drew ?_))); (case side2 => exact (Kd.N_reads' HO484.out).2.1); (try clear A6); rintro e w24 ⟨rfl, hb⟩; refine ⟨_, rfl, ?_⟩; have n0_ := Aside0.mk (Kd.V_below (gV HO0_1.out) hb); have n1_ := Aside0.mk (Kd.V_below (gV HO1_1.out) hb); have n2_ := Aside0.mk (Kd.V_below (gV HO2_1.out) hb); have n3_ := Aside0.mk (Kd.N_below (gN HO484.out) hb); have n4_ := Aside0.mk (blk_below (gK BK478.out) hb); have n5_ := Aside0.mk (blk_below (gK BK479.out) hb); have n6_ := Aside0.mk (blk_below (gK BK480.out) hb); have n7_ := Aside0.mk (below_step (by repeat (first | (with_reducible first | exact HB.out | apply bA | apply bN | apply bD | refine bS ?_ GE478.out | refine bS ?_ GE479.out | refine bS ?_ GE480.out) | exact HB.out)) hb); clear HO0_1; clear HO1_1; clear HO2_1; clear HO484; clear BK478; clear BK479; clear BK480; clear HB; have HO0_1 := n0_; have HO1_1 := n1_; have HO2_1 := n2_; have HO484 := n3_; have BK478 := n4_; have BK479 := n5_; have BK480 := n6_; have HB := n7_; clear n0_ n1_ n2_ n3_ n4_ n5_ n6_ n7_; (try clear hb); (try clear hb2); (try clear hk); (try clear hi)))
   have n0_ := Aside0.mk (Kd.V_drew HO0_1.out)
   have n1_ := Aside0.mk (Kd.V_drew HO1_1.out)
   have n2_ := Aside0.mk (Kd.V_drew HO2_1.out)
   have n3_ := Aside0.mk (Kd.N_drew HO484.out)
   have n4_ := Aside0.mk (blk_drew BK478.out)
   have n5_ := Aside0.mk (blk_drew BK479.out)
   have n6_ := Aside0.mk (blk_drew BK480.out)
   have n7_ := Aside0.mk (bD HB.out)
   clear HO0_1
   clear HO1_1
   clear HO2_1
   clear HO484
   clear BK478
   clear BK479
   clear BK480
   clear HB
   have HO0_1 := n0_
   have HO1_1 := n1_
   have HO2_1 := n2_
   have HO484 := n3_
   have BK478 := n4_
   have BK479 := n5_
   have BK480 := n6_
   have HB := n7_
   clear n0_ n1_ n2_ n3_ n4_ n5_ n6_ n7_
   refine start_ (n := 8) (S := fun w' => w'.cell? ⟨gb478, 0, none⟩ = some (.bool a0_0) ∧ w'.cell? ⟨gb478, 1, none⟩ = some (.slice A0_1 l0_1.length c0_1) ∧ w'.cell? ⟨gb479, 0, none⟩ = some (.bool a1_0) ∧ w'.cell? ⟨gb479, 1, none⟩ = some (.slice A1_1 l1_1.length c1_1) ∧ w'.cell? ⟨gb480, 0, none⟩ = some (.bool a2_0) ∧ w'.cell? ⟨gb480, 1, none⟩ = some (.slice A2_1 l2_1.length c2_1)) (ds := []) #[false, false, false, false, false, false, false, false] (by kernel_rfl) rfl rfl ⟨(blk_cell BK478.out 0).trans rfl, (blk_cell BK478.out 1).trans rfl, (blk_cell BK479.out 0).trans rfl, (blk_cell BK479.out 1).trans rfl, (blk_cell BK480.out 0).trans rfl, (blk_cell BK480.out 1).trans rfl⟩ (fun hHeld => ?_); refine with_tabW isohyetlaw02_NumOrders.tab5 isohyetlaw02_NumOrders.bits5 (fun HT_ HW_ => ?_)
   generalize w24.drew = w25 at HO0_1 HO1_1 HO2_1 HO484 BK478 BK479 BK480 HB hHeld ⊢
   refine take_ (i := 0) (N := some 18) (v := ?_) (a' := ?_) #[true, false, false, false, false, false, false, false] rfl rfl (take_ofW HT_.out HW_.out (by kernel_rfl)) (fun _ _ _ h => h) (Or.inl ⟨by rfl, ?_⟩) hHeld ?_ ?_
   rotate_left
   ·rintro w' ⟨s0, s1, s2, s3, s4, s5⟩
    go_simp
    with_reducible rfl
   rotate_left
   ·simp only [Act.put, List.setIfInBounds_toArray, List.set_cons_zero, List.set_cons_succ, i64_w, i32_w]
    rfl
   refine take_ (i := 1) (N := some 19) (v := ?_) (a' := ?_) #[true, true, false, false, false, false, false, false] rfl rfl (take_ofW HT_.out HW_.out (by kernel_rfl)) (fun _ _ _ h => h) (Or.inl ⟨by rfl, ?_⟩) hHeld ?_ ?_
   rotate_left
   ·rintro w' ⟨s0, s1, s2, s3, s4, s5⟩
    go_simp
    with_reducible rfl
   rotate_left
   ·simp only [Act.put, List.setIfInBounds_toArray, List.set_cons_zero, List.set_cons_succ, i64_w, i32_w]
    rfl
   refine take_ (i := 3) (N := some 21) (v := ?_) (a' := ?_) #[true, true, false, true, false, false, false, false] rfl rfl (take_ofW HT_.out HW_.out (by kernel_rfl)) (fun _ _ _ h => h) (Or.inl ⟨by rfl, ?_⟩) hHeld ?_ ?_
   rotate_left
   ·rintro w' ⟨s0, s1, s2, s3, s4, s5⟩
    go_simp
    with_reducible rfl
   rotate_left
   ·simp only [Act.put, List.setIfInBounds_toArray, List.set_cons_zero, List.set_cons_succ, i64_w, i32_w]
    rfl
   refine take_ (i := 4) (N := some 22) (v := ?_) (a' := ?_) #[true, true, false, true, true, false, false, false] rfl rfl (take_ofW HT_.out HW_.out (by kernel_rfl)) (fun _ _ _ h => h) (Or.inl ⟨by rfl, ?_⟩) hHeld ?_ ?_
   rotate_left
   ·rintro w' ⟨s0, s1, s2, s3, s4, s5⟩
    go_simp
    with_reducible rfl
   rotate_left
   ·simp only [Act.put, List.setIfInBounds_toArray, List.set_cons_zero, List.set_cons_succ, i64_w, i32_w]
    rfl
   refine one_ (i := 2) (N := some 20) #[true, true, true, true, true, false, false, false] rfl rfl (one_of HT_.out (by kernel_rfl)) (by decide) (fun K hK => ?_)
   refine goes_ Try.func14 (by kernel_rfl) rfl #[.agg #[.bool a0_0, .slice A0_1 l0_1.length c0_1], .agg #[.bool a1_0, .slice A1_1 l1_1.length c1_1]] (by rfl) rfl rfl (by (try simp only [List.map_toArray, List.map_cons, List.map_nil]); first | done | rfl | (simp only [List.length_drop, List.length_take]; rfl)) ?_
   with_reducible refine (num_Cmp.calls k a0_0 _ _ l0_1 a1_0 _ _ l1_1 t486 _ ?side1 ?side2 ?side3 ?side4 A8.out).mono ?_
   (case side1 => repeat (first | exact (Kd.V_reads' HO0_1.out).2.2 | (with_reducible refine Kd.C_alloc ?_ _) | (with_reducible refine Kd.C_drewN ?_ _) | (with_reducible refine Kd.C_drew ?_)))
   (case side2 => exact (Kd.V_reads' HO0_1.out).2.1)
   (case side3 => repeat (first | exact (Kd.V_reads' HO1_1.out).2.2 | (with_reducible refine Kd.C_alloc ?_ _) | (with_reducible refine Kd.C_drewN ?_ _) | (with_reducible refine Kd.C_drew ?_)))
   (case side4 => exact (Kd.V_reads' HO1_1.out).2.1)
   rintro e w26 ⟨rfl, hb⟩
   refine ⟨_, rfl, ?_⟩
   have n0_ := Aside0.mk (Kd.V_below (gV HO0_1.out) hb)
   have n1_ := Aside0.mk (Kd.V_below (gV HO1_1.out) hb)
   have n2_ := Aside0.mk (Kd.V_below (gV HO2_1.out) hb)
   have n3_ := Aside0.mk (Kd.N_below (gN HO484.out) hb)
   have n4_ := Aside0.mk (blk_below (gK BK478.out) hb)
   have n5_ := Aside0.mk (blk_below (gK BK479.out) hb)
   have n6_ := Aside0.mk (blk_below (gK BK480.out) hb)
   have n7_ := Aside0.mk (below_step (by repeat (first | (with_reducible first | exact HB.out | apply bA | apply bN | apply bD | refine bS ?_ GE478.out | refine bS ?_ GE479.out | refine bS ?_ GE480.out) | exact HB.out)) hb)
   clear HO0_1
   clear HO1_1
   clear HO2_1
   clear HO484
   clear BK478
   clear BK479
   clear BK480
   clear HB
   have HO0_1 := n0_
   have HO1_1 := n1_
   have HO2_1 := n2_
   have HO484 := n3_
   have BK478 := n4_
   have BK479 := n5_
   have BK480 := n6_
   have HB := n7_
   clear n0_ n1_ n2_ n3_ n4_ n5_ n6_ n7_
   (try clear hb)
   (try clear hb2)
   (try clear hk)
   (try clear hi)
   refine hK.out _ _ ⟨(blk_cell BK478.out 0).trans rfl, (blk_cell BK478.out 1).trans rfl, (blk_cell BK479.out 0).trans rfl, (blk_cell BK479.out 1).trans rfl, (blk_cell BK480.out 0).trans rfl, (blk_cell BK480.out 1).trans rfl⟩ (fun hHeld => ?_)
   clear hK K
   refine norm_ (a' := ?_) ?_ ?_
   rotate_left
   ·show Act.put _ (some 20) _ = _
    simp only [Act.put, List.setIfInBounds_toArray, List.set_cons_zero, List.set_cons_succ, i64_w, i32_w]
    rfl
   refine one_ (i := 5) (N := some 23) #[true, true, true, true, true, true, false, false] rfl rfl (one_of HT_.out (by kernel_rfl)) (by decide) (fun K hK => ?_)
   refine goes_ Try.func14 (by kernel_rfl) rfl #[.agg #[.bool a1_0, .slice A1_1 l1_1.length c1_1], .agg #[.bool a2_0, .slice A2_1 l2_1.length c2_1]] (by rfl) rfl rfl (by (try simp only [List.map_toArray, List.map_cons, List.map_nil]); first | done | rfl | (simp only [List.length_drop, List.length_take]; rfl)) ?_
   with_reducible refine (num_Cmp.calls k a1_0 _ _ l1_1 a2_0 _ _ l2_1 t487 _ ?side1 ?side2 ?side3 ?side4 A9.out).mono ?_
   (case side1 => repeat (first | exact (Kd.V_reads' HO1_1.out).2.2 | (with_reducible refine Kd.C_alloc ?_ _) | (with_reducible refine Kd.C_drewN ?_ _) | (with_reducible refine Kd.C_drew ?_)))
   (case side2 => exact (Kd.V_reads' HO1_1.out).2.1)
   (case side3 => repeat (first | exact (Kd.V_reads' HO2_1.out).2.2 | (with_reducible refine Kd.C_alloc ?_ _) | (with_reducible refine Kd.C_drewN ?_ _) | (with_reducible refine Kd.C_drew ?_)))
   (case side4 => exact (Kd.V_reads' HO2_1.out).2.1)
   rintro e w27 ⟨rfl, hb⟩
   refine ⟨_, rfl, ?_⟩
   have n0_ := Aside0.mk (Kd.V_below (gV HO0_1.out) hb)
   have n1_ := Aside0.mk (Kd.V_below (gV HO1_1.out) hb)
   have n2_ := Aside0.mk (Kd.V_below (gV HO2_1.out) hb)
   have n3_ := Aside0.mk (Kd.N_below (gN HO484.out) hb)
   have n4_ := Aside0.mk (blk_below (gK BK478.out) hb)
   have n5_ := Aside0.mk (blk_below (gK BK479.out) hb)
   have n6_ := Aside0.mk (blk_below (gK BK480.out) hb)
   have n7_ := Aside0.mk (below_step (by repeat (first | (with_reducible first | exact HB.out | apply bA | apply bN | apply bD | refine bS ?_ GE478.out | refine bS ?_ GE479.out | refine bS ?_ GE480.out) | exact HB.out)) hb)
   clear HO0_1
   clear HO1_1
   clear HO2_1
   clear HO484
   clear BK478
   clear BK479
   clear BK480
   clear HB
   have HO0_1 := n0_
   have HO1_1 := n1_
   have HO2_1 := n2_
   have HO484 := n3_
   have BK478 := n4_
   have BK479 := n5_
   have BK480 := n6_
   have HB := n7_
   clear n0_ n1_ n2_ n3_ n4_ n5_ n6_ n7_
   (try clear hb)
   (try clear hb2)
   (try clear hk)
   (try clear hi)
   refine hK.out _ _ ⟨(blk_cell BK478.out 0).trans rfl, (blk_cell BK478.out 1).trans rfl, (blk_cell BK479.out 0).trans rfl, (blk_cell BK479.out 1).trans rfl, (blk_cell BK480.out 0).trans rfl, (blk_cell BK480.out 1).trans rfl⟩ (fun hHeld => ?_)
   clear hK K
   refine norm_ (a' := ?_) ?_ ?_
   rotate_left
   ·show Act.put _ (some 23) _ = _
    simp only [Act.put, List.setIfInBounds_toArray, List.set_cons_zero, List.set_cons_succ, i64_w, i32_w]
    rfl
   refine pure_ (i := 6) (N := some 7) (v := ?_) (a' := ?_) #[true, true, true, true, true, true, true, false] rfl rfl (any_of HT_.out (by kernel_rfl)) (fun _ _ _ h => h) (Or.inl ⟨by rfl, ?_⟩) ?_ ?_
   rotate_left
   ·intro w'
    go_simp
    with_reducible rfl
   rotate_left
   ·simp only [Act.put, List.setIfInBounds_toArray, List.set_cons_zero, List.set_cons_succ, i64_w, i32_w]
    rfl
   refine pure_ (i := 7) (N := some 8) (v := ?_) (a' := ?_) #[true, true, true, true, true, true, true, true] rfl rfl (any_of HT_.out (by kernel_rfl)) (fun _ _ _ h => h) (Or.inl ⟨by rfl, ?_⟩) ?_ ?_
   rotate_left
   ·intro w'
    go_simp
    with_reducible rfl
   rotate_left
   ·simp only [Act.put, List.setIfInBounds_toArray, List.set_cons_zero, List.set_cons_succ, i64_w, i32_w]
    rfl
   refine done_ (done_of HT_.out (by kernel_rfl)) ?_
   go_upto_region 6 with (fail)
   go_cut [48] (fun v48 wc => ∃ (kq : Nat) (x48_9 : Bool), v48 = .bool x48_9 ∧ Aside0 (isohyetlaw02_NumOrders.j0 kq t486 t487 x48_9 a0_0 l0_1 a2_0 l2_1 = some r) ∧ Aside0 (kq ≤ k) ∧ Aside0 (Kd.V (Kd.int .u64) 54 wc w.heap.size (fun k_ => ((P0_1_ k_ ∨ P1_1_ k_ ∨ P2_1_ k_) ∨ w.heap.size ≤ k_) ∧ k_ ≠ gb478 ∧ k_ ≠ gb479 ∧ k_ ≠ gb480) (.slice A0_1 l0_1.length c0_1) l0_1) ∧ Aside0 (Kd.V (Kd.int .u64) 54 wc w.heap.size (fun k_ => ((P0_1_ k_ ∨ P1_1_ k_ ∨ P2_1_ k_) ∨ w.heap.size ≤ k_) ∧ k_ ≠ gb478 ∧ k_ ≠ gb479 ∧ k_ ≠ gb480) (.slice A1_1 l1_1.length c1_1) l1_1) ∧ Aside0 (Kd.V (Kd.int .u64) 54 wc w.heap.size (fun k_ => ((P0_1_ k_ ∨ P1_1_ k_ ∨ P2_1_ k_) ∨ w.heap.size ≤ k_) ∧ k_ ≠ gb478 ∧ k_ ≠ gb479 ∧ k_ ≠ gb480) (.slice A2_1 l2_1.length c2_1) l2_1) ∧ Aside0 (wc.heap[gb478]? = some (.cells #[.bool a0_0, (.slice A0_1 l0_1.length c0_1)] 25 (0, 0))) ∧ Aside0 (wc.heap[gb479]? = some (.cells #[.bool a1_0, (.slice A1_1 l1_1.length c1_1)] 25 (0, 0))) ∧ Aside0 (wc.heap[gb480]? = some (.cells #[.bool a2_0, (.slice A2_1 l2_1.length c2_1)] 25 (0, 0))) ∧ Aside0 (Below w.heap.size w wc))
   case first =>
    have H := HC10.out
    clear HC10
    replace H := Option.bind_eq_some_iff.mp H
    obtain ⟨⟨t488, t489⟩, A280, H⟩ := H
    replace H : ((num_Sign.f k t488 t489).bind fun t492 => (if t486 = t492 then ((num_Cmp.f k a1_0 l1_1 a0_0 l0_1).bind fun t493 => (if t486 = (wrap64 (-t493)) then ((num_Add.f k a0_0 l0_1 a2_0 l2_1).bind fun bt494 => ((num_Add.f k a1_0 l1_1 a2_0 l2_1).bind fun bt498 => ((num_Cmp.f k bt494.1 bt494.2 bt498.1 bt498.2).bind fun t502 => (isohyetlaw02_NumOrders.j0 k t486 t487 (t486 != t502) a0_0 l0_1 a2_0 l2_1)))) else (isohyetlaw02_NumOrders.j0 k t486 t487 true a0_0 l0_1 a2_0 l2_1))) else (isohyetlaw02_NumOrders.j0 k t486 t487 true a0_0 l0_1 a2_0 l2_1))) = some r := H
    have A28 := Aside0.mk A280
    clear A280
    replace H := Option.bind_eq_some_iff.mp H
    obtain ⟨t492, A290, H⟩ := H
    replace H : (if t486 = t492 then ((num_Cmp.f k a1_0 l1_1 a0_0 l0_1).bind fun t493 => (if t486 = (wrap64 (-t493)) then ((num_Add.f k a0_0 l0_1 a2_0 l2_1).bind fun bt494 => ((num_Add.f k a1_0 l1_1 a2_0 l2_1).bind fun bt498 => ((num_Cmp.f k bt494.1 bt494.2 bt498.1 bt498.2).bind fun t502 => (isohyetlaw02_NumOrders.j0 k t486 t487 (t486 != t502) a0_0 l0_1 a2_0 l2_1)))) else (isohyetlaw02_NumOrders.j0 k t486 t487 true a0_0 l0_1 a2_0 l2_1))) else (isohyetlaw02_NumOrders.j0 k t486 t487 true a0_0 l0_1 a2_0 l2_1)) = some r := H
    have A29 := Aside0.mk A290
    clear A290
    by_cases c30 : t486 = t492
    ·rw [if_pos c30] at H
     have c30b0 : (t486 == t492) = true := beq_iff_eq.mpr c30
     have c30b1 : (t486 != t492) = false := bne_eq_false_iff_eq.mpr c30
     clear c30
     (first | rw [c30b0] | rw [c30b1] | (simp only [i64_w, i32_w]; rw [c30b0]) | skip)
     replace H := Option.bind_eq_some_iff.mp H
     obtain ⟨t493, A310, H⟩ := H
     replace H : (if t486 = (wrap64 (-t493)) then ((num_Add.f k a0_0 l0_1 a2_0 l2_1).bind fun bt494 => ((num_Add.f k a1_0 l1_1 a2_0 l2_1).bind fun bt498 => ((num_Cmp.f k bt494.1 bt494.2 bt498.1 bt498.2).bind fun t502 => (isohyetlaw02_NumOrders.j0 k t486 t487 (t486 != t502) a0_0 l0_1 a2_0 l2_1)))) else (isohyetlaw02_NumOrders.j0 k t486 t487 true a0_0 l0_1 a2_0 l2_1)) = some r := H
     have A31 := Aside0.mk A310
     clear A310
     by_cases c32 : t486 = (wrap64 (-t493))
     ·rw [if_pos c32] at H
      have c32b0 : (t486 == (wrap64 (-t493))) = true := beq_iff_eq.mpr c32
      have c32b1 : (t486 != (wrap64 (-t493))) = false := bne_eq_false_iff_eq.mpr c32
      clear c32
      replace H := Option.bind_eq_some_iff.mp H
      obtain ⟨⟨t494, t495⟩, A330, H⟩ := H
      replace H : ((num_Add.f k a1_0 l1_1 a2_0 l2_1).bind fun bt498 => ((num_Cmp.f k t494 t495 bt498.1 bt498.2).bind fun t502 => (isohyetlaw02_NumOrders.j0 k t486 t487 (t486 != t502) a0_0 l0_1 a2_0 l2_1))) = some r := H
      have A33 := Aside0.mk A330
      clear A330
      replace H := Option.bind_eq_some_iff.mp H
      obtain ⟨⟨t498, t499⟩, A340, H⟩ := H
      replace H : ((num_Cmp.f k t494 t495 t498 t499).bind fun t502 => (isohyetlaw02_NumOrders.j0 k t486 t487 (t486 != t502) a0_0 l0_1 a2_0 l2_1)) = some r := H
      have A34 := Aside0.mk A340
      clear A340
      replace H := Option.bind_eq_some_iff.mp H
      obtain ⟨t502, A350, H⟩ := H
      replace H : (isohyetlaw02_NumOrders.j0 k t486 t487 (t486 != t502) a0_0 l0_1 a2_0 l2_1) = some r := H
      have A35 := Aside0.mk A350
      clear A350
      have H' := Aside0.mk H
      clear H
      try go_wp2
      have n0_ := Aside0.mk (Kd.V_drew HO0_1.out)
      have n1_ := Aside0.mk (Kd.V_drew HO1_1.out)
      have n2_ := Aside0.mk (Kd.V_drew HO2_1.out)
      have n3_ := Aside0.mk (Kd.N_drew HO484.out)
      have n4_ := Aside0.mk (blk_drew BK478.out)
      have n5_ := Aside0.mk (blk_drew BK479.out)
      have n6_ := Aside0.mk (blk_drew BK480.out)
      have n7_ := Aside0.mk (bD HB.out)
      clear HO0_1
      clear HO1_1
      clear HO2_1
      clear HO484
      clear BK478
      clear BK479
      clear BK480
      clear HB
      have HO0_1 := n0_
      have HO1_1 := n1_
      have HO2_1 := n2_
      have HO484 := n3_
      have BK478 := n4_
      have BK479 := n5_
      have BK480 := n6_
      have HB := n7_
      clear n0_ n1_ n2_ n3_ n4_ n5_ n6_ n7_
      refine start_ (n := 25) (S := fun w' => w'.cell? ⟨gb478, 0, none⟩ = some (.bool a0_0) ∧ w'.cell? ⟨gb478, 1, none⟩ = some (.slice A0_1 l0_1.length c0_1) ∧ w'.cell? ⟨gb479, 0, none⟩ = some (.bool a1_0) ∧ w'.cell? ⟨gb479, 1, none⟩ = some (.slice A1_1 l1_1.length c1_1) ∧ w'.cell? ⟨gb480, 0, none⟩ = some (.bool a2_0) ∧ w'.cell? ⟨gb480, 1, none⟩ = some (.slice A2_1 l2_1.length c2_1)) (ds := []) #[false, false, false, false, false, false, false, false, false, false, false, false, false, false, false, false, false, false, false, false, false, false, false, false, false] (by kernel_rfl) rfl rfl ⟨(blk_cell BK478.out 0).trans rfl, (blk_cell BK478.out 1).trans rfl, (blk_cell BK479.out 0).trans rfl, (blk_cell BK479.out 1).trans rfl, (blk_cell BK480.out 0).trans rfl, (blk_cell BK480.out 1).trans rfl⟩ (fun hHeld => ?_); refine with_tabW isohyetlaw02_NumOrders.tab6 isohyetlaw02_NumOrders.bits6 (fun HT_ HW_ => ?_)
      generalize w27.drew = w36 at HO0_1 HO1_1 HO2_1 HO484 BK478 BK479 BK480 HB hHeld ⊢
      refine pure_ (i := 0) (N := some 24) (v := ?_) (a' := ?_) #[true, false, false, false, false, false, false, false, false, false, false, false, false, false, false, false, false, false, false, false, false, false, false, false, false] rfl rfl (any_of HT_.out (by kernel_rfl)) (fun _ _ _ h => h) (Or.inl ⟨by rfl, ?_⟩) ?_ ?_
      rotate_left
      ·intro w'
       go_simp
       with_reducible rfl
      rotate_left
      ·simp only [Act.put, List.setIfInBounds_toArray, List.set_cons_zero, List.set_cons_succ, i64_w, i32_w]
       rfl
      refine take_ (i := 1) (N := some 25) (v := ?_) (a' := ?_) #[true, true, false, false, false, false, false, false, false, false, false, false, false, false, false, false, false, false, false, false, false, false, false, false, false] rfl rfl (take_ofW HT_.out HW_.out (by kernel_rfl)) (fun _ _ _ h => h) (Or.inl ⟨by rfl, ?_⟩) hHeld ?_ ?_
      rotate_left
      ·rintro w' ⟨s0, s1, s2, s3, s4, s5⟩
       go_simp
       with_reducible rfl
      rotate_left
      ·simp only [Act.put, List.setIfInBounds_toArray, List.set_cons_zero, List.set_cons_succ, i64_w, i32_w]
       rfl
      refine take_ (i := 2) (N := some 26) (v := ?_) (a' := ?_) #[true, true, true, false, false, false, false, false, false, false, false, false, false, false, false, false, false, false, false, false, false, false, false, false, false] rfl rfl (take_ofW HT_.out HW_.out (by kernel_rfl)) (fun _ _ _ h => h) (Or.inl ⟨by rfl, ?_⟩) hHeld ?_ ?_
      rotate_left
      ·rintro w' ⟨s0, s1, s2, s3, s4, s5⟩
       go_simp
       with_reducible rfl
      rotate_left
      ·simp only [Act.put, List.setIfInBounds_toArray, List.set_cons_zero, List.set_cons_succ, i64_w, i32_w]
       rfl
      refine one_ (i := 3) (N := some 27) #[true, true, true, true, false, false, false, false, false, false, false, false, false, false, false, false, false, false, false, false, false, false, false, false, false] rfl rfl (one_of HT_.out (by kernel_rfl)) (by decide) (fun K hK => ?_)
      refine goes_ Try.func16 (by kernel_rfl) rfl #[.agg #[.bool a0_0, .slice A0_1 l0_1.length c0_1], .agg #[.bool a1_0, .slice A1_1 l1_1.length c1_1]] (by rfl) rfl rfl (by (try simp only [List.map_toArray, List.map_cons, List.map_nil]); first | done | rfl | (simp only [List.length_drop, List.length_take]; rfl)) ?_
      with_reducible refine (num_Sub.calls k a0_0 (fun k_ => ((((((P0_1_ k_ ∨ P1_1_ k_ ∨ P2_1_ k_) ∨ w.heap.size ≤ k_) ∧ k_ ≠ gb478) ∧ k_ ≠ gb479) ∧ k_ ≠ gb480) ∧ some k_ ≠ (.slice Ao23 y482.length co23 : Value).ownBlock)) _ _ l0_1 a1_0 (fun k_ => ((((((P0_1_ k_ ∨ P1_1_ k_ ∨ P2_1_ k_) ∨ w.heap.size ≤ k_) ∧ k_ ≠ gb478) ∧ k_ ≠ gb479) ∧ k_ ≠ gb480) ∧ some k_ ≠ (.slice Ao23 y482.length co23 : Value).ownBlock)) _ _ l1_1 t488 t489 _ ?side1 ?side2 A28.out).mono ?_
      (case side1 => exact HO0_1.out)
      (case side2 => exact HO1_1.out)
      rintro e w37 ⟨v490, rfl, ho0, hb⟩
      refine ⟨_, rfl, ?_⟩
      have n0_ := Aside0.mk (Kd.V_below (gV HO0_1.out) hb)
      have n1_ := Aside0.mk (Kd.V_below (gV HO1_1.out) hb)
      have n2_ := Aside0.mk (Kd.V_below (gV HO2_1.out) hb)
      have n3_ := Aside0.mk (Kd.N_below (gN HO484.out) hb)
      have n4_ := Aside0.mk (Kd.V_lower (Kd.V_mono (ok' := fun k_ => ((P0_1_ k_ ∨ P1_1_ k_ ∨ P2_1_ k_) ∨ w.heap.size ≤ k_) ∧ some k_ ≠ (.slice Ao23 y482.length co23 : Value).ownBlock ∧ k_ ≠ gb478 ∧ k_ ≠ gb479 ∧ k_ ≠ gb480) ho0 (fun k_ hk_ => ⟨Or.elim hk_ (fun hs_ => Or.elim hs_ (fun hs_ => hs_.1.1.1.1) (fun hs_ => hs_.1.1.1.1)) (fun hn_ => (.inr (Nat.le_trans (below_size (by repeat (first | (with_reducible first | exact HB.out | apply bA | apply bN | apply bD | refine bS ?_ GE478.out | refine bS ?_ GE479.out | refine bS ?_ GE480.out) | exact HB.out))) hn_))), Or.elim hk_ (fun hs_ => Or.elim hs_ (fun hs_ => hs_.2) (fun hs_ => hs_.2)) (fun hn_ => (Kd.fresh' (Kd.N_lt (gN HO484.out)) k_ hn_)), Or.elim hk_ (fun hs_ => Or.elim hs_ (fun hs_ => hs_.1.1.1.2) (fun hs_ => hs_.1.1.1.2)) (fun hn_ => (Kd.freshB (g := gb478) (o := .cells #[.bool a0_0, .slice A0_1 l0_1.length c0_1] 25 (0, 0)) (gK BK478.out) k_ hn_)), Or.elim hk_ (fun hs_ => Or.elim hs_ (fun hs_ => hs_.1.1.2) (fun hs_ => hs_.1.1.2)) (fun hn_ => (Kd.freshB (g := gb479) (o := .cells #[.bool a1_0, .slice A1_1 l1_1.length c1_1] 25 (0, 0)) (gK BK479.out) k_ hn_)), Or.elim hk_ (fun hs_ => Or.elim hs_ (fun hs_ => hs_.1.2) (fun hs_ => hs_.1.2)) (fun hn_ => (Kd.freshB (g := gb480) (o := .cells #[.bool a2_0, .slice A2_1 l2_1.length c2_1] 25 (0, 0)) (gK BK480.out) k_ hn_))⟩)) (below_size (by repeat (first | (with_reducible first | exact HB.out | apply bA | apply bN | apply bD | refine bS ?_ GE478.out | refine bS ?_ GE479.out | refine bS ?_ GE480.out) | exact HB.out))))
      have n5_ := Aside0.mk (blk_below (gK BK478.out) hb)
      have n6_ := Aside0.mk (blk_below (gK BK479.out) hb)
      have n7_ := Aside0.mk (blk_below (gK BK480.out) hb)
      have n8_ := Aside0.mk (below_step (by repeat (first | (with_reducible first | exact HB.out | apply bA | apply bN | apply bD | refine bS ?_ GE478.out | refine bS ?_ GE479.out | refine bS ?_ GE480.out) | exact HB.out)) hb)
      clear HO0_1
      clear HO1_1
      clear HO2_1
      clear HO484
      clear BK478
      clear BK479
      clear BK480
      clear HB
      have HO0_1 := n0_
      have HO1_1 := n1_
      have HO2_1 := n2_
      have HO484 := n3_
      have HO491 := n4_
      have BK478 := n5_
      have BK479 := n6_
      have BK480 := n7_
      have HB := n8_
      clear n0_ n1_ n2_ n3_ n4_ n5_ n6_ n7_ n8_
      (try clear hb)
      (try clear hb2)
      (try clear hk)
      (try clear hi)
      (try clear ho0)
      obtain ⟨Ao38, co38, eo38⟩ := Kd.V_slice HO491.out
      (first | subst eo38 | (injection eo38 with f1_ f2_ f3_; have f4_ := f1_.symm; have f5_ := f3_.symm; clear f1_ f2_ f3_; subst f4_; subst f5_))
      refine hK.out _ _ ⟨(blk_cell BK478.out 0).trans rfl, (blk_cell BK478.out 1).trans rfl, (blk_cell BK479.out 0).trans rfl, (blk_cell BK479.out 1).trans rfl, (blk_cell BK480.out 0).trans rfl, (blk_cell BK480.out 1).trans rfl⟩ (fun hHeld => ?_)
      clear hK K
      refine norm_ (a' := ?_) ?_ ?_
      rotate_left
      ·show Act.put _ (some 27) _ = _
       simp only [Act.put, List.setIfInBounds_toArray, List.set_cons_zero, List.set_cons_succ, i64_w, i32_w]
       rfl
      refine one_ (i := 4) (N := some 28) #[true, true, true, true, true, false, false, false, false, false, false, false, false, false, false, false, false, false, false, false, false, false, false, false, false] rfl rfl (one_of HT_.out (by kernel_rfl)) (by decide) (fun K hK => ?_)
      refine goes_ Try.func15 (by kernel_rfl) rfl #[.agg #[.bool t488, .slice Ao38 t489.length co38]] (by rfl) rfl rfl (by (try simp only [List.map_toArray, List.map_cons, List.map_nil]); first | done | rfl | (simp only [List.length_drop, List.length_take]; rfl)) ?_
      with_reducible refine (num_Sign.calls k t488 _ _ t489 t492 _ ?side1 ?side2 A29.out).mono ?_
      (case side1 => repeat (first | exact (Kd.V_reads' HO491.out).2.2 | (with_reducible refine Kd.C_alloc ?_ _) | (with_reducible refine Kd.C_drewN ?_ _) | (with_reducible refine Kd.C_drew ?_)))
      (case side2 => exact (Kd.V_reads' HO491.out).2.1)
      rintro e w39 ⟨rfl, hb⟩
      refine ⟨_, rfl, ?_⟩
      have n0_ := Aside0.mk (Kd.V_below (gV HO0_1.out) hb)
      have n1_ := Aside0.mk (Kd.V_below (gV HO1_1.out) hb)
      have n2_ := Aside0.mk (Kd.V_below (gV HO2_1.out) hb)
      have n3_ := Aside0.mk (Kd.N_below (gN HO484.out) hb)
      have n4_ := Aside0.mk (Kd.V_below (gV HO491.out) hb)
      have n5_ := Aside0.mk (blk_below (gK BK478.out) hb)
      have n6_ := Aside0.mk (blk_below (gK BK479.out) hb)
      have n7_ := Aside0.mk (blk_below (gK BK480.out) hb)
      have n8_ := Aside0.mk (below_step (by repeat (first | (with_reducible first | exact HB.out | apply bA | apply bN | apply bD | refine bS ?_ GE478.out | refine bS ?_ GE479.out | refine bS ?_ GE480.out) | exact HB.out)) hb)
      clear HO0_1
      clear HO1_1
      clear HO2_1
      clear HO484
      clear HO491
      clear BK478
      clear BK479
      clear BK480
      clear HB
      have HO0_1 := n0_
      have HO1_1 := n1_
      have HO2_1 := n2_
      have HO484 := n3_
      have HO491 := n4_
      have BK478 := n5_
      have BK479 := n6_
      have BK480 := n7_
      have HB := n8_
      clear n0_ n1_ n2_ n3_ n4_ n5_ n6_ n7_ n8_
      (try clear hb)
      (try clear hb2)
      (try clear hk)
      (try clear hi)
      refine hK.out _ _ ⟨(blk_cell BK478.out 0).trans rfl, (blk_cell BK478.out 1).trans rfl, (blk_cell BK479.out 0).trans rfl, (blk_cell BK479.out 1).trans rfl, (blk_cell BK480.out 0).trans rfl, (blk_cell BK480.out 1).trans rfl⟩ (fun hHeld => ?_)
      clear hK K
      refine norm_ (a' := ?_) ?_ ?_
      rotate_left
      ·show Act.put _ (some 28) _ = _
       simp only [Act.put, List.setIfInBounds_toArray, List.set_cons_zero, List.set_cons_succ, i64_w, i32_w]
       rfl
      refine pure_ (i := 5) (N := some 29) (v := ?_) (a' := ?_) #[true, true, true, true, true, true, false, false, false, false, false, false, false, false, false, false, false, false, false, false, false, false, false, false, false] rfl rfl (any_of HT_.out (by kernel_rfl)) (fun _ _ _ h => h) (Or.inl ⟨by rfl, ?_⟩) ?_ ?_
      rotate_left
      ·intro w'
       go_simp
       with_reducible rfl
      rotate_left
      ·simp only [Act.put, List.setIfInBounds_toArray, List.set_cons_zero, List.set_cons_succ, i64_w, i32_w]
       rfl
      refine pure_ (i := 6) (N := some 30) (v := ?_) (a' := ?_) #[true, true, true, true, true, true, true, false, false, false, false, false, false, false, false, false, false, false, false, false, false, false, false, false, false] rfl rfl (any_of HT_.out (by kernel_rfl)) (fun _ _ _ h => h) (Or.inl ⟨by rfl, ?_⟩) ?_ ?_
      rotate_left
      ·intro w'
       go_simp
       with_reducible rfl
      rotate_left
      ·simp only [Act.put, List.setIfInBounds_toArray, List.set_cons_zero, List.set_cons_succ, i64_w, i32_w]
       rfl
      refine pure_ (i := 7) (N := some 31) (v := ?_) (a' := ?_) #[true, true, true, true, true, true, true, true, false, false, false, false, false, false, false, false, false, false, false, false, false, false, false, false, false] rfl rfl (any_of HT_.out (by kernel_rfl)) (fun _ _ _ h => h) (Or.inl ⟨by rfl, ?_⟩) ?_ ?_
      rotate_left
      ·intro w'
       go_simp
       with_reducible rfl
      rotate_left
      ·simp only [Act.put, List.setIfInBounds_toArray, List.set_cons_zero, List.set_cons_succ, i64_w, i32_w]
       rfl
      refine take_ (i := 8) (N := some 32) (v := ?_) (a' := ?_) #[true, true, true, true, true, true, true, true, true, false, false, false, false, false, false, false, false, false, false, false, false, false, false, false, false] rfl rfl (take_ofW HT_.out HW_.out (by kernel_rfl)) (fun _ _ _ h => h) (Or.inl ⟨by rfl, ?_⟩) hHeld ?_ ?_
      rotate_left
      ·rintro w' ⟨s0, s1, s2, s3, s4, s5⟩
       go_simp
       with_reducible rfl
      rotate_left
      ·simp only [Act.put, List.setIfInBounds_toArray, List.set_cons_zero, List.set_cons_succ, i64_w, i32_w]
       rfl
      refine take_ (i := 9) (N := some 33) (v := ?_) (a' := ?_) #[true, true, true, true, true, true, true, true, true, true, false, false, false, false, false, false, false, false, false, false, false, false, false, false, false] rfl rfl (take_ofW HT_.out HW_.out (by kernel_rfl)) (fun _ _ _ h => h) (Or.inl ⟨by rfl, ?_⟩) hHeld ?_ ?_
      rotate_left
      ·rintro w' ⟨s0, s1, s2, s3, s4, s5⟩
       go_simp
       with_reducible rfl
      rotate_left
      ·simp only [Act.put, List.setIfInBounds_toArray, List.set_cons_zero, List.set_cons_succ, i64_w, i32_w]
       rfl
      refine one_ (i := 10) (N := some 34) #[true, true, true, true, true, true, true, true, true, true, true, false, false, false, false, false, false, false, false, false, false, false, false, false, false] rfl rfl (one_of HT_.out (by kernel_rfl)) (by decide) (fun K hK => ?_)
      refine goes_ Try.func14 (by kernel_rfl) rfl #[.agg #[.bool a1_0, .slice A1_1 l1_1.length c1_1], .agg #[.bool a0_0, .slice A0_1 l0_1.length c0_1]] (by rfl) rfl rfl (by (try simp only [List.map_toArray, List.map_cons, List.map_nil]); first | done | rfl | (simp only [List.length_drop, List.length_take]; rfl)) ?_
      with_reducible refine (num_Cmp.calls k a1_0 _ _ l1_1 a0_0 _ _ l0_1 t493 _ ?side1 ?side2 ?side3 ?side4 A31.out).mono ?_
      (case side1 => repeat (first | exact (Kd.V_reads' HO1_1.out).2.2 | (with_reducible refine Kd.C_alloc ?_ _) | (with_reducible refine Kd.C_drewN ?_ _) | (with_reducible refine Kd.C_drew ?_)))
      (case side2 => exact (Kd.V_reads' HO1_1.out).2.1)
      (case side3 => repeat (first | exact (Kd.V_reads' HO0_1.out).2.2 | (with_reducible refine Kd.C_alloc ?_ _) | (with_reducible refine Kd.C_drewN ?_ _) | (with_reducible refine Kd.C_drew ?_)))
      (case side4 => exact (Kd.V_reads' HO0_1.out).2.1)
      rintro e w40 ⟨rfl, hb⟩
      refine ⟨_, rfl, ?_⟩
      have n0_ := Aside0.mk (Kd.V_below (gV HO0_1.out) hb)
      have n1_ := Aside0.mk (Kd.V_below (gV HO1_1.out) hb)
      have n2_ := Aside0.mk (Kd.V_below (gV HO2_1.out) hb)
      have n3_ := Aside0.mk (Kd.N_below (gN HO484.out) hb)
      have n4_ := Aside0.mk (Kd.V_below (gV HO491.out) hb)
      have n5_ := Aside0.mk (blk_below (gK BK478.out) hb)
      have n6_ := Aside0.mk (blk_below (gK BK479.out) hb)
      have n7_ := Aside0.mk (blk_below (gK BK480.out) hb)
      have n8_ := Aside0.mk (below_step (by repeat (first | (with_reducible first | exact HB.out | apply bA | apply bN | apply bD | refine bS ?_ GE478.out | refine bS ?_ GE479.out | refine bS ?_ GE480.out) | exact HB.out)) hb)
      clear HO0_1
      clear HO1_1
      clear HO2_1
      clear HO484
      clear HO491
      clear BK478
      clear BK479
      clear BK480
      clear HB
      have HO0_1 := n0_
      have HO1_1 := n1_
      have HO2_1 := n2_
      have HO484 := n3_
      have HO491 := n4_
      have BK478 := n5_
      have BK479 := n6_
      have BK480 := n7_
      have HB := n8_
      clear n0_ n1_ n2_ n3_ n4_ n5_ n6_ n7_ n8_
      (try clear hb)
      (try clear hb2)
      (try clear hk)
      (try clear hi)
      refine hK.out _ _ ⟨(blk_cell BK478.out 0).trans rfl, (blk_cell BK478.out 1).trans rfl, (blk_cell BK479.out 0).trans rfl, (blk_cell BK479.out 1).trans rfl, (blk_cell BK480.out 0).trans rfl, (blk_cell BK480.out 1).trans rfl⟩ (fun hHeld => ?_)
      clear hK K
      refine norm_ (a' := ?_) ?_ ?_
      rotate_left
      ·show Act.put _ (some 34) _ = _
       simp only [Act.put, List.setIfInBounds_toArray, List.set_cons_zero, List.set_cons_succ, i64_w, i32_w]
       rfl
      refine pure_ (i := 11) (N := some 35) (v := ?_) (a' := ?_) #[true, true, true, true, true, true, true, true, true, true, true, true, false, false, false, false, false, false, false, false, false, false, false, false, false] rfl rfl (any_of HT_.out (by kernel_rfl)) (fun _ _ _ h => h) (Or.inl ⟨by rfl, ?_⟩) ?_ ?_
      rotate_left
      ·intro w'
       go_simp
       with_reducible rfl
      rotate_left
      ·simp only [Act.put, List.setIfInBounds_toArray, List.set_cons_zero, List.set_cons_succ, i64_w, i32_w]
       rfl
      refine pure_ (i := 12) (N := some 36) (v := ?_) (a' := ?_) #[true, true, true, true, true, true, true, true, true, true, true, true, true, false, false, false, false, false, false, false, false, false, false, false, false] rfl rfl (any_of HT_.out (by kernel_rfl)) (fun _ _ _ h => h) (Or.inl ⟨by rfl, ?_⟩) ?_ ?_
      rotate_left
      ·intro w'
       go_simp
       with_reducible rfl
      rotate_left
      ·simp only [Act.put, List.setIfInBounds_toArray, List.set_cons_zero, List.set_cons_succ, i64_w, i32_w]
       rfl
      refine pure_ (i := 13) (N := some 37) (v := ?_) (a' := ?_) #[true, true, true, true, true, true, true, true, true, true, true, true, true, true, false, false, false, false, false, false, false, false, false, false, false] rfl rfl (any_of HT_.out (by kernel_rfl)) (fun _ _ _ h => h) (Or.inl ⟨by rfl, ?_⟩) ?_ ?_
      rotate_left
      ·intro w'
       go_simp
       with_reducible rfl
      rotate_left
      ·simp only [Act.put, List.setIfInBounds_toArray, List.set_cons_zero, List.set_cons_succ, i64_w, i32_w]
       rfl
      refine pure_ (i := 14) (N := some 38) (v := ?_) (a' := ?_) #[true, true, true, true, true, true, true, true, true, true, true, true, true, true, true, false, false, false, false, false, false, false, false, false, false] rfl rfl (any_of HT_.out (by kernel_rfl)) (fun _ _ _ h => h) (Or.inl ⟨by rfl, ?_⟩) ?_ ?_
      rotate_left
      ·intro w'
       go_simp
       with_reducible rfl
      rotate_left
      ·simp only [Act.put, List.setIfInBounds_toArray, List.set_cons_zero, List.set_cons_succ, i64_w, i32_w]
       rfl
      refine pure_ (i := 15) (N := some 39) (v := ?_) (a' := ?_) #[true, true, true, true, true, true, true, true, true, true, true, true, true, true, true, true, false, false, false, false, false, false, false, false, false] rfl rfl (any_of HT_.out (by kernel_rfl)) (fun _ _ _ h => h) (Or.inl ⟨by rfl, ?_⟩) ?_ ?_
      rotate_left
      ·intro w'
       go_simp
       with_reducible rfl
      rotate_left
      ·simp only [Act.put, List.setIfInBounds_toArray, List.set_cons_zero, List.set_cons_succ, i64_w, i32_w]
       rfl
      refine take_ (i := 16) (N := some 40) (v := ?_) (a' := ?_) #[true, true, true, true, true, true, true, true, true, true, true, true, true, true, true, true, true, false, false, false, false, false, false, false, false] rfl rfl (take_ofW HT_.out HW_.out (by kernel_rfl)) (fun _ _ _ h => h) (Or.inl ⟨by rfl, ?_⟩) hHeld ?_ ?_
      rotate_left
      ·rintro w' ⟨s0, s1, s2, s3, s4, s5⟩
       go_simp
       with_reducible rfl
      rotate_left
      ·simp only [Act.put, List.setIfInBounds_toArray, List.set_cons_zero, List.set_cons_succ, i64_w, i32_w]
       rfl
      refine take_ (i := 17) (N := some 41) (v := ?_) (a' := ?_) #[true, true, true, true, true, true, true, true, true, true, true, true, true, true, true, true, true, true, false, false, false, false, false, false, false] rfl rfl (take_ofW HT_.out HW_.out (by kernel_rfl)) (fun _ _ _ h => h) (Or.inl ⟨by rfl, ?_⟩) hHeld ?_ ?_
      rotate_left
      ·rintro w' ⟨s0, s1, s2, s3, s4, s5⟩
       go_simp
       with_reducible rfl
      rotate_left
      ·simp only [Act.put, List.setIfInBounds_toArray, List.set_cons_zero, List.set_cons_succ, i64_w, i32_w]
       rfl
      refine take_ (i := 19) (N := some 43) (v := ?_) (a' := ?_) #[true, true, true, true, true, true, true, true, true, true, true, true, true, true, true, true, true, true, false, true, false, false, false, false, false] rfl rfl (take_ofW HT_.out HW_.out (by kernel_rfl)) (fun _ _ _ h => h) (Or.inl ⟨by rfl, ?_⟩) hHeld ?_ ?_
      rotate_left
      ·rintro w' ⟨s0, s1, s2, s3, s4, s5⟩
       go_simp
       with_reducible rfl
      rotate_left
      ·simp only [Act.put, List.setIfInBounds_toArray, List.set_cons_zero, List.set_cons_succ, i64_w, i32_w]
       rfl
      refine take_ (i := 20) (N := some 44) (v := ?_) (a' := ?_) #[true, true, true, true, true, true, true, true, true, true, true, true, true, true, true, true, true, true, false, true, true, false, false, false, false] rfl rfl (take_ofW HT_.out HW_.out (by kernel_rfl)) (fun _ _ _ h => h) (Or.inl ⟨by rfl, ?_⟩) hHeld ?_ ?_
      rotate_left
      ·rintro w' ⟨s0, s1, s2, s3, s4, s5⟩
       go_simp
       with_reducible rfl
      rotate_left
      ·simp only [Act.put, List.setIfInBounds_toArray, List.set_cons_zero, List.set_cons_succ, i64_w, i32_w]
       rfl
      refine one_ (i := 18) (N := some 42) #[true, true, true, true, true, true, true, true, true, true, true, true, true, true, true, true, true, true, true, true, true, false, false, false, false] rfl rfl (one_of HT_.out (by kernel_rfl)) (by decide) (fun K hK => ?_)
      refine goes_ Try.func17 (by kernel_rfl) rfl #[.agg #[.bool a0_0, .slice A0_1 l0_1.length c0_1], .agg #[.bool a2_0, .slice A2_1 l2_1.length c2_1]] (by rfl) rfl rfl (by (try simp only [List.map_toArray, List.map_cons, List.map_nil]); first | done | rfl | (simp only [List.length_drop, List.length_take]; rfl)) ?_
      with_reducible refine (num_Add.calls k a0_0 (fun k_ => ((((((P0_1_ k_ ∨ P1_1_ k_ ∨ P2_1_ k_) ∨ w.heap.size ≤ k_) ∧ k_ ≠ gb478) ∧ k_ ≠ gb479) ∧ k_ ≠ gb480) ∧ some k_ ≠ (.slice Ao23 y482.length co23 : Value).ownBlock)) _ _ l0_1 a2_0 (fun k_ => ((((((P0_1_ k_ ∨ P1_1_ k_ ∨ P2_1_ k_) ∨ w.heap.size ≤ k_) ∧ k_ ≠ gb478) ∧ k_ ≠ gb479) ∧ k_ ≠ gb480) ∧ some k_ ≠ (.slice Ao23 y482.length co23 : Value).ownBlock)) _ _ l2_1 t494 t495 _ ?side1 ?side2 A33.out).mono ?_
      (case side1 => exact HO0_1.out)
      (case side2 => exact HO2_1.out)
      rintro e w41 ⟨v496, rfl, ho0, hb⟩
      refine ⟨_, rfl, ?_⟩
      have n0_ := Aside0.mk (Kd.V_below (gV HO0_1.out) hb)
      have n1_ := Aside0.mk (Kd.V_below (gV HO1_1.out) hb)
      have n2_ := Aside0.mk (Kd.V_below (gV HO2_1.out) hb)
      have n3_ := Aside0.mk (Kd.N_below (gN HO484.out) hb)
      have n4_ := Aside0.mk (Kd.V_below (gV HO491.out) hb)
      have n5_ := Aside0.mk (Kd.V_lower (Kd.V_mono (ok' := fun k_ => ((P0_1_ k_ ∨ P1_1_ k_ ∨ P2_1_ k_) ∨ w.heap.size ≤ k_) ∧ some k_ ≠ (.slice Ao23 y482.length co23 : Value).ownBlock ∧ k_ ≠ gb478 ∧ k_ ≠ gb479 ∧ k_ ≠ gb480) ho0 (fun k_ hk_ => ⟨Or.elim hk_ (fun hs_ => Or.elim hs_ (fun hs_ => hs_.1.1.1.1) (fun hs_ => hs_.1.1.1.1)) (fun hn_ => (.inr (Nat.le_trans (below_size (by repeat (first | (with_reducible first | exact HB.out | apply bA | apply bN | apply bD | refine bS ?_ GE478.out | refine bS ?_ GE479.out | refine bS ?_ GE480.out) | exact HB.out))) hn_))), Or.elim hk_ (fun hs_ => Or.elim hs_ (fun hs_ => hs_.2) (fun hs_ => hs_.2)) (fun hn_ => (Kd.fresh' (Kd.N_lt (gN HO484.out)) k_ hn_)), Or.elim hk_ (fun hs_ => Or.elim hs_ (fun hs_ => hs_.1.1.1.2) (fun hs_ => hs_.1.1.1.2)) (fun hn_ => (Kd.freshB (g := gb478) (o := .cells #[.bool a0_0, .slice A0_1 l0_1.length c0_1] 25 (0, 0)) (gK BK478.out) k_ hn_)), Or.elim hk_ (fun hs_ => Or.elim hs_ (fun hs_ => hs_.1.1.2) (fun hs_ => hs_.1.1.2)) (fun hn_ => (Kd.freshB (g := gb479) (o := .cells #[.bool a1_0, .slice A1_1 l1_1.length c1_1] 25 (0, 0)) (gK BK479.out) k_ hn_)), Or.elim hk_ (fun hs_ => Or.elim hs_ (fun hs_ => hs_.1.2) (fun hs_ => hs_.1.2)) (fun hn_ => (Kd.freshB (g := gb480) (o := .cells #[.bool a2_0, .slice A2_1 l2_1.length c2_1] 25 (0, 0)) (gK BK480.out) k_ hn_))⟩)) (below_size (by repeat (first | (with_reducible first | exact HB.out | apply bA | apply bN | apply bD | refine bS ?_ GE478.out | refine bS ?_ GE479.out | refine bS ?_ GE480.out) | exact HB.out))))
      have n6_ := Aside0.mk (blk_below (gK BK478.out) hb)
      have n7_ := Aside0.mk (blk_below (gK BK479.out) hb)
      have n8_ := Aside0.mk (blk_below (gK BK480.out) hb)
      have n9_ := Aside0.mk (below_step (by repeat (first | (with_reducible first | exact HB.out | apply bA | apply bN | apply bD | refine bS ?_ GE478.out | refine bS ?_ GE479.out | refine bS ?_ GE480.out) | exact HB.out)) hb)
      clear HO0_1
      clear HO1_1
      clear HO2_1
      clear HO484
      clear HO491
      clear BK478
      clear BK479
      clear BK480
      clear HB
      have HO0_1 := n0_
      have HO1_1 := n1_
      have HO2_1 := n2_
      have HO484 := n3_
      have HO491 := n4_
      have HO497 := n5_
      have BK478 := n6_
      have BK479 := n7_
      have BK480 := n8_
      have HB := n9_
      clear n0_ n1_ n2_ n3_ n4_ n5_ n6_ n7_ n8_ n9_
      (try clear hb)
      (try clear hb2)
      (try clear hk)
      (try clear hi)
      (try clear ho0)
      refine hK.out _ _ ⟨(blk_cell BK478.out 0).trans rfl, (blk_cell BK478.out 1).trans rfl, (blk_cell BK479.out 0).trans rfl, (blk_cell BK479.out 1).trans rfl, (blk_cell BK480.out 0).trans rfl, (blk_cell BK480.out 1).trans rfl⟩ (fun hHeld => ?_)
      clear hK K
      refine norm_ (a' := ?_) ?_ ?_
      rotate_left
      ·show Act.put _ (some 42) _ = _
       simp only [Act.put, List.setIfInBounds_toArray, List.set_cons_zero, List.set_cons_succ, i64_w, i32_w]
       rfl
      refine one_ (i := 21) (N := some 45) #[true, true, true, true, true, true, true, true, true, true, true, true, true, true, true, true, true, true, true, true, true, true, false, false, false] rfl rfl (one_of HT_.out (by kernel_rfl)) (by decide) (fun K hK => ?_)
      refine goes_ Try.func17 (by kernel_rfl) rfl #[.agg #[.bool a1_0, .slice A1_1 l1_1.length c1_1], .agg #[.bool a2_0, .slice A2_1 l2_1.length c2_1]] (by rfl) rfl rfl (by (try simp only [List.map_toArray, List.map_cons, List.map_nil]); first | done | rfl | (simp only [List.length_drop, List.length_take]; rfl)) ?_
      with_reducible refine (num_Add.calls k a1_0 (fun k_ => ((((((P0_1_ k_ ∨ P1_1_ k_ ∨ P2_1_ k_) ∨ w.heap.size ≤ k_) ∧ k_ ≠ gb478) ∧ k_ ≠ gb479) ∧ k_ ≠ gb480) ∧ some k_ ≠ (.slice Ao23 y482.length co23 : Value).ownBlock)) _ _ l1_1 a2_0 (fun k_ => ((((((P0_1_ k_ ∨ P1_1_ k_ ∨ P2_1_ k_) ∨ w.heap.size ≤ k_) ∧ k_ ≠ gb478) ∧ k_ ≠ gb479) ∧ k_ ≠ gb480) ∧ some k_ ≠ (.slice Ao23 y482.length co23 : Value).ownBlock)) _ _ l2_1 t498 t499 _ ?side1 ?side2 A34.out).mono ?_
      (case side1 => exact HO1_1.out)
      (case side2 => exact HO2_1.out)
      rintro e w42 ⟨v500, rfl, ho0, hb⟩
      refine ⟨_, rfl, ?_⟩
      have n0_ := Aside0.mk (Kd.V_below (gV HO0_1.out) hb)
      have n1_ := Aside0.mk (Kd.V_below (gV HO1_1.out) hb)
      have n2_ := Aside0.mk (Kd.V_below (gV HO2_1.out) hb)
      have n3_ := Aside0.mk (Kd.N_below (gN HO484.out) hb)
      have n4_ := Aside0.mk (Kd.V_below (gV HO491.out) hb)
      have n5_ := Aside0.mk (Kd.V_below (gV HO497.out) hb)
      have n6_ := Aside0.mk (Kd.V_lower (Kd.V_mono (ok' := fun k_ => ((P0_1_ k_ ∨ P1_1_ k_ ∨ P2_1_ k_) ∨ w.heap.size ≤ k_) ∧ some k_ ≠ (.slice Ao23 y482.length co23 : Value).ownBlock ∧ k_ ≠ gb478 ∧ k_ ≠ gb479 ∧ k_ ≠ gb480) ho0 (fun k_ hk_ => ⟨Or.elim hk_ (fun hs_ => Or.elim hs_ (fun hs_ => hs_.1.1.1.1) (fun hs_ => hs_.1.1.1.1)) (fun hn_ => (.inr (Nat.le_trans (below_size (by repeat (first | (with_reducible first | exact HB.out | apply bA | apply bN | apply bD | refine bS ?_ GE478.out | refine bS ?_ GE479.out | refine bS ?_ GE480.out) | exact HB.out))) hn_))), Or.elim hk_ (fun hs_ => Or.elim hs_ (fun hs_ => hs_.2) (fun hs_ => hs_.2)) (fun hn_ => (Kd.fresh' (Kd.N_lt (gN HO484.out)) k_ hn_)), Or.elim hk_ (fun hs_ => Or.elim hs_ (fun hs_ => hs_.1.1.1.2) (fun hs_ => hs_.1.1.1.2)) (fun hn_ => (Kd.freshB (g := gb478) (o := .cells #[.bool a0_0, .slice A0_1 l0_1.length c0_1] 25 (0, 0)) (gK BK478.out) k_ hn_)), Or.elim hk_ (fun hs_ => Or.elim hs_ (fun hs_ => hs_.1.1.2) (fun hs_ => hs_.1.1.2)) (fun hn_ => (Kd.freshB (g := gb479) (o := .cells #[.bool a1_0, .slice A1_1 l1_1.length c1_1] 25 (0, 0)) (gK BK479.out) k_ hn_)), Or.elim hk_ (fun hs_ => Or.elim hs_ (fun hs_ => hs_.1.2) (fun hs_ => hs_.1.2)) (fun hn_ => (Kd.freshB (g := gb480) (o := .cells #[.bool a2_0, .slice A2_1 l2_1.length c2_1] 25 (0, 0)) (gK BK480.out) k_ hn_))⟩)) (below_size (by repeat (first | (with_reducible first | exact HB.out | apply bA | apply bN | apply bD | refine bS ?_ GE478.out | refine bS ?_ GE479.out | refine bS ?_ GE480.out) | exact HB.out))))
      have n7_ := Aside0.mk (blk_below (gK BK478.out) hb)
      have n8_ := Aside0.mk (blk_below (gK BK479.out) hb)
      have n9_ := Aside0.mk (blk_below (gK BK480.out) hb)
      have n10_ := Aside0.mk (below_step (by repeat (first | (with_reducible first | exact HB.out | apply bA | apply bN | apply bD | refine bS ?_ GE478.out | refine bS ?_ GE479.out | refine bS ?_ GE480.out) | exact HB.out)) hb)
      clear HO0_1
      clear HO1_1
      clear HO2_1
      clear HO484
      clear HO491
      clear HO497
      clear BK478
      clear BK479
      clear BK480
      clear HB
      have HO0_1 := n0_
      have HO1_1 := n1_
      have HO2_1 := n2_
      have HO484 := n3_
      have HO491 := n4_
      have HO497 := n5_
      have HO501 := n6_
      have BK478 := n7_
      have BK479 := n8_
      have BK480 := n9_
      have HB := n10_
      clear n0_ n1_ n2_ n3_ n4_ n5_ n6_ n7_ n8_ n9_ n10_
      (try clear hb)
      (try clear hb2)
      (try clear hk)
      (try clear hi)
      (try clear ho0)
      obtain ⟨Ao43, co43, eo43⟩ := Kd.V_slice HO497.out
      (first | subst eo43 | (injection eo43 with f1_ f2_ f3_; have f4_ := f1_.symm; have f5_ := f3_.symm; clear f1_ f2_ f3_; subst f4_; subst f5_))
      obtain ⟨Ao44, co44, eo44⟩ := Kd.V_slice HO501.out
      (first | subst eo44 | (injection eo44 with f1_ f2_ f3_; have f4_ := f1_.symm; have f5_ := f3_.symm; clear f1_ f2_ f3_; subst f4_; subst f5_))
      refine hK.out _ _ ⟨(blk_cell BK478.out 0).trans rfl, (blk_cell BK478.out 1).trans rfl, (blk_cell BK479.out 0).trans rfl, (blk_cell BK479.out 1).trans rfl, (blk_cell BK480.out 0).trans rfl, (blk_cell BK480.out 1).trans rfl⟩ (fun hHeld => ?_)
      clear hK K
      refine norm_ (a' := ?_) ?_ ?_
      rotate_left
      ·show Act.put _ (some 45) _ = _
       simp only [Act.put, List.setIfInBounds_toArray, List.set_cons_zero, List.set_cons_succ, i64_w, i32_w]
       rfl
      refine one_ (i := 22) (N := some 46) #[true, true, true, true, true, true, true, true, true, true, true, true, true, true, true, true, true, true, true, true, true, true, true, false, false] rfl rfl (one_of HT_.out (by kernel_rfl)) (by decide) (fun K hK => ?_)
      refine goes_ Try.func14 (by kernel_rfl) rfl #[.agg #[.bool t494, .slice Ao43 t495.length co43], .agg #[.bool t498, .slice Ao44 t499.length co44]] (by rfl) rfl rfl (by (try simp only [List.map_toArray, List.map_cons, List.map_nil]); first | done | rfl | (simp only [List.length_drop, List.length_take]; rfl)) ?_
      with_reducible refine (num_Cmp.calls k t494 _ _ t495 t498 _ _ t499 t502 _ ?side1 ?side2 ?side3 ?side4 A35.out).mono ?_
      (case side1 => repeat (first | exact (Kd.V_reads' HO497.out).2.2 | (with_reducible refine Kd.C_alloc ?_ _) | (with_reducible refine Kd.C_drewN ?_ _) | (with_reducible refine Kd.C_drew ?_)))
      (case side2 => exact (Kd.V_reads' HO497.out).2.1)
      (case side3 => repeat (first | exact (Kd.V_reads' HO501.out).2.2 | (with_reducible refine Kd.C_alloc ?_ _) | (with_reducible refine Kd.C_drewN ?_ _) | (with_reducible refine Kd.C_drew ?_)))
      (case side4 => exact (Kd.V_reads' HO501.out).2.1)
      rintro e w45 ⟨rfl, hb⟩
      refine ⟨_, rfl, ?_⟩
      have n0_ := Aside0.mk (Kd.V_below (gV HO0_1.out) hb)
      have n1_ := Aside0.mk (Kd.V_below (gV HO1_1.out) hb)
      have n2_ := Aside0.mk (Kd.V_below (gV HO2_1.out) hb)
      have n3_ := Aside0.mk (Kd.N_below (gN HO484.out) hb)
      have n4_ := Aside0.mk (Kd.V_below (gV HO491.out) hb)
      have n5_ := Aside0.mk (Kd.V_below (gV HO497.out) hb)
      have n6_ := Aside0.mk (Kd.V_below (gV HO501.out) hb)
      have n7_ := Aside0.mk (blk_below (gK BK478.out) hb)
      have n8_ := Aside0.mk (blk_below (gK BK479.out) hb)
      have n9_ := Aside0.mk (blk_below (gK BK480.out) hb)
      have n10_ := Aside0.mk (below_step (by repeat (first | (with_reducible first | exact HB.out | apply bA | apply bN | apply bD | refine bS ?_ GE478.out | refine bS ?_ GE479.out | refine bS ?_ GE480.out) | exact HB.out)) hb)
      clear HO0_1
      clear HO1_1
      clear HO2_1
      clear HO484
      clear HO491
      clear HO497
      clear HO501
      clear BK478
      clear BK479
      clear BK480
      clear HB
      have HO0_1 := n0_
      have HO1_1 := n1_
      have HO2_1 := n2_
      have HO484 := n3_
      have HO491 := n4_
      have HO497 := n5_
      have HO501 := n6_
      have BK478 := n7_
      have BK479 := n8_
      have BK480 := n9_
      have HB := n10_
      clear n0_ n1_ n2_ n3_ n4_ n5_ n6_ n7_ n8_ n9_ n10_
      (try clear hb)
      (try clear hb2)
      (try clear hk)
      (try clear hi)
      refine hK.out _ _ ⟨(blk_cell BK478.out 0).trans rfl, (blk_cell BK478.out 1).trans rfl, (blk_cell BK479.out 0).trans rfl, (blk_cell BK479.out 1).trans rfl, (blk_cell BK480.out 0).trans rfl, (blk_cell BK480.out 1).trans rfl⟩ (fun hHeld => ?_)
      clear hK K
      refine norm_ (a' := ?_) ?_ ?_
      rotate_left
      ·show Act.put _ (some 46) _ = _
       simp only [Act.put, List.setIfInBounds_toArray, List.set_cons_zero, List.set_cons_succ, i64_w, i32_w]
       rfl
      refine pure_ (i := 23) (N := some 47) (v := ?_) (a' := ?_) #[true, true, true, true, true, true, true, true, true, true, true, true, true, true, true, true, true, true, true, true, true, true, true, true, false] rfl rfl (any_of HT_.out (by kernel_rfl)) (fun _ _ _ h => h) (Or.inl ⟨by rfl, ?_⟩) ?_ ?_
      rotate_left
      ·intro w'
       go_simp
       with_reducible rfl
      rotate_left
      ·simp only [Act.put, List.setIfInBounds_toArray, List.set_cons_zero, List.set_cons_succ, i64_w, i32_w]
       rfl
      refine pure_ (i := 24) (N := some 48) (v := ?_) (a' := ?_) #[true, true, true, true, true, true, true, true, true, true, true, true, true, true, true, true, true, true, true, true, true, true, true, true, true] rfl rfl (any_of HT_.out (by kernel_rfl)) (fun _ _ _ h => h) (Or.inl ⟨by rfl, ?_⟩) ?_ ?_
      rotate_left
      ·intro w'
       go_simp
       with_reducible rfl
      rotate_left
      ·simp only [Act.put, List.setIfInBounds_toArray, List.set_cons_zero, List.set_cons_succ, i64_w, i32_w]
       rfl
      refine done_ (done_of HT_.out (by kernel_rfl)) ?_
      try go_wp2
      go_meet
      case rel => exact ⟨_, ((t486 != t502)), (by first | rfl | (simp; done) | (simp [*]; done)), H', ⟨by first | omega | exact Nat.le_refl _⟩, ⟨by (with_reducible repeat (first | apply Kd.V_alloc | apply Kd.V_drewN | apply Kd.V_drew)); exact Kd.V_mono HO0_1.out (fun _ hk => ⟨hk.1.1.1.1, ⟨hk.1.1.1.2, ⟨hk.1.1.2, hk.1.2⟩⟩⟩)⟩, ⟨by (with_reducible repeat (first | apply Kd.V_alloc | apply Kd.V_drewN | apply Kd.V_drew)); exact Kd.V_mono HO1_1.out (fun _ hk => ⟨hk.1.1.1.1, ⟨hk.1.1.1.2, ⟨hk.1.1.2, hk.1.2⟩⟩⟩)⟩, ⟨by (with_reducible repeat (first | apply Kd.V_alloc | apply Kd.V_drewN | apply Kd.V_drew)); exact Kd.V_mono HO2_1.out (fun _ hk => ⟨hk.1.1.1.1, ⟨hk.1.1.1.2, ⟨hk.1.1.2, hk.1.2⟩⟩⟩)⟩, ⟨by (with_reducible repeat (first | refine blk_drewN ?_ _ | refine blk_drew ?_ | refine blk_alloc ?_ _)); exact BK478.out⟩, ⟨by (with_reducible repeat (first | refine blk_drewN ?_ _ | refine blk_drew ?_ | refine blk_alloc ?_ _)); exact BK479.out⟩, ⟨by (with_reducible repeat (first | refine blk_drewN ?_ _ | refine blk_drew ?_ | refine blk_alloc ?_ _)); exact BK480.out⟩, ⟨by repeat (first | (with_reducible first | exact HB.out | apply bA | apply bN | apply bD | refine bS ?_ GE478.out | refine bS ?_ GE479.out | refine bS ?_ GE480.out) | exact HB.out)⟩⟩
     ·rw [if_neg c32] at H
      have c32b0 : (t486 == (wrap64 (-t493))) = false := beq_eq_false_iff_ne.mpr c32
      have c32b1 : (t486 != (wrap64 (-t493))) = true := bne_iff_ne.mpr c32
      have H' := Aside0.mk H
      clear H
      try go_wp2
      have n0_ := Aside0.mk (Kd.V_drew HO0_1.out)
      have n1_ := Aside0.mk (Kd.V_drew HO1_1.out)
      have n2_ := Aside0.mk (Kd.V_drew HO2_1.out)
      have n3_ := Aside0.mk (Kd.N_drew HO484.out)
      have n4_ := Aside0.mk (blk_drew BK478.out)
      have n5_ := Aside0.mk (blk_drew BK479.out)
      have n6_ := Aside0.mk (blk_drew BK480.out)
      have n7_ := Aside0.mk (bD HB.out)
      clear HO0_1
      clear HO1_1
      clear HO2_1
      clear HO484
      clear BK478
      clear BK479
      clear BK480
      clear HB
      have HO0_1 := n0_
      have HO1_1 := n1_
      have HO2_1 := n2_
      have HO484 := n3_
      have BK478 := n4_
      have BK479 := n5_
      have BK480 := n6_
      have HB := n7_
      clear n0_ n1_ n2_ n3_ n4_ n5_ n6_ n7_
      refine start_ (n := 25) (S := fun w' => w'.cell? ⟨gb478, 0, none⟩ = some (.bool a0_0) ∧ w'.cell? ⟨gb478, 1, none⟩ = some (.slice A0_1 l0_1.length c0_1) ∧ w'.cell? ⟨gb479, 0, none⟩ = some (.bool a1_0) ∧ w'.cell? ⟨gb479, 1, none⟩ = some (.slice A1_1 l1_1.length c1_1)) (ds := []) #[false, false, false, false, false, false, false, false, false, false, false, false, false, false, false, false, false, false, false, false, false, false, false, false, false] (by kernel_rfl) rfl rfl ⟨(blk_cell BK478.out 0).trans rfl, (blk_cell BK478.out 1).trans rfl, (blk_cell BK479.out 0).trans rfl, (blk_cell BK479.out 1).trans rfl⟩ (fun hHeld => ?_); refine with_tabW isohyetlaw02_NumOrders.tab6 isohyetlaw02_NumOrders.bits6 (fun HT_ HW_ => ?_)
      generalize w27.drew = w46 at HO0_1 HO1_1 HO2_1 HO484 BK478 BK479 BK480 HB hHeld ⊢
      refine pure_ (i := 0) (N := some 24) (v := ?_) (a' := ?_) #[true, false, false, false, false, false, false, false, false, false, false, false, false, false, false, false, false, false, false, false, false, false, false, false, false] rfl rfl (any_of HT_.out (by kernel_rfl)) (fun _ _ _ h => h) (Or.inl ⟨by rfl, ?_⟩) ?_ ?_
      rotate_left
      ·intro w'
       go_simp
       with_reducible rfl
      rotate_left
      ·simp only [Act.put, List.setIfInBounds_toArray, List.set_cons_zero, List.set_cons_succ, i64_w, i32_w]
       rfl
      refine take_ (i := 1) (N := some 25) (v := ?_) (a' := ?_) #[true, true, false, false, false, false, false, false, false, false, false, false, false, false, false, false, false, false, false, false, false, false, false, false, false] rfl rfl (take_ofW HT_.out HW_.out (by kernel_rfl)) (fun _ _ _ h => h) (Or.inl ⟨by rfl, ?_⟩) hHeld ?_ ?_
      rotate_left
      ·rintro w' ⟨s0, s1, s2, s3⟩
       go_simp
       with_reducible rfl
      rotate_left
      ·simp only [Act.put, List.setIfInBounds_toArray, List.set_cons_zero, List.set_cons_succ, i64_w, i32_w]
       rfl
      refine take_ (i := 2) (N := some 26) (v := ?_) (a' := ?_) #[true, true, true, false, false, false, false, false, false, false, false, false, false, false, false, false, false, false, false, false, false, false, false, false, false] rfl rfl (take_ofW HT_.out HW_.out (by kernel_rfl)) (fun _ _ _ h => h) (Or.inl ⟨by rfl, ?_⟩) hHeld ?_ ?_
      rotate_left
      ·rintro w' ⟨s0, s1, s2, s3⟩
       go_simp
       with_reducible rfl
      rotate_left
      ·simp only [Act.put, List.setIfInBounds_toArray, List.set_cons_zero, List.set_cons_succ, i64_w, i32_w]
       rfl
      refine one_ (i := 3) (N := some 27) #[true, true, true, true, false, false, false, false, false, false, false, false, false, false, false, false, false, false, false, false, false, false, false, false, false] rfl rfl (one_of HT_.out (by kernel_rfl)) (by decide) (fun K hK => ?_)
      refine goes_ Try.func16 (by kernel_rfl) rfl #[.agg #[.bool a0_0, .slice A0_1 l0_1.length c0_1], .agg #[.bool a1_0, .slice A1_1 l1_1.length c1_1]] (by rfl) rfl rfl (by (try simp only [List.map_toArray, List.map_cons, List.map_nil]); first | done | rfl | (simp only [List.length_drop, List.length_take]; rfl)) ?_
      with_reducible refine (num_Sub.calls k a0_0 (fun k_ => ((((((P0_1_ k_ ∨ P1_1_ k_ ∨ P2_1_ k_) ∨ w.heap.size ≤ k_) ∧ k_ ≠ gb478) ∧ k_ ≠ gb479) ∧ k_ ≠ gb480) ∧ some k_ ≠ (.slice Ao23 y482.length co23 : Value).ownBlock)) _ _ l0_1 a1_0 (fun k_ => ((((((P0_1_ k_ ∨ P1_1_ k_ ∨ P2_1_ k_) ∨ w.heap.size ≤ k_) ∧ k_ ≠ gb478) ∧ k_ ≠ gb479) ∧ k_ ≠ gb480) ∧ some k_ ≠ (.slice Ao23 y482.length co23 : Value).ownBlock)) _ _ l1_1 t488 t489 _ ?side1 ?side2 A28.out).mono ?_
      (case side1 => exact HO0_1.out)
      (case side2 => exact HO1_1.out)
      rintro e w47 ⟨v490, rfl, ho0, hb⟩
      refine ⟨_, rfl, ?_⟩
      have n0_ := Aside0.mk (Kd.V_below (gV HO0_1.out) hb)
      have n1_ := Aside0.mk (Kd.V_below (gV HO1_1.out) hb)
      have n2_ := Aside0.mk (Kd.V_below (gV HO2_1.out) hb)
      have n3_ := Aside0.mk (Kd.N_below (gN HO484.out) hb)
      have n4_ := Aside0.mk (Kd.V_lower (Kd.V_mono (ok' := fun k_ => ((P0_1_ k_ ∨ P1_1_ k_ ∨ P2_1_ k_) ∨ w.heap.size ≤ k_) ∧ some k_ ≠ (.slice Ao23 y482.length co23 : Value).ownBlock ∧ k_ ≠ gb478 ∧ k_ ≠ gb479 ∧ k_ ≠ gb480) ho0 (fun k_ hk_ => ⟨Or.elim hk_ (fun hs_ => Or.elim hs_ (fun hs_ => hs_.1.1.1.1) (fun hs_ => hs_.1.1.1.1)) (fun hn_ => (.inr (Nat.le_trans (below_size (by repeat (first | (with_reducible first | exact HB.out | apply bA | apply bN | apply bD | refine bS ?_ GE478.out | refine bS ?_ GE479.out | refine bS ?_ GE480.out) | exact HB.out))) hn_))), Or.elim hk_ (fun hs_ => Or.elim hs_ (fun hs_ => hs_.2) (fun hs_ => hs_.2)) (fun hn_ => (Kd.fresh' (Kd.N_lt (gN HO484.out)) k_ hn_)), Or.elim hk_ (fun hs_ => Or.elim hs_ (fun hs_ => hs_.1.1.1.2) (fun hs_ => hs_.1.1.1.2)) (fun hn_ => (Kd.freshB (g := gb478) (o := .cells #[.bool a0_0, .slice A0_1 l0_1.length c0_1] 25 (0, 0)) (gK BK478.out) k_ hn_)), Or.elim hk_ (fun hs_ => Or.elim hs_ (fun hs_ => hs_.1.1.2) (fun hs_ => hs_.1.1.2)) (fun hn_ => (Kd.freshB (g := gb479) (o := .cells #[.bool a1_0, .slice A1_1 l1_1.length c1_1] 25 (0, 0)) (gK BK479.out) k_ hn_)), Or.elim hk_ (fun hs_ => Or.elim hs_ (fun hs_ => hs_.1.2) (fun hs_ => hs_.1.2)) (fun hn_ => (Kd.freshB (g := gb480) (o := .cells #[.bool a2_0, .slice A2_1 l2_1.length c2_1] 25 (0, 0)) (gK BK480.out) k_ hn_))⟩)) (below_size (by repeat (first | (with_reducible first | exact HB.out | apply bA | apply bN | apply bD | refine bS ?_ GE478.out | refine bS ?_ GE479.out | refine bS ?_ GE480.out) | exact HB.out))))
      have n5_ := Aside0.mk (blk_below (gK BK478.out) hb)
      have n6_ := Aside0.mk (blk_below (gK BK479.out) hb)
      have n7_ := Aside0.mk (blk_below (gK BK480.out) hb)
      have n8_ := Aside0.mk (below_step (by repeat (first | (with_reducible first | exact HB.out | apply bA | apply bN | apply bD | refine bS ?_ GE478.out | refine bS ?_ GE479.out | refine bS ?_ GE480.out) | exact HB.out)) hb)
      clear HO0_1
      clear HO1_1
      clear HO2_1
      clear HO484
      clear BK478
      clear BK479
      clear BK480
      clear HB
      have HO0_1 := n0_
      have HO1_1 := n1_
      have HO2_1 := n2_
      have HO484 := n3_
      have HO491 := n4_
      have BK478 := n5_
      have BK479 := n6_
      have BK480 := n7_
      have HB := n8_
      clear n0_ n1_ n2_ n3_ n4_ n5_ n6_ n7_ n8_
      (try clear hb)
      (try clear hb2)
      (try clear hk)
      (try clear hi)
      (try clear ho0)
      obtain ⟨Ao48, co48, eo48⟩ := Kd.V_slice HO491.out
      (first | subst eo48 | (injection eo48 with f1_ f2_ f3_; have f4_ := f1_.symm; have f5_ := f3_.symm; clear f1_ f2_ f3_; subst f4_; subst f5_))
      refine hK.out _ _ ⟨(blk_cell BK478.out 0).trans rfl, (blk_cell BK478.out 1).trans rfl, (blk_cell BK479.out 0).trans rfl, (blk_cell BK479.out 1).trans rfl⟩ (fun hHeld => ?_)
      clear hK K
      refine norm_ (a' := ?_) ?_ ?_
      rotate_left
      ·show Act.put _ (some 27) _ = _
       simp only [Act.put, List.setIfInBounds_toArray, List.set_cons_zero, List.set_cons_succ, i64_w, i32_w]
       rfl
      refine one_ (i := 4) (N := some 28) #[true, true, true, true, true, false, false, false, false, false, false, false, false, false, false, false, false, false, false, false, false, false, false, false, false] rfl rfl (one_of HT_.out (by kernel_rfl)) (by decide) (fun K hK => ?_)
      refine goes_ Try.func15 (by kernel_rfl) rfl #[.agg #[.bool t488, .slice Ao48 t489.length co48]] (by rfl) rfl rfl (by (try simp only [List.map_toArray, List.map_cons, List.map_nil]); first | done | rfl | (simp only [List.length_drop, List.length_take]; rfl)) ?_
      with_reducible refine (num_Sign.calls k t488 _ _ t489 t492 _ ?side1 ?side2 A29.out).mono ?_
      (case side1 => repeat (first | exact (Kd.V_reads' HO491.out).2.2 | (with_reducible refine Kd.C_alloc ?_ _) | (with_reducible refine Kd.C_drewN ?_ _) | (with_reducible refine Kd.C_drew ?_)))
      (case side2 => exact (Kd.V_reads' HO491.out).2.1)
      rintro e w49 ⟨rfl, hb⟩
      refine ⟨_, rfl, ?_⟩
      have n0_ := Aside0.mk (Kd.V_below (gV HO0_1.out) hb)
      have n1_ := Aside0.mk (Kd.V_below (gV HO1_1.out) hb)
      have n2_ := Aside0.mk (Kd.V_below (gV HO2_1.out) hb)
      have n3_ := Aside0.mk (Kd.N_below (gN HO484.out) hb)
      have n4_ := Aside0.mk (Kd.V_below (gV HO491.out) hb)
      have n5_ := Aside0.mk (blk_below (gK BK478.out) hb)
      have n6_ := Aside0.mk (blk_below (gK BK479.out) hb)
      have n7_ := Aside0.mk (blk_below (gK BK480.out) hb)
      have n8_ := Aside0.mk (below_step (by repeat (first | (with_reducible first | exact HB.out | apply bA | apply bN | apply bD | refine bS ?_ GE478.out | refine bS ?_ GE479.out | refine bS ?_ GE480.out) | exact HB.out)) hb)
      clear HO0_1
      clear HO1_1
      clear HO2_1
      clear HO484
      clear HO491
      clear BK478
      clear BK479
      clear BK480
      clear HB
      have HO0_1 := n0_
      have HO1_1 := n1_
      have HO2_1 := n2_
      have HO484 := n3_
      have HO491 := n4_
      have BK478 := n5_
      have BK479 := n6_
      have BK480 := n7_
      have HB := n8_
      clear n0_ n1_ n2_ n3_ n4_ n5_ n6_ n7_ n8_
      (try clear hb)
      (try clear hb2)
      (try clear hk)
      (try clear hi)
      refine hK.out _ _ ⟨(blk_cell BK478.out 0).trans rfl, (blk_cell BK478.out 1).trans rfl, (blk_cell BK479.out 0).trans rfl, (blk_cell BK479.out 1).trans rfl⟩ (fun hHeld => ?_)
      clear hK K
      refine norm_ (a' := ?_) ?_ ?_
      rotate_left
      ·show Act.put _ (some 28) _ = _
       simp only [Act.put, List.setIfInBounds_toArray, List.set_cons_zero, List.set_cons_succ, i64_w, i32_w]
       rfl
      refine pure_ (i := 5) (N := some 29) (v := ?_) (a' := ?_) #[true, true, true, true, true, true, false, false, false, false, false, false, false, false, false, false, false, false, false, false, false, false, false, false, false] rfl rfl (any_of HT_.out (by kernel_rfl)) (fun _ _ _ h => h) (Or.inl ⟨by rfl, ?_⟩) ?_ ?_
      rotate_left
      ·intro w'
       go_simp
       with_reducible rfl
      rotate_left
      ·simp only [Act.put, List.setIfInBounds_toArray, List.set_cons_zero, List.set_cons_succ, i64_w, i32_w]
       rfl
      refine pure_ (i := 6) (N := some 30) (v := ?_) (a' := ?_) #[true, true, true, true, true, true, true, false, false, false, false, false, false, false, false, false, false, false, false, false, false, false, false, false, false] rfl rfl (any_of HT_.out (by kernel_rfl)) (fun _ _ _ h => h) (Or.inl ⟨by rfl, ?_⟩) ?_ ?_
      rotate_left
      ·intro w'
       go_simp
       with_reducible rfl
      rotate_left
      ·simp only [Act.put, List.setIfInBounds_toArray, List.set_cons_zero, List.set_cons_succ, i64_w, i32_w]
       rfl
      refine pure_ (i := 7) (N := some 31) (v := ?_) (a' := ?_) #[true, true, true, true, true, true, true, true, false, false, false, false, false, false, false, false, false, false, false, false, false, false, false, false, false] rfl rfl (any_of HT_.out (by kernel_rfl)) (fun _ _ _ h => h) (Or.inl ⟨by rfl, ?_⟩) ?_ ?_
      rotate_left
      ·intro w'
       go_simp
       with_reducible rfl
      rotate_left
      ·simp only [Act.put, List.setIfInBounds_toArray, List.set_cons_zero, List.set_cons_succ, i64_w, i32_w]
       rfl
      refine take_ (i := 8) (N := some 32) (v := ?_) (a' := ?_) #[true, true, true, true, true, true, true, true, true, false, false, false, false, false, false, false, false, false, false, false, false, false, false, false, false] rfl rfl (take_ofW HT_.out HW_.out (by kernel_rfl)) (fun _ _ _ h => h) (Or.inl ⟨by rfl, ?_⟩) hHeld ?_ ?_
      rotate_left
      ·rintro w' ⟨s0, s1, s2, s3⟩
       go_simp
       with_reducible rfl
      rotate_left
      ·simp only [Act.put, List.setIfInBounds_toArray, List.set_cons_zero, List.set_cons_succ, i64_w, i32_w]
       rfl
      refine take_ (i := 9) (N := some 33) (v := ?_) (a' := ?_) #[true, true, true, true, true, true, true, true, true, true, false, false, false, false, false, false, false, false, false, false, false, false, false, false, false] rfl rfl (take_ofW HT_.out HW_.out (by kernel_rfl)) (fun _ _ _ h => h) (Or.inl ⟨by rfl, ?_⟩) hHeld ?_ ?_
      rotate_left
      ·rintro w' ⟨s0, s1, s2, s3⟩
       go_simp
       with_reducible rfl
      rotate_left
      ·simp only [Act.put, List.setIfInBounds_toArray, List.set_cons_zero, List.set_cons_succ, i64_w, i32_w]
       rfl
      refine one_ (i := 10) (N := some 34) #[true, true, true, true, true, true, true, true, true, true, true, false, false, false, false, false, false, false, false, false, false, false, false, false, false] rfl rfl (one_of HT_.out (by kernel_rfl)) (by decide) (fun K hK => ?_)
      refine goes_ Try.func14 (by kernel_rfl) rfl #[.agg #[.bool a1_0, .slice A1_1 l1_1.length c1_1], .agg #[.bool a0_0, .slice A0_1 l0_1.length c0_1]] (by rfl) rfl rfl (by (try simp only [List.map_toArray, List.map_cons, List.map_nil]); first | done | rfl | (simp only [List.length_drop, List.length_take]; rfl)) ?_
      with_reducible refine (num_Cmp.calls k a1_0 _ _ l1_1 a0_0 _ _ l0_1 t493 _ ?side1 ?side2 ?side3 ?side4 A31.out).mono ?_
      (case side1 => repeat (first | exact (Kd.V_reads' HO1_1.out).2.2 | (with_reducible refine Kd.C_alloc ?_ _) | (with_reducible refine Kd.C_drewN ?_ _) | (with_reducible refine Kd.C_drew ?_)))
      (case side2 => exact (Kd.V_reads' HO1_1.out).2.1)
      (case side3 => repeat (first | exact (Kd.V_reads' HO0_1.out).2.2 | (with_reducible refine Kd.C_alloc ?_ _) | (with_reducible refine Kd.C_drewN ?_ _) | (with_reducible refine Kd.C_drew ?_)))
      (case side4 => exact (Kd.V_reads' HO0_1.out).2.1)
      rintro e w50 ⟨rfl, hb⟩
      refine ⟨_, rfl, ?_⟩
      have n0_ := Aside0.mk (Kd.V_below (gV HO0_1.out) hb)
      have n1_ := Aside0.mk (Kd.V_below (gV HO1_1.out) hb)
      have n2_ := Aside0.mk (Kd.V_below (gV HO2_1.out) hb)
      have n3_ := Aside0.mk (Kd.N_below (gN HO484.out) hb)
      have n4_ := Aside0.mk (Kd.V_below (gV HO491.out) hb)
      have n5_ := Aside0.mk (blk_below (gK BK478.out) hb)
      have n6_ := Aside0.mk (blk_below (gK BK479.out) hb)
      have n7_ := Aside0.mk (blk_below (gK BK480.out) hb)
      have n8_ := Aside0.mk (below_step (by repeat (first | (with_reducible first | exact HB.out | apply bA | apply bN | apply bD | refine bS ?_ GE478.out | refine bS ?_ GE479.out | refine bS ?_ GE480.out) | exact HB.out)) hb)
      clear HO0_1
      clear HO1_1
      clear HO2_1
      clear HO484
      clear HO491
      clear BK478
      clear BK479
      clear BK480
      clear HB
      have HO0_1 := n0_
      have HO1_1 := n1_
      have HO2_1 := n2_
      have HO484 := n3_
      have HO491 := n4_
      have BK478 := n5_
      have BK479 := n6_
      have BK480 := n7_
      have HB := n8_
      clear n0_ n1_ n2_ n3_ n4_ n5_ n6_ n7_ n8_
      (try clear hb)
      (try clear hb2)
      (try clear hk)
      (try clear hi)
      refine hK.out _ _ ⟨(blk_cell BK478.out 0).trans rfl, (blk_cell BK478.out 1).trans rfl, (blk_cell BK479.out 0).trans rfl, (blk_cell BK479.out 1).trans rfl⟩ (fun hHeld => ?_)
      clear hK K
      refine norm_ (a' := ?_) ?_ ?_
      rotate_left
      ·show Act.put _ (some 34) _ = _
       simp only [Act.put, List.setIfInBounds_toArray, List.set_cons_zero, List.set_cons_succ, i64_w, i32_w]
       rfl
      refine pure_ (i := 11) (N := some 35) (v := ?_) (a' := ?_) #[true, true, true, true, true, true, true, true, true, true, true, true, false, false, false, false, false, false, false, false, false, false, false, false, false] rfl rfl (any_of HT_.out (by kernel_rfl)) (fun _ _ _ h => h) (Or.inl ⟨by rfl, ?_⟩) ?_ ?_
      rotate_left
      ·intro w'
       go_simp
       with_reducible rfl
      rotate_left
      ·simp only [Act.put, List.setIfInBounds_toArray, List.set_cons_zero, List.set_cons_succ, i64_w, i32_w]
       rfl
      refine pure_ (i := 12) (N := some 36) (v := ?_) (a' := ?_) #[true, true, true, true, true, true, true, true, true, true, true, true, true, false, false, false, false, false, false, false, false, false, false, false, false] rfl rfl (any_of HT_.out (by kernel_rfl)) (fun _ _ _ h => h) (Or.inl ⟨by rfl, ?_⟩) ?_ ?_
      rotate_left
      ·intro w'
       go_simp
       with_reducible rfl
      rotate_left
      ·simp only [Act.put, List.setIfInBounds_toArray, List.set_cons_zero, List.set_cons_succ, i64_w, i32_w]
       rfl
      refine pure_ (i := 13) (N := some 37) (v := ?_) (a' := ?_) #[true, true, true, true, true, true, true, true, true, true, true, true, true, true, false, false, false, false, false, false, false, false, false, false, false] rfl rfl (any_of HT_.out (by kernel_rfl)) (fun _ _ _ h => h) (Or.inl ⟨by rfl, ?_⟩) ?_ ?_
      rotate_left
      ·intro w'
       go_simp
       with_reducible rfl
      rotate_left
      ·simp only [Act.put, List.setIfInBounds_toArray, List.set_cons_zero, List.set_cons_succ, i64_w, i32_w]
       rfl
      refine pure_ (i := 14) (N := some 38) (v := ?_) (a' := ?_) #[true, true, true, true, true, true, true, true, true, true, true, true, true, true, true, false, false, false, false, false, false, false, false, false, false] rfl rfl (any_of HT_.out (by kernel_rfl)) (fun _ _ _ h => h) (Or.inl ⟨by rfl, ?_⟩) ?_ ?_
      rotate_left
      ·intro w'
       go_simp
       with_reducible rfl
      rotate_left
      ·simp only [Act.put, List.setIfInBounds_toArray, List.set_cons_zero, List.set_cons_succ, i64_w, i32_w]
       rfl
      refine pure_ (i := 15) (N := some 39) (v := undef) (a' := ?_) #[true, true, true, true, true, true, true, true, true, true, true, true, true, true, true, true, false, false, false, false, false, false, false, false, false] rfl rfl (any_of HT_.out (by kernel_rfl)) (fun _ _ _ h => h) (Or.inr ⟨by rfl, rfl⟩) ?_ ?_
      rotate_left
      ·simp only [Act.put, List.setIfInBounds_toArray, List.set_cons_zero, List.set_cons_succ, i64_w, i32_w]
       rfl
      refine pure_ (i := 16) (N := some 40) (v := undef) (a' := ?_) #[true, true, true, true, true, true, true, true, true, true, true, true, true, true, true, true, true, false, false, false, false, false, false, false, false] rfl rfl (any_of HT_.out (by kernel_rfl)) (fun _ _ _ h => h) (Or.inr ⟨by rfl, rfl⟩) ?_ ?_
      rotate_left
      ·simp only [Act.put, List.setIfInBounds_toArray, List.set_cons_zero, List.set_cons_succ, i64_w, i32_w]
       rfl
      refine pure_ (i := 17) (N := some 41) (v := undef) (a' := ?_) #[true, true, true, true, true, true, true, true, true, true, true, true, true, true, true, true, true, true, false, false, false, false, false, false, false] rfl rfl (any_of HT_.out (by kernel_rfl)) (fun _ _ _ h => h) (Or.inr ⟨by rfl, rfl⟩) ?_ ?_
      rotate_left
      ·simp only [Act.put, List.setIfInBounds_toArray, List.set_cons_zero, List.set_cons_succ, i64_w, i32_w]
       rfl
      refine pure_ (i := 18) (N := some 42) (v := undef) (a' := ?_) #[true, true, true, true, true, true, true, true, true, true, true, true, true, true, true, true, true, true, true, false, false, false, false, false, false] rfl rfl (any_of HT_.out (by kernel_rfl)) (fun _ _ _ h => h) (Or.inr ⟨by rfl, rfl⟩) ?_ ?_
      rotate_left
      ·simp only [Act.put, List.setIfInBounds_toArray, List.set_cons_zero, List.set_cons_succ, i64_w, i32_w]
       rfl
      refine pure_ (i := 19) (N := some 43) (v := undef) (a' := ?_) #[true, true, true, true, true, true, true, true, true, true, true, true, true, true, true, true, true, true, true, true, false, false, false, false, false] rfl rfl (any_of HT_.out (by kernel_rfl)) (fun _ _ _ h => h) (Or.inr ⟨by rfl, rfl⟩) ?_ ?_
      rotate_left
      ·simp only [Act.put, List.setIfInBounds_toArray, List.set_cons_zero, List.set_cons_succ, i64_w, i32_w]
       rfl
      refine pure_ (i := 20) (N := some 44) (v := undef) (a' := ?_) #[true, true, true, true, true, true, true, true, true, true, true, true, true, true, true, true, true, true, true, true, true, false, false, false, false] rfl rfl (any_of HT_.out (by kernel_rfl)) (fun _ _ _ h => h) (Or.inr ⟨by rfl, rfl⟩) ?_ ?_
      rotate_left
      ·simp only [Act.put, List.setIfInBounds_toArray, List.set_cons_zero, List.set_cons_succ, i64_w, i32_w]
       rfl
      refine pure_ (i := 21) (N := some 45) (v := undef) (a' := ?_) #[true, true, true, true, true, true, true, true, true, true, true, true, true, true, true, true, true, true, true, true, true, true, false, false, false] rfl rfl (any_of HT_.out (by kernel_rfl)) (fun _ _ _ h => h) (Or.inr ⟨by rfl, rfl⟩) ?_ ?_
      rotate_left
      ·simp only [Act.put, List.setIfInBounds_toArray, List.set_cons_zero, List.set_cons_succ, i64_w, i32_w]
       rfl
      refine pure_ (i := 22) (N := some 46) (v := undef) (a' := ?_) #[true, true, true, true, true, true, true, true, true, true, true, true, true, true, true, true, true, true, true, true, true, true, true, false, false] rfl rfl (any_of HT_.out (by kernel_rfl)) (fun _ _ _ h => h) (Or.inr ⟨by rfl, rfl⟩) ?_ ?_
      rotate_left
      ·simp only [Act.put, List.setIfInBounds_toArray, List.set_cons_zero, List.set_cons_succ, i64_w, i32_w]
       rfl
      refine pure_ (i := 23) (N := some 47) (v := undef) (a' := ?_) #[true, true, true, true, true, true, true, true, true, true, true, true, true, true, true, true, true, true, true, true, true, true, true, true, false] rfl rfl (any_of HT_.out (by kernel_rfl)) (fun _ _ _ h => h) (Or.inr ⟨by rfl, rfl⟩) ?_ ?_
      rotate_left
      ·simp only [Act.put, List.setIfInBounds_toArray, List.set_cons_zero, List.set_cons_succ, i64_w, i32_w]
       rfl
      refine pure_ (i := 24) (N := some 48) (v := ?_) (a' := ?_) #[true, true, true, true, true, true, true, true, true, true, true, true, true, true, true, true, true, true, true, true, true, true, true, true, true] rfl rfl (any_of HT_.out (by kernel_rfl)) (fun _ _ _ h => h) (Or.inl ⟨by rfl, ?_⟩) ?_ ?_
      rotate_left
      ·intro w'
       go_simp
       with_reducible rfl
      rotate_left
      ·simp only [Act.put, List.setIfInBounds_toArray, List.set_cons_zero, List.set_cons_succ, i64_w, i32_w]
       rfl
      refine done_ (done_of HT_.out (by kernel_rfl)) ?_
      try go_wp2
      go_meet
      case rel => exact ⟨_, (true), (by first | rfl | (simp; done) | (simp [*]; done)), H', ⟨by first | omega | exact Nat.le_refl _⟩, ⟨by (with_reducible repeat (first | apply Kd.V_alloc | apply Kd.V_drewN | apply Kd.V_drew)); exact Kd.V_mono HO0_1.out (fun _ hk => ⟨hk.1.1.1.1, ⟨hk.1.1.1.2, ⟨hk.1.1.2, hk.1.2⟩⟩⟩)⟩, ⟨by (with_reducible repeat (first | apply Kd.V_alloc | apply Kd.V_drewN | apply Kd.V_drew)); exact Kd.V_mono HO1_1.out (fun _ hk => ⟨hk.1.1.1.1, ⟨hk.1.1.1.2, ⟨hk.1.1.2, hk.1.2⟩⟩⟩)⟩, ⟨by (with_reducible repeat (first | apply Kd.V_alloc | apply Kd.V_drewN | apply Kd.V_drew)); exact Kd.V_mono HO2_1.out (fun _ hk => ⟨hk.1.1.1.1, ⟨hk.1.1.1.2, ⟨hk.1.1.2, hk.1.2⟩⟩⟩)⟩, ⟨by (with_reducible repeat (first | refine blk_drewN ?_ _ | refine blk_drew ?_ | refine blk_alloc ?_ _)); exact BK478.out⟩, ⟨by (with_reducible repeat (first | refine blk_drewN ?_ _ | refine blk_drew ?_ | refine blk_alloc ?_ _)); exact BK479.out⟩, ⟨by (with_reducible repeat (first | refine blk_drewN ?_ _ | refine blk_drew ?_ | refine blk_alloc ?_ _)); exact BK480.out⟩, ⟨by repeat (first | (with_reducible first | exact HB.out | apply bA | apply bN | apply bD | refine bS ?_ GE478.out | refine bS ?_ GE479.out | refine bS ?_ GE480.out) | exact HB.out)⟩⟩
    ·rw [if_neg c30] at H
     have c30b0 : (t486 == t492) = false := beq_eq_false_iff_ne.mpr c30
     have c30b1 : (t486 != t492) = true := bne_iff_ne.mpr c30
     (first | rw [c30b0] | rw [c30b1] | (simp only [i64_w, i32_w]; rw [c30b0]) | skip)
     have H' := Aside0.mk H
     clear H
     try go_wp2
     have n0_ := Aside0.mk (Kd.V_drew HO0_1.out)
     have n1_ := Aside0.mk (Kd.V_drew HO1_1.out)
     have n2_ := Aside0.mk (Kd.V_drew HO2_1.out)
     have n3_ := Aside0.mk (Kd.N_drew HO484.out)
     have n4_ := Aside0.mk (blk_drew BK478.out)
     have n5_ := Aside0.mk (blk_drew BK479.out)
     have n6_ := Aside0.mk (blk_drew BK480.out)
     have n7_ := Aside0.mk (bD HB.out)
     clear HO0_1
     clear HO1_1
     clear HO2_1
     clear HO484
     clear BK478
     clear BK479
     clear BK480
     clear HB
     have HO0_1 := n0_
     have HO1_1 := n1_
     have HO2_1 := n2_
     have HO484 := n3_
     have BK478 := n4_
     have BK479 := n5_
     have BK480 := n6_
     have HB := n7_
     clear n0_ n1_ n2_ n3_ n4_ n5_ n6_ n7_
     refine start_ (n := 25) (S := fun w' => w'.cell? ⟨gb478, 0, none⟩ = some (.bool a0_0) ∧ w'.cell? ⟨gb478, 1, none⟩ = some (.slice A0_1 l0_1.length c0_1) ∧ w'.cell? ⟨gb479, 0, none⟩ = some (.bool a1_0) ∧ w'.cell? ⟨gb479, 1, none⟩ = some (.slice A1_1 l1_1.length c1_1)) (ds := []) #[false, false, false, false, false, false, false, false, false, false, false, false, false, false, false, false, false, false, false, false, false, false, false, false, false] (by kernel_rfl) rfl rfl ⟨(blk_cell BK478.out 0).trans rfl, (blk_cell BK478.out 1).trans rfl, (blk_cell BK479.out 0).trans rfl, (blk_cell BK479.out 1).trans rfl⟩ (fun hHeld => ?_); refine with_tabW isohyetlaw02_NumOrders.tab6 isohyetlaw02_NumOrders.bits6 (fun HT_ HW_ => ?_)
     generalize w27.drew = w51 at HO0_1 HO1_1 HO2_1 HO484 BK478 BK479 BK480 HB hHeld ⊢
     refine pure_ (i := 0) (N := some 24) (v := ?_) (a' := ?_) #[true, false, false, false, false, false, false, false, false, false, false, false, false, false, false, false, false, false, false, false, false, false, false, false, false] rfl rfl (any_of HT_.out (by kernel_rfl)) (fun _ _ _ h => h) (Or.inl ⟨by rfl, ?_⟩) ?_ ?_
     rotate_left
     ·intro w'
      go_simp
      with_reducible rfl
     rotate_left
     ·simp only [Act.put, List.setIfInBounds_toArray, List.set_cons_zero, List.set_cons_succ, i64_w, i32_w]
      rfl
     refine take_ (i := 1) (N := some 25) (v := ?_) (a' := ?_) #[true, true, false, false, false, false, false, false, false, false, false, false, false, false, false, false, false, false, false, false, false, false, false, false, false] rfl rfl (take_ofW HT_.out HW_.out (by kernel_rfl)) (fun _ _ _ h => h) (Or.inl ⟨by rfl, ?_⟩) hHeld ?_ ?_
     rotate_left
     ·rintro w' ⟨s0, s1, s2, s3⟩
      go_simp
      with_reducible rfl
     rotate_left
     ·simp only [Act.put, List.setIfInBounds_toArray, List.set_cons_zero, List.set_cons_succ, i64_w, i32_w]
      rfl
     refine take_ (i := 2) (N := some 26) (v := ?_) (a' := ?_) #[true, true, true, false, false, false, false, false, false, false, false, false, false, false, false, false, false, false, false, false, false, false, false, false, false] rfl rfl (take_ofW HT_.out HW_.out (by kernel_rfl)) (fun _ _ _ h => h) (Or.inl ⟨by rfl, ?_⟩) hHeld ?_ ?_
     rotate_left
     ·rintro w' ⟨s0, s1, s2, s3⟩
      go_simp
      with_reducible rfl
     rotate_left
     ·simp only [Act.put, List.setIfInBounds_toArray, List.set_cons_zero, List.set_cons_succ, i64_w, i32_w]
      rfl
     refine one_ (i := 3) (N := some 27) #[true, true, true, true, false, false, false, false, false, false, false, false, false, false, false, false, false, false, false, false, false, false, false, false, false] rfl rfl (one_of HT_.out (by kernel_rfl)) (by decide) (fun K hK => ?_)
     refine goes_ Try.func16 (by kernel_rfl) rfl #[.agg #[.bool a0_0, .slice A0_1 l0_1.length c0_1], .agg #[.bool a1_0, .slice A1_1 l1_1.length c1_1]] (by rfl) rfl rfl (by (try simp only [List.map_toArray, List.map_cons, List.map_nil]); first | done | rfl | (simp only [List.length_drop, List.length_take]; rfl)) ?_
     with_reducible refine (num_Sub.calls k a0_0 (fun k_ => ((((((P0_1_ k_ ∨ P1_1_ k_ ∨ P2_1_ k_) ∨ w.heap.size ≤ k_) ∧ k_ ≠ gb478) ∧ k_ ≠ gb479) ∧ k_ ≠ gb480) ∧ some k_ ≠ (.slice Ao23 y482.length co23 : Value).ownBlock)) _ _ l0_1 a1_0 (fun k_ => ((((((P0_1_ k_ ∨ P1_1_ k_ ∨ P2_1_ k_) ∨ w.heap.size ≤ k_) ∧ k_ ≠ gb478) ∧ k_ ≠ gb479) ∧ k_ ≠ gb480) ∧ some k_ ≠ (.slice Ao23 y482.length co23 : Value).ownBlock)) _ _ l1_1 t488 t489 _ ?side1 ?side2 A28.out).mono ?_
     (case side1 => exact HO0_1.out)
     (case side2 => exact HO1_1.out)
     rintro e w52 ⟨v490, rfl, ho0, hb⟩
     refine ⟨_, rfl, ?_⟩
     have n0_ := Aside0.mk (Kd.V_below (gV HO0_1.out) hb)
     have n1_ := Aside0.mk (Kd.V_below (gV HO1_1.out) hb)
     have n2_ := Aside0.mk (Kd.V_below (gV HO2_1.out) hb)
     have n3_ := Aside0.mk (Kd.N_below (gN HO484.out) hb)
     have n4_ := Aside0.mk (Kd.V_lower (Kd.V_mono (ok' := fun k_ => ((P0_1_ k_ ∨ P1_1_ k_ ∨ P2_1_ k_) ∨ w.heap.size ≤ k_) ∧ some k_ ≠ (.slice Ao23 y482.length co23 : Value).ownBlock ∧ k_ ≠ gb478 ∧ k_ ≠ gb479 ∧ k_ ≠ gb480) ho0 (fun k_ hk_ => ⟨Or.elim hk_ (fun hs_ => Or.elim hs_ (fun hs_ => hs_.1.1.1.1) (fun hs_ => hs_.1.1.1.1)) (fun hn_ => (.inr (Nat.le_trans (below_size (by repeat (first | (with_reducible first | exact HB.out | apply bA | apply bN | apply bD | refine bS ?_ GE478.out | refine bS ?_ GE479.out | refine bS ?_ GE480.out) | exact HB.out))) hn_))), Or.elim hk_ (fun hs_ => Or.elim hs_ (fun hs_ => hs_.2) (fun hs_ => hs_.2)) (fun hn_ => (Kd.fresh' (Kd.N_lt (gN HO484.out)) k_ hn_)), Or.elim hk_ (fun hs_ => Or.elim hs_ (fun hs_ => hs_.1.1.1.2) (fun hs_ => hs_.1.1.1.2)) (fun hn_ => (Kd.freshB (g := gb478) (o := .cells #[.bool a0_0, .slice A0_1 l0_1.length c0_1] 25 (0, 0)) (gK BK478.out) k_ hn_)), Or.elim hk_ (fun hs_ => Or.elim hs_ (fun hs_ => hs_.1.1.2) (fun hs_ => hs_.1.1.2)) (fun hn_ => (Kd.freshB (g := gb479) (o := .cells #[.bool a1_0, .slice A1_1 l1_1.length c1_1] 25 (0, 0)) (gK BK479.out) k_ hn_)), Or.elim hk_ (fun hs_ => Or.elim hs_ (fun hs_ => hs_.1.2) (fun hs_ => hs_.1.2)) (fun hn_ => (Kd.freshB (g := gb480) (o := .cells #[.bool a2_0, .slice A2_1 l2_1.length c2_1] 25 (0, 0)) (gK BK480.out) k_ hn_))⟩)) (below_size (by repeat (first | (with_reducible first | exact HB.out | apply bA | apply bN | apply bD | refine bS ?_ GE478.out | refine bS ?_ GE479.out | refine bS ?_ GE480.out) | exact HB.out))))
     have n5_ := Aside0.mk (blk_below (gK BK478.out) hb)
     have n6_ := Aside0.mk (blk_below (gK BK479.out) hb)
     have n7_ := Aside0.mk (blk_below (gK BK480.out) hb)
     have n8_ := Aside0.mk (below_step (by repeat (first | (with_reducible first | exact HB.out | apply bA | apply bN | apply bD | refine bS ?_ GE478.out | refine bS ?_ GE479.out | refine bS ?_ GE480.out) | exact HB.out)) hb)
     clear HO0_1
     clear HO1_1
     clear HO2_1
     clear HO484
     clear BK478
     clear BK479
     clear BK480
     clear HB
     have HO0_1 := n0_
     have HO1_1 := n1_
     have HO2_1 := n2_
     have HO484 := n3_
     have HO491 := n4_
     have BK478 := n5_
     have BK479 := n6_
     have BK480 := n7_
     have HB := n8_
     clear n0_ n1_ n2_ n3_ n4_ n5_ n6_ n7_ n8_
     (try clear hb)
     (try clear hb2)
     (try clear hk)
     (try clear hi)
     (try clear ho0)
     obtain ⟨Ao53, co53, eo53⟩ := Kd.V_slice HO491.out
     (first | subst eo53 | (injection eo53 with f1_ f2_ f3_; have f4_ := f1_.symm; have f5_ := f3_.symm; clear f1_ f2_ f3_; subst f4_; subst f5_))
     refine hK.out _ _ ⟨(blk_cell BK478.out 0).trans rfl, (blk_cell BK478.out 1).trans rfl, (blk_cell BK479.out 0).trans rfl, (blk_cell BK479.out 1).trans rfl⟩ (fun hHeld => ?_)
     clear hK K
     refine norm_ (a' := ?_) ?_ ?_
     rotate_left
     ·show Act.put _ (some 27) _ = _
      simp only [Act.put, List.setIfInBounds_toArray, List.set_cons_zero, List.set_cons_succ, i64_w, i32_w]
      rfl
     refine one_ (i := 4) (N := some 28) #[true, true, true, true, true, false, false, false, false, false, false, false, false, false, false, false, false, false, false, false, false, false, false, false, false] rfl rfl (one_of HT_.out (by kernel_rfl)) (by decide) (fun K hK => ?_)
     refine goes_ Try.func15 (by kernel_rfl) rfl #[.agg #[.bool t488, .slice Ao53 t489.length co53]] (by rfl) rfl rfl (by (try simp only [List.map_toArray, List.map_cons, List.map_nil]); first | done | rfl | (simp only [List.length_drop, List.length_take]; rfl)) ?_
     with_reducible refine (num_Sign.calls k t488 _ _ t489 t492 _ ?side1 ?side2 A29.out).mono ?_
     (case side1 => repeat (first | exact (Kd.V_reads' HO491.out).2.2 | (with_reducible refine Kd.C_alloc ?_ _) | (with_reducible refine Kd.C_drewN ?_ _) | (with_reducible refine Kd.C_drew ?_)))
     (case side2 => exact (Kd.V_reads' HO491.out).2.1)
     rintro e w54 ⟨rfl, hb⟩
     refine ⟨_, rfl, ?_⟩
     have n0_ := Aside0.mk (Kd.V_below (gV HO0_1.out) hb)
     have n1_ := Aside0.mk (Kd.V_below (gV HO1_1.out) hb)
     have n2_ := Aside0.mk (Kd.V_below (gV HO2_1.out) hb)
     have n3_ := Aside0.mk (Kd.N_below (gN HO484.out) hb)
     have n4_ := Aside0.mk (Kd.V_below (gV HO491.out) hb)
     have n5_ := Aside0.mk (blk_below (gK BK478.out) hb)
     have n6_ := Aside0.mk (blk_below (gK BK479.out) hb)
     have n7_ := Aside0.mk (blk_below (gK BK480.out) hb)
     have n8_ := Aside0.mk (below_step (by repeat (first | (with_reducible first | exact HB.out | apply bA | apply bN | apply bD | refine bS ?_ GE478.out | refine bS ?_ GE479.out | refine bS ?_ GE480.out) | exact HB.out)) hb)
     clear HO0_1
     clear HO1_1
     clear HO2_1
     clear HO484
     clear HO491
     clear BK478
     clear BK479
     clear BK480
     clear HB
     have HO0_1 := n0_
     have HO1_1 := n1_
     have HO2_1 := n2_
     have HO484 := n3_
     have HO491 := n4_
     have BK478 := n5_
     have BK479 := n6_
     have BK480 := n7_
     have HB := n8_
     clear n0_ n1_ n2_ n3_ n4_ n5_ n6_ n7_ n8_
     (try clear hb)
     (try clear hb2)
     (try clear hk)
     (try clear hi)
     refine hK.out _ _ ⟨(blk_cell BK478.out 0).trans rfl, (blk_cell BK478.out 1).trans rfl, (blk_cell BK479.out 0).trans rfl, (blk_cell BK479.out 1).trans rfl⟩ (fun hHeld => ?_)
     clear hK K
     refine norm_ (a' := ?_) ?_ ?_
     rotate_left
     ·show Act.put _ (some 28) _ = _
      simp only [Act.put, List.setIfInBounds_toArray, List.set_cons_zero, List.set_cons_succ, i64_w, i32_w]
      rfl
     refine pure_ (i := 5) (N := some 29) (v := ?_) (a' := ?_) #[true, true, true, true, true, true, false, false, false, false, false, false, false, false, false, false, false, false, false, false, false, false, false, false, false] rfl rfl (any_of HT_.out (by kernel_rfl)) (fun _ _ _ h => h) (Or.inl ⟨by rfl, ?_⟩) ?_ ?_
     rotate_left
     ·intro w'
      go_simp
      with_reducible rfl
     rotate_left
     ·simp only [Act.put, List.setIfInBounds_toArray, List.set_cons_zero, List.set_cons_succ, i64_w, i32_w]
      rfl
     refine pure_ (i := 6) (N := some 30) (v := ?_) (a' := ?_) #[true, true, true, true, true, true, true, false, false, false, false, false, false, false, false, false, false, false, false, false, false, false, false, false, false] rfl rfl (any_of HT_.out (by kernel_rfl)) (fun _ _ _ h => h) (Or.inl ⟨by rfl, ?_⟩) ?_ ?_
     rotate_left
     ·intro w'
      go_simp
      with_reducible rfl
     rotate_left
     ·simp only [Act.put, List.setIfInBounds_toArray, List.set_cons_zero, List.set_cons_succ, i64_w, i32_w]
      rfl
     refine pure_ (i := 7) (N := some 31) (v := undef) (a' := ?_) #[true, true, true, true, true, true, true, true, false, false, false, false, false, false, false, false, false, false, false, false, false, false, false, false, false] rfl rfl (any_of HT_.out (by kernel_rfl)) (fun _ _ _ h => h) (Or.inr ⟨by rfl, rfl⟩) ?_ ?_
     rotate_left
     ·simp only [Act.put, List.setIfInBounds_toArray, List.set_cons_zero, List.set_cons_succ, i64_w, i32_w]
      rfl
     refine pure_ (i := 8) (N := some 32) (v := undef) (a' := ?_) #[true, true, true, true, true, true, true, true, true, false, false, false, false, false, false, false, false, false, false, false, false, false, false, false, false] rfl rfl (any_of HT_.out (by kernel_rfl)) (fun _ _ _ h => h) (Or.inr ⟨by rfl, rfl⟩) ?_ ?_
     rotate_left
     ·simp only [Act.put, List.setIfInBounds_toArray, List.set_cons_zero, List.set_cons_succ, i64_w, i32_w]
      rfl
     refine pure_ (i := 9) (N := some 33) (v := undef) (a' := ?_) #[true, true, true, true, true, true, true, true, true, true, false, false, false, false, false, false, false, false, false, false, false, false, false, false, false] rfl rfl (any_of HT_.out (by kernel_rfl)) (fun _ _ _ h => h) (Or.inr ⟨by rfl, rfl⟩) ?_ ?_
     rotate_left
     ·simp only [Act.put, List.setIfInBounds_toArray, List.set_cons_zero, List.set_cons_succ, i64_w, i32_w]
      rfl
     refine pure_ (i := 10) (N := some 34) (v := undef) (a' := ?_) #[true, true, true, true, true, true, true, true, true, true, true, false, false, false, false, false, false, false, false, false, false, false, false, false, false] rfl rfl (any_of HT_.out (by kernel_rfl)) (fun _ _ _ h => h) (Or.inr ⟨by rfl, rfl⟩) ?_ ?_
     rotate_left
     ·simp only [Act.put, List.setIfInBounds_toArray, List.set_cons_zero, List.set_cons_succ, i64_w, i32_w]
      rfl
     refine pure_ (i := 11) (N := some 35) (v := undef) (a' := ?_) #[true, true, true, true, true, true, true, true, true, true, true, true, false, false, false, false, false, false, false, false, false, false, false, false, false] rfl rfl (any_of HT_.out (by kernel_rfl)) (fun _ _ _ h => h) (Or.inr ⟨by rfl, rfl⟩) ?_ ?_
     rotate_left
     ·simp only [Act.put, List.setIfInBounds_toArray, List.set_cons_zero, List.set_cons_succ, i64_w, i32_w]
      rfl
     refine pure_ (i := 12) (N := some 36) (v := undef) (a' := ?_) #[true, true, true, true, true, true, true, true, true, true, true, true, true, false, false, false, false, false, false, false, false, false, false, false, false] rfl rfl (any_of HT_.out (by kernel_rfl)) (fun _ _ _ h => h) (Or.inr ⟨by rfl, rfl⟩) ?_ ?_
     rotate_left
     ·simp only [Act.put, List.setIfInBounds_toArray, List.set_cons_zero, List.set_cons_succ, i64_w, i32_w]
      rfl
     refine pure_ (i := 13) (N := some 37) (v := ?_) (a' := ?_) #[true, true, true, true, true, true, true, true, true, true, true, true, true, true, false, false, false, false, false, false, false, false, false, false, false] rfl rfl (any_of HT_.out (by kernel_rfl)) (fun _ _ _ h => h) (Or.inl ⟨by rfl, ?_⟩) ?_ ?_
     rotate_left
     ·intro w'
      go_simp
      with_reducible rfl
     rotate_left
     ·simp only [Act.put, List.setIfInBounds_toArray, List.set_cons_zero, List.set_cons_succ, i64_w, i32_w]
      rfl
     refine pure_ (i := 14) (N := some 38) (v := ?_) (a' := ?_) #[true, true, true, true, true, true, true, true, true, true, true, true, true, true, true, false, false, false, false, false, false, false, false, false, false] rfl rfl (any_of HT_.out (by kernel_rfl)) (fun _ _ _ h => h) (Or.inl ⟨by rfl, ?_⟩) ?_ ?_
     rotate_left
     ·intro w'
      go_simp
      with_reducible rfl
     rotate_left
     ·simp only [Act.put, List.setIfInBounds_toArray, List.set_cons_zero, List.set_cons_succ, i64_w, i32_w]
      rfl
     refine pure_ (i := 15) (N := some 39) (v := undef) (a' := ?_) #[true, true, true, true, true, true, true, true, true, true, true, true, true, true, true, true, false, false, false, false, false, false, false, false, false] rfl rfl (any_of HT_.out (by kernel_rfl)) (fun _ _ _ h => h) (Or.inr ⟨by rfl, rfl⟩) ?_ ?_
     rotate_left
     ·simp only [Act.put, List.setIfInBounds_toArray, List.set_cons_zero, List.set_cons_succ, i64_w, i32_w]
      rfl
     refine pure_ (i := 16) (N := some 40) (v := undef) (a' := ?_) #[true, true, true, true, true, true, true, true, true, true, true, true, true, true, true, true, true, false, false, false, false, false, false, false, false] rfl rfl (any_of HT_.out (by kernel_rfl)) (fun _ _ _ h => h) (Or.inr ⟨by rfl, rfl⟩) ?_ ?_
     rotate_left
     ·simp only [Act.put, List.setIfInBounds_toArray, List.set_cons_zero, List.set_cons_succ, i64_w, i32_w]
      rfl
     refine pure_ (i := 17) (N := some 41) (v := undef) (a' := ?_) #[true, true, true, true, true, true, true, true, true, true, true, true, true, true, true, true, true, true, false, false, false, false, false, false, false] rfl rfl (any_of HT_.out (by kernel_rfl)) (fun _ _ _ h => h) (Or.inr ⟨by rfl, rfl⟩) ?_ ?_
     rotate_left
     ·simp only [Act.put, List.setIfInBounds_toArray, List.set_cons_zero, List.set_cons_succ, i64_w, i32_w]
      rfl
     refine pure_ (i := 18) (N := some 42) (v := undef) (a' := ?_) #[true, true, true, true, true, true, true, true, true, true, true, true, true, true, true, true, true, true, true, false, false, false, false, false, false] rfl rfl (any_of HT_.out (by kernel_rfl)) (fun _ _ _ h => h) (Or.inr ⟨by rfl, rfl⟩) ?_ ?_
     rotate_left
     ·simp only [Act.put, List.setIfInBounds_toArray, List.set_cons_zero, List.set_cons_succ, i64_w, i32_w]
      rfl
     refine pure_ (i := 19) (N := some 43) (v := undef) (a' := ?_) #[true, true, true, true, true, true, true, true, true, true, true, true, true, true, true, true, true, true, true, true, false, false, false, false, false] rfl rfl (any_of HT_.out (by kernel_rfl)) (fun _ _ _ h => h) (Or.inr ⟨by rfl, rfl⟩) ?_ ?_
     rotate_left
     ·simp only [Act.put, List.setIfInBounds_toArray, List.set_cons_zero, List.set_cons_succ, i64_w, i32_w]
      rfl
     refine pure_ (i := 20) (N := some 44) (v := undef) (a' := ?_) #[true, true, true, true, true, true, true, true, true, true, true, true, true, true, true, true, true, true, true, true, true, false, false, false, false] rfl rfl (any_of HT_.out (by kernel_rfl)) (fun _ _ _ h => h) (Or.inr ⟨by rfl, rfl⟩) ?_ ?_
     rotate_left
     ·simp only [Act.put, List.setIfInBounds_toArray, List.set_cons_zero, List.set_cons_succ, i64_w, i32_w]
      rfl
     refine pure_ (i := 21) (N := some 45) (v := undef) (a' := ?_) #[true, true, true, true, true, true, true, true, true, true, true, true, true, true, true, true, true, true, true, true, true, true, false, false, false] rfl rfl (any_of HT_.out (by kernel_rfl)) (fun _ _ _ h => h) (Or.inr ⟨by rfl, rfl⟩) ?_ ?_
     rotate_left
     ·simp only [Act.put, List.setIfInBounds_toArray, List.set_cons_zero, List.set_cons_succ, i64_w, i32_w]
      rfl
     refine pure_ (i := 22) (N := some 46) (v := undef) (a' := ?_) #[true, true, true, true, true, true, true, true, true, true, true, true, true, true, true, true, true, true, true, true, true, true, true, false, false] rfl rfl (any_of HT_.out (by kernel_rfl)) (fun _ _ _ h => h) (Or.inr ⟨by rfl, rfl⟩) ?_ ?_
     rotate_left
     ·simp only [Act.put, List.setIfInBounds_toArray, List.set_cons_zero, List.set_cons_succ, i64_w, i32_w]
      rfl
     refine pure_ (i := 23) (N := some 47) (v := undef) (a' := ?_) #[true, true, true, true, true, true, true, true, true, true, true, true, true, true, true, true, true, true, true, true, true, true, true, true, false] rfl rfl (any_of HT_.out (by kernel_rfl)) (fun _ _ _ h => h) (Or.inr ⟨by rfl, rfl⟩) ?_ ?_
     rotate_left
     ·simp only [Act.put, List.setIfInBounds_toArray, List.set_cons_zero, List.set_cons_succ, i64_w, i32_w]
      rfl
     refine pure_ (i := 24) (N := some 48) (v := ?_) (a' := ?_) #[true, true, true, true, true, true, true, true, true, true, true, true, true, true, true, true, true, true, true, true, true, true, true, true, true] rfl rfl (any_of HT_.out (by kernel_rfl)) (fun _ _ _ h => h) (Or.inl ⟨by rfl, ?_⟩) ?_ ?_
     rotate_left
     ·intro w'
      go_simp
      with_reducible rfl
     rotate_left
     ·simp only [Act.put, List.setIfInBounds_toArray, List.set_cons_zero, List.set_cons_succ, i64_w, i32_w]
      rfl
     refine done_ (done_of HT_.out (by kernel_rfl)) ?_
     try go_wp2
     go_meet
     case rel => exact ⟨_, (true), (by first | rfl | (simp; done) | (simp [*]; done)), H', ⟨by first | omega | exact Nat.le_refl _⟩, ⟨by (with_reducible repeat (first | apply Kd.V_alloc | apply Kd.V_drewN | apply Kd.V_drew)); exact Kd.V_mono HO0_1.out (fun _ hk => ⟨hk.1.1.1.1, ⟨hk.1.1.1.2, ⟨hk.1.1.2, hk.1.2⟩⟩⟩)⟩, ⟨by (with_reducible repeat (first | apply Kd.V_alloc | apply Kd.V_drewN | apply Kd.V_drew)); exact Kd.V_mono HO1_1.out (fun _ hk => ⟨hk.1.1.1.1, ⟨hk.1.1.1.2, ⟨hk.1.1.2, hk.1.2⟩⟩⟩)⟩, ⟨by (with_reducible repeat (first | apply Kd.V_alloc | apply Kd.V_drewN | apply Kd.V_drew)); exact Kd.V_mono HO2_1.out (fun _ hk => ⟨hk.1.1.1.1, ⟨hk.1.1.1.2, ⟨hk.1.1.2, hk.1.2⟩⟩⟩)⟩, ⟨by (with_reducible repeat (first | refine blk_drewN ?_ _ | refine blk_drew ?_ | refine blk_alloc ?_ _)); exact BK478.out⟩, ⟨by (with_reducible repeat (first | refine blk_drewN ?_ _ | refine blk_drew ?_ | refine blk_alloc ?_ _)); exact BK479.out⟩, ⟨by (with_reducible repeat (first | refine blk_drewN ?_ _ | refine blk_drew ?_ | refine blk_alloc ?_ _)); exact BK480.out⟩, ⟨by repeat (first | (with_reducible first | exact HB.out | apply bA | apply bN | apply bD | refine bS ?_ GE478.out | refine bS ?_ GE479.out | refine bS ?_ GE480.out) | exact HB.out)⟩⟩
   case rest =>
    clear HC10
    try clear c1
    try clear c2
    try clear p2
    try clear c3
    try clear p6
    try clear c14
    try clear c15
    try clear c16
    try clear c30
    try clear c30b0
    try clear c30b1
    try clear c32
    try clear c32b0
    try clear c32b1
    obtain ⟨kq, x48_9, rfl, HA, HJ9, HO_479001, HO_480001, HO_481001, BK478, BK479, BK480, HB⟩ := hcut
    cases kq with
    | zero => exact absurd HA.out (by simp [isohyetlaw02_NumOrders.j0])
    | succ kj9 =>
     have H := HA.out
     clear HA
     simp only [isohyetlaw02_NumOrders.j0] at H
     by_cases c55 : x48_9 = true
     ·subst c55
      have H1 : (some false) = some r := by rw [if_pos rfl] at H; exact H
      clear H
      have H := H1
      clear H1
      exact absurd ((Option.some.inj H).trans HTRUE) (by decide)
     ·replace c55 := Bool.eq_false_iff.mpr c55
      subst c55
      have H1 : ((num_Make.f kj9 a0_0 l0_1).bind fun bt503 => ((isohyetlaw02_Right.f bt503.1 bt503.2).bind fun t508 => (if t508 = true then ((num_Cmp.f kj9 bt503.1 bt503.2 a0_0 l0_1).bind fun t509 => (if t509 = 0 then (if t486 < 0 then (some true) else (if t487 < 0 then (some true) else ((num_Cmp.f kj9 a0_0 l0_1 a2_0 l2_1).bind fun t510 => (some (decide (t510 ≥ 0)))))) else (some false))) else (some false)))) = some r := by rw [if_neg (show ¬ (false = true) by decide)] at H; exact H
      clear H
      have H := H1
      clear H1
      replace H := Option.bind_eq_some_iff.mp H
      obtain ⟨⟨t503, t504⟩, A560, H⟩ := H
      replace H : ((isohyetlaw02_Right.f t503 t504).bind fun t508 => (if t508 = true then ((num_Cmp.f kj9 t503 t504 a0_0 l0_1).bind fun t509 => (if t509 = 0 then (if t486 < 0 then (some true) else (if t487 < 0 then (some true) else ((num_Cmp.f kj9 a0_0 l0_1 a2_0 l2_1).bind fun t510 => (some (decide (t510 ≥ 0)))))) else (some false))) else (some false))) = some r := H
      have A56 := Aside0.mk A560
      clear A560
      replace H := Option.bind_eq_some_iff.mp H
      obtain ⟨t508, A570, H⟩ := H
      replace H : (if t508 = true then ((num_Cmp.f kj9 t503 t504 a0_0 l0_1).bind fun t509 => (if t509 = 0 then (if t486 < 0 then (some true) else (if t487 < 0 then (some true) else ((num_Cmp.f kj9 a0_0 l0_1 a2_0 l2_1).bind fun t510 => (some (decide (t510 ≥ 0)))))) else (some false))) else (some false)) = some r := H
      have A57 := Aside0.mk A570
      clear A570
      by_cases c58 : t508 = true
      ·subst c58
       have H1 : ((num_Cmp.f kj9 t503 t504 a0_0 l0_1).bind fun t509 => (if t509 = 0 then (if t486 < 0 then (some true) else (if t487 < 0 then (some true) else ((num_Cmp.f kj9 a0_0 l0_1 a2_0 l2_1).bind fun t510 => (some (decide (t510 ≥ 0)))))) else (some false))) = some r := by rw [if_pos rfl] at H; exact H
       clear H
       have H := H1
       clear H1
       replace H := Option.bind_eq_some_iff.mp H
       obtain ⟨t509, A590, H⟩ := H
       replace H : (if t509 = 0 then (if t486 < 0 then (some true) else (if t487 < 0 then (some true) else ((num_Cmp.f kj9 a0_0 l0_1 a2_0 l2_1).bind fun t510 => (some (decide (t510 ≥ 0)))))) else (some false)) = some r := H
       have A59 := Aside0.mk A590
       clear A590
       by_cases c60 : t509 = 0
       ·rw [if_pos c60] at H
        have c60b0 : (t509 == 0) = true := beq_iff_eq.mpr c60
        have c60b1 : (t509 != 0) = false := bne_eq_false_iff_eq.mpr c60
        clear c60
        by_cases c61 : t486 < 0
        ·rw [if_pos c61] at H
         have c61b0 : decide (t486 < 0) = true := decide_eq_true c61
         clear c61
         obtain rfl := Option.some.inj H
         have hnb62 := NB478_479.out
         have hnc62 := NB479_478.out
         have hnb63 := NB478_480.out
         have hnc63 := NB480_478.out
         have hcz64_0 : wc.cell? ⟨gb478, 0, none⟩ = some (.bool a0_0) := (blk_cell BK478.out 0).trans rfl
         have hcz64_1 : wc.cell? ⟨gb478, 1, none⟩ = some (.slice A0_1 l0_1.length c0_1) := (blk_cell BK478.out 1).trans rfl
         have hfz64_0 := blk_frozen BK478.out 0
         have hfz64_1 := blk_frozen BK478.out 1
         go_wp2_with (first | ((with_reducible refine gate_callee (f := 18) rfl ?_); refine goesL_ (some 53) rfl rfl Try.func18 (by kernel_rfl) rfl #[.bool a0_0, .slice A0_1 l0_1.length c0_1] rfl (by (try simp only [List.map_toArray, List.map_cons, List.map_nil]); first | done | rfl | (simp only [List.length_drop, List.length_take]; rfl)) ?_; (with_reducible refine (num_Make.calls kj9 a0_0 (fun k_ => (((P0_1_ k_ ∨ P1_1_ k_ ∨ P2_1_ k_) ∨ w.heap.size ≤ k_) ∧ (k_ ≠ gb478 ∧ (k_ ≠ gb479 ∧ k_ ≠ gb480)))) _ _ l0_1 t503 t504 _ ?side1 A56.out).mono ?_); (case side1 => exact HO_479001.out); (try clear A56); rintro e w65 ⟨v505, rfl, ho0, hb⟩; refine ⟨_, rfl, ?_⟩; have n0_ := Aside0.mk (Kd.V_below (gV HO_479001.out) hb); have n1_ := Aside0.mk (Kd.V_below (gV HO_480001.out) hb); have n2_ := Aside0.mk (Kd.V_below (gV HO_481001.out) hb); have n3_ := Aside0.mk (Kd.V_lower (Kd.V_mono (ok' := fun k_ => ((P0_1_ k_ ∨ P1_1_ k_ ∨ P2_1_ k_) ∨ w.heap.size ≤ k_) ∧ k_ ≠ gb478 ∧ k_ ≠ gb479 ∧ k_ ≠ gb480) ho0 (fun k_ hk_ => ⟨Or.elim hk_ (fun hs_ => hs_.1) (fun hn_ => (.inr (Nat.le_trans (below_size (by repeat (first | (with_reducible first | exact HB.out | apply bA | apply bN | apply bD | refine bS ?_ GE478.out | refine bS ?_ GE479.out | refine bS ?_ GE480.out) | exact HB.out))) hn_))), Or.elim hk_ (fun hs_ => hs_.2.1) (fun hn_ => (Kd.freshB (g := gb478) (o := .cells #[.bool a0_0, .slice A0_1 l0_1.length c0_1] 25 (0, 0)) (gK BK478.out) k_ hn_)), Or.elim hk_ (fun hs_ => hs_.2.2.1) (fun hn_ => (Kd.freshB (g := gb479) (o := .cells #[.bool a1_0, .slice A1_1 l1_1.length c1_1] 25 (0, 0)) (gK BK479.out) k_ hn_)), Or.elim hk_ (fun hs_ => hs_.2.2.2) (fun hn_ => (Kd.freshB (g := gb480) (o := .cells #[.bool a2_0, .slice A2_1 l2_1.length c2_1] 25 (0, 0)) (gK BK480.out) k_ hn_))⟩)) (below_size (by repeat (first | (with_reducible first | exact HB.out | apply bA | apply bN | apply bD | refine bS ?_ GE478.out | refine bS ?_ GE479.out | refine bS ?_ GE480.out) | exact HB.out)))); have n4_ := Aside0.mk (blk_below (gK BK478.out) hb); have n5_ := Aside0.mk (blk_below (gK BK479.out) hb); have n6_ := Aside0.mk (blk_below (gK BK480.out) hb); have n7_ := Aside0.mk (below_step (by repeat (first | (with_reducible first | exact HB.out | apply bA | apply bN | apply bD | refine bS ?_ GE478.out | refine bS ?_ GE479.out | refine bS ?_ GE480.out) | exact HB.out)) hb); clear HO_479001; clear HO_480001; clear HO_481001; clear BK478; clear BK479; clear BK480; clear HB; have HO_479001 := n0_; have HO_480001 := n1_; have HO_481001 := n2_; have HO506 := n3_; have BK478 := n4_; have BK479 := n5_; have BK480 := n6_; have HB := n7_; clear n0_ n1_ n2_ n3_ n4_ n5_ n6_ n7_; (try clear hb); (try clear hb2); (try clear hk); (try clear hi); (try clear ho0)) | ((with_reducible refine gate_dst (N := 9) rfl ?_); refine box_event ?hg (N := 9) ?hd (cs := #[.bool false, .slice none 0 0]) (t := 25) ?hr ?_; (case hd => rfl); (case hg => rfl); (case hr => first | (go_simp; done) | (go_simp; rfl)); intro gb507 hg w66 hbox hb; have n0_ := Aside0.mk (Kd.V_below (Kd.V_elderB (gV HO_479001.out) gb507 (Nat.le_of_eq hg.symm)) hb); have n1_ := Aside0.mk (Kd.V_below (Kd.V_elderB (gV HO_480001.out) gb507 (Nat.le_of_eq hg.symm)) hb); have n2_ := Aside0.mk (Kd.V_below (Kd.V_elderB (gV HO_481001.out) gb507 (Nat.le_of_eq hg.symm)) hb); have n3_ := Aside0.mk (Kd.V_below (Kd.V_elderB (gV HO506.out) gb507 (Nat.le_of_eq hg.symm)) hb); have n4_ := Aside0.mk (blk_below (gK BK478.out) hb); have n5_ := Aside0.mk (blk_below (gK BK479.out) hb); have n6_ := Aside0.mk (blk_below (gK BK480.out) hb); have n7_ := Aside0.mk (below_step (by repeat (first | (with_reducible first | exact HB.out | apply bA | apply bN | apply bD | refine bS ?_ GE478.out | refine bS ?_ GE479.out | refine bS ?_ GE480.out) | exact HB.out)) hb); have n8_ := Aside0.mk (hbox); have n9_ := Aside0.mk ((by rw [hg]; exact (below_size (by repeat (first | (with_reducible first | exact HB.out | apply bA | apply bN | apply bD | refine bS ?_ GE478.out | refine bS ?_ GE479.out | refine bS ?_ GE480.out) | exact HB.out))) : w.heap.size ≤ gb507)); have n10_ := Aside0.mk ((by rw [hg]; exact (below_size (by repeat (first | (with_reducible first | exact HB.out | apply bA | apply bN | apply bD | refine bS ?_ GE478.out | refine bS ?_ GE479.out | refine bS ?_ GE480.out) | exact HB.out))) : w.heap.size ≤ gb507)); have n11_ := Aside0.mk ((by rw [hg]; exact Nat.ne_of_lt (blk_lt (g := gb478) (o := .cells #[.bool a0_0, .slice A0_1 l0_1.length c0_1] 25 (0, 0)) (gK BK478.out)) : gb478 ≠ gb507)); have n12_ := Aside0.mk ((by rw [hg]; exact Nat.ne_of_gt (blk_lt (g := gb478) (o := .cells #[.bool a0_0, .slice A0_1 l0_1.length c0_1] 25 (0, 0)) (gK BK478.out)) : gb507 ≠ gb478)); have n13_ := Aside0.mk ((by rw [hg]; exact Nat.ne_of_lt (blk_lt (g := gb479) (o := .cells #[.bool a1_0, .slice A1_1 l1_1.length c1_1] 25 (0, 0)) (gK BK479.out)) : gb479 ≠ gb507)); have n14_ := Aside0.mk ((by rw [hg]; exact Nat.ne_of_gt (blk_lt (g := gb479) (o := .cells #[.bool a1_0, .slice A1_1 l1_1.length c1_1] 25 (0, 0)) (gK BK479.out)) : gb507 ≠ gb479)); have n15_ := Aside0.mk ((by rw [hg]; exact Nat.ne_of_lt (blk_lt (g := gb480) (o := .cells #[.bool a2_0, .slice A2_1 l2_1.length c2_1] 25 (0, 0)) (gK BK480.out)) : gb480 ≠ gb507)); have n16_ := Aside0.mk ((by rw [hg]; exact Nat.ne_of_gt (blk_lt (g := gb480) (o := .cells #[.bool a2_0, .slice A2_1 l2_1.length c2_1] 25 (0, 0)) (gK BK480.out)) : gb507 ≠ gb480)); clear HO_479001; clear HO_480001; clear HO_481001; clear HO506; clear BK478; clear BK479; clear BK480; clear HB; have HO_479001 := n0_; have HO_480001 := n1_; have HO_481001 := n2_; have HO506 := n3_; have BK478 := n4_; have BK479 := n5_; have BK480 := n6_; have HB := n7_; have BK507 := n8_; have GW507 := n9_; have GE507 := n10_; have NB478_507 := n11_; have NB507_478 := n12_; have NB479_507 := n13_; have NB507_479 := n14_; have NB480_507 := n15_; have NB507_480 := n16_; clear n0_ n1_ n2_ n3_ n4_ n5_ n6_ n7_ n8_ n9_ n10_ n11_ n12_ n13_ n14_ n15_ n16_; clear hb hbox hg; have hnb67 := NB507_478.out; have hnc67 := NB478_507.out; have hnb68 := NB507_479.out; have hnc68 := NB479_507.out; have hnb69 := NB507_480.out; have hnc69 := NB480_507.out; have hcz70_0 : w66.cell? ⟨gb507, 0, none⟩ = some (.bool false) := (blk_cell BK507.out 0).trans rfl; have hcz70_1 : w66.cell? ⟨gb507, 1, none⟩ = some (.slice none 0 0) := (blk_cell BK507.out 1).trans rfl; have hfz70_0 := blk_frozen BK507.out 0; have hfz70_1 := blk_frozen BK507.out 1; obtain ⟨Ao71, co71, eo71⟩ := Kd.V_slice HO506.out; subst eo71) | ((with_reducible refine gate_callee (f := 13) rfl ?_); refine goesL_ (some 55) rfl rfl Try.func13 (by kernel_rfl) rfl #[.agg #[.bool t503, .slice Ao71 t504.length co71]] rfl (by (try simp only [List.map_toArray, List.map_cons, List.map_nil]); first | done | rfl | (simp only [List.length_drop, List.length_take]; rfl)) ?_; (with_reducible refine (isohyetlaw02_Right.calls t503 _ _ t504 true _ ?side1 ?side2 A57.out).mono ?_); (case side1 => refine (Kd.V_reads' (e := 54) (base := w.heap.size) (ok := fun k_ => ((((P0_1_ k_ ∨ P1_1_ k_ ∨ P2_1_ k_) ∨ w.heap.size ≤ k_) ∧ (k_ ≠ gb478 ∧ (k_ ≠ gb479 ∧ k_ ≠ gb480))) ∧ k_ ≠ gb507)) (n := t504.length) (c := co71) ?_).2.2; exact (gV (Kd.V_mono (Kd.V_far (p := ⟨gb507, 1, none⟩) (Kd.V_far (p := ⟨gb507, 0, none⟩) (Kd.V_mono HO506.out (fun k_ hk => (⟨hk, hk.2⟩ : _ ∧ k_ ≠ gb507))) (fun _ hk => hk.2) (.bool t503)) (fun _ hk => hk.2) (.slice Ao71 t504.length co71)) (fun _ h_ => h_.1)))); (case side2 => exact (Kd.V_reads' HO506.out).2.1); (try clear A57); rintro e w72 ⟨rfl, hb⟩; refine ⟨_, rfl, ?_⟩; have n0_ := Aside0.mk (Kd.V_below (gV (Kd.V_mono (Kd.V_far (p := ⟨gb507, 1, none⟩) (Kd.V_far (p := ⟨gb507, 0, none⟩) (Kd.V_mono HO_479001.out (fun k_ hk => (⟨hk, hk.2⟩ : _ ∧ k_ ≠ gb507))) (fun _ hk => hk.2) (.bool t503)) (fun _ hk => hk.2) (.slice Ao71 t504.length co71)) (fun _ h_ => h_.1))) hb); have n1_ := Aside0.mk (Kd.V_below (gV (Kd.V_mono (Kd.V_far (p := ⟨gb507, 1, none⟩) (Kd.V_far (p := ⟨gb507, 0, none⟩) (Kd.V_mono HO_480001.out (fun k_ hk => (⟨hk, hk.2⟩ : _ ∧ k_ ≠ gb507))) (fun _ hk => hk.2) (.bool t503)) (fun _ hk => hk.2) (.slice Ao71 t504.length co71)) (fun _ h_ => h_.1))) hb); have n2_ := Aside0.mk (Kd.V_below (gV (Kd.V_mono (Kd.V_far (p := ⟨gb507, 1, none⟩) (Kd.V_far (p := ⟨gb507, 0, none⟩) (Kd.V_mono HO_481001.out (fun k_ hk => (⟨hk, hk.2⟩ : _ ∧ k_ ≠ gb507))) (fun _ hk => hk.2) (.bool t503)) (fun _ hk => hk.2) (.slice Ao71 t504.length co71)) (fun _ h_ => h_.1))) hb); have n3_ := Aside0.mk (Kd.V_below (gV (Kd.V_mono (Kd.V_far (p := ⟨gb507, 1, none⟩) (Kd.V_far (p := ⟨gb507, 0, none⟩) (Kd.V_mono HO506.out (fun k_ hk => (⟨hk, hk.2⟩ : _ ∧ k_ ≠ gb507))) (fun _ hk => hk.2) (.bool t503)) (fun _ hk => hk.2) (.slice Ao71 t504.length co71)) (fun _ h_ => h_.1))) hb); have n4_ := Aside0.mk (blk_below (g := gb478) (o := .cells #[.bool a0_0, .slice A0_1 l0_1.length c0_1] 25 (0, 0)) (by (with_reducible repeat (first | refine blk_drewN ?_ _ | refine blk_drew ?_ | refine blk_alloc ?_ _)); refine blk_far ?_ NB478_507.out _; (with_reducible repeat (first | refine blk_drewN ?_ _ | refine blk_drew ?_ | refine blk_alloc ?_ _)); refine blk_far ?_ NB478_507.out _; (with_reducible repeat (first | refine blk_drewN ?_ _ | refine blk_drew ?_ | refine blk_alloc ?_ _)); exact BK478.out) hb); have n5_ := Aside0.mk (blk_below (g := gb479) (o := .cells #[.bool a1_0, .slice A1_1 l1_1.length c1_1] 25 (0, 0)) (by (with_reducible repeat (first | refine blk_drewN ?_ _ | refine blk_drew ?_ | refine blk_alloc ?_ _)); refine blk_far ?_ NB479_507.out _; (with_reducible repeat (first | refine blk_drewN ?_ _ | refine blk_drew ?_ | refine blk_alloc ?_ _)); refine blk_far ?_ NB479_507.out _; (with_reducible repeat (first | refine blk_drewN ?_ _ | refine blk_drew ?_ | refine blk_alloc ?_ _)); exact BK479.out) hb); have n6_ := Aside0.mk (blk_below (g := gb480) (o := .cells #[.bool a2_0, .slice A2_1 l2_1.length c2_1] 25 (0, 0)) (by (with_reducible repeat (first | refine blk_drewN ?_ _ | refine blk_drew ?_ | refine blk_alloc ?_ _)); refine blk_far ?_ NB480_507.out _; (with_reducible repeat (first | refine blk_drewN ?_ _ | refine blk_drew ?_ | refine blk_alloc ?_ _)); refine blk_far ?_ NB480_507.out _; (with_reducible repeat (first | refine blk_drewN ?_ _ | refine blk_drew ?_ | refine blk_alloc ?_ _)); exact BK480.out) hb); have n7_ := Aside0.mk (blk_below (g := gb507) (o := .cells #[.bool t503, .slice Ao71 t504.length co71] 25 (0, 0)) (by (with_reducible repeat (first | refine blk_drewN ?_ _ | refine blk_drew ?_ | refine blk_alloc ?_ _)); refine blk_put (cs := #[.bool t503, .slice none 0 0]) ?_ 1 _ rfl; (with_reducible repeat (first | refine blk_drewN ?_ _ | refine blk_drew ?_ | refine blk_alloc ?_ _)); refine blk_put (cs := #[.bool false, .slice none 0 0]) ?_ 0 _ rfl; (with_reducible repeat (first | refine blk_drewN ?_ _ | refine blk_drew ?_ | refine blk_alloc ?_ _)); exact BK507.out) hb); have n8_ := Aside0.mk (below_step (by repeat (first | (with_reducible first | exact HB.out | apply bA | apply bN | apply bD | refine bS ?_ GE478.out | refine bS ?_ GE479.out | refine bS ?_ GE480.out | refine bS ?_ GE507.out) | exact HB.out)) hb); clear HO_479001; clear HO_480001; clear HO_481001; clear HO506; clear BK478; clear BK479; clear BK480; clear BK507; clear HB; have HO_479001 := n0_; have HO_480001 := n1_; have HO_481001 := n2_; have HO506 := n3_; have BK478 := n4_; have BK479 := n5_; have BK480 := n6_; have BK507 := n7_; have HB := n8_; clear n0_ n1_ n2_ n3_ n4_ n5_ n6_ n7_ n8_; (try clear hb); (try clear hb2); (try clear hk); (try clear hi); have hcz73_0 : w72.cell? ⟨gb507, 0, none⟩ = some (.bool t503) := (blk_cell BK507.out 0).trans rfl; have hcz73_1 : w72.cell? ⟨gb507, 1, none⟩ = some (.slice Ao71 t504.length co71) := (blk_cell BK507.out 1).trans rfl; have hfz73_0 := blk_frozen BK507.out 0; have hfz73_1 := blk_frozen BK507.out 1; have hcz74_0 : w72.cell? ⟨gb478, 0, none⟩ = some (.bool a0_0) := (blk_cell BK478.out 0).trans rfl; have hcz74_1 : w72.cell? ⟨gb478, 1, none⟩ = some (.slice A0_1 l0_1.length c0_1) := (blk_cell BK478.out 1).trans rfl; have hfz74_0 := blk_frozen BK478.out 0; have hfz74_1 := blk_frozen BK478.out 1) | (go_at_call 14; (with_reducible refine (num_Cmp.calls kj9 t503 _ _ t504 a0_0 _ _ l0_1 t509 _ ?side1 ?side2 ?side3 ?side4 A59.out).mono ?_); (case side1 => repeat (first | exact (Kd.V_reads' HO506.out).2.2 | (with_reducible refine Kd.C_alloc ?_ _) | (with_reducible refine Kd.C_drewN ?_ _) | (with_reducible refine Kd.C_drew ?_))); (case side2 => exact (Kd.V_reads' HO506.out).2.1); (case side3 => repeat (first | exact (Kd.V_reads' HO_479001.out).2.2 | (with_reducible refine Kd.C_alloc ?_ _) | (with_reducible refine Kd.C_drewN ?_ _) | (with_reducible refine Kd.C_drew ?_))); (case side4 => exact (Kd.V_reads' HO_479001.out).2.1); (try clear A59); rintro e w75 ⟨rfl, hb⟩; have n0_ := Aside0.mk (Kd.V_below (gV HO_479001.out) hb); have n1_ := Aside0.mk (Kd.V_below (gV HO_480001.out) hb); have n2_ := Aside0.mk (Kd.V_below (gV HO_481001.out) hb); have n3_ := Aside0.mk (Kd.V_below (gV HO506.out) hb); have n4_ := Aside0.mk (blk_below (gK BK478.out) hb); have n5_ := Aside0.mk (blk_below (gK BK479.out) hb); have n6_ := Aside0.mk (blk_below (gK BK480.out) hb); have n7_ := Aside0.mk (blk_below (gK BK507.out) hb); have n8_ := Aside0.mk (below_step (by repeat (first | (with_reducible first | exact HB.out | apply bA | apply bN | apply bD | refine bS ?_ GE478.out | refine bS ?_ GE479.out | refine bS ?_ GE480.out | refine bS ?_ GE507.out) | exact HB.out)) hb); clear HO_479001; clear HO_480001; clear HO_481001; clear HO506; clear BK478; clear BK479; clear BK480; clear BK507; clear HB; have HO_479001 := n0_; have HO_480001 := n1_; have HO_481001 := n2_; have HO506 := n3_; have BK478 := n4_; have BK479 := n5_; have BK480 := n6_; have BK507 := n7_; have HB := n8_; clear n0_ n1_ n2_ n3_ n4_ n5_ n6_ n7_ n8_; (try clear hb); (try clear hb2); (try clear hk); (try clear hi)))
         go_ret
         exact ⟨by first | rfl | (simp [errW_none, errW_some] <;> rfl) | (simp [*, errW_none, errW_some] <;> rfl), by repeat (first | (with_reducible first | exact HB.out | apply bA | apply bN | apply bD | refine bS ?_ GE478.out | refine bS ?_ GE479.out | refine bS ?_ GE480.out | refine bS ?_ GE507.out) | exact HB.out)⟩
        ·rw [if_neg c61] at H
         have c61b0 : decide (t486 < 0) = false := decide_eq_false c61
         clear c61
         by_cases c76 : t487 < 0
         ·rw [if_pos c76] at H
          have c76b0 : decide (t487 < 0) = true := decide_eq_true c76
          clear c76
          obtain rfl := Option.some.inj H
          have hnb77 := NB478_479.out
          have hnc77 := NB479_478.out
          have hnb78 := NB478_480.out
          have hnc78 := NB480_478.out
          have hcz79_0 : wc.cell? ⟨gb478, 0, none⟩ = some (.bool a0_0) := (blk_cell BK478.out 0).trans rfl
          have hcz79_1 : wc.cell? ⟨gb478, 1, none⟩ = some (.slice A0_1 l0_1.length c0_1) := (blk_cell BK478.out 1).trans rfl
          have hfz79_0 := blk_frozen BK478.out 0
          have hfz79_1 := blk_frozen BK478.out 1
          go_wp2_with (first | ((with_reducible refine gate_callee (f := 18) rfl ?_); refine goesL_ (some 53) rfl rfl Try.func18 (by kernel_rfl) rfl #[.bool a0_0, .slice A0_1 l0_1.length c0_1] rfl (by (try simp only [List.map_toArray, List.map_cons, List.map_nil]); first | done | rfl | (simp only [List.length_drop, List.length_take]; rfl)) ?_; (with_reducible refine (num_Make.calls kj9 a0_0 (fun k_ => (((P0_1_ k_ ∨ P1_1_ k_ ∨ P2_1_ k_) ∨ w.heap.size ≤ k_) ∧ (k_ ≠ gb478 ∧ (k_ ≠ gb479 ∧ k_ ≠ gb480)))) _ _ l0_1 t503 t504 _ ?side1 A56.out).mono ?_); (case side1 => exact HO_479001.out); (try clear A56); rintro e w80 ⟨v505, rfl, ho0, hb⟩; refine ⟨_, rfl, ?_⟩; have n0_ := Aside0.mk (Kd.V_below (gV HO_479001.out) hb); have n1_ := Aside0.mk (Kd.V_below (gV HO_480001.out) hb); have n2_ := Aside0.mk (Kd.V_below (gV HO_481001.out) hb); have n3_ := Aside0.mk (Kd.V_lower (Kd.V_mono (ok' := fun k_ => ((P0_1_ k_ ∨ P1_1_ k_ ∨ P2_1_ k_) ∨ w.heap.size ≤ k_) ∧ k_ ≠ gb478 ∧ k_ ≠ gb479 ∧ k_ ≠ gb480) ho0 (fun k_ hk_ => ⟨Or.elim hk_ (fun hs_ => hs_.1) (fun hn_ => (.inr (Nat.le_trans (below_size (by repeat (first | (with_reducible first | exact HB.out | apply bA | apply bN | apply bD | refine bS ?_ GE478.out | refine bS ?_ GE479.out | refine bS ?_ GE480.out) | exact HB.out))) hn_))), Or.elim hk_ (fun hs_ => hs_.2.1) (fun hn_ => (Kd.freshB (g := gb478) (o := .cells #[.bool a0_0, .slice A0_1 l0_1.length c0_1] 25 (0, 0)) (gK BK478.out) k_ hn_)), Or.elim hk_ (fun hs_ => hs_.2.2.1) (fun hn_ => (Kd.freshB (g := gb479) (o := .cells #[.bool a1_0, .slice A1_1 l1_1.length c1_1] 25 (0, 0)) (gK BK479.out) k_ hn_)), Or.elim hk_ (fun hs_ => hs_.2.2.2) (fun hn_ => (Kd.freshB (g := gb480) (o := .cells #[.bool a2_0, .slice A2_1 l2_1.length c2_1] 25 (0, 0)) (gK BK480.out) k_ hn_))⟩)) (below_size (by repeat (first | (with_reducible first | exact HB.out | apply bA | apply bN | apply bD | refine bS ?_ GE478.out | refine bS ?_ GE479.out | refine bS ?_ GE480.out) | exact HB.out)))); have n4_ := Aside0.mk (blk_below (gK BK478.out) hb); have n5_ := Aside0.mk (blk_below (gK BK479.out) hb); have n6_ := Aside0.mk (blk_below (gK BK480.out) hb); have n7_ := Aside0.mk (below_step (by repeat (first | (with_reducible first | exact HB.out | apply bA | apply bN | apply bD | refine bS ?_ GE478.out | refine bS ?_ GE479.out | refine bS ?_ GE480.out) | exact HB.out)) hb); clear HO_479001; clear HO_480001; clear HO_481001; clear BK478; clear BK479; clear BK480; clear HB; have HO_479001 := n0_; have HO_480001 := n1_; have HO_481001 := n2_; have HO506 := n3_; have BK478 := n4_; have BK479 := n5_; have BK480 := n6_; have HB := n7_; clear n0_ n1_ n2_ n3_ n4_ n5_ n6_ n7_; (try clear hb); (try clear hb2); (try clear hk); (try clear hi); (try clear ho0)) | ((with_reducible refine gate_dst (N := 9) rfl ?_); refine box_event ?hg (N := 9) ?hd (cs := #[.bool false, .slice none 0 0]) (t := 25) ?hr ?_; (case hd => rfl); (case hg => rfl); (case hr => first | (go_simp; done) | (go_simp; rfl)); intro gb507 hg w81 hbox hb; have n0_ := Aside0.mk (Kd.V_below (Kd.V_elderB (gV HO_479001.out) gb507 (Nat.le_of_eq hg.symm)) hb); have n1_ := Aside0.mk (Kd.V_below (Kd.V_elderB (gV HO_480001.out) gb507 (Nat.le_of_eq hg.symm)) hb); have n2_ := Aside0.mk (Kd.V_below (Kd.V_elderB (gV HO_481001.out) gb507 (Nat.le_of_eq hg.symm)) hb); have n3_ := Aside0.mk (Kd.V_below (Kd.V_elderB (gV HO506.out) gb507 (Nat.le_of_eq hg.symm)) hb); have n4_ := Aside0.mk (blk_below (gK BK478.out) hb); have n5_ := Aside0.mk (blk_below (gK BK479.out) hb); have n6_ := Aside0.mk (blk_below (gK BK480.out) hb); have n7_ := Aside0.mk (below_step (by repeat (first | (with_reducible first | exact HB.out | apply bA | apply bN | apply bD | refine bS ?_ GE478.out | refine bS ?_ GE479.out | refine bS ?_ GE480.out) | exact HB.out)) hb); have n8_ := Aside0.mk (hbox); have n9_ := Aside0.mk ((by rw [hg]; exact (below_size (by repeat (first | (with_reducible first | exact HB.out | apply bA | apply bN | apply bD | refine bS ?_ GE478.out | refine bS ?_ GE479.out | refine bS ?_ GE480.out) | exact HB.out))) : w.heap.size ≤ gb507)); have n10_ := Aside0.mk ((by rw [hg]; exact (below_size (by repeat (first | (with_reducible first | exact HB.out | apply bA | apply bN | apply bD | refine bS ?_ GE478.out | refine bS ?_ GE479.out | refine bS ?_ GE480.out) | exact HB.out))) : w.heap.size ≤ gb507)); have n11_ := Aside0.mk ((by rw [hg]; exact Nat.ne_of_lt (blk_lt (g := gb478) (o := .cells #[.bool a0_0, .slice A0_1 l0_1.length c0_1] 25 (0, 0)) (gK BK478.out)) : gb478 ≠ gb507)); have n12_ := Aside0.mk ((by rw [hg]; exact Nat.ne_of_gt (blk_lt (g := gb478) (o := .cells #[.bool a0_0, .slice A0_1 l0_1.length c0_1] 25 (0, 0)) (gK BK478.out)) : gb507 ≠ gb478)); have n13_ := Aside0.mk ((by rw [hg]; exact Nat.ne_of_lt (blk_lt (g := gb479) (o := .cells #[.bool a1_0, .slice A1_1 l1_1.length c1_1] 25 (0, 0)) (gK BK479.out)) : gb479 ≠ gb507)); have n14_ := Aside0.mk ((by rw [hg]; exact Nat.ne_of_gt (blk_lt (g := gb479) (o := .cells #[.bool a1_0, .slice A1_1 l1_1.length c1_1] 25 (0, 0)) (gK BK479.out)) : gb507 ≠ gb479)); have n15_ := Aside0.mk ((by rw [hg]; exact Nat.ne_of_lt (blk_lt (g := gb480) (o := .cells #[.bool a2_0, .slice A2_1 l2_1.length c2_1] 25 (0, 0)) (gK BK480.out)) : gb480 ≠ gb507)); have n16_ := Aside0.mk ((by rw [hg]; exact Nat.ne_of_gt (blk_lt (g := gb480) (o := .cells #[.bool a2_0, .slice A2_1 l2_1.length c2_1] 25 (0, 0)) (gK BK480.out)) : gb507 ≠ gb480)); clear HO_479001; clear HO_480001; clear HO_481001; clear HO506; clear BK478; clear BK479; clear BK480; clear HB; have HO_479001 := n0_; have HO_480001 := n1_; have HO_481001 := n2_; have HO506 := n3_; have BK478 := n4_; have BK479 := n5_; have BK480 := n6_; have HB := n7_; have BK507 := n8_; have GW507 := n9_; have GE507 := n10_; have NB478_507 := n11_; have NB507_478 := n12_; have NB479_507 := n13_; have NB507_479 := n14_; have NB480_507 := n15_; have NB507_480 := n16_; clear n0_ n1_ n2_ n3_ n4_ n5_ n6_ n7_ n8_ n9_ n10_ n11_ n12_ n13_ n14_ n15_ n16_; clear hb hbox hg; have hnb82 := NB507_478.out; have hnc82 := NB478_507.out; have hnb83 := NB507_479.out; have hnc83 := NB479_507.out; have hnb84 := NB507_480.out; have hnc84 := NB480_507.out; have hcz85_0 : w81.cell? ⟨gb507, 0, none⟩ = some (.bool false) := (blk_cell BK507.out 0).trans rfl; have hcz85_1 : w81.cell? ⟨gb507, 1, none⟩ = some (.slice none 0 0) := (blk_cell BK507.out 1).trans rfl; have hfz85_0 := blk_frozen BK507.out 0; have hfz85_1 := blk_frozen BK507.out 1; obtain ⟨Ao86, co86, eo86⟩ := Kd.V_slice HO506.out; subst eo86) | ((with_reducible refine gate_callee (f := 13) rfl ?_); refine goesL_ (some 55) rfl rfl Try.func13 (by kernel_rfl) rfl #[.agg #[.bool t503, .slice Ao86 t504.length co86]] rfl (by (try simp only [List.map_toArray, List.map_cons, List.map_nil]); first | done | rfl | (simp only [List.length_drop, List.length_take]; rfl)) ?_; (with_reducible refine (isohyetlaw02_Right.calls t503 _ _ t504 true _ ?side1 ?side2 A57.out).mono ?_); (case side1 => refine (Kd.V_reads' (e := 54) (base := w.heap.size) (ok := fun k_ => ((((P0_1_ k_ ∨ P1_1_ k_ ∨ P2_1_ k_) ∨ w.heap.size ≤ k_) ∧ (k_ ≠ gb478 ∧ (k_ ≠ gb479 ∧ k_ ≠ gb480))) ∧ k_ ≠ gb507)) (n := t504.length) (c := co86) ?_).2.2; exact (gV (Kd.V_mono (Kd.V_far (p := ⟨gb507, 1, none⟩) (Kd.V_far (p := ⟨gb507, 0, none⟩) (Kd.V_mono HO506.out (fun k_ hk => (⟨hk, hk.2⟩ : _ ∧ k_ ≠ gb507))) (fun _ hk => hk.2) (.bool t503)) (fun _ hk => hk.2) (.slice Ao86 t504.length co86)) (fun _ h_ => h_.1)))); (case side2 => exact (Kd.V_reads' HO506.out).2.1); (try clear A57); rintro e w87 ⟨rfl, hb⟩; refine ⟨_, rfl, ?_⟩; have n0_ := Aside0.mk (Kd.V_below (gV (Kd.V_mono (Kd.V_far (p := ⟨gb507, 1, none⟩) (Kd.V_far (p := ⟨gb507, 0, none⟩) (Kd.V_mono HO_479001.out (fun k_ hk => (⟨hk, hk.2⟩ : _ ∧ k_ ≠ gb507))) (fun _ hk => hk.2) (.bool t503)) (fun _ hk => hk.2) (.slice Ao86 t504.length co86)) (fun _ h_ => h_.1))) hb); have n1_ := Aside0.mk (Kd.V_below (gV (Kd.V_mono (Kd.V_far (p := ⟨gb507, 1, none⟩) (Kd.V_far (p := ⟨gb507, 0, none⟩) (Kd.V_mono HO_480001.out (fun k_ hk => (⟨hk, hk.2⟩ : _ ∧ k_ ≠ gb507))) (fun _ hk => hk.2) (.bool t503)) (fun _ hk => hk.2) (.slice Ao86 t504.length co86)) (fun _ h_ => h_.1))) hb); have n2_ := Aside0.mk (Kd.V_below (gV (Kd.V_mono (Kd.V_far (p := ⟨gb507, 1, none⟩) (Kd.V_far (p := ⟨gb507, 0, none⟩) (Kd.V_mono HO_481001.out (fun k_ hk => (⟨hk, hk.2⟩ : _ ∧ k_ ≠ gb507))) (fun _ hk => hk.2) (.bool t503)) (fun _ hk => hk.2) (.slice Ao86 t504.length co86)) (fun _ h_ => h_.1))) hb); have n3_ := Aside0.mk (Kd.V_below (gV (Kd.V_mono (Kd.V_far (p := ⟨gb507, 1, none⟩) (Kd.V_far (p := ⟨gb507, 0, none⟩) (Kd.V_mono HO506.out (fun k_ hk => (⟨hk, hk.2⟩ : _ ∧ k_ ≠ gb507))) (fun _ hk => hk.2) (.bool t503)) (fun _ hk => hk.2) (.slice Ao86 t504.length co86)) (fun _ h_ => h_.1))) hb); have n4_ := Aside0.mk (blk_below (g := gb478) (o := .cells #[.bool a0_0, .slice A0_1 l0_1.length c0_1] 25 (0, 0)) (by (with_reducible repeat (first | refine blk_drewN ?_ _ | refine blk_drew ?_ | refine blk_alloc ?_ _)); refine blk_far ?_ NB478_507.out _; (with_reducible repeat (first | refine blk_drewN ?_ _ | refine blk_drew ?_ | refine blk_alloc ?_ _)); refine blk_far ?_ NB478_507.out _; (with_reducible repeat (first | refine blk_drewN ?_ _ | refine blk_drew ?_ | refine blk_alloc ?_ _)); exact BK478.out) hb); have n5_ := Aside0.mk (blk_below (g := gb479) (o := .cells #[.bool a1_0, .slice A1_1 l1_1.length c1_1] 25 (0, 0)) (by (with_reducible repeat (first | refine blk_drewN ?_ _ | refine blk_drew ?_ | refine blk_alloc ?_ _)); refine blk_far ?_ NB479_507.out _; (with_reducible repeat (first | refine blk_drewN ?_ _ | refine blk_drew ?_ | refine blk_alloc ?_ _)); refine blk_far ?_ NB479_507.out _; (with_reducible repeat (first | refine blk_drewN ?_ _ | refine blk_drew ?_ | refine blk_alloc ?_ _)); exact BK479.out) hb); have n6_ := Aside0.mk (blk_below (g := gb480) (o := .cells #[.bool a2_0, .slice A2_1 l2_1.length c2_1] 25 (0, 0)) (by (with_reducible repeat (first | refine blk_drewN ?_ _ | refine blk_drew ?_ | refine blk_alloc ?_ _)); refine blk_far ?_ NB480_507.out _; (with_reducible repeat (first | refine blk_drewN ?_ _ | refine blk_drew ?_ | refine blk_alloc ?_ _)); refine blk_far ?_ NB480_507.out _; (with_reducible repeat (first | refine blk_drewN ?_ _ | refine blk_drew ?_ | refine blk_alloc ?_ _)); exact BK480.out) hb); have n7_ := Aside0.mk (blk_below (g := gb507) (o := .cells #[.bool t503, .slice Ao86 t504.length co86] 25 (0, 0)) (by (with_reducible repeat (first | refine blk_drewN ?_ _ | refine blk_drew ?_ | refine blk_alloc ?_ _)); refine blk_put (cs := #[.bool t503, .slice none 0 0]) ?_ 1 _ rfl; (with_reducible repeat (first | refine blk_drewN ?_ _ | refine blk_drew ?_ | refine blk_alloc ?_ _)); refine blk_put (cs := #[.bool false, .slice none 0 0]) ?_ 0 _ rfl; (with_reducible repeat (first | refine blk_drewN ?_ _ | refine blk_drew ?_ | refine blk_alloc ?_ _)); exact BK507.out) hb); have n8_ := Aside0.mk (below_step (by repeat (first | (with_reducible first | exact HB.out | apply bA | apply bN | apply bD | refine bS ?_ GE478.out | refine bS ?_ GE479.out | refine bS ?_ GE480.out | refine bS ?_ GE507.out) | exact HB.out)) hb); clear HO_479001; clear HO_480001; clear HO_481001; clear HO506; clear BK478; clear BK479; clear BK480; clear BK507; clear HB; have HO_479001 := n0_; have HO_480001 := n1_; have HO_481001 := n2_; have HO506 := n3_; have BK478 := n4_; have BK479 := n5_; have BK480 := n6_; have BK507 := n7_; have HB := n8_; clear n0_ n1_ n2_ n3_ n4_ n5_ n6_ n7_ n8_; (try clear hb); (try clear hb2); (try clear hk); (try clear hi); have hcz88_0 : w87.cell? ⟨gb507, 0, none⟩ = some (.bool t503) := (blk_cell BK507.out 0).trans rfl; have hcz88_1 : w87.cell? ⟨gb507, 1, none⟩ = some (.slice Ao86 t504.length co86) := (blk_cell BK507.out 1).trans rfl; have hfz88_0 := blk_frozen BK507.out 0; have hfz88_1 := blk_frozen BK507.out 1; have hcz89_0 : w87.cell? ⟨gb478, 0, none⟩ = some (.bool a0_0) := (blk_cell BK478.out 0).trans rfl; have hcz89_1 : w87.cell? ⟨gb478, 1, none⟩ = some (.slice A0_1 l0_1.length c0_1) := (blk_cell BK478.out 1).trans rfl; have hfz89_0 := blk_frozen BK478.out 0; have hfz89_1 := blk_frozen BK478.out 1) | (go_at_call 14; (with_reducible refine (num_Cmp.calls kj9 t503 _ _ t504 a0_0 _ _ l0_1 t509 _ ?side1 ?side2 ?side3 ?side4 A59.out).mono ?_); (case side1 => repeat (first | exact (Kd.V_reads' HO506.out).2.2 | (with_reducible refine Kd.C_alloc ?_ _) | (with_reducible refine Kd.C_drewN ?_ _) | (with_reducible refine Kd.C_drew ?_))); (case side2 => exact (Kd.V_reads' HO506.out).2.1); (case side3 => repeat (first | exact (Kd.V_reads' HO_479001.out).2.2 | (with_reducible refine Kd.C_alloc ?_ _) | (with_reducible refine Kd.C_drewN ?_ _) | (with_reducible refine Kd.C_drew ?_))); (case side4 => exact (Kd.V_reads' HO_479001.out).2.1); (try clear A59); rintro e w90 ⟨rfl, hb⟩; have n0_ := Aside0.mk (Kd.V_below (gV HO_479001.out) hb); have n1_ := Aside0.mk (Kd.V_below (gV HO_480001.out) hb); have n2_ := Aside0.mk (Kd.V_below (gV HO_481001.out) hb); have n3_ := Aside0.mk (Kd.V_below (gV HO506.out) hb); have n4_ := Aside0.mk (blk_below (gK BK478.out) hb); have n5_ := Aside0.mk (blk_below (gK BK479.out) hb); have n6_ := Aside0.mk (blk_below (gK BK480.out) hb); have n7_ := Aside0.mk (blk_below (gK BK507.out) hb); have n8_ := Aside0.mk (below_step (by repeat (first | (with_reducible first | exact HB.out | apply bA | apply bN | apply bD | refine bS ?_ GE478.out | refine bS ?_ GE479.out | refine bS ?_ GE480.out | refine bS ?_ GE507.out) | exact HB.out)) hb); clear HO_479001; clear HO_480001; clear HO_481001; clear HO506; clear BK478; clear BK479; clear BK480; clear BK507; clear HB; have HO_479001 := n0_; have HO_480001 := n1_; have HO_481001 := n2_; have HO506 := n3_; have BK478 := n4_; have BK479 := n5_; have BK480 := n6_; have BK507 := n7_; have HB := n8_; clear n0_ n1_ n2_ n3_ n4_ n5_ n6_ n7_ n8_; (try clear hb); (try clear hb2); (try clear hk); (try clear hi)))
          go_ret
          exact ⟨by first | rfl | (simp [errW_none, errW_some] <;> rfl) | (simp [*, errW_none, errW_some] <;> rfl), by repeat (first | (with_reducible first | exact HB.out | apply bA | apply bN | apply bD | refine bS ?_ GE478.out | refine bS ?_ GE479.out | refine bS ?_ GE480.out | refine bS ?_ GE507.out) | exact HB.out)⟩
         ·rw [if_neg c76] at H
          have c76b0 : decide (t487 < 0) = false := decide_eq_false c76
          clear c76
          replace H := Option.bind_eq_some_iff.mp H
          obtain ⟨t510, A910, H⟩ := H
          replace H : (some (decide (t510 ≥ 0))) = some r := H
          have A91 := Aside0.mk A910
          clear A910
          obtain rfl := Option.some.inj H
          have hnb92 := NB478_479.out
          have hnc92 := NB479_478.out
          have hnb93 := NB478_480.out
          have hnc93 := NB480_478.out
          have hcz94_0 : wc.cell? ⟨gb478, 0, none⟩ = some (.bool a0_0) := (blk_cell BK478.out 0).trans rfl
          have hcz94_1 : wc.cell? ⟨gb478, 1, none⟩ = some (.slice A0_1 l0_1.length c0_1) := (blk_cell BK478.out 1).trans rfl
          have hfz94_0 := blk_frozen BK478.out 0
          have hfz94_1 := blk_frozen BK478.out 1
          go_wp2_with (first | ((with_reducible refine gate_callee (f := 18) rfl ?_); refine goesL_ (some 53) rfl rfl Try.func18 (by kernel_rfl) rfl #[.bool a0_0, .slice A0_1 l0_1.length c0_1] rfl (by (try simp only [List.map_toArray, List.map_cons, List.map_nil]); first | done | rfl | (simp only [List.length_drop, List.length_take]; rfl)) ?_; (with_reducible refine (num_Make.calls kj9 a0_0 (fun k_ => (((P0_1_ k_ ∨ P1_1_ k_ ∨ P2_1_ k_) ∨ w.heap.size ≤ k_) ∧ (k_ ≠ gb478 ∧ (k_ ≠ gb479 ∧ k_ ≠ gb480)))) _ _ l0_1 t503 t504 _ ?side1 A56.out).mono ?_); (case side1 => exact HO_479001.out); (try clear A56); rintro e w95 ⟨v505, rfl, ho0, hb⟩; refine ⟨_, rfl, ?_⟩; have n0_ := Aside0.mk (Kd.V_below (gV HO_479001.out) hb); have n1_ := Aside0.mk (Kd.V_below (gV HO_480001.out) hb); have n2_ := Aside0.mk (Kd.V_below (gV HO_481001.out) hb); have n3_ := Aside0.mk (Kd.V_lower (Kd.V_mono (ok' := fun k_ => ((P0_1_ k_ ∨ P1_1_ k_ ∨ P2_1_ k_) ∨ w.heap.size ≤ k_) ∧ k_ ≠ gb478 ∧ k_ ≠ gb479 ∧ k_ ≠ gb480) ho0 (fun k_ hk_ => ⟨Or.elim hk_ (fun hs_ => hs_.1) (fun hn_ => (.inr (Nat.le_trans (below_size (by repeat (first | (with_reducible first | exact HB.out | apply bA | apply bN | apply bD | refine bS ?_ GE478.out | refine bS ?_ GE479.out | refine bS ?_ GE480.out) | exact HB.out))) hn_))), Or.elim hk_ (fun hs_ => hs_.2.1) (fun hn_ => (Kd.freshB (g := gb478) (o := .cells #[.bool a0_0, .slice A0_1 l0_1.length c0_1] 25 (0, 0)) (gK BK478.out) k_ hn_)), Or.elim hk_ (fun hs_ => hs_.2.2.1) (fun hn_ => (Kd.freshB (g := gb479) (o := .cells #[.bool a1_0, .slice A1_1 l1_1.length c1_1] 25 (0, 0)) (gK BK479.out) k_ hn_)), Or.elim hk_ (fun hs_ => hs_.2.2.2) (fun hn_ => (Kd.freshB (g := gb480) (o := .cells #[.bool a2_0, .slice A2_1 l2_1.length c2_1] 25 (0, 0)) (gK BK480.out) k_ hn_))⟩)) (below_size (by repeat (first | (with_reducible first | exact HB.out | apply bA | apply bN | apply bD | refine bS ?_ GE478.out | refine bS ?_ GE479.out | refine bS ?_ GE480.out) | exact HB.out)))); have n4_ := Aside0.mk (blk_below (gK BK478.out) hb); have n5_ := Aside0.mk (blk_below (gK BK479.out) hb); have n6_ := Aside0.mk (blk_below (gK BK480.out) hb); have n7_ := Aside0.mk (below_step (by repeat (first | (with_reducible first | exact HB.out | apply bA | apply bN | apply bD | refine bS ?_ GE478.out | refine bS ?_ GE479.out | refine bS ?_ GE480.out) | exact HB.out)) hb); clear HO_479001; clear HO_480001; clear HO_481001; clear BK478; clear BK479; clear BK480; clear HB; have HO_479001 := n0_; have HO_480001 := n1_; have HO_481001 := n2_; have HO506 := n3_; have BK478 := n4_; have BK479 := n5_; have BK480 := n6_; have HB := n7_; clear n0_ n1_ n2_ n3_ n4_ n5_ n6_ n7_; (try clear hb); (try clear hb2); (try clear hk); (try clear hi); (try clear ho0)) | ((with_reducible refine gate_dst (N := 9) rfl ?_); refine box_event ?hg (N := 9) ?hd (cs := #[.bool false, .slice none 0 0]) (t := 25) ?hr ?_; (case hd => rfl); (case hg => rfl); (case hr => first | (go_simp; done) | (go_simp; rfl)); intro gb507 hg w96 hbox hb; have n0_ := Aside0.mk (Kd.V_below (Kd.V_elderB (gV HO_479001.out) gb507 (Nat.le_of_eq hg.symm)) hb); have n1_ := Aside0.mk (Kd.V_below (Kd.V_elderB (gV HO_480001.out) gb507 (Nat.le_of_eq hg.symm)) hb); have n2_ := Aside0.mk (Kd.V_below (Kd.V_elderB (gV HO_481001.out) gb507 (Nat.le_of_eq hg.symm)) hb); have n3_ := Aside0.mk (Kd.V_below (Kd.V_elderB (gV HO506.out) gb507 (Nat.le_of_eq hg.symm)) hb); have n4_ := Aside0.mk (blk_below (gK BK478.out) hb); have n5_ := Aside0.mk (blk_below (gK BK479.out) hb); have n6_ := Aside0.mk (blk_below (gK BK480.out) hb); have n7_ := Aside0.mk (below_step (by repeat (first | (with_reducible first | exact HB.out | apply bA | apply bN | apply bD | refine bS ?_ GE478.out | refine bS ?_ GE479.out | refine bS ?_ GE480.out) | exact HB.out)) hb); have n8_ := Aside0.mk (hbox); have n9_ := Aside0.mk ((by rw [hg]; exact (below_size (by repeat (first | (with_reducible first | exact HB.out | apply bA | apply bN | apply bD | refine bS ?_ GE478.out | refine bS ?_ GE479.out | refine bS ?_ GE480.out) | exact HB.out))) : w.heap.size ≤ gb507)); have n10_ := Aside0.mk ((by rw [hg]; exact (below_size (by repeat (first | (with_reducible first | exact HB.out | apply bA | apply bN | apply bD | refine bS ?_ GE478.out | refine bS ?_ GE479.out | refine bS ?_ GE480.out) | exact HB.out))) : w.heap.size ≤ gb507)); have n11_ := Aside0.mk ((by rw [hg]; exact Nat.ne_of_lt (blk_lt (g := gb478) (o := .cells #[.bool a0_0, .slice A0_1 l0_1.length c0_1] 25 (0, 0)) (gK BK478.out)) : gb478 ≠ gb507)); have n12_ := Aside0.mk ((by rw [hg]; exact Nat.ne_of_gt (blk_lt (g := gb478) (o := .cells #[.bool a0_0, .slice A0_1 l0_1.length c0_1] 25 (0, 0)) (gK BK478.out)) : gb507 ≠ gb478)); have n13_ := Aside0.mk ((by rw [hg]; exact Nat.ne_of_lt (blk_lt (g := gb479) (o := .cells #[.bool a1_0, .slice A1_1 l1_1.length c1_1] 25 (0, 0)) (gK BK479.out)) : gb479 ≠ gb507)); have n14_ := Aside0.mk ((by rw [hg]; exact Nat.ne_of_gt (blk_lt (g := gb479) (o := .cells #[.bool a1_0, .slice A1_1 l1_1.length c1_1] 25 (0, 0)) (gK BK479.out)) : gb507 ≠ gb479)); have n15_ := Aside0.mk ((by rw [hg]; exact Nat.ne_of_lt (blk_lt (g := gb480) (o := .cells #[.bool a2_0, .slice A2_1 l2_1.length c2_1] 25 (0, 0)) (gK BK480.out)) : gb480 ≠ gb507)); have n16_ := Aside0.mk ((by rw [hg]; exact Nat.ne_of_gt (blk_lt (g := gb480) (o := .cells #[.bool a2_0, .slice A2_1 l2_1.length c2_1] 25 (0, 0)) (gK BK480.out)) : gb507 ≠ gb480)); clear HO_479001; clear HO_480001; clear HO_481001; clear HO506; clear BK478; clear BK479; clear BK480; clear HB; have HO_479001 := n0_; have HO_480001 := n1_; have HO_481001 := n2_; have HO506 := n3_; have BK478 := n4_; have BK479 := n5_; have BK480 := n6_; have HB := n7_; have BK507 := n8_; have GW507 := n9_; have GE507 := n10_; have NB478_507 := n11_; have NB507_478 := n12_; have NB479_507 := n13_; have NB507_479 := n14_; have NB480_507 := n15_; have NB507_480 := n16_; clear n0_ n1_ n2_ n3_ n4_ n5_ n6_ n7_ n8_ n9_ n10_ n11_ n12_ n13_ n14_ n15_ n16_; clear hb hbox hg; have hnb97 := NB507_478.out; have hnc97 := NB478_507.out; have hnb98 := NB507_479.out; have hnc98 := NB479_507.out; have hnb99 := NB507_480.out; have hnc99 := NB480_507.out; have hcz100_0 : w96.cell? ⟨gb507, 0, none⟩ = some (.bool false) := (blk_cell BK507.out 0).trans rfl; have hcz100_1 : w96.cell? ⟨gb507, 1, none⟩ = some (.slice none 0 0) := (blk_cell BK507.out 1).trans rfl; have hfz100_0 := blk_frozen BK507.out 0; have hfz100_1 := blk_frozen BK507.out 1; obtain ⟨Ao101, co101, eo101⟩ := Kd.V_slice HO506.out; subst eo101) | ((with_reducible refine gate_callee (f := 13) rfl ?_); refine goesL_ (some 55) rfl rfl Try.func13 (by kernel_rfl) rfl #[.agg #[.bool t503, .slice Ao101 t504.length co101]] rfl (by (try simp only [List.map_toArray, List.map_cons, List.map_nil]); first | done | rfl | (simp only [List.length_drop, List.length_take]; rfl)) ?_; (with_reducible refine (isohyetlaw02_Right.calls t503 _ _ t504 true _ ?side1 ?side2 A57.out).mono ?_); (case side1 => refine (Kd.V_reads' (e := 54) (base := w.heap.size) (ok := fun k_ => ((((P0_1_ k_ ∨ P1_1_ k_ ∨ P2_1_ k_) ∨ w.heap.size ≤ k_) ∧ (k_ ≠ gb478 ∧ (k_ ≠ gb479 ∧ k_ ≠ gb480))) ∧ k_ ≠ gb507)) (n := t504.length) (c := co101) ?_).2.2; exact (gV (Kd.V_mono (Kd.V_far (p := ⟨gb507, 1, none⟩) (Kd.V_far (p := ⟨gb507, 0, none⟩) (Kd.V_mono HO506.out (fun k_ hk => (⟨hk, hk.2⟩ : _ ∧ k_ ≠ gb507))) (fun _ hk => hk.2) (.bool t503)) (fun _ hk => hk.2) (.slice Ao101 t504.length co101)) (fun _ h_ => h_.1)))); (case side2 => exact (Kd.V_reads' HO506.out).2.1); (try clear A57); rintro e w102 ⟨rfl, hb⟩; refine ⟨_, rfl, ?_⟩; have n0_ := Aside0.mk (Kd.V_below (gV (Kd.V_mono (Kd.V_far (p := ⟨gb507, 1, none⟩) (Kd.V_far (p := ⟨gb507, 0, none⟩) (Kd.V_mono HO_479001.out (fun k_ hk => (⟨hk, hk.2⟩ : _ ∧ k_ ≠ gb507))) (fun _ hk => hk.2) (.bool t503)) (fun _ hk => hk.2) (.slice Ao101 t504.length co101)) (fun _ h_ => h_.1))) hb); have n1_ := Aside0.mk (Kd.V_below (gV (Kd.V_mono (Kd.V_far (p := ⟨gb507, 1, none⟩) (Kd.V_far (p := ⟨gb507, 0, none⟩) (Kd.V_mono HO_480001.out (fun k_ hk => (⟨hk, hk.2⟩ : _ ∧ k_ ≠ gb507))) (fun _ hk => hk.2) (.bool t503)) (fun _ hk => hk.2) (.slice Ao101 t504.length co101)) (fun _ h_ => h_.1))) hb); have n2_ := Aside0.mk (Kd.V_below (gV (Kd.V_mono (Kd.V_far (p := ⟨gb507, 1, none⟩) (Kd.V_far (p := ⟨gb507, 0, none⟩) (Kd.V_mono HO_481001.out (fun k_ hk => (⟨hk, hk.2⟩ : _ ∧ k_ ≠ gb507))) (fun _ hk => hk.2) (.bool t503)) (fun _ hk => hk.2) (.slice Ao101 t504.length co101)) (fun _ h_ => h_.1))) hb); have n3_ := Aside0.mk (Kd.V_below (gV (Kd.V_mono (Kd.V_far (p := ⟨gb507, 1, none⟩) (Kd.V_far (p := ⟨gb507, 0, none⟩) (Kd.V_mono HO506.out (fun k_ hk => (⟨hk, hk.2⟩ : _ ∧ k_ ≠ gb507))) (fun _ hk => hk.2) (.bool t503)) (fun _ hk => hk.2) (.slice Ao101 t504.length co101)) (fun _ h_ => h_.1))) hb); have n4_ := Aside0.mk (blk_below (g := gb478) (o := .cells #[.bool a0_0, .slice A0_1 l0_1.length c0_1] 25 (0, 0)) (by (with_reducible repeat (first | refine blk_drewN ?_ _ | refine blk_drew ?_ | refine blk_alloc ?_ _)); refine blk_far ?_ NB478_507.out _; (with_reducible repeat (first | refine blk_drewN ?_ _ | refine blk_drew ?_ | refine blk_alloc ?_ _)); refine blk_far ?_ NB478_507.out _; (with_reducible repeat (first | refine blk_drewN ?_ _ | refine blk_drew ?_ | refine blk_alloc ?_ _)); exact BK478.out) hb); have n5_ := Aside0.mk (blk_below (g := gb479) (o := .cells #[.bool a1_0, .slice A1_1 l1_1.length c1_1] 25 (0, 0)) (by (with_reducible repeat (first | refine blk_drewN ?_ _ | refine blk_drew ?_ | refine blk_alloc ?_ _)); refine blk_far ?_ NB479_507.out _; (with_reducible repeat (first | refine blk_drewN ?_ _ | refine blk_drew ?_ | refine blk_alloc ?_ _)); refine blk_far ?_ NB479_507.out _; (with_reducible repeat (first | refine blk_drewN ?_ _ | refine blk_drew ?_ | refine blk_alloc ?_ _)); exact BK479.out) hb); have n6_ := Aside0.mk (blk_below (g := gb480) (o := .cells #[.bool a2_0, .slice A2_1 l2_1.length c2_1] 25 (0, 0)) (by (with_reducible repeat (first | refine blk_drewN ?_ _ | refine blk_drew ?_ | refine blk_alloc ?_ _)); refine blk_far ?_ NB480_507.out _; (with_reducible repeat (first | refine blk_drewN ?_ _ | refine blk_drew ?_ | refine blk_alloc ?_ _)); refine blk_far ?_ NB480_507.out _; (with_reducible repeat (first | refine blk_drewN ?_ _ | refine blk_drew ?_ | refine blk_alloc ?_ _)); exact BK480.out) hb); have n7_ := Aside0.mk (blk_below (g := gb507) (o := .cells #[.bool t503, .slice Ao101 t504.length co101] 25 (0, 0)) (by (with_reducible repeat (first | refine blk_drewN ?_ _ | refine blk_drew ?_ | refine blk_alloc ?_ _)); refine blk_put (cs := #[.bool t503, .slice none 0 0]) ?_ 1 _ rfl; (with_reducible repeat (first | refine blk_drewN ?_ _ | refine blk_drew ?_ | refine blk_alloc ?_ _)); refine blk_put (cs := #[.bool false, .slice none 0 0]) ?_ 0 _ rfl; (with_reducible repeat (first | refine blk_drewN ?_ _ | refine blk_drew ?_ | refine blk_alloc ?_ _)); exact BK507.out) hb); have n8_ := Aside0.mk (below_step (by repeat (first | (with_reducible first | exact HB.out | apply bA | apply bN | apply bD | refine bS ?_ GE478.out | refine bS ?_ GE479.out | refine bS ?_ GE480.out | refine bS ?_ GE507.out) | exact HB.out)) hb); clear HO_479001; clear HO_480001; clear HO_481001; clear HO506; clear BK478; clear BK479; clear BK480; clear BK507; clear HB; have HO_479001 := n0_; have HO_480001 := n1_; have HO_481001 := n2_; have HO506 := n3_; have BK478 := n4_; have BK479 := n5_; have BK480 := n6_; have BK507 := n7_; have HB := n8_; clear n0_ n1_ n2_ n3_ n4_ n5_ n6_ n7_ n8_; (try clear hb); (try clear hb2); (try clear hk); (try clear hi); have hcz103_0 : w102.cell? ⟨gb507, 0, none⟩ = some (.bool t503) := (blk_cell BK507.out 0).trans rfl; have hcz103_1 : w102.cell? ⟨gb507, 1, none⟩ = some (.slice Ao101 t504.length co101) := (blk_cell BK507.out 1).trans rfl; have hfz103_0 := blk_frozen BK507.out 0; have hfz103_1 := blk_frozen BK507.out 1; have hcz104_0 : w102.cell? ⟨gb478, 0, none⟩ = some (.bool a0_0) := (blk_cell BK478.out 0).trans rfl; have hcz104_1 : w102.cell? ⟨gb478, 1, none⟩ = some (.slice A0_1 l0_1.length c0_1) := (blk_cell BK478.out 1).trans rfl; have hfz104_0 := blk_frozen BK478.out 0; have hfz104_1 := blk_frozen BK478.out 1) | (go_at_call 14; (with_reducible refine (num_Cmp.calls kj9 t503 _ _ t504 a0_0 _ _ l0_1 t509 _ ?side1 ?side2 ?side3 ?side4 A59.out).mono ?_); (case side1 => repeat (first | exact (Kd.V_reads' HO506.out).2.2 | (with_reducible refine Kd.C_alloc ?_ _) | (with_reducible refine Kd.C_drewN ?_ _) | (with_reducible refine Kd.C_drew ?_))); (case side2 => exact (Kd.V_reads' HO506.out).2.1); (case side3 => repeat (first | exact (Kd.V_reads' HO_479001.out).2.2 | (with_reducible refine Kd.C_alloc ?_ _) | (with_reducible refine Kd.C_drewN ?_ _) | (with_reducible refine Kd.C_drew ?_))); (case side4 => exact (Kd.V_reads' HO_479001.out).2.1); (try clear A59); rintro e w105 ⟨rfl, hb⟩; have n0_ := Aside0.mk (Kd.V_below (gV HO_479001.out) hb); have n1_ := Aside0.mk (Kd.V_below (gV HO_480001.out) hb); have n2_ := Aside0.mk (Kd.V_below (gV HO_481001.out) hb); have n3_ := Aside0.mk (Kd.V_below (gV HO506.out) hb); have n4_ := Aside0.mk (blk_below (gK BK478.out) hb); have n5_ := Aside0.mk (blk_below (gK BK479.out) hb); have n6_ := Aside0.mk (blk_below (gK BK480.out) hb); have n7_ := Aside0.mk (blk_below (gK BK507.out) hb); have n8_ := Aside0.mk (below_step (by repeat (first | (with_reducible first | exact HB.out | apply bA | apply bN | apply bD | refine bS ?_ GE478.out | refine bS ?_ GE479.out | refine bS ?_ GE480.out | refine bS ?_ GE507.out) | exact HB.out)) hb); clear HO_479001; clear HO_480001; clear HO_481001; clear HO506; clear BK478; clear BK479; clear BK480; clear BK507; clear HB; have HO_479001 := n0_; have HO_480001 := n1_; have HO_481001 := n2_; have HO506 := n3_; have BK478 := n4_; have BK479 := n5_; have BK480 := n6_; have BK507 := n7_; have HB := n8_; clear n0_ n1_ n2_ n3_ n4_ n5_ n6_ n7_ n8_; (try clear hb); (try clear hb2); (try clear hk); (try clear hi); have hcz106_0 : w105.cell? ⟨gb478, 0, none⟩ = some (.bool a0_0) := (blk_cell BK478.out 0).trans rfl; have hcz106_1 : w105.cell? ⟨gb478, 1, none⟩ = some (.slice A0_1 l0_1.length c0_1) := (blk_cell BK478.out 1).trans rfl; have hfz106_0 := blk_frozen BK478.out 0; have hfz106_1 := blk_frozen BK478.out 1; have hnb107 := NB480_479.out; have hnc107 := NB479_480.out; have hcz108_0 : w105.cell? ⟨gb480, 0, none⟩ = some (.bool a2_0) := (blk_cell BK480.out 0).trans rfl; have hcz108_1 : w105.cell? ⟨gb480, 1, none⟩ = some (.slice A2_1 l2_1.length c2_1) := (blk_cell BK480.out 1).trans rfl; have hfz108_0 := blk_frozen BK480.out 0; have hfz108_1 := blk_frozen BK480.out 1) | (go_at_call 14; (with_reducible refine (num_Cmp.calls kj9 a0_0 _ _ l0_1 a2_0 _ _ l2_1 t510 _ ?side1 ?side2 ?side3 ?side4 A91.out).mono ?_); (case side1 => repeat (first | exact (Kd.V_reads' HO_479001.out).2.2 | (with_reducible refine Kd.C_alloc ?_ _) | (with_reducible refine Kd.C_drewN ?_ _) | (with_reducible refine Kd.C_drew ?_))); (case side2 => exact (Kd.V_reads' HO_479001.out).2.1); (case side3 => repeat (first | exact (Kd.V_reads' HO_481001.out).2.2 | (with_reducible refine Kd.C_alloc ?_ _) | (with_reducible refine Kd.C_drewN ?_ _) | (with_reducible refine Kd.C_drew ?_))); (case side4 => exact (Kd.V_reads' HO_481001.out).2.1); (try clear A91); rintro e w109 ⟨rfl, hb⟩; have n0_ := Aside0.mk (Kd.V_below (gV HO_479001.out) hb); have n1_ := Aside0.mk (Kd.V_below (gV HO_480001.out) hb); have n2_ := Aside0.mk (Kd.V_below (gV HO_481001.out) hb); have n3_ := Aside0.mk (Kd.V_below (gV HO506.out) hb); have n4_ := Aside0.mk (blk_below (gK BK478.out) hb); have n5_ := Aside0.mk (blk_below (gK BK479.out) hb); have n6_ := Aside0.mk (blk_below (gK BK480.out) hb); have n7_ := Aside0.mk (blk_below (gK BK507.out) hb); have n8_ := Aside0.mk (below_step (by repeat (first | (with_reducible first | exact HB.out | apply bA | apply bN | apply bD | refine bS ?_ GE478.out | refine bS ?_ GE479.out | refine bS ?_ GE480.out | refine bS ?_ GE507.out) | exact HB.out)) hb); clear HO_479001; clear HO_480001; clear HO_481001; clear HO506; clear BK478; clear BK479; clear BK480; clear BK507; clear HB; have HO_479001 := n0_; have HO_480001 := n1_; have HO_481001 := n2_; have HO506 := n3_; have BK478 := n4_; have BK479 := n5_; have BK480 := n6_; have BK507 := n7_; have HB := n8_; clear n0_ n1_ n2_ n3_ n4_ n5_ n6_ n7_ n8_; (try clear hb); (try clear hb2); (try clear hk); (try clear hi)))
          go_ret
          exact ⟨by first | rfl | (simp [errW_none, errW_some] <;> rfl) | (simp [*, errW_none, errW_some] <;> rfl), by repeat (first | (with_reducible first | exact HB.out | apply bA | apply bN | apply bD | refine bS ?_ GE478.out | refine bS ?_ GE479.out | refine bS ?_ GE480.out | refine bS ?_ GE507.out) | exact HB.out)⟩
       ·rw [if_neg c60] at H
        have c60b0 : (t509 == 0) = false := beq_eq_false_iff_ne.mpr c60
        have c60b1 : (t509 != 0) = true := bne_iff_ne.mpr c60
        exact absurd ((Option.some.inj H).trans HTRUE) (by decide)
      ·replace c58 := Bool.eq_false_iff.mpr c58
       subst c58
       have H1 : (some false) = some r := by rw [if_neg (show ¬ (false = true) by decide)] at H; exact H
       clear H
       have H := H1
       clear H1
       exact absurd ((Option.some.inj H).trans HTRUE) (by decide)
  ·replace c7 := Bool.eq_false_iff.mpr c7
   subst c7
   have H1 : (some true) = some r := by rw [if_neg (show ¬ (false = true) by decide)] at H; exact H
   clear H
   have H := H1
   clear H1
   obtain rfl := Option.some.inj H
   go_enter Try.func4, Try.ntmps4
   go_wp2_with (first | ((with_reducible refine gate_dst (N := 3) rfl ?_); refine box_event ?hg (N := 3) ?hd (cs := #[.bool a0_0, .slice A0_1 l0_1.length c0_1]) (t := 25) ?hr ?_; (case hd => rfl); (case hg => rfl); (case hr => first | (go_simp; done) | (go_simp; rfl)); intro gb478 hg w110 hbox hb; have n0_ := Aside0.mk (Kd.V_below (Kd.V_elderB (gV HO0_1.out) gb478 (Nat.le_of_eq hg.symm)) hb); have n1_ := Aside0.mk (Kd.V_below (Kd.V_elderB (gV HO1_1.out) gb478 (Nat.le_of_eq hg.symm)) hb); have n2_ := Aside0.mk (Kd.V_below (Kd.V_elderB (gV HO2_1.out) gb478 (Nat.le_of_eq hg.symm)) hb); have n3_ := Aside0.mk (below_step (gB HB.out) hb); have n4_ := Aside0.mk (hbox); have n5_ := Aside0.mk ((by rw [hg]; exact (below_size (gB HB.out)) : w.heap.size ≤ gb478)); have n6_ := Aside0.mk ((by rw [hg]; exact (below_size (gB HB.out)) : w.heap.size ≤ gb478)); clear HO0_1; clear HO1_1; clear HO2_1; clear HB; have HO0_1 := n0_; have HO1_1 := n1_; have HO2_1 := n2_; have HB := n3_; have BK478 := n4_; have GW478 := n5_; have GE478 := n6_; clear n0_ n1_ n2_ n3_ n4_ n5_ n6_; clear hb hbox hg) | ((with_reducible refine gate_dst (N := 4) rfl ?_); refine box_event ?hg (N := 4) ?hd (cs := #[.bool a1_0, .slice A1_1 l1_1.length c1_1]) (t := 25) ?hr ?_; (case hd => rfl); (case hg => rfl); (case hr => first | (go_simp; done) | (go_simp; rfl)); intro gb479 hg w111 hbox hb; have n0_ := Aside0.mk (Kd.V_below (Kd.V_elderB (gV HO0_1.out) gb479 (Nat.le_of_eq hg.symm)) hb); have n1_ := Aside0.mk (Kd.V_below (Kd.V_elderB (gV HO1_1.out) gb479 (Nat.le_of_eq hg.symm)) hb); have n2_ := Aside0.mk (Kd.V_below (Kd.V_elderB (gV HO2_1.out) gb479 (Nat.le_of_eq hg.symm)) hb); have n3_ := Aside0.mk (blk_below (gK BK478.out) hb); have n4_ := Aside0.mk (below_step (by repeat (first | (with_reducible first | exact HB.out | apply bA | apply bN | apply bD | refine bS ?_ GE478.out) | exact HB.out)) hb); have n5_ := Aside0.mk (hbox); have n6_ := Aside0.mk ((by rw [hg]; exact (below_size (by repeat (first | (with_reducible first | exact HB.out | apply bA | apply bN | apply bD | refine bS ?_ GE478.out) | exact HB.out))) : w.heap.size ≤ gb479)); have n7_ := Aside0.mk ((by rw [hg]; exact (below_size (by repeat (first | (with_reducible first | exact HB.out | apply bA | apply bN | apply bD | refine bS ?_ GE478.out) | exact HB.out))) : w.heap.size ≤ gb479)); have n8_ := Aside0.mk ((by rw [hg]; exact Nat.ne_of_lt (blk_lt (g := gb478) (o := .cells #[.bool a0_0, .slice A0_1 l0_1.length c0_1] 25 (0, 0)) (gK BK478.out)) : gb478 ≠ gb479)); have n9_ := Aside0.mk ((by rw [hg]; exact Nat.ne_of_gt (blk_lt (g := gb478) (o := .cells #[.bool a0_0, .slice A0_1 l0_1.length c0_1] 25 (0, 0)) (gK BK478.out)) : gb479 ≠ gb478)); clear HO0_1; clear HO1_1; clear HO2_1; clear BK478; clear HB; have HO0_1 := n0_; have HO1_1 := n1_; have HO2_1 := n2_; have BK478 := n3_; have HB := n4_; have BK479 := n5_; have GW479 := n6_; have GE479 := n7_; have NB478_479 := n8_; have NB479_478 := n9_; clear n0_ n1_ n2_ n3_ n4_ n5_ n6_ n7_ n8_ n9_; clear hb hbox hg) | ((with_reducible refine gate_dst (N := 5) rfl ?_); refine box_event ?hg (N := 5) ?hd (cs := #[.bool a2_0, .slice A2_1 l2_1.length c2_1]) (t := 25) ?hr ?_; (case hd => rfl); (case hg => rfl); (case hr => first | (go_simp; done) | (go_simp; rfl)); intro gb480 hg w112 hbox hb; have n0_ := Aside0.mk (Kd.V_below (Kd.V_elderB (gV HO0_1.out) gb480 (Nat.le_of_eq hg.symm)) hb); have n1_ := Aside0.mk (Kd.V_below (Kd.V_elderB (gV HO1_1.out) gb480 (Nat.le_of_eq hg.symm)) hb); have n2_ := Aside0.mk (Kd.V_below (Kd.V_elderB (gV HO2_1.out) gb480 (Nat.le_of_eq hg.symm)) hb); have n3_ := Aside0.mk (blk_below (gK BK478.out) hb); have n4_ := Aside0.mk (blk_below (gK BK479.out) hb); have n5_ := Aside0.mk (below_step (by repeat (first | (with_reducible first | exact HB.out | apply bA | apply bN | apply bD | refine bS ?_ GE478.out | refine bS ?_ GE479.out) | exact HB.out)) hb); have n6_ := Aside0.mk (hbox); have n7_ := Aside0.mk ((by rw [hg]; exact (below_size (by repeat (first | (with_reducible first | exact HB.out | apply bA | apply bN | apply bD | refine bS ?_ GE478.out | refine bS ?_ GE479.out) | exact HB.out))) : w.heap.size ≤ gb480)); have n8_ := Aside0.mk ((by rw [hg]; exact (below_size (by repeat (first | (with_reducible first | exact HB.out | apply bA | apply bN | apply bD | refine bS ?_ GE478.out | refine bS ?_ GE479.out) | exact HB.out))) : w.heap.size ≤ gb480)); have n9_ := Aside0.mk ((by rw [hg]; exact Nat.ne_of_lt (blk_lt (g := gb478) (o := .cells #[.bool a0_0, .slice A0_1 l0_1.length c0_1] 25 (0, 0)) (gK BK478.out)) : gb478 ≠ gb480)); have n10_ := Aside0.mk ((by rw [hg]; exact Nat.ne_of_gt (blk_lt (g := gb478) (o := .cells #[.bool a0_0, .slice A0_1 l0_1.length c0_1] 25 (0, 0)) (gK BK478.out)) : gb480 ≠ gb478)); have n11_ := Aside0.mk ((by rw [hg]; exact Nat.ne_of_lt (blk_lt (g := gb479) (o := .cells #[.bool a1_0, .slice A1_1 l1_1.length c1_1] 25 (0, 0)) (gK BK479.out)) : gb479 ≠ gb480)); have n12_ := Aside0.mk ((by rw [hg]; exact Nat.ne_of_gt (blk_lt (g := gb479) (o := .cells #[.bool a1_0, .slice A1_1 l1_1.length c1_1] 25 (0, 0)) (gK BK479.out)) : gb480 ≠ gb479)); clear HO0_1; clear HO1_1; clear HO2_1; clear BK478; clear BK479; clear HB; have HO0_1 := n0_; have HO1_1 := n1_; have HO2_1 := n2_; have BK478 := n3_; have BK479 := n4_; have HB := n5_; have BK480 := n6_; have GW480 := n7_; have GE480 := n8_; have NB478_480 := n9_; have NB480_478 := n10_; have NB479_480 := n11_; have NB480_479 := n12_; clear n0_ n1_ n2_ n3_ n4_ n5_ n6_ n7_ n8_ n9_ n10_ n11_ n12_; clear hb hbox hg) | ((with_reducible refine gate_callee (f := 9) rfl ?_); refine goesL_ (some 10) rfl rfl Try.func9 (by kernel_rfl) rfl #[] rfl (by (try simp only [List.map_toArray, List.map_cons, List.map_nil]); first | done | rfl | (simp only [List.length_drop, List.length_take]; rfl)) ?_; (with_reducible refine (isohyetlaw02_fit.calls k  true _ rfl A4.out).mono ?_); (try clear A4); rintro e w113 ⟨rfl, hb⟩; refine ⟨_, rfl, ?_⟩; have n0_ := Aside0.mk (Kd.V_below (gV HO0_1.out) hb); have n1_ := Aside0.mk (Kd.V_below (gV HO1_1.out) hb); have n2_ := Aside0.mk (Kd.V_below (gV HO2_1.out) hb); have n3_ := Aside0.mk (blk_below (gK BK478.out) hb); have n4_ := Aside0.mk (blk_below (gK BK479.out) hb); have n5_ := Aside0.mk (blk_below (gK BK480.out) hb); have n6_ := Aside0.mk (below_step (by repeat (first | (with_reducible first | exact HB.out | apply bA | apply bN | apply bD | refine bS ?_ GE478.out | refine bS ?_ GE479.out | refine bS ?_ GE480.out) | exact HB.out)) hb); clear HO0_1; clear HO1_1; clear HO2_1; clear BK478; clear BK479; clear BK480; clear HB; have HO0_1 := n0_; have HO1_1 := n1_; have HO2_1 := n2_; have BK478 := n3_; have BK479 := n4_; have BK480 := n5_; have HB := n6_; clear n0_ n1_ n2_ n3_ n4_ n5_ n6_; (try clear hb); (try clear hb2); (try clear hk); (try clear hi); have hnb114 := NB478_479.out; have hnc114 := NB479_478.out; have hnb115 := NB478_480.out; have hnc115 := NB480_478.out; have hcz116_0 : w113.cell? ⟨gb478, 0, none⟩ = some (.bool a0_0) := (blk_cell BK478.out 0).trans rfl; have hcz116_1 : w113.cell? ⟨gb478, 1, none⟩ = some (.slice A0_1 l0_1.length c0_1) := (blk_cell BK478.out 1).trans rfl; have hfz116_0 := blk_frozen BK478.out 0; have hfz116_1 := blk_frozen BK478.out 1; have hnb117 := NB479_480.out; have hnc117 := NB480_479.out; have hcz118_0 : w113.cell? ⟨gb479, 0, none⟩ = some (.bool a1_0) := (blk_cell BK479.out 0).trans rfl; have hcz118_1 : w113.cell? ⟨gb479, 1, none⟩ = some (.slice A1_1 l1_1.length c1_1) := (blk_cell BK479.out 1).trans rfl; have hfz118_0 := blk_frozen BK479.out 0; have hfz118_1 := blk_frozen BK479.out 1; have hcz119_0 : w113.cell? ⟨gb480, 0, none⟩ = some (.bool a2_0) := (blk_cell BK480.out 0).trans rfl; have hcz119_1 : w113.cell? ⟨gb480, 1, none⟩ = some (.slice A2_1 l2_1.length c2_1) := (blk_cell BK480.out 1).trans rfl; have hfz119_0 := blk_frozen BK480.out 0; have hfz119_1 := blk_frozen BK480.out 1) | ((with_reducible refine gate_dst (N := 15) rfl ?_); refine Kd.N_lit k25 _ 25 ?hg (N' := 15) ?hd (xs := ([(⟨a0_0, l0_1⟩ : S25), (⟨a1_0, l1_1⟩ : S25), (⟨a2_0, l2_1⟩ : S25)] : List (S25))) (inner := [.bool a0_0, .slice A0_1 l0_1.length c0_1, .bool a1_0, .slice A1_1 l1_1.length c1_1, .bool a2_0, .slice A2_1 l2_1.length c2_1]) (ok := (fun k_ => ((P0_1_ k_ ∨ P1_1_ k_ ∨ P2_1_ k_) ∨ w.heap.size ≤ k_) ∧ k_ ≠ gb478 ∧ k_ ≠ gb479 ∧ k_ ≠ gb480)) (okp := (fun k_ => ((P0_1_ k_ ∨ P1_1_ k_ ∨ P2_1_ k_) ∨ w.heap.size ≤ k_) ∧ k_ ≠ gb478 ∧ k_ ≠ gb479 ∧ k_ ≠ gb480)) ?hr ?hp (fun _ hk => hk) ((show ∀ k_, w113.heap.size ≤ k_ → (fun k_ => ((P0_1_ k_ ∨ P1_1_ k_ ∨ P2_1_ k_) ∨ w.heap.size ≤ k_) ∧ k_ ≠ gb478 ∧ k_ ≠ gb479 ∧ k_ ≠ gb480) k_ from fun k_ hk => ⟨(.inr (Nat.le_trans (below_size (by repeat (first | (with_reducible first | exact HB.out | apply bA | apply bN | apply bD | refine bS ?_ GE478.out | refine bS ?_ GE479.out | refine bS ?_ GE480.out) | exact HB.out))) hk)), Kd.freshB (g := gb478) (o := .cells #[.bool a0_0, .slice A0_1 l0_1.length c0_1] 25 (0, 0)) (gK BK478.out) k_ hk, Kd.freshB (g := gb479) (o := .cells #[.bool a1_0, .slice A1_1 l1_1.length c1_1] 25 (0, 0)) (gK BK479.out) k_ hk, Kd.freshB (g := gb480) (o := .cells #[.bool a2_0, .slice A2_1 l2_1.length c2_1] 25 (0, 0)) (gK BK480.out) k_ hk⟩) _ (Nat.le_refl _)) (Below.refl _ _) (Nat.le_refl _) (by simp) ?_; (case hd => rfl); (case hg => rfl); (case hr => first | (go_simp; done) | (go_simp; rfl)); (case hp => exact (Reps.c2 (show Kd.FK k25 _ _ (⟨a0_0, l0_1⟩ : S25) [.bool a0_0, .slice A0_1 l0_1.length c0_1] from (k25_mkF _ _ (⟨a0_0, l0_1⟩ : S25) (Kd.V_reads' (Kd.V_mono (ok' := (fun k_ => ((P0_1_ k_ ∨ P1_1_ k_ ∨ P2_1_ k_) ∨ w.heap.size ≤ k_) ∧ k_ ≠ gb478 ∧ k_ ≠ gb479 ∧ k_ ≠ gb480)) (HO0_1.out) (fun k_ hk => ⟨hk.1.1.1, ⟨hk.1.1.2, ⟨hk.1.2, hk.2⟩⟩⟩))).2.1 (Kd.V_F (Kd.V_mono (ok' := (fun k_ => ((P0_1_ k_ ∨ P1_1_ k_ ∨ P2_1_ k_) ∨ w.heap.size ≤ k_) ∧ k_ ≠ gb478 ∧ k_ ≠ gb479 ∧ k_ ≠ gb480)) (HO0_1.out) (fun k_ hk => ⟨hk.1.1.1, ⟨hk.1.1.2, ⟨hk.1.2, hk.2⟩⟩⟩))))) (Reps.c2 (show Kd.FK k25 _ _ (⟨a1_0, l1_1⟩ : S25) [.bool a1_0, .slice A1_1 l1_1.length c1_1] from (k25_mkF _ _ (⟨a1_0, l1_1⟩ : S25) (Kd.V_reads' (Kd.V_mono (ok' := (fun k_ => ((P0_1_ k_ ∨ P1_1_ k_ ∨ P2_1_ k_) ∨ w.heap.size ≤ k_) ∧ k_ ≠ gb478 ∧ k_ ≠ gb479 ∧ k_ ≠ gb480)) (HO1_1.out) (fun k_ hk => ⟨hk.1.1.1, ⟨hk.1.1.2, ⟨hk.1.2, hk.2⟩⟩⟩))).2.1 (Kd.V_F (Kd.V_mono (ok' := (fun k_ => ((P0_1_ k_ ∨ P1_1_ k_ ∨ P2_1_ k_) ∨ w.heap.size ≤ k_) ∧ k_ ≠ gb478 ∧ k_ ≠ gb479 ∧ k_ ≠ gb480)) (HO1_1.out) (fun k_ hk => ⟨hk.1.1.1, ⟨hk.1.1.2, ⟨hk.1.2, hk.2⟩⟩⟩))))) (Reps.c2 (show Kd.FK k25 _ _ (⟨a2_0, l2_1⟩ : S25) [.bool a2_0, .slice A2_1 l2_1.length c2_1] from (k25_mkF _ _ (⟨a2_0, l2_1⟩ : S25) (Kd.V_reads' (Kd.V_mono (ok' := (fun k_ => ((P0_1_ k_ ∨ P1_1_ k_ ∨ P2_1_ k_) ∨ w.heap.size ≤ k_) ∧ k_ ≠ gb478 ∧ k_ ≠ gb479 ∧ k_ ≠ gb480)) (HO2_1.out) (fun k_ hk => ⟨hk.1.1.1, ⟨hk.1.1.2, ⟨hk.1.2, hk.2⟩⟩⟩))).2.1 (Kd.V_F (Kd.V_mono (ok' := (fun k_ => ((P0_1_ k_ ∨ P1_1_ k_ ∨ P2_1_ k_) ∨ w.heap.size ≤ k_) ∧ k_ ≠ gb478 ∧ k_ ≠ gb479 ∧ k_ ≠ gb480)) (HO2_1.out) (fun k_ hk => ⟨hk.1.1.1, ⟨hk.1.1.2, ⟨hk.1.2, hk.2⟩⟩⟩))))) (Reps.none _ _))))); intro v483 w120 ho121 hb hg_ hnew_; clear hg_ hnew_; (first | rw [← Ny482.out] at ho121 | (simp only [Int.reduceToNat] at ho121; rw [← Ny482.out] at ho121)); have n0_ := Aside0.mk (Kd.V_elder' (gV HO0_1.out) (Kd.N_base ho121) hb); have n1_ := Aside0.mk (Kd.V_elder' (gV HO1_1.out) (Kd.N_base ho121) hb); have n2_ := Aside0.mk (Kd.V_elder' (gV HO2_1.out) (Kd.N_base ho121) hb); have n3_ := Aside0.mk (Kd.N_lower ho121 (below_size (by repeat (first | (with_reducible first | exact HB.out | apply bA | apply bN | apply bD | refine bS ?_ GE478.out | refine bS ?_ GE479.out | refine bS ?_ GE480.out) | exact HB.out)))); have n4_ := Aside0.mk (blk_below (gK BK478.out) hb); have n5_ := Aside0.mk (blk_below (gK BK479.out) hb); have n6_ := Aside0.mk (blk_below (gK BK480.out) hb); have n7_ := Aside0.mk (below_step (by repeat (first | (with_reducible first | exact HB.out | apply bA | apply bN | apply bD | refine bS ?_ GE478.out | refine bS ?_ GE479.out | refine bS ?_ GE480.out) | exact HB.out)) hb); clear HO0_1; clear HO1_1; clear HO2_1; clear BK478; clear BK479; clear BK480; clear HB; have HO0_1 := n0_; have HO1_1 := n1_; have HO2_1 := n2_; have HO484 := n3_; have BK478 := n4_; have BK479 := n5_; have BK480 := n6_; have HB := n7_; clear n0_ n1_ n2_ n3_ n4_ n5_ n6_ n7_; clear hb ho121; obtain ⟨Ao122, co122, eo122⟩ := Kd.N_slice HO484.out; subst eo122) | ((with_reducible refine gate_callee (f := 10) rfl ?_); refine goesL_ (some 16) rfl rfl Try.func10 (by kernel_rfl) rfl #[.int .i64 20, .slice Ao122 y482.length co122] rfl (by (try simp only [List.map_toArray, List.map_cons, List.map_nil]); first | done | rfl | (simp only [List.length_drop, List.length_take]; rfl)) ?_; (with_reducible refine (isohyetlaw02_short.calls k 20 _ _ y482 false _ ?side1 ?side2 A6.out).mono ?_); (case side1 => repeat (first | exact (Kd.N_reads' HO484.out).2.2 | (with_reducible refine Kd.C_alloc ?_ _) | (with_reducible refine Kd.C_drewN ?_ _) | (with_reducible refine Kd.C_drew ?_))); (case side2 => exact (Kd.N_reads' HO484.out).2.1); (try clear A6); rintro e w123 ⟨rfl, hb⟩; refine ⟨_, rfl, ?_⟩; have n0_ := Aside0.mk (Kd.V_below (gV HO0_1.out) hb); have n1_ := Aside0.mk (Kd.V_below (gV HO1_1.out) hb); have n2_ := Aside0.mk (Kd.V_below (gV HO2_1.out) hb); have n3_ := Aside0.mk (Kd.N_below (gN HO484.out) hb); have n4_ := Aside0.mk (blk_below (gK BK478.out) hb); have n5_ := Aside0.mk (blk_below (gK BK479.out) hb); have n6_ := Aside0.mk (blk_below (gK BK480.out) hb); have n7_ := Aside0.mk (below_step (by repeat (first | (with_reducible first | exact HB.out | apply bA | apply bN | apply bD | refine bS ?_ GE478.out | refine bS ?_ GE479.out | refine bS ?_ GE480.out) | exact HB.out)) hb); clear HO0_1; clear HO1_1; clear HO2_1; clear HO484; clear BK478; clear BK479; clear BK480; clear HB; have HO0_1 := n0_; have HO1_1 := n1_; have HO2_1 := n2_; have HO484 := n3_; have BK478 := n4_; have BK479 := n5_; have BK480 := n6_; have HB := n7_; clear n0_ n1_ n2_ n3_ n4_ n5_ n6_ n7_; (try clear hb); (try clear hb2); (try clear hk); (try clear hi)))
   go_ret
   exact ⟨by first | rfl | (simp [errW_none, errW_some] <;> rfl) | (simp [*, errW_none, errW_some] <;> rfl), by repeat (first | (with_reducible first | exact HB.out | apply bA | apply bN | apply bD | refine bS ?_ GE478.out | refine bS ?_ GE479.out | refine bS ?_ GE480.out) | exact HB.out)⟩
 ·replace c5 := Bool.eq_false_iff.mpr c5
  subst c5
  have H1 : (some false) = some r := by rw [if_neg (show ¬ (false = true) by decide)] at H; exact H
  clear H
  have H := H1
  clear H1
  exact absurd ((Option.some.inj H).trans HTRUE) (by decide)

end Go.Proofs.Ytpgmhhkkbjbpgaa.M
