-- By drive.py (this session's program), out of the translation. Lean checks it.
import Derived.Test.YtpgmhhkkbjbpgaaA0
import Derived.Test.YtpgmhhkkbjbpgaaA6
import Derived.Test.YtpgmhhkkbjbpgaaA8
import Derived.Test.YtpgmhhkkbjbpgaaA9
import Derived.Test.YtpgmhhkkbjbpgaaC1
import Derived.Test.YtpgmhhkkbjbpgaaC3
import Derived.Test.YtpgmhhkkbjbpgaaC4
import Derived.Test.YtpgmhhkkbjbpgaaC6
import Derived.Test.YtpgmhhkkbjbpgaaC7
namespace Go.Proofs.Ytpgmhhkkbjbpgaa.M
open Go.Proofs.Ytpgmhhkkbjbpgaa.MB Go.Proofs.Ytpgmhhkkbjbpgaa
open Go.RowKit Go.Proofs.YtpgmhhkkbjbpgaaW.PrintWords Go.Proofs.YtpgmhhkkbjbpgaaW.PrintLast Go.Proofs.YtpgmhhkkbjbpgaaW.PrintMore
attribute [local go_sem] max2_int min2_int max_two min_two max_three min_three max_four min_four   -- for this text's walks alone
set_option linter.unusedVariables false
set_option linter.unusedSimpArgs false
attribute [local go_sem] add64_run sub64_run

/-! ### isohyetlaw02_NumDivs: function 5 -/
def isohyetlaw02_NumDivs.j0 : Nat → Bool → Bool → List Int → Bool → List Int → Bool → List Int → Option (Bool)
 | 0, _, _, _, _, _, _, _ => none
 | k + 1, x37, x513000, x513001, x527000, x527001, x528000, x528001 => if x37 = true then (some false) else ((num_Sign.f k x513000 x513001).bind fun t539 => (if t539 = 0 then ((num_Sign.f k x527000 x527001).bind fun t540 => (some (t540 == 0))) else ((num_Abs.f k x528000 x528001).bind fun bt541 => ((num_Abs.f k x513000 x513001).bind fun bt545 => ((num_Cmp.f k bt541.1 bt541.2 bt545.1 bt545.2).bind fun t549 => (if t549 < 0 then ((num_Sign.f k x528000 x528001).bind fun t550 => (if t550 = 0 then (some true) else ((num_Sign.f k x528000 x528001).bind fun t551 => ((num_Sign.f k x513000 x513001).bind fun t552 => (some (t551 == t552)))))) else (some false)))))))
def isohyetlaw02_NumDivs.f (k : Nat) (a0_0 : Bool) (l0_1 : List Int) (a1_0 : Bool) (l1_1 : List Int) : Option (Bool) := (isohyetlaw02_fit.f k).bind fun t513 => (if t513 = true then ((isohyetlaw02_short.f k 20 (([(⟨a0_0, l0_1⟩ : S25), (⟨a1_0, l1_1⟩ : S25)] : List (S25)))).bind fun t517 => (if t517 = true then ((num_Div.f k a0_0 l0_1 a1_0 l1_1).bind fun bt518 => ((isohyetlaw02_Right.f bt518.1 bt518.2.1).bind fun t528 => (if t528 = true then ((isohyetlaw02_Right.f bt518.2.2.1 bt518.2.2.2).bind fun t529 => (if t529 = true then ((num_Mul.f k bt518.1 bt518.2.1 a1_0 l1_1).bind fun bt530 => ((num_Add.f k bt530.1 bt530.2 bt518.2.2.1 bt518.2.2.2).bind fun bt534 => ((num_Cmp.f k bt534.1 bt534.2 a0_0 l0_1).bind fun t538 => (isohyetlaw02_NumDivs.j0 k (t538 != 0) a1_0 l1_1 bt518.1 bt518.2.1 bt518.2.2.1 bt518.2.2.2)))) else (isohyetlaw02_NumDivs.j0 k true a1_0 l1_1 bt518.1 bt518.2.1 bt518.2.2.1 bt518.2.2.2))) else (isohyetlaw02_NumDivs.j0 k true a1_0 l1_1 bt518.1 bt518.2.1 bt518.2.2.1 bt518.2.2.2)))) else (some true))) else (some false))
theorem isohyetlaw02_NumDivs.mono_l : ∀ k, (∀ y0 y1 y2 y3 y4 y5 y6, LeO (isohyetlaw02_NumDivs.j0 k y0 y1 y2 y3 y4 y5 y6) (isohyetlaw02_NumDivs.j0 (k + 1) y0 y1 y2 y3 y4 y5 y6))
 | 0 => fun _ _ _ _ _ _ _ r h => by simp [isohyetlaw02_NumDivs.j0] at h
 | k + 1 => by
  have ih0 := isohyetlaw02_NumDivs.mono_l k
  ·intro y0 y1 y2 y3 y4 y5 y6
   unfold isohyetlaw02_NumDivs.j0
   repeat' first
   | (with_reducible exact ih0 _ _ _ _ _ _ _)
   | (with_reducible exact isohyetlaw02_fit.mono _)
   | (with_reducible exact isohyetlaw02_short.mono _ _ _)
   | (with_reducible exact num_Abs.mono _ _ _)
   | (with_reducible exact num_Add.mono _ _ _ _ _)
   | (with_reducible exact num_Cmp.mono _ _ _ _ _)
   | (with_reducible exact num_Div.mono _ _ _ _ _)
   | (with_reducible exact num_Mul.mono _ _ _ _ _)
   | (with_reducible exact num_Sign.mono _ _ _)
   | (with_reducible exact LeO.refl _)
   | (with_reducible exact LeO.none _)
   | (with_reducible refine LeO.ite ?_ ?_)
   | (with_reducible refine LeO.bind ?_ (fun _ => ?_))
   | exact ih0 _ _ _ _ _ _ _
   | exact isohyetlaw02_fit.mono _
   | exact isohyetlaw02_short.mono _ _ _
   | exact num_Abs.mono _ _ _
   | exact num_Add.mono _ _ _ _ _
   | exact num_Cmp.mono _ _ _ _ _
   | exact num_Div.mono _ _ _ _ _
   | exact num_Mul.mono _ _ _ _ _
   | exact num_Sign.mono _ _ _
   | exact LeO.none _
   | refine LeO.ite ?_ ?_
   | refine LeO.bind ?_ (fun _ => ?_)
theorem isohyetlaw02_NumDivs.mono : ∀ a0 a1 a2 a3 k, LeO (isohyetlaw02_NumDivs.f k a0 a1 a2 a3) (isohyetlaw02_NumDivs.f (k + 1) a0 a1 a2 a3) := by
 intro a0 a1 a2 a3 k
 have ih0 := isohyetlaw02_NumDivs.mono_l k
 unfold isohyetlaw02_NumDivs.f
 repeat' first
   | (with_reducible exact ih0 _ _ _ _ _ _ _)
   | (with_reducible exact isohyetlaw02_fit.mono _)
   | (with_reducible exact isohyetlaw02_short.mono _ _ _)
   | (with_reducible exact num_Abs.mono _ _ _)
   | (with_reducible exact num_Add.mono _ _ _ _ _)
   | (with_reducible exact num_Cmp.mono _ _ _ _ _)
   | (with_reducible exact num_Div.mono _ _ _ _ _)
   | (with_reducible exact num_Mul.mono _ _ _ _ _)
   | (with_reducible exact num_Sign.mono _ _ _)
   | (with_reducible exact LeO.refl _)
   | (with_reducible exact LeO.none _)
   | (with_reducible refine LeO.ite ?_ ?_)
   | (with_reducible refine LeO.bind ?_ (fun _ => ?_))
   | exact ih0 _ _ _ _ _ _ _
   | exact isohyetlaw02_fit.mono _
   | exact isohyetlaw02_short.mono _ _ _
   | exact num_Abs.mono _ _ _
   | exact num_Add.mono _ _ _ _ _
   | exact num_Cmp.mono _ _ _ _ _
   | exact num_Div.mono _ _ _ _ _
   | exact num_Mul.mono _ _ _ _ _
   | exact num_Sign.mono _ _ _
   | exact LeO.none _
   | refine LeO.ite ?_ ?_
   | refine LeO.bind ?_ (fun _ => ?_)
def isohyetlaw02_NumDivs.T6 : Bool × List (List Nat × List Nat) := (true, [([], []), ([0], [0]), ([1], [1]), ([2, 1], [2]), ([3], [3]), ([4, 3, 3], [3, 4]), ([5, 3], [3, 5]), ([3, 6], [3, 6]), ([7, 5], [7]), ([8], [8]), ([8], [8]), ([9, 10, 8, 8], [8, 9, 10]), ([8], [8]), ([11, 12, 11, 8], [8, 11, 12]), ([8], [8]), ([13, 14, 13, 8], [8, 13, 14]), ([15, 8], [8, 15]), ([8, 16], [8, 16])])
def isohyetlaw02_NumDivs.B6 : List Nat := [0, 1, 3, 7, 15, 31, 63, 127, 255, 511, 511, 2047, 511, 8191, 511, 32767, 65535, 131071]
theorem isohyetlaw02_NumDivs.tab6 : rtab .any (opsOf Try.f5 6) = isohyetlaw02_NumDivs.T6 := by kernel_rfl
theorem isohyetlaw02_NumDivs.bits6 : waitsOk isohyetlaw02_NumDivs.T6.2 isohyetlaw02_NumDivs.B6 = true := by kernel_rfl
def isohyetlaw02_NumDivs.T10 : Bool × List (List Nat × List Nat) := (true, [([], []), ([0], [0]), ([], []), ([2, 1], [2]), ([1, 3, 3], [1, 3]), ([4], [4]), ([5, 4], [5]), ([6], [6]), ([7, 6, 6], [6, 7]), ([8, 6], [6, 8]), ([9, 8, 6], [6, 9]), ([10], [10]), ([11, 10, 10], [10, 11]), ([10], [10]), ([13, 12, 10], [10, 13]), ([12, 14, 10], [10, 12, 14]), ([10, 15, 6], [6, 10, 15]), ([6, 16], [6, 16]), ([17, 14, 0, 1, 2, 3, 4, 5, 6, 7, 8, 9, 10, 11, 12, 13, 14, 15, 16, 17], [17])])
def isohyetlaw02_NumDivs.B10 : List Nat := [0, 1, 0, 7, 15, 31, 63, 127, 255, 511, 1023, 2047, 4095, 2047, 16383, 32767, 65535, 131071, 262143]
theorem isohyetlaw02_NumDivs.tab10 : rtab .any (opsOf Try.f5 10) = isohyetlaw02_NumDivs.T10 := by kernel_rfl
theorem isohyetlaw02_NumDivs.bits10 : waitsOk isohyetlaw02_NumDivs.T10.2 isohyetlaw02_NumDivs.B10 = true := by kernel_rfl
set_option maxHeartbeats 8000000 in
set_option maxRecDepth 100000 in
theorem isohyetlaw02_NumDivs.calls (k : Nat) (a0_0 : Bool) (P0_1_ : Nat → Prop) (A0_1 : Option Addr) (c0_1 : Nat) (l0_1 : List Int) (a1_0 : Bool) (P1_1_ : Nat → Prop) (A1_1 : Option Addr) (c1_1 : Nat) (l1_1 : List Int) (r : Bool) (w : World) (hs0_1 : Kd.V (Kd.int .u64) 54 w w.heap.size (fun k_ => P0_1_ k_) (.slice A0_1 l0_1.length c0_1) l0_1) (hs1_1 : Kd.V (Kd.int .u64) 54 w w.heap.size (fun k_ => P1_1_ k_) (.slice A1_1 l1_1.length c1_1) l1_1) (HTRUE : r = true) (h : isohyetlaw02_NumDivs.f k a0_0 l0_1 a1_0 l1_1 = some r) :
  Calls Try.prog 5 #[.agg #[.bool a0_0, .slice A0_1 l0_1.length c0_1], .agg #[.bool a1_0, .slice A1_1 l1_1.length c1_1]] w fun e w' => e = .returned (.bool r) ∧ Below w.heap.size w w' := by
 have hu25 := Try.underlying25
 have HO0_1 := Aside0.mk (show Kd.V (Kd.int .u64) 54 w w.heap.size (fun k_ => ((P0_1_ k_ ∨ P1_1_ k_) ∨ w.heap.size ≤ k_)) (.slice A0_1 l0_1.length c0_1) l0_1 from Kd.V_mono hs0_1 (fun k_ hk => .inl (.inl hk)))
 have HO1_1 := Aside0.mk (show Kd.V (Kd.int .u64) 54 w w.heap.size (fun k_ => ((P0_1_ k_ ∨ P1_1_ k_) ∨ w.heap.size ≤ k_)) (.slice A1_1 l1_1.length c1_1) l1_1 from Kd.V_mono hs1_1 (fun k_ hk => .inl (.inr hk)))
 have HB := Aside0.mk (Below.refl w.heap.size w)
 have H : ((isohyetlaw02_fit.f k).bind fun t513 => (if t513 = true then ((isohyetlaw02_short.f k 20 (([(⟨a0_0, l0_1⟩ : S25), (⟨a1_0, l1_1⟩ : S25)] : List (S25)))).bind fun t517 => (if t517 = true then ((num_Div.f k a0_0 l0_1 a1_0 l1_1).bind fun bt518 => ((isohyetlaw02_Right.f bt518.1 bt518.2.1).bind fun t528 => (if t528 = true then ((isohyetlaw02_Right.f bt518.2.2.1 bt518.2.2.2).bind fun t529 => (if t529 = true then ((num_Mul.f k bt518.1 bt518.2.1 a1_0 l1_1).bind fun bt530 => ((num_Add.f k bt530.1 bt530.2 bt518.2.2.1 bt518.2.2.2).bind fun bt534 => ((num_Cmp.f k bt534.1 bt534.2 a0_0 l0_1).bind fun t538 => (isohyetlaw02_NumDivs.j0 k (t538 != 0) a1_0 l1_1 bt518.1 bt518.2.1 bt518.2.2.1 bt518.2.2.2)))) else (isohyetlaw02_NumDivs.j0 k true a1_0 l1_1 bt518.1 bt518.2.1 bt518.2.2.1 bt518.2.2.2))) else (isohyetlaw02_NumDivs.j0 k true a1_0 l1_1 bt518.1 bt518.2.1 bt518.2.2.1 bt518.2.2.2)))) else (some true))) else (some false))) = some r := h
 clear h
 replace H := Option.bind_eq_some_iff.mp H
 obtain ⟨t513, A30, H⟩ := H
 replace H : (if t513 = true then ((isohyetlaw02_short.f k 20 (([(⟨a0_0, l0_1⟩ : S25), (⟨a1_0, l1_1⟩ : S25)] : List (S25)))).bind fun t517 => (if t517 = true then ((num_Div.f k a0_0 l0_1 a1_0 l1_1).bind fun bt518 => ((isohyetlaw02_Right.f bt518.1 bt518.2.1).bind fun t528 => (if t528 = true then ((isohyetlaw02_Right.f bt518.2.2.1 bt518.2.2.2).bind fun t529 => (if t529 = true then ((num_Mul.f k bt518.1 bt518.2.1 a1_0 l1_1).bind fun bt530 => ((num_Add.f k bt530.1 bt530.2 bt518.2.2.1 bt518.2.2.2).bind fun bt534 => ((num_Cmp.f k bt534.1 bt534.2 a0_0 l0_1).bind fun t538 => (isohyetlaw02_NumDivs.j0 k (t538 != 0) a1_0 l1_1 bt518.1 bt518.2.1 bt518.2.2.1 bt518.2.2.2)))) else (isohyetlaw02_NumDivs.j0 k true a1_0 l1_1 bt518.1 bt518.2.1 bt518.2.2.1 bt518.2.2.2))) else (isohyetlaw02_NumDivs.j0 k true a1_0 l1_1 bt518.1 bt518.2.1 bt518.2.2.1 bt518.2.2.2)))) else (some true))) else (some false)) = some r := H
 have A3 := Aside0.mk A30
 clear A30
 by_cases c4 : t513 = true
 ·subst c4
  have H1 : ((isohyetlaw02_short.f k 20 (([(⟨a0_0, l0_1⟩ : S25), (⟨a1_0, l1_1⟩ : S25)] : List (S25)))).bind fun t517 => (if t517 = true then ((num_Div.f k a0_0 l0_1 a1_0 l1_1).bind fun bt518 => ((isohyetlaw02_Right.f bt518.1 bt518.2.1).bind fun t528 => (if t528 = true then ((isohyetlaw02_Right.f bt518.2.2.1 bt518.2.2.2).bind fun t529 => (if t529 = true then ((num_Mul.f k bt518.1 bt518.2.1 a1_0 l1_1).bind fun bt530 => ((num_Add.f k bt530.1 bt530.2 bt518.2.2.1 bt518.2.2.2).bind fun bt534 => ((num_Cmp.f k bt534.1 bt534.2 a0_0 l0_1).bind fun t538 => (isohyetlaw02_NumDivs.j0 k (t538 != 0) a1_0 l1_1 bt518.1 bt518.2.1 bt518.2.2.1 bt518.2.2.2)))) else (isohyetlaw02_NumDivs.j0 k true a1_0 l1_1 bt518.1 bt518.2.1 bt518.2.2.1 bt518.2.2.2))) else (isohyetlaw02_NumDivs.j0 k true a1_0 l1_1 bt518.1 bt518.2.1 bt518.2.2.1 bt518.2.2.2)))) else (some true))) = some r := by rw [if_pos rfl] at H; exact H
  clear H
  have H := H1
  clear H1
  obtain ⟨y514, hy514⟩ : ∃ y_ : List (S25), y_ = (([(⟨a0_0, l0_1⟩ : S25), (⟨a1_0, l1_1⟩ : S25)] : List (S25))) := ⟨_, rfl⟩
  replace H : ((isohyetlaw02_short.f k 20 y514).bind fun t517 => (if t517 = true then ((num_Div.f k a0_0 l0_1 a1_0 l1_1).bind fun bt518 => ((isohyetlaw02_Right.f bt518.1 bt518.2.1).bind fun t528 => (if t528 = true then ((isohyetlaw02_Right.f bt518.2.2.1 bt518.2.2.2).bind fun t529 => (if t529 = true then ((num_Mul.f k bt518.1 bt518.2.1 a1_0 l1_1).bind fun bt530 => ((num_Add.f k bt530.1 bt530.2 bt518.2.2.1 bt518.2.2.2).bind fun bt534 => ((num_Cmp.f k bt534.1 bt534.2 a0_0 l0_1).bind fun t538 => (isohyetlaw02_NumDivs.j0 k (t538 != 0) a1_0 l1_1 bt518.1 bt518.2.1 bt518.2.2.1 bt518.2.2.2)))) else (isohyetlaw02_NumDivs.j0 k true a1_0 l1_1 bt518.1 bt518.2.1 bt518.2.2.1 bt518.2.2.2))) else (isohyetlaw02_NumDivs.j0 k true a1_0 l1_1 bt518.1 bt518.2.1 bt518.2.2.1 bt518.2.2.2)))) else (some true))) = some r := by first | (rw [hy514]; with_reducible exact H) | (have H2_ := (Option.bind_some _ _).symm.trans H; rw [hy514]; with_reducible exact H2_) | (have H2_ := (Option.bind_some _ _).symm.trans H; with_reducible exact H2_) | with_reducible exact H | (rw [hy514]; exact H) | exact H
  have Ny514 := Aside0.mk hy514
  clear hy514
  replace H := Option.bind_eq_some_iff.mp H
  obtain ⟨t517, A50, H⟩ := H
  replace H : (if t517 = true then ((num_Div.f k a0_0 l0_1 a1_0 l1_1).bind fun bt518 => ((isohyetlaw02_Right.f bt518.1 bt518.2.1).bind fun t528 => (if t528 = true then ((isohyetlaw02_Right.f bt518.2.2.1 bt518.2.2.2).bind fun t529 => (if t529 = true then ((num_Mul.f k bt518.1 bt518.2.1 a1_0 l1_1).bind fun bt530 => ((num_Add.f k bt530.1 bt530.2 bt518.2.2.1 bt518.2.2.2).bind fun bt534 => ((num_Cmp.f k bt534.1 bt534.2 a0_0 l0_1).bind fun t538 => (isohyetlaw02_NumDivs.j0 k (t538 != 0) a1_0 l1_1 bt518.1 bt518.2.1 bt518.2.2.1 bt518.2.2.2)))) else (isohyetlaw02_NumDivs.j0 k true a1_0 l1_1 bt518.1 bt518.2.1 bt518.2.2.1 bt518.2.2.2))) else (isohyetlaw02_NumDivs.j0 k true a1_0 l1_1 bt518.1 bt518.2.1 bt518.2.2.1 bt518.2.2.2)))) else (some true)) = some r := H
  have A5 := Aside0.mk A50
  clear A50
  by_cases c6 : t517 = true
  ·subst c6
   have H1 : ((num_Div.f k a0_0 l0_1 a1_0 l1_1).bind fun bt518 => ((isohyetlaw02_Right.f bt518.1 bt518.2.1).bind fun t528 => (if t528 = true then ((isohyetlaw02_Right.f bt518.2.2.1 bt518.2.2.2).bind fun t529 => (if t529 = true then ((num_Mul.f k bt518.1 bt518.2.1 a1_0 l1_1).bind fun bt530 => ((num_Add.f k bt530.1 bt530.2 bt518.2.2.1 bt518.2.2.2).bind fun bt534 => ((num_Cmp.f k bt534.1 bt534.2 a0_0 l0_1).bind fun t538 => (isohyetlaw02_NumDivs.j0 k (t538 != 0) a1_0 l1_1 bt518.1 bt518.2.1 bt518.2.2.1 bt518.2.2.2)))) else (isohyetlaw02_NumDivs.j0 k true a1_0 l1_1 bt518.1 bt518.2.1 bt518.2.2.1 bt518.2.2.2))) else (isohyetlaw02_NumDivs.j0 k true a1_0 l1_1 bt518.1 bt518.2.1 bt518.2.2.1 bt518.2.2.2)))) = some r := by rw [if_pos rfl] at H; exact H
   clear H
   have H := H1
   clear H1
   replace H := Option.bind_eq_some_iff.mp H
   obtain ⟨⟨t518, t519, t522, t523⟩, A70, H⟩ := H
   replace H : ((isohyetlaw02_Right.f t518 t519).bind fun t528 => (if t528 = true then ((isohyetlaw02_Right.f t522 t523).bind fun t529 => (if t529 = true then ((num_Mul.f k t518 t519 a1_0 l1_1).bind fun bt530 => ((num_Add.f k bt530.1 bt530.2 t522 t523).bind fun bt534 => ((num_Cmp.f k bt534.1 bt534.2 a0_0 l0_1).bind fun t538 => (isohyetlaw02_NumDivs.j0 k (t538 != 0) a1_0 l1_1 t518 t519 t522 t523)))) else (isohyetlaw02_NumDivs.j0 k true a1_0 l1_1 t518 t519 t522 t523))) else (isohyetlaw02_NumDivs.j0 k true a1_0 l1_1 t518 t519 t522 t523))) = some r := H
   have A7 := Aside0.mk A70
   clear A70
   have HC8 := Aside0.mk H
   clear H
   go_enter Try.func5, Try.ntmps5
   go_upto_region 6 with (first | ((with_reducible refine gate_dst (N := 2) rfl ?_); refine box_event ?hg (N := 2) ?hd (cs := #[.bool a0_0, .slice A0_1 l0_1.length c0_1]) (t := 25) ?hr ?_; (case hd => rfl); (case hg => rfl); (case hr => first | (go_simp; done) | (go_simp; rfl)); intro gb511 hg w9 hbox hb; have n0_ := Aside0.mk (Kd.V_below (Kd.V_elderB (gV HO0_1.out) gb511 (Nat.le_of_eq hg.symm)) hb); have n1_ := Aside0.mk (Kd.V_below (Kd.V_elderB (gV HO1_1.out) gb511 (Nat.le_of_eq hg.symm)) hb); have n2_ := Aside0.mk (below_step (gB HB.out) hb); have n3_ := Aside0.mk (hbox); have n4_ := Aside0.mk ((by rw [hg]; exact (below_size (gB HB.out)) : w.heap.size ≤ gb511)); have n5_ := Aside0.mk ((by rw [hg]; exact (below_size (gB HB.out)) : w.heap.size ≤ gb511)); clear HO0_1; clear HO1_1; clear HB; have HO0_1 := n0_; have HO1_1 := n1_; have HB := n2_; have BK511 := n3_; have GW511 := n4_; have GE511 := n5_; clear n0_ n1_ n2_ n3_ n4_ n5_; clear hb hbox hg) | ((with_reducible refine gate_dst (N := 3) rfl ?_); refine box_event ?hg (N := 3) ?hd (cs := #[.bool a1_0, .slice A1_1 l1_1.length c1_1]) (t := 25) ?hr ?_; (case hd => rfl); (case hg => rfl); (case hr => first | (go_simp; done) | (go_simp; rfl)); intro gb512 hg w10 hbox hb; have n0_ := Aside0.mk (Kd.V_below (Kd.V_elderB (gV HO0_1.out) gb512 (Nat.le_of_eq hg.symm)) hb); have n1_ := Aside0.mk (Kd.V_below (Kd.V_elderB (gV HO1_1.out) gb512 (Nat.le_of_eq hg.symm)) hb); have n2_ := Aside0.mk (blk_below (gK BK511.out) hb); have n3_ := Aside0.mk (below_step (by repeat (first | (with_reducible first | exact HB.out | apply bA | apply bN | apply bD | refine bS ?_ GE511.out) | exact HB.out)) hb); have n4_ := Aside0.mk (hbox); have n5_ := Aside0.mk ((by rw [hg]; exact (below_size (by repeat (first | (with_reducible first | exact HB.out | apply bA | apply bN | apply bD | refine bS ?_ GE511.out) | exact HB.out))) : w.heap.size ≤ gb512)); have n6_ := Aside0.mk ((by rw [hg]; exact (below_size (by repeat (first | (with_reducible first | exact HB.out | apply bA | apply bN | apply bD | refine bS ?_ GE511.out) | exact HB.out))) : w.heap.size ≤ gb512)); have n7_ := Aside0.mk ((by rw [hg]; exact Nat.ne_of_lt (blk_lt (g := gb511) (o := .cells #[.bool a0_0, .slice A0_1 l0_1.length c0_1] 25 (0, 0)) (gK BK511.out)) : gb511 ≠ gb512)); have n8_ := Aside0.mk ((by rw [hg]; exact Nat.ne_of_gt (blk_lt (g := gb511) (o := .cells #[.bool a0_0, .slice A0_1 l0_1.length c0_1] 25 (0, 0)) (gK BK511.out)) : gb512 ≠ gb511)); clear HO0_1; clear HO1_1; clear BK511; clear HB; have HO0_1 := n0_; have HO1_1 := n1_; have BK511 := n2_; have HB := n3_; have BK512 := n4_; have GW512 := n5_; have GE512 := n6_; have NB511_512 := n7_; have NB512_511 := n8_; clear n0_ n1_ n2_ n3_ n4_ n5_ n6_ n7_ n8_; clear hb hbox hg) | ((with_reducible refine gate_callee (f := 9) rfl ?_); refine goesL_ (some 7) rfl rfl Try.func9 (by kernel_rfl) rfl #[] rfl (by (try simp only [List.map_toArray, List.map_cons, List.map_nil]); first | done | rfl | (simp only [List.length_drop, List.length_take]; rfl)) ?_; (with_reducible refine (isohyetlaw02_fit.calls k  true _ rfl A3.out).mono ?_); (try clear A3); rintro e w11 ⟨rfl, hb⟩; refine ⟨_, rfl, ?_⟩; have n0_ := Aside0.mk (Kd.V_below (gV HO0_1.out) hb); have n1_ := Aside0.mk (Kd.V_below (gV HO1_1.out) hb); have n2_ := Aside0.mk (blk_below (gK BK511.out) hb); have n3_ := Aside0.mk (blk_below (gK BK512.out) hb); have n4_ := Aside0.mk (below_step (by repeat (first | (with_reducible first | exact HB.out | apply bA | apply bN | apply bD | refine bS ?_ GE511.out | refine bS ?_ GE512.out) | exact HB.out)) hb); clear HO0_1; clear HO1_1; clear BK511; clear BK512; clear HB; have HO0_1 := n0_; have HO1_1 := n1_; have BK511 := n2_; have BK512 := n3_; have HB := n4_; clear n0_ n1_ n2_ n3_ n4_; (try clear hb); (try clear hb2); (try clear hk); (try clear hi); have hnb12 := NB511_512.out; have hnc12 := NB512_511.out; have hcz13_0 : w11.cell? ⟨gb511, 0, none⟩ = some (.bool a0_0) := (blk_cell BK511.out 0).trans rfl; have hcz13_1 : w11.cell? ⟨gb511, 1, none⟩ = some (.slice A0_1 l0_1.length c0_1) := (blk_cell BK511.out 1).trans rfl; have hfz13_0 := blk_frozen BK511.out 0; have hfz13_1 := blk_frozen BK511.out 1; have hcz14_0 : w11.cell? ⟨gb512, 0, none⟩ = some (.bool a1_0) := (blk_cell BK512.out 0).trans rfl; have hcz14_1 : w11.cell? ⟨gb512, 1, none⟩ = some (.slice A1_1 l1_1.length c1_1) := (blk_cell BK512.out 1).trans rfl; have hfz14_0 := blk_frozen BK512.out 0; have hfz14_1 := blk_frozen BK512.out 1) | ((with_reducible refine gate_dst (N := 11) rfl ?_); refine Kd.N_lit k25 _ 25 ?hg (N' := 11) ?hd (xs := ([(⟨a0_0, l0_1⟩ : S25), (⟨a1_0, l1_1⟩ : S25)] : List (S25))) (inner := [.bool a0_0, .slice A0_1 l0_1.length c0_1, .bool a1_0, .slice A1_1 l1_1.length c1_1]) (ok := (fun k_ => ((P0_1_ k_ ∨ P1_1_ k_) ∨ w.heap.size ≤ k_) ∧ k_ ≠ gb511 ∧ k_ ≠ gb512)) (okp := (fun k_ => ((P0_1_ k_ ∨ P1_1_ k_) ∨ w.heap.size ≤ k_) ∧ k_ ≠ gb511 ∧ k_ ≠ gb512)) ?hr ?hp (fun _ hk => hk) ((show ∀ k_, w11.heap.size ≤ k_ → (fun k_ => ((P0_1_ k_ ∨ P1_1_ k_) ∨ w.heap.size ≤ k_) ∧ k_ ≠ gb511 ∧ k_ ≠ gb512) k_ from fun k_ hk => ⟨(.inr (Nat.le_trans (below_size (by repeat (first | (with_reducible first | exact HB.out | apply bA | apply bN | apply bD | refine bS ?_ GE511.out | refine bS ?_ GE512.out) | exact HB.out))) hk)), Kd.freshB (g := gb511) (o := .cells #[.bool a0_0, .slice A0_1 l0_1.length c0_1] 25 (0, 0)) (gK BK511.out) k_ hk, Kd.freshB (g := gb512) (o := .cells #[.bool a1_0, .slice A1_1 l1_1.length c1_1] 25 (0, 0)) (gK BK512.out) k_ hk⟩) _ (Nat.le_refl _)) (Below.refl _ _) (Nat.le_refl _) (by simp) ?_; (case hd => rfl); (case hg => rfl); (case hr => first | (go_simp; done) | (go_simp; rfl)); (case hp => exact (Reps.c2 (show Kd.FK k25 _ _ (⟨a0_0, l0_1⟩ : S25) [.bool a0_0, .slice A0_1 l0_1.length c0_1] from (k25_mkF _ _ (⟨a0_0, l0_1⟩ : S25) (Kd.V_reads' (Kd.V_mono (ok' := (fun k_ => ((P0_1_ k_ ∨ P1_1_ k_) ∨ w.heap.size ≤ k_) ∧ k_ ≠ gb511 ∧ k_ ≠ gb512)) (HO0_1.out) (fun k_ hk => ⟨hk.1.1, ⟨hk.1.2, hk.2⟩⟩))).2.1 (Kd.V_F (Kd.V_mono (ok' := (fun k_ => ((P0_1_ k_ ∨ P1_1_ k_) ∨ w.heap.size ≤ k_) ∧ k_ ≠ gb511 ∧ k_ ≠ gb512)) (HO0_1.out) (fun k_ hk => ⟨hk.1.1, ⟨hk.1.2, hk.2⟩⟩))))) (Reps.c2 (show Kd.FK k25 _ _ (⟨a1_0, l1_1⟩ : S25) [.bool a1_0, .slice A1_1 l1_1.length c1_1] from (k25_mkF _ _ (⟨a1_0, l1_1⟩ : S25) (Kd.V_reads' (Kd.V_mono (ok' := (fun k_ => ((P0_1_ k_ ∨ P1_1_ k_) ∨ w.heap.size ≤ k_) ∧ k_ ≠ gb511 ∧ k_ ≠ gb512)) (HO1_1.out) (fun k_ hk => ⟨hk.1.1, ⟨hk.1.2, hk.2⟩⟩))).2.1 (Kd.V_F (Kd.V_mono (ok' := (fun k_ => ((P0_1_ k_ ∨ P1_1_ k_) ∨ w.heap.size ≤ k_) ∧ k_ ≠ gb511 ∧ k_ ≠ gb512)) (HO1_1.out) (fun k_ hk => ⟨hk.1.1, ⟨hk.1.2, hk.2⟩⟩))))) (Reps.none _ _)))); intro v515 w15 ho16 hb hg_ hnew_; clear hg_ hnew_; (first | rw [← Ny514.out] at ho16 | (simp only [Int.reduceToNat] at ho16; rw [← Ny514.out] at ho16)); have n0_ := Aside0.mk (Kd.V_elder' (gV HO0_1.out) (Kd.N_base ho16) hb); have n1_ := Aside0.mk (Kd.V_elder' (gV HO1_1.out) (Kd.N_base ho16) hb); have n2_ := Aside0.mk (Kd.N_lower ho16 (below_size (by repeat (first | (with_reducible first | exact HB.out | apply bA | apply bN | apply bD | refine bS ?_ GE511.out | refine bS ?_ GE512.out) | exact HB.out)))); have n3_ := Aside0.mk (blk_below (gK BK511.out) hb); have n4_ := Aside0.mk (blk_below (gK BK512.out) hb); have n5_ := Aside0.mk (below_step (by repeat (first | (with_reducible first | exact HB.out | apply bA | apply bN | apply bD | refine bS ?_ GE511.out | refine bS ?_ GE512.out) | exact HB.out)) hb); clear HO0_1; clear HO1_1; clear BK511; clear BK512; clear HB; have HO0_1 := n0_; have HO1_1 := n1_; have HO516 := n2_; have BK511 := n3_; have BK512 := n4_; have HB := n5_; clear n0_ n1_ n2_ n3_ n4_ n5_; clear hb ho16; obtain ⟨Ao17, co17, eo17⟩ := Kd.N_slice HO516.out; subst eo17) | ((with_reducible refine gate_callee (f := 10) rfl ?_); refine goesL_ (some 12) rfl rfl Try.func10 (by kernel_rfl) rfl #[.int .i64 20, .slice Ao17 y514.length co17] rfl (by (try simp only [List.map_toArray, List.map_cons, List.map_nil]); first | done | rfl | (simp only [List.length_drop, List.length_take]; rfl)) ?_; (with_reducible refine (isohyetlaw02_short.calls k 20 _ _ y514 true _ ?side1 ?side2 A5.out).mono ?_); (case side1 => repeat (first | exact (Kd.N_reads' HO516.out).2.2 | (with_reducible refine Kd.C_alloc ?_ _) | (with_reducible refine Kd.C_drewN ?_ _) | (with_reducible refine Kd.C_drew ?_))); (case side2 => exact (Kd.N_reads' HO516.out).2.1); (try clear A5); rintro e w18 ⟨rfl, hb⟩; refine ⟨_, rfl, ?_⟩; have n0_ := Aside0.mk (Kd.V_below (gV HO0_1.out) hb); have n1_ := Aside0.mk (Kd.V_below (gV HO1_1.out) hb); have n2_ := Aside0.mk (Kd.N_below (gN HO516.out) hb); have n3_ := Aside0.mk (blk_below (gK BK511.out) hb); have n4_ := Aside0.mk (blk_below (gK BK512.out) hb); have n5_ := Aside0.mk (below_step (by repeat (first | (with_reducible first | exact HB.out | apply bA | apply bN | apply bD | refine bS ?_ GE511.out | refine bS ?_ GE512.out) | exact HB.out)) hb); clear HO0_1; clear HO1_1; clear HO516; clear BK511; clear BK512; clear HB; have HO0_1 := n0_; have HO1_1 := n1_; have HO516 := n2_; have BK511 := n3_; have BK512 := n4_; have HB := n5_; clear n0_ n1_ n2_ n3_ n4_ n5_; (try clear hb); (try clear hb2); (try clear hk); (try clear hi); have hcz19_0 : w18.cell? ⟨gb511, 0, none⟩ = some (.bool a0_0) := (blk_cell BK511.out 0).trans rfl; have hcz19_1 : w18.cell? ⟨gb511, 1, none⟩ = some (.slice A0_1 l0_1.length c0_1) := (blk_cell BK511.out 1).trans rfl; have hfz19_0 := blk_frozen BK511.out 0; have hfz19_1 := blk_frozen BK511.out 1; have hcz20_0 : w18.cell? ⟨gb512, 0, none⟩ = some (.bool a1_0) := (blk_cell BK512.out 0).trans rfl; have hcz20_1 : w18.cell? ⟨gb512, 1, none⟩ = some (.slice A1_1 l1_1.length c1_1) := (blk_cell BK512.out 1).trans rfl; have hfz20_0 := blk_frozen BK512.out 0; have hfz20_1 := blk_frozen BK512.out 1) | ((with_reducible refine gate_callee (f := 19) rfl ?_); refine goesL_ (some 17) rfl rfl Try.func19 (by kernel_rfl) rfl #[.agg #[.bool a0_0, .slice A0_1 l0_1.length c0_1], .agg #[.bool a1_0, .slice A1_1 l1_1.length c1_1]] rfl (by (try simp only [List.map_toArray, List.map_cons, List.map_nil]); first | done | rfl | (simp only [List.length_drop, List.length_take]; rfl)) ?_; (with_reducible refine (num_Div.calls k a0_0 (fun k_ => (((((P0_1_ k_ ∨ P1_1_ k_) ∨ w.heap.size ≤ k_) ∧ k_ ≠ gb511) ∧ k_ ≠ gb512) ∧ some k_ ≠ (.slice Ao17 y514.length co17 : Value).ownBlock)) _ _ l0_1 a1_0 (fun k_ => (((((P0_1_ k_ ∨ P1_1_ k_) ∨ w.heap.size ≤ k_) ∧ k_ ≠ gb511) ∧ k_ ≠ gb512) ∧ some k_ ≠ (.slice Ao17 y514.length co17 : Value).ownBlock)) _ _ l1_1 t518 t519 t522 t523 _ ?side1 ?side2 A7.out).mono ?_); (case side1 => exact HO0_1.out); (case side2 => exact HO1_1.out); (try clear A7); rintro e w21 ⟨v520, v524, rfl, ho0, ho1, hb⟩; refine ⟨_, rfl, ?_⟩; have n0_ := Aside0.mk (Kd.V_below (gV HO0_1.out) hb); have n1_ := Aside0.mk (Kd.V_below (gV HO1_1.out) hb); have n2_ := Aside0.mk (Kd.N_below (gN HO516.out) hb); have n3_ := Aside0.mk (Kd.V_lower (Kd.V_mono (ok' := fun k_ => ((P0_1_ k_ ∨ P1_1_ k_) ∨ w.heap.size ≤ k_) ∧ some k_ ≠ (.slice Ao17 y514.length co17 : Value).ownBlock ∧ k_ ≠ gb511 ∧ k_ ≠ gb512) ho0 (fun k_ hk_ => ⟨Or.elim hk_ (fun hs_ => Or.elim hs_ (fun hs_ => hs_.1.1.1) (fun hs_ => hs_.1.1.1)) (fun hn_ => (.inr (Nat.le_trans (below_size (by repeat (first | (with_reducible first | exact HB.out | apply bA | apply bN | apply bD | refine bS ?_ GE511.out | refine bS ?_ GE512.out) | exact HB.out))) hn_))), Or.elim hk_ (fun hs_ => Or.elim hs_ (fun hs_ => hs_.2) (fun hs_ => hs_.2)) (fun hn_ => (Kd.fresh' (Kd.N_lt (gN HO516.out)) k_ hn_)), Or.elim hk_ (fun hs_ => Or.elim hs_ (fun hs_ => hs_.1.1.2) (fun hs_ => hs_.1.1.2)) (fun hn_ => (Kd.freshB (g := gb511) (o := .cells #[.bool a0_0, .slice A0_1 l0_1.length c0_1] 25 (0, 0)) (gK BK511.out) k_ hn_)), Or.elim hk_ (fun hs_ => Or.elim hs_ (fun hs_ => hs_.1.2) (fun hs_ => hs_.1.2)) (fun hn_ => (Kd.freshB (g := gb512) (o := .cells #[.bool a1_0, .slice A1_1 l1_1.length c1_1] 25 (0, 0)) (gK BK512.out) k_ hn_))⟩)) (below_size (by repeat (first | (with_reducible first | exact HB.out | apply bA | apply bN | apply bD | refine bS ?_ GE511.out | refine bS ?_ GE512.out) | exact HB.out)))); have n4_ := Aside0.mk (Kd.V_lower (Kd.V_mono (ok' := fun k_ => ((P0_1_ k_ ∨ P1_1_ k_) ∨ w.heap.size ≤ k_) ∧ some k_ ≠ (.slice Ao17 y514.length co17 : Value).ownBlock ∧ k_ ≠ gb511 ∧ k_ ≠ gb512) ho1 (fun k_ hk_ => ⟨Or.elim hk_ (fun hs_ => Or.elim hs_ (fun hs_ => hs_.1.1.1) (fun hs_ => hs_.1.1.1)) (fun hn_ => (.inr (Nat.le_trans (below_size (by repeat (first | (with_reducible first | exact HB.out | apply bA | apply bN | apply bD | refine bS ?_ GE511.out | refine bS ?_ GE512.out) | exact HB.out))) hn_))), Or.elim hk_ (fun hs_ => Or.elim hs_ (fun hs_ => hs_.2) (fun hs_ => hs_.2)) (fun hn_ => (Kd.fresh' (Kd.N_lt (gN HO516.out)) k_ hn_)), Or.elim hk_ (fun hs_ => Or.elim hs_ (fun hs_ => hs_.1.1.2) (fun hs_ => hs_.1.1.2)) (fun hn_ => (Kd.freshB (g := gb511) (o := .cells #[.bool a0_0, .slice A0_1 l0_1.length c0_1] 25 (0, 0)) (gK BK511.out) k_ hn_)), Or.elim hk_ (fun hs_ => Or.elim hs_ (fun hs_ => hs_.1.2) (fun hs_ => hs_.1.2)) (fun hn_ => (Kd.freshB (g := gb512) (o := .cells #[.bool a1_0, .slice A1_1 l1_1.length c1_1] 25 (0, 0)) (gK BK512.out) k_ hn_))⟩)) (below_size (by repeat (first | (with_reducible first | exact HB.out | apply bA | apply bN | apply bD | refine bS ?_ GE511.out | refine bS ?_ GE512.out) | exact HB.out)))); have n5_ := Aside0.mk (blk_below (gK BK511.out) hb); have n6_ := Aside0.mk (blk_below (gK BK512.out) hb); have n7_ := Aside0.mk (below_step (by repeat (first | (with_reducible first | exact HB.out | apply bA | apply bN | apply bD | refine bS ?_ GE511.out | refine bS ?_ GE512.out) | exact HB.out)) hb); clear HO0_1; clear HO1_1; clear HO516; clear BK511; clear BK512; clear HB; have HO0_1 := n0_; have HO1_1 := n1_; have HO516 := n2_; have HO521 := n3_; have HO525 := n4_; have BK511 := n5_; have BK512 := n6_; have HB := n7_; clear n0_ n1_ n2_ n3_ n4_ n5_ n6_ n7_; (try clear hb); (try clear hb2); (try clear hk); (try clear hi); (try clear ho0); (try clear ho1)) | ((with_reducible refine gate_dst (N := 5) rfl ?_); refine box_event ?hg (N := 5) ?hd (cs := #[.bool false, .slice none 0 0]) (t := 25) ?hr ?_; (case hd => rfl); (case hg => rfl); (case hr => first | (go_simp; done) | (go_simp; rfl)); intro gb526 hg w22 hbox hb; have n0_ := Aside0.mk (Kd.V_below (Kd.V_elderB (gV HO0_1.out) gb526 (Nat.le_of_eq hg.symm)) hb); have n1_ := Aside0.mk (Kd.V_below (Kd.V_elderB (gV HO1_1.out) gb526 (Nat.le_of_eq hg.symm)) hb); have n2_ := Aside0.mk (Kd.N_below (Kd.N_elderB (gN HO516.out) gb526 (Nat.le_of_eq hg.symm)) hb); have n3_ := Aside0.mk (Kd.V_below (Kd.V_elderB (gV HO521.out) gb526 (Nat.le_of_eq hg.symm)) hb); have n4_ := Aside0.mk (Kd.V_below (Kd.V_elderB (gV HO525.out) gb526 (Nat.le_of_eq hg.symm)) hb); have n5_ := Aside0.mk (blk_below (gK BK511.out) hb); have n6_ := Aside0.mk (blk_below (gK BK512.out) hb); have n7_ := Aside0.mk (below_step (by repeat (first | (with_reducible first | exact HB.out | apply bA | apply bN | apply bD | refine bS ?_ GE511.out | refine bS ?_ GE512.out) | exact HB.out)) hb); have n8_ := Aside0.mk (hbox); have n9_ := Aside0.mk ((by rw [hg]; exact (below_size (by repeat (first | (with_reducible first | exact HB.out | apply bA | apply bN | apply bD | refine bS ?_ GE511.out | refine bS ?_ GE512.out) | exact HB.out))) : w.heap.size ≤ gb526)); have n10_ := Aside0.mk ((by rw [hg]; exact (below_size (by repeat (first | (with_reducible first | exact HB.out | apply bA | apply bN | apply bD | refine bS ?_ GE511.out | refine bS ?_ GE512.out) | exact HB.out))) : w.heap.size ≤ gb526)); have n11_ := Aside0.mk ((by rw [hg]; exact Nat.ne_of_lt (blk_lt (g := gb511) (o := .cells #[.bool a0_0, .slice A0_1 l0_1.length c0_1] 25 (0, 0)) (gK BK511.out)) : gb511 ≠ gb526)); have n12_ := Aside0.mk ((by rw [hg]; exact Nat.ne_of_gt (blk_lt (g := gb511) (o := .cells #[.bool a0_0, .slice A0_1 l0_1.length c0_1] 25 (0, 0)) (gK BK511.out)) : gb526 ≠ gb511)); have n13_ := Aside0.mk ((by rw [hg]; exact Nat.ne_of_lt (blk_lt (g := gb512) (o := .cells #[.bool a1_0, .slice A1_1 l1_1.length c1_1] 25 (0, 0)) (gK BK512.out)) : gb512 ≠ gb526)); have n14_ := Aside0.mk ((by rw [hg]; exact Nat.ne_of_gt (blk_lt (g := gb512) (o := .cells #[.bool a1_0, .slice A1_1 l1_1.length c1_1] 25 (0, 0)) (gK BK512.out)) : gb526 ≠ gb512)); clear HO0_1; clear HO1_1; clear HO516; clear HO521; clear HO525; clear BK511; clear BK512; clear HB; have HO0_1 := n0_; have HO1_1 := n1_; have HO516 := n2_; have HO521 := n3_; have HO525 := n4_; have BK511 := n5_; have BK512 := n6_; have HB := n7_; have BK526 := n8_; have GW526 := n9_; have GE526 := n10_; have NB511_526 := n11_; have NB526_511 := n12_; have NB512_526 := n13_; have NB526_512 := n14_; clear n0_ n1_ n2_ n3_ n4_ n5_ n6_ n7_ n8_ n9_ n10_ n11_ n12_ n13_ n14_; clear hb hbox hg) | ((with_reducible refine gate_dst (N := 6) rfl ?_); refine box_event ?hg (N := 6) ?hd (cs := #[.bool false, .slice none 0 0]) (t := 25) ?hr ?_; (case hd => rfl); (case hg => rfl); (case hr => first | (go_simp; done) | (go_simp; rfl)); intro gb527 hg w23 hbox hb; have n0_ := Aside0.mk (Kd.V_below (Kd.V_elderB (gV HO0_1.out) gb527 (Nat.le_of_eq hg.symm)) hb); have n1_ := Aside0.mk (Kd.V_below (Kd.V_elderB (gV HO1_1.out) gb527 (Nat.le_of_eq hg.symm)) hb); have n2_ := Aside0.mk (Kd.N_below (Kd.N_elderB (gN HO516.out) gb527 (Nat.le_of_eq hg.symm)) hb); have n3_ := Aside0.mk (Kd.V_below (Kd.V_elderB (gV HO521.out) gb527 (Nat.le_of_eq hg.symm)) hb); have n4_ := Aside0.mk (Kd.V_below (Kd.V_elderB (gV HO525.out) gb527 (Nat.le_of_eq hg.symm)) hb); have n5_ := Aside0.mk (blk_below (gK BK511.out) hb); have n6_ := Aside0.mk (blk_below (gK BK512.out) hb); have n7_ := Aside0.mk (blk_below (gK BK526.out) hb); have n8_ := Aside0.mk (below_step (by repeat (first | (with_reducible first | exact HB.out | apply bA | apply bN | apply bD | refine bS ?_ GE511.out | refine bS ?_ GE512.out | refine bS ?_ GE526.out) | exact HB.out)) hb); have n9_ := Aside0.mk (hbox); have n10_ := Aside0.mk ((by rw [hg]; exact (below_size (by repeat (first | (with_reducible first | exact HB.out | apply bA | apply bN | apply bD | refine bS ?_ GE511.out | refine bS ?_ GE512.out | refine bS ?_ GE526.out) | exact HB.out))) : w.heap.size ≤ gb527)); have n11_ := Aside0.mk ((by rw [hg]; exact (below_size (by repeat (first | (with_reducible first | exact HB.out | apply bA | apply bN | apply bD | refine bS ?_ GE511.out | refine bS ?_ GE512.out | refine bS ?_ GE526.out) | exact HB.out))) : w.heap.size ≤ gb527)); have n12_ := Aside0.mk ((by rw [hg]; exact Nat.ne_of_lt (blk_lt (g := gb511) (o := .cells #[.bool a0_0, .slice A0_1 l0_1.length c0_1] 25 (0, 0)) (gK BK511.out)) : gb511 ≠ gb527)); have n13_ := Aside0.mk ((by rw [hg]; exact Nat.ne_of_gt (blk_lt (g := gb511) (o := .cells #[.bool a0_0, .slice A0_1 l0_1.length c0_1] 25 (0, 0)) (gK BK511.out)) : gb527 ≠ gb511)); have n14_ := Aside0.mk ((by rw [hg]; exact Nat.ne_of_lt (blk_lt (g := gb512) (o := .cells #[.bool a1_0, .slice A1_1 l1_1.length c1_1] 25 (0, 0)) (gK BK512.out)) : gb512 ≠ gb527)); have n15_ := Aside0.mk ((by rw [hg]; exact Nat.ne_of_gt (blk_lt (g := gb512) (o := .cells #[.bool a1_0, .slice A1_1 l1_1.length c1_1] 25 (0, 0)) (gK BK512.out)) : gb527 ≠ gb512)); have n16_ := Aside0.mk ((by rw [hg]; exact Nat.ne_of_lt (blk_lt (g := gb526) (o := .cells #[.bool false, .slice none 0 0] 25 (0, 0)) (gK BK526.out)) : gb526 ≠ gb527)); have n17_ := Aside0.mk ((by rw [hg]; exact Nat.ne_of_gt (blk_lt (g := gb526) (o := .cells #[.bool false, .slice none 0 0] 25 (0, 0)) (gK BK526.out)) : gb527 ≠ gb526)); clear HO0_1; clear HO1_1; clear HO516; clear HO521; clear HO525; clear BK511; clear BK512; clear BK526; clear HB; have HO0_1 := n0_; have HO1_1 := n1_; have HO516 := n2_; have HO521 := n3_; have HO525 := n4_; have BK511 := n5_; have BK512 := n6_; have BK526 := n7_; have HB := n8_; have BK527 := n9_; have GW527 := n10_; have GE527 := n11_; have NB511_527 := n12_; have NB527_511 := n13_; have NB512_527 := n14_; have NB527_512 := n15_; have NB526_527 := n16_; have NB527_526 := n17_; clear n0_ n1_ n2_ n3_ n4_ n5_ n6_ n7_ n8_ n9_ n10_ n11_ n12_ n13_ n14_ n15_ n16_ n17_; clear hb hbox hg; have hnb24 := NB526_511.out; have hnc24 := NB511_526.out; have hnb25 := NB526_512.out; have hnc25 := NB512_526.out; have hnb26 := NB526_527.out; have hnc26 := NB527_526.out; have hcz27_0 : w23.cell? ⟨gb526, 0, none⟩ = some (.bool false) := (blk_cell BK526.out 0).trans rfl; have hcz27_1 : w23.cell? ⟨gb526, 1, none⟩ = some (.slice none 0 0) := (blk_cell BK526.out 1).trans rfl; have hfz27_0 := blk_frozen BK526.out 0; have hfz27_1 := blk_frozen BK526.out 1; obtain ⟨Ao28, co28, eo28⟩ := Kd.V_slice HO521.out; subst eo28; have hnb29 := NB527_511.out; have hnc29 := NB511_527.out; have hnb30 := NB527_512.out; have hnc30 := NB512_527.out; have hcz31_0 : w23.cell? ⟨gb527, 0, none⟩ = some (.bool false) := (blk_cell BK527.out 0).trans rfl; have hcz31_1 : w23.cell? ⟨gb527, 1, none⟩ = some (.slice none 0 0) := (blk_cell BK527.out 1).trans rfl; have hfz31_0 := blk_frozen BK527.out 0; have hfz31_1 := blk_frozen BK527.out 1; obtain ⟨Ao32, co32, eo32⟩ := Kd.V_slice HO525.out; subst eo32))
   (try simp only [Act.put, List.setIfInBounds_toArray, List.set_cons_zero, List.set_cons_succ])
   go_cut [37] (fun v37 wc => ∃ (kq : Nat) (x37_7 : Bool), v37 = .bool x37_7 ∧ Aside0 (isohyetlaw02_NumDivs.j0 kq x37_7 a1_0 l1_1 t518 t519 t522 t523 = some r) ∧ Aside0 (kq ≤ k) ∧ Aside0 (Kd.V (Kd.int .u64) 54 wc w.heap.size (fun k_ => ((P0_1_ k_ ∨ P1_1_ k_) ∨ w.heap.size ≤ k_) ∧ k_ ≠ gb511 ∧ k_ ≠ gb512 ∧ k_ ≠ gb526 ∧ k_ ≠ gb527) (.slice A0_1 l0_1.length c0_1) l0_1) ∧ Aside0 (Kd.V (Kd.int .u64) 54 wc w.heap.size (fun k_ => ((P0_1_ k_ ∨ P1_1_ k_) ∨ w.heap.size ≤ k_) ∧ k_ ≠ gb511 ∧ k_ ≠ gb512 ∧ k_ ≠ gb526 ∧ k_ ≠ gb527) (.slice A1_1 l1_1.length c1_1) l1_1) ∧ Aside0 (Kd.V (Kd.int .u64) 54 wc w.heap.size (fun k_ => ((P0_1_ k_ ∨ P1_1_ k_) ∨ w.heap.size ≤ k_) ∧ k_ ≠ gb511 ∧ k_ ≠ gb512 ∧ k_ ≠ gb526 ∧ k_ ≠ gb527) (.slice Ao28 t519.length co28) t519) ∧ Aside0 (Kd.V (Kd.int .u64) 54 wc w.heap.size (fun k_ => ((P0_1_ k_ ∨ P1_1_ k_) ∨ w.heap.size ≤ k_) ∧ k_ ≠ gb511 ∧ k_ ≠ gb512 ∧ k_ ≠ gb526 ∧ k_ ≠ gb527) (.slice Ao32 t523.length co32) t523) ∧ Aside0 (wc.heap[gb511]? = some (.cells #[.bool a0_0, (.slice A0_1 l0_1.length c0_1)] 25 (0, 0))) ∧ Aside0 (wc.heap[gb512]? = some (.cells #[.bool a1_0, (.slice A1_1 l1_1.length c1_1)] 25 (0, 0))) ∧ Aside0 (wc.heap[gb526]? = some (.cells #[.bool t518, (.slice Ao28 t519.length co28)] 25 (0, 0))) ∧ Aside0 (wc.heap[gb527]? = some (.cells #[.bool t522, (.slice Ao32 t523.length co32)] 25 (0, 0))) ∧ Aside0 (Below w.heap.size w wc))
   case first =>
    have H := HC8.out
    clear HC8
    replace H := Option.bind_eq_some_iff.mp H
    obtain ⟨t528, A330, H⟩ := H
    replace H : (if t528 = true then ((isohyetlaw02_Right.f t522 t523).bind fun t529 => (if t529 = true then ((num_Mul.f k t518 t519 a1_0 l1_1).bind fun bt530 => ((num_Add.f k bt530.1 bt530.2 t522 t523).bind fun bt534 => ((num_Cmp.f k bt534.1 bt534.2 a0_0 l0_1).bind fun t538 => (isohyetlaw02_NumDivs.j0 k (t538 != 0) a1_0 l1_1 t518 t519 t522 t523)))) else (isohyetlaw02_NumDivs.j0 k true a1_0 l1_1 t518 t519 t522 t523))) else (isohyetlaw02_NumDivs.j0 k true a1_0 l1_1 t518 t519 t522 t523)) = some r := H
    have A33 := Aside0.mk A330
    clear A330
    by_cases c34 : t528 = true
    ·subst c34
     have H1 : ((isohyetlaw02_Right.f t522 t523).bind fun t529 => (if t529 = true then ((num_Mul.f k t518 t519 a1_0 l1_1).bind fun bt530 => ((num_Add.f k bt530.1 bt530.2 t522 t523).bind fun bt534 => ((num_Cmp.f k bt534.1 bt534.2 a0_0 l0_1).bind fun t538 => (isohyetlaw02_NumDivs.j0 k (t538 != 0) a1_0 l1_1 t518 t519 t522 t523)))) else (isohyetlaw02_NumDivs.j0 k true a1_0 l1_1 t518 t519 t522 t523))) = some r := by rw [if_pos rfl] at H; exact H
     clear H
     have H := H1
     clear H1
     replace H := Option.bind_eq_some_iff.mp H
     obtain ⟨t529, A350, H⟩ := H
     replace H : (if t529 = true then ((num_Mul.f k t518 t519 a1_0 l1_1).bind fun bt530 => ((num_Add.f k bt530.1 bt530.2 t522 t523).bind fun bt534 => ((num_Cmp.f k bt534.1 bt534.2 a0_0 l0_1).bind fun t538 => (isohyetlaw02_NumDivs.j0 k (t538 != 0) a1_0 l1_1 t518 t519 t522 t523)))) else (isohyetlaw02_NumDivs.j0 k true a1_0 l1_1 t518 t519 t522 t523)) = some r := H
     have A35 := Aside0.mk A350
     clear A350
     by_cases c36 : t529 = true
     ·subst c36
      have H1 : ((num_Mul.f k t518 t519 a1_0 l1_1).bind fun bt530 => ((num_Add.f k bt530.1 bt530.2 t522 t523).bind fun bt534 => ((num_Cmp.f k bt534.1 bt534.2 a0_0 l0_1).bind fun t538 => (isohyetlaw02_NumDivs.j0 k (t538 != 0) a1_0 l1_1 t518 t519 t522 t523)))) = some r := by rw [if_pos rfl] at H; exact H
      clear H
      have H := H1
      clear H1
      replace H := Option.bind_eq_some_iff.mp H
      obtain ⟨⟨t530, t531⟩, A370, H⟩ := H
      replace H : ((num_Add.f k t530 t531 t522 t523).bind fun bt534 => ((num_Cmp.f k bt534.1 bt534.2 a0_0 l0_1).bind fun t538 => (isohyetlaw02_NumDivs.j0 k (t538 != 0) a1_0 l1_1 t518 t519 t522 t523))) = some r := H
      have A37 := Aside0.mk A370
      clear A370
      replace H := Option.bind_eq_some_iff.mp H
      obtain ⟨⟨t534, t535⟩, A380, H⟩ := H
      replace H : ((num_Cmp.f k t534 t535 a0_0 l0_1).bind fun t538 => (isohyetlaw02_NumDivs.j0 k (t538 != 0) a1_0 l1_1 t518 t519 t522 t523)) = some r := H
      have A38 := Aside0.mk A380
      clear A380
      replace H := Option.bind_eq_some_iff.mp H
      obtain ⟨t538, A390, H⟩ := H
      replace H : (isohyetlaw02_NumDivs.j0 k (t538 != 0) a1_0 l1_1 t518 t519 t522 t523) = some r := H
      have A39 := Aside0.mk A390
      clear A390
      have H' := Aside0.mk H
      clear H
      try go_wp2
      have n0_ : Aside0 (Kd.V (Kd.int .u64) 54 ((((w23.setCell ⟨gb526, 0, none⟩ (.bool t518)).setCell ⟨gb526, 1, none⟩ (.slice Ao28 t519.length co28)).setCell ⟨gb527, 0, none⟩ (.bool t522)).setCell ⟨gb527, 1, none⟩ (.slice Ao32 t523.length co32)) w.heap.size (fun k_ => ((P0_1_ k_ ∨ P1_1_ k_) ∨ w.heap.size ≤ k_) ∧ some k_ ≠ (.slice Ao17 y514.length co17 : Value).ownBlock ∧ k_ ≠ gb511 ∧ k_ ≠ gb512 ∧ k_ ≠ gb526 ∧ k_ ≠ gb527) (.slice A0_1 l0_1.length c0_1) l0_1) := ⟨by (with_reducible repeat (first | apply Kd.V_alloc | apply Kd.V_drewN | apply Kd.V_drew)); exact Kd.V_mono (Kd.V_far (p := ⟨gb527, 1, none⟩) (Kd.V_far (p := ⟨gb527, 0, none⟩) (Kd.V_far (p := ⟨gb526, 1, none⟩) (Kd.V_far (p := ⟨gb526, 0, none⟩) (Kd.V_mono (Kd.V_mono HO0_1.out (fun k_ hk => (⟨hk, hk.1.2⟩ : _ ∧ k_ ≠ gb526))) (fun k_ hk => (⟨hk, hk.1.2⟩ : _ ∧ k_ ≠ gb527))) (fun _ hk => hk.1.2) (.bool t518)) (fun _ hk => hk.1.2) (.slice Ao28 t519.length co28)) (fun _ hk => hk.2) (.bool t522)) (fun _ hk => hk.2) (.slice Ao32 t523.length co32)) (fun _ hk => ⟨hk.1.1.1.1.1.1.1, ⟨hk.1.1.1.1.2, ⟨hk.1.1.1.1.1.1.2, ⟨hk.1.1.1.1.1.2, ⟨hk.1.1.1.2, hk.1.1.2⟩⟩⟩⟩⟩)⟩
      have n1_ : Aside0 (Kd.V (Kd.int .u64) 54 ((((w23.setCell ⟨gb526, 0, none⟩ (.bool t518)).setCell ⟨gb526, 1, none⟩ (.slice Ao28 t519.length co28)).setCell ⟨gb527, 0, none⟩ (.bool t522)).setCell ⟨gb527, 1, none⟩ (.slice Ao32 t523.length co32)) w.heap.size (fun k_ => ((P0_1_ k_ ∨ P1_1_ k_) ∨ w.heap.size ≤ k_) ∧ some k_ ≠ (.slice Ao17 y514.length co17 : Value).ownBlock ∧ k_ ≠ gb511 ∧ k_ ≠ gb512 ∧ k_ ≠ gb526 ∧ k_ ≠ gb527) (.slice A1_1 l1_1.length c1_1) l1_1) := ⟨by (with_reducible repeat (first | apply Kd.V_alloc | apply Kd.V_drewN | apply Kd.V_drew)); exact Kd.V_mono (Kd.V_far (p := ⟨gb527, 1, none⟩) (Kd.V_far (p := ⟨gb527, 0, none⟩) (Kd.V_far (p := ⟨gb526, 1, none⟩) (Kd.V_far (p := ⟨gb526, 0, none⟩) (Kd.V_mono (Kd.V_mono HO1_1.out (fun k_ hk => (⟨hk, hk.1.2⟩ : _ ∧ k_ ≠ gb526))) (fun k_ hk => (⟨hk, hk.1.2⟩ : _ ∧ k_ ≠ gb527))) (fun _ hk => hk.1.2) (.bool t518)) (fun _ hk => hk.1.2) (.slice Ao28 t519.length co28)) (fun _ hk => hk.2) (.bool t522)) (fun _ hk => hk.2) (.slice Ao32 t523.length co32)) (fun _ hk => ⟨hk.1.1.1.1.1.1.1, ⟨hk.1.1.1.1.2, ⟨hk.1.1.1.1.1.1.2, ⟨hk.1.1.1.1.1.2, ⟨hk.1.1.1.2, hk.1.1.2⟩⟩⟩⟩⟩)⟩
      have n2_ : Aside0 (Kd.N k25 25 ((((w23.setCell ⟨gb526, 0, none⟩ (.bool t518)).setCell ⟨gb526, 1, none⟩ (.slice Ao28 t519.length co28)).setCell ⟨gb527, 0, none⟩ (.bool t522)).setCell ⟨gb527, 1, none⟩ (.slice Ao32 t523.length co32)) w.heap.size (fun k_ => ((P0_1_ k_ ∨ P1_1_ k_) ∨ w.heap.size ≤ k_) ∧ k_ ≠ gb511 ∧ k_ ≠ gb512 ∧ k_ ≠ gb526 ∧ k_ ≠ gb527) (.slice Ao17 y514.length co17) y514) := ⟨by (with_reducible repeat (first | apply Kd.N_alloc | apply Kd.N_drewN | apply Kd.N_drew)); exact Kd.N_mono (Kd.N_far (p := ⟨gb527, 1, none⟩) (Kd.N_far (p := ⟨gb527, 0, none⟩) (Kd.N_far (p := ⟨gb526, 1, none⟩) (Kd.N_far (p := ⟨gb526, 0, none⟩) (Kd.N_mono (Kd.N_mono HO516.out (fun k_ hk => (⟨hk, hk.1.2⟩ : _ ∧ k_ ≠ gb526))) (fun k_ hk => (⟨hk, hk.1.2⟩ : _ ∧ k_ ≠ gb527))) (fun _ hk => hk.1.2) (.bool t518)) (fun _ hk => hk.1.2) (.slice Ao28 t519.length co28)) (fun _ hk => hk.2) (.bool t522)) (fun _ hk => hk.2) (.slice Ao32 t523.length co32)) (fun _ hk => ⟨hk.1.1.1.1.1, ⟨hk.1.1.1.1.2.1, ⟨hk.1.1.1.1.2.2, ⟨hk.1.1.1.2, hk.1.1.2⟩⟩⟩⟩)⟩
      have n3_ : Aside0 (Kd.V (Kd.int .u64) 54 ((((w23.setCell ⟨gb526, 0, none⟩ (.bool t518)).setCell ⟨gb526, 1, none⟩ (.slice Ao28 t519.length co28)).setCell ⟨gb527, 0, none⟩ (.bool t522)).setCell ⟨gb527, 1, none⟩ (.slice Ao32 t523.length co32)) w.heap.size (fun k_ => ((P0_1_ k_ ∨ P1_1_ k_) ∨ w.heap.size ≤ k_) ∧ some k_ ≠ (.slice Ao17 y514.length co17 : Value).ownBlock ∧ k_ ≠ gb511 ∧ k_ ≠ gb512 ∧ k_ ≠ gb526 ∧ k_ ≠ gb527) (.slice Ao28 t519.length co28) t519) := ⟨by (with_reducible repeat (first | apply Kd.V_alloc | apply Kd.V_drewN | apply Kd.V_drew)); exact Kd.V_mono (Kd.V_far (p := ⟨gb527, 1, none⟩) (Kd.V_far (p := ⟨gb527, 0, none⟩) (Kd.V_far (p := ⟨gb526, 1, none⟩) (Kd.V_far (p := ⟨gb526, 0, none⟩) (Kd.V_mono (Kd.V_mono HO521.out (fun k_ hk => (⟨hk, hk.1.2⟩ : _ ∧ k_ ≠ gb526))) (fun k_ hk => (⟨hk, hk.1.2⟩ : _ ∧ k_ ≠ gb527))) (fun _ hk => hk.1.2) (.bool t518)) (fun _ hk => hk.1.2) (.slice Ao28 t519.length co28)) (fun _ hk => hk.2) (.bool t522)) (fun _ hk => hk.2) (.slice Ao32 t523.length co32)) (fun _ hk => ⟨hk.1.1.1.1.1, ⟨hk.1.1.1.1.2.1, ⟨hk.1.1.1.1.2.2.1, ⟨hk.1.1.1.1.2.2.2, ⟨hk.1.1.1.2, hk.1.1.2⟩⟩⟩⟩⟩)⟩
      have n4_ : Aside0 (Kd.V (Kd.int .u64) 54 ((((w23.setCell ⟨gb526, 0, none⟩ (.bool t518)).setCell ⟨gb526, 1, none⟩ (.slice Ao28 t519.length co28)).setCell ⟨gb527, 0, none⟩ (.bool t522)).setCell ⟨gb527, 1, none⟩ (.slice Ao32 t523.length co32)) w.heap.size (fun k_ => ((P0_1_ k_ ∨ P1_1_ k_) ∨ w.heap.size ≤ k_) ∧ some k_ ≠ (.slice Ao17 y514.length co17 : Value).ownBlock ∧ k_ ≠ gb511 ∧ k_ ≠ gb512 ∧ k_ ≠ gb526 ∧ k_ ≠ gb527) (.slice Ao32 t523.length co32) t523) := ⟨by (with_reducible repeat (first | apply Kd.V_alloc | apply Kd.V_drewN | apply Kd.V_drew)); exact Kd.V_mono (Kd.V_far (p := ⟨gb527, 1, none⟩) (Kd.V_far (p := ⟨gb527, 0, none⟩) (Kd.V_far (p := ⟨gb526, 1, none⟩) (Kd.V_far (p := ⟨gb526, 0, none⟩) (Kd.V_mono (Kd.V_mono HO525.out (fun k_ hk => (⟨hk, hk.1.2⟩ : _ ∧ k_ ≠ gb526))) (fun k_ hk => (⟨hk, hk.1.2⟩ : _ ∧ k_ ≠ gb527))) (fun _ hk => hk.1.2) (.bool t518)) (fun _ hk => hk.1.2) (.slice Ao28 t519.length co28)) (fun _ hk => hk.2) (.bool t522)) (fun _ hk => hk.2) (.slice Ao32 t523.length co32)) (fun _ hk => ⟨hk.1.1.1.1.1, ⟨hk.1.1.1.1.2.1, ⟨hk.1.1.1.1.2.2.1, ⟨hk.1.1.1.1.2.2.2, ⟨hk.1.1.1.2, hk.1.1.2⟩⟩⟩⟩⟩)⟩
      have n5_ : Aside0 (((((w23.setCell ⟨gb526, 0, none⟩ (.bool t518)).setCell ⟨gb526, 1, none⟩ (.slice Ao28 t519.length co28)).setCell ⟨gb527, 0, none⟩ (.bool t522)).setCell ⟨gb527, 1, none⟩ (.slice Ao32 t523.length co32)).heap[gb511]? = some (.cells #[.bool a0_0, .slice A0_1 l0_1.length c0_1] 25 (0, 0))) := ⟨by (with_reducible repeat (first | refine blk_drewN ?_ _ | refine blk_drew ?_ | refine blk_alloc ?_ _)); refine blk_far ?_ NB511_527.out _; (with_reducible repeat (first | refine blk_drewN ?_ _ | refine blk_drew ?_ | refine blk_alloc ?_ _)); refine blk_far ?_ NB511_527.out _; (with_reducible repeat (first | refine blk_drewN ?_ _ | refine blk_drew ?_ | refine blk_alloc ?_ _)); refine blk_far ?_ NB511_526.out _; (with_reducible repeat (first | refine blk_drewN ?_ _ | refine blk_drew ?_ | refine blk_alloc ?_ _)); refine blk_far ?_ NB511_526.out _; (with_reducible repeat (first | refine blk_drewN ?_ _ | refine blk_drew ?_ | refine blk_alloc ?_ _)); exact BK511.out⟩
      have n6_ : Aside0 (((((w23.setCell ⟨gb526, 0, none⟩ (.bool t518)).setCell ⟨gb526, 1, none⟩ (.slice Ao28 t519.length co28)).setCell ⟨gb527, 0, none⟩ (.bool t522)).setCell ⟨gb527, 1, none⟩ (.slice Ao32 t523.length co32)).heap[gb512]? = some (.cells #[.bool a1_0, .slice A1_1 l1_1.length c1_1] 25 (0, 0))) := ⟨by (with_reducible repeat (first | refine blk_drewN ?_ _ | refine blk_drew ?_ | refine blk_alloc ?_ _)); refine blk_far ?_ NB512_527.out _; (with_reducible repeat (first | refine blk_drewN ?_ _ | refine blk_drew ?_ | refine blk_alloc ?_ _)); refine blk_far ?_ NB512_527.out _; (with_reducible repeat (first | refine blk_drewN ?_ _ | refine blk_drew ?_ | refine blk_alloc ?_ _)); refine blk_far ?_ NB512_526.out _; (with_reducible repeat (first | refine blk_drewN ?_ _ | refine blk_drew ?_ | refine blk_alloc ?_ _)); refine blk_far ?_ NB512_526.out _; (with_reducible repeat (first | refine blk_drewN ?_ _ | refine blk_drew ?_ | refine blk_alloc ?_ _)); exact BK512.out⟩
      have n7_ : Aside0 (((((w23.setCell ⟨gb526, 0, none⟩ (.bool t518)).setCell ⟨gb526, 1, none⟩ (.slice Ao28 t519.length co28)).setCell ⟨gb527, 0, none⟩ (.bool t522)).setCell ⟨gb527, 1, none⟩ (.slice Ao32 t523.length co32)).heap[gb526]? = some (.cells #[.bool t518, .slice Ao28 t519.length co28] 25 (0, 0))) := ⟨by (with_reducible repeat (first | refine blk_drewN ?_ _ | refine blk_drew ?_ | refine blk_alloc ?_ _)); refine blk_far ?_ NB526_527.out _; (with_reducible repeat (first | refine blk_drewN ?_ _ | refine blk_drew ?_ | refine blk_alloc ?_ _)); refine blk_far ?_ NB526_527.out _; (with_reducible repeat (first | refine blk_drewN ?_ _ | refine blk_drew ?_ | refine blk_alloc ?_ _)); refine blk_put (cs := #[.bool t518, .slice none 0 0]) ?_ 1 _ rfl; (with_reducible repeat (first | refine blk_drewN ?_ _ | refine blk_drew ?_ | refine blk_alloc ?_ _)); refine blk_put (cs := #[.bool false, .slice none 0 0]) ?_ 0 _ rfl; (with_reducible repeat (first | refine blk_drewN ?_ _ | refine blk_drew ?_ | refine blk_alloc ?_ _)); exact BK526.out⟩
      have n8_ : Aside0 (((((w23.setCell ⟨gb526, 0, none⟩ (.bool t518)).setCell ⟨gb526, 1, none⟩ (.slice Ao28 t519.length co28)).setCell ⟨gb527, 0, none⟩ (.bool t522)).setCell ⟨gb527, 1, none⟩ (.slice Ao32 t523.length co32)).heap[gb527]? = some (.cells #[.bool t522, .slice Ao32 t523.length co32] 25 (0, 0))) := ⟨by (with_reducible repeat (first | refine blk_drewN ?_ _ | refine blk_drew ?_ | refine blk_alloc ?_ _)); refine blk_put (cs := #[.bool t522, .slice none 0 0]) ?_ 1 _ rfl; (with_reducible repeat (first | refine blk_drewN ?_ _ | refine blk_drew ?_ | refine blk_alloc ?_ _)); refine blk_put (cs := #[.bool false, .slice none 0 0]) ?_ 0 _ rfl; (with_reducible repeat (first | refine blk_drewN ?_ _ | refine blk_drew ?_ | refine blk_alloc ?_ _)); refine blk_far ?_ NB527_526.out _; (with_reducible repeat (first | refine blk_drewN ?_ _ | refine blk_drew ?_ | refine blk_alloc ?_ _)); refine blk_far ?_ NB527_526.out _; (with_reducible repeat (first | refine blk_drewN ?_ _ | refine blk_drew ?_ | refine blk_alloc ?_ _)); exact BK527.out⟩
      have n9_ : Aside0 (Below w.heap.size w ((((w23.setCell ⟨gb526, 0, none⟩ (.bool t518)).setCell ⟨gb526, 1, none⟩ (.slice Ao28 t519.length co28)).setCell ⟨gb527, 0, none⟩ (.bool t522)).setCell ⟨gb527, 1, none⟩ (.slice Ao32 t523.length co32))) := ⟨by repeat (first | (with_reducible first | exact HB.out | apply bA | apply bN | apply bD | refine bS ?_ GE511.out | refine bS ?_ GE512.out | refine bS ?_ GE526.out | refine bS ?_ GE527.out) | exact HB.out)⟩
      (try clear HO0_1)
      (try clear HO1_1)
      (try clear HO516)
      (try clear HO521)
      (try clear HO525)
      (try clear BK511)
      (try clear BK512)
      (try clear BK526)
      (try clear BK527)
      (try clear HB)
      generalize ((((w23.setCell ⟨gb526, 0, none⟩ (.bool t518)).setCell ⟨gb526, 1, none⟩ (.slice Ao28 t519.length co28)).setCell ⟨gb527, 0, none⟩ (.bool t522)).setCell ⟨gb527, 1, none⟩ (.slice Ao32 t523.length co32)) = w40 at n0_ n1_ n2_ n3_ n4_ n5_ n6_ n7_ n8_ n9_ ⊢
      have HO0_1 := n0_
      have HO1_1 := n1_
      have HO516 := n2_
      have HO521 := n3_
      have HO525 := n4_
      have BK511 := n5_
      have BK512 := n6_
      have BK526 := n7_
      have BK527 := n8_
      have HB := n9_
      clear n0_ n1_ n2_ n3_ n4_ n5_ n6_ n7_ n8_ n9_
      have n0_ := Aside0.mk (Kd.V_drew HO0_1.out)
      have n1_ := Aside0.mk (Kd.V_drew HO1_1.out)
      have n2_ := Aside0.mk (Kd.N_drew HO516.out)
      have n3_ := Aside0.mk (Kd.V_drew HO521.out)
      have n4_ := Aside0.mk (Kd.V_drew HO525.out)
      have n5_ := Aside0.mk (blk_drew BK511.out)
      have n6_ := Aside0.mk (blk_drew BK512.out)
      have n7_ := Aside0.mk (blk_drew BK526.out)
      have n8_ := Aside0.mk (blk_drew BK527.out)
      have n9_ := Aside0.mk (bD HB.out)
      clear HO0_1
      clear HO1_1
      clear HO516
      clear HO521
      clear HO525
      clear BK511
      clear BK512
      clear BK526
      clear BK527
      clear HB
      have HO0_1 := n0_
      have HO1_1 := n1_
      have HO516 := n2_
      have HO521 := n3_
      have HO525 := n4_
      have BK511 := n5_
      have BK512 := n6_
      have BK526 := n7_
      have BK527 := n8_
      have HB := n9_
      clear n0_ n1_ n2_ n3_ n4_ n5_ n6_ n7_ n8_ n9_
      refine start_ (n := 18) (S := fun w' => w'.cell? ⟨gb526, 0, none⟩ = some (.bool t518) ∧ w'.cell? ⟨gb526, 1, none⟩ = some (.slice Ao28 t519.length co28) ∧ w'.cell? ⟨gb527, 0, none⟩ = some (.bool t522) ∧ w'.cell? ⟨gb527, 1, none⟩ = some (.slice Ao32 t523.length co32) ∧ w'.cell? ⟨gb512, 0, none⟩ = some (.bool a1_0) ∧ w'.cell? ⟨gb512, 1, none⟩ = some (.slice A1_1 l1_1.length c1_1) ∧ w'.cell? ⟨gb511, 0, none⟩ = some (.bool a0_0) ∧ w'.cell? ⟨gb511, 1, none⟩ = some (.slice A0_1 l0_1.length c0_1)) (ds := []) #[false, false, false, false, false, false, false, false, false, false, false, false, false, false, false, false, false, false] (by kernel_rfl) rfl rfl ⟨(blk_cell BK526.out 0).trans rfl, (blk_cell BK526.out 1).trans rfl, (blk_cell BK527.out 0).trans rfl, (blk_cell BK527.out 1).trans rfl, (blk_cell BK512.out 0).trans rfl, (blk_cell BK512.out 1).trans rfl, (blk_cell BK511.out 0).trans rfl, (blk_cell BK511.out 1).trans rfl⟩ (fun hHeld => ?_); refine with_tabW isohyetlaw02_NumDivs.tab6 isohyetlaw02_NumDivs.bits6 (fun HT_ HW_ => ?_)
      generalize w40.drew = w41 at HO0_1 HO1_1 HO516 HO521 HO525 BK511 BK512 BK526 BK527 HB hHeld ⊢
      refine take_ (i := 0) (N := some 20) (v := ?_) (a' := ?_) #[true, false, false, false, false, false, false, false, false, false, false, false, false, false, false, false, false, false] rfl rfl (take_ofW HT_.out HW_.out (by kernel_rfl)) (fun _ _ _ h => h) (Or.inl ⟨by rfl, ?_⟩) hHeld ?_ ?_
      rotate_left
      ·rintro w' ⟨s0, s1, s2, s3, s4, s5, s6, s7⟩
       go_simp
       with_reducible rfl
      rotate_left
      ·simp only [Act.put, List.setIfInBounds_toArray, List.set_cons_zero, List.set_cons_succ, i64_w, i32_w]
       rfl
      refine one_ (i := 1) (N := some 21) #[true, true, false, false, false, false, false, false, false, false, false, false, false, false, false, false, false, false] rfl rfl (one_of HT_.out (by kernel_rfl)) (by decide) (fun K hK => ?_)
      refine goes_ Try.func13 (by kernel_rfl) rfl #[.agg #[.bool t518, .slice Ao28 t519.length co28]] (by rfl) rfl rfl (by (try simp only [List.map_toArray, List.map_cons, List.map_nil]); first | done | rfl | (simp only [List.length_drop, List.length_take]; rfl)) ?_
      with_reducible refine (isohyetlaw02_Right.calls t518 _ _ t519 true _ ?side1 ?side2 A33.out).mono ?_
      (case side1 => repeat (first | exact (Kd.V_reads' HO521.out).2.2 | (with_reducible refine Kd.C_alloc ?_ _) | (with_reducible refine Kd.C_drewN ?_ _) | (with_reducible refine Kd.C_drew ?_)))
      (case side2 => exact (Kd.V_reads' HO521.out).2.1)
      rintro e w42 ⟨rfl, hb⟩
      refine ⟨_, rfl, ?_⟩
      have n0_ := Aside0.mk (Kd.V_below (gV HO0_1.out) hb)
      have n1_ := Aside0.mk (Kd.V_below (gV HO1_1.out) hb)
      have n2_ := Aside0.mk (Kd.N_below (gN HO516.out) hb)
      have n3_ := Aside0.mk (Kd.V_below (gV HO521.out) hb)
      have n4_ := Aside0.mk (Kd.V_below (gV HO525.out) hb)
      have n5_ := Aside0.mk (blk_below (gK BK511.out) hb)
      have n6_ := Aside0.mk (blk_below (gK BK512.out) hb)
      have n7_ := Aside0.mk (blk_below (gK BK526.out) hb)
      have n8_ := Aside0.mk (blk_below (gK BK527.out) hb)
      have n9_ := Aside0.mk (below_step (by repeat (first | (with_reducible first | exact HB.out | apply bA | apply bN | apply bD | refine bS ?_ GE511.out | refine bS ?_ GE512.out | refine bS ?_ GE526.out | refine bS ?_ GE527.out) | exact HB.out)) hb)
      clear HO0_1
      clear HO1_1
      clear HO516
      clear HO521
      clear HO525
      clear BK511
      clear BK512
      clear BK526
      clear BK527
      clear HB
      have HO0_1 := n0_
      have HO1_1 := n1_
      have HO516 := n2_
      have HO521 := n3_
      have HO525 := n4_
      have BK511 := n5_
      have BK512 := n6_
      have BK526 := n7_
      have BK527 := n8_
      have HB := n9_
      clear n0_ n1_ n2_ n3_ n4_ n5_ n6_ n7_ n8_ n9_
      (try clear hb)
      (try clear hb2)
      (try clear hk)
      (try clear hi)
      refine hK.out _ _ ⟨(blk_cell BK526.out 0).trans rfl, (blk_cell BK526.out 1).trans rfl, (blk_cell BK527.out 0).trans rfl, (blk_cell BK527.out 1).trans rfl, (blk_cell BK512.out 0).trans rfl, (blk_cell BK512.out 1).trans rfl, (blk_cell BK511.out 0).trans rfl, (blk_cell BK511.out 1).trans rfl⟩ (fun hHeld => ?_)
      clear hK K
      refine norm_ (a' := ?_) ?_ ?_
      rotate_left
      ·show Act.put _ (some 21) _ = _
       simp only [Act.put, List.setIfInBounds_toArray, List.set_cons_zero, List.set_cons_succ, i64_w, i32_w]
       rfl
      refine pure_ (i := 2) (N := some 22) (v := ?_) (a' := ?_) #[true, true, true, false, false, false, false, false, false, false, false, false, false, false, false, false, false, false] rfl rfl (any_of HT_.out (by kernel_rfl)) (fun _ _ _ h => h) (Or.inl ⟨by rfl, ?_⟩) ?_ ?_
      rotate_left
      ·intro w'
       go_simp
       with_reducible rfl
      rotate_left
      ·simp only [Act.put, List.setIfInBounds_toArray, List.set_cons_zero, List.set_cons_succ, i64_w, i32_w]
       rfl
      refine pure_ (i := 3) (N := some 23) (v := ?_) (a' := ?_) #[true, true, true, true, false, false, false, false, false, false, false, false, false, false, false, false, false, false] rfl rfl (any_of HT_.out (by kernel_rfl)) (fun _ _ _ h => h) (Or.inl ⟨by rfl, ?_⟩) ?_ ?_
      rotate_left
      ·intro w'
       go_simp
       with_reducible rfl
      rotate_left
      ·simp only [Act.put, List.setIfInBounds_toArray, List.set_cons_zero, List.set_cons_succ, i64_w, i32_w]
       rfl
      refine take_ (i := 4) (N := some 24) (v := ?_) (a' := ?_) #[true, true, true, true, true, false, false, false, false, false, false, false, false, false, false, false, false, false] rfl rfl (take_ofW HT_.out HW_.out (by kernel_rfl)) (fun _ _ _ h => h) (Or.inl ⟨by rfl, ?_⟩) hHeld ?_ ?_
      rotate_left
      ·rintro w' ⟨s0, s1, s2, s3, s4, s5, s6, s7⟩
       go_simp
       with_reducible rfl
      rotate_left
      ·simp only [Act.put, List.setIfInBounds_toArray, List.set_cons_zero, List.set_cons_succ, i64_w, i32_w]
       rfl
      refine one_ (i := 5) (N := some 25) #[true, true, true, true, true, true, false, false, false, false, false, false, false, false, false, false, false, false] rfl rfl (one_of HT_.out (by kernel_rfl)) (by decide) (fun K hK => ?_)
      refine goes_ Try.func13 (by kernel_rfl) rfl #[.agg #[.bool t522, .slice Ao32 t523.length co32]] (by rfl) rfl rfl (by (try simp only [List.map_toArray, List.map_cons, List.map_nil]); first | done | rfl | (simp only [List.length_drop, List.length_take]; rfl)) ?_
      with_reducible refine (isohyetlaw02_Right.calls t522 _ _ t523 true _ ?side1 ?side2 A35.out).mono ?_
      (case side1 => repeat (first | exact (Kd.V_reads' HO525.out).2.2 | (with_reducible refine Kd.C_alloc ?_ _) | (with_reducible refine Kd.C_drewN ?_ _) | (with_reducible refine Kd.C_drew ?_)))
      (case side2 => exact (Kd.V_reads' HO525.out).2.1)
      rintro e w43 ⟨rfl, hb⟩
      refine ⟨_, rfl, ?_⟩
      have n0_ := Aside0.mk (Kd.V_below (gV HO0_1.out) hb)
      have n1_ := Aside0.mk (Kd.V_below (gV HO1_1.out) hb)
      have n2_ := Aside0.mk (Kd.N_below (gN HO516.out) hb)
      have n3_ := Aside0.mk (Kd.V_below (gV HO521.out) hb)
      have n4_ := Aside0.mk (Kd.V_below (gV HO525.out) hb)
      have n5_ := Aside0.mk (blk_below (gK BK511.out) hb)
      have n6_ := Aside0.mk (blk_below (gK BK512.out) hb)
      have n7_ := Aside0.mk (blk_below (gK BK526.out) hb)
      have n8_ := Aside0.mk (blk_below (gK BK527.out) hb)
      have n9_ := Aside0.mk (below_step (by repeat (first | (with_reducible first | exact HB.out | apply bA | apply bN | apply bD | refine bS ?_ GE511.out | refine bS ?_ GE512.out | refine bS ?_ GE526.out | refine bS ?_ GE527.out) | exact HB.out)) hb)
      clear HO0_1
      clear HO1_1
      clear HO516
      clear HO521
      clear HO525
      clear BK511
      clear BK512
      clear BK526
      clear BK527
      clear HB
      have HO0_1 := n0_
      have HO1_1 := n1_
      have HO516 := n2_
      have HO521 := n3_
      have HO525 := n4_
      have BK511 := n5_
      have BK512 := n6_
      have BK526 := n7_
      have BK527 := n8_
      have HB := n9_
      clear n0_ n1_ n2_ n3_ n4_ n5_ n6_ n7_ n8_ n9_
      (try clear hb)
      (try clear hb2)
      (try clear hk)
      (try clear hi)
      refine hK.out _ _ ⟨(blk_cell BK526.out 0).trans rfl, (blk_cell BK526.out 1).trans rfl, (blk_cell BK527.out 0).trans rfl, (blk_cell BK527.out 1).trans rfl, (blk_cell BK512.out 0).trans rfl, (blk_cell BK512.out 1).trans rfl, (blk_cell BK511.out 0).trans rfl, (blk_cell BK511.out 1).trans rfl⟩ (fun hHeld => ?_)
      clear hK K
      refine norm_ (a' := ?_) ?_ ?_
      rotate_left
      ·show Act.put _ (some 25) _ = _
       simp only [Act.put, List.setIfInBounds_toArray, List.set_cons_zero, List.set_cons_succ, i64_w, i32_w]
       rfl
      refine pure_ (i := 6) (N := some 26) (v := ?_) (a' := ?_) #[true, true, true, true, true, true, true, false, false, false, false, false, false, false, false, false, false, false] rfl rfl (any_of HT_.out (by kernel_rfl)) (fun _ _ _ h => h) (Or.inl ⟨by rfl, ?_⟩) ?_ ?_
      rotate_left
      ·intro w'
       go_simp
       with_reducible rfl
      rotate_left
      ·simp only [Act.put, List.setIfInBounds_toArray, List.set_cons_zero, List.set_cons_succ, i64_w, i32_w]
       rfl
      refine pure_ (i := 7) (N := some 27) (v := ?_) (a' := ?_) #[true, true, true, true, true, true, true, true, false, false, false, false, false, false, false, false, false, false] rfl rfl (any_of HT_.out (by kernel_rfl)) (fun _ _ _ h => h) (Or.inl ⟨by rfl, ?_⟩) ?_ ?_
      rotate_left
      ·intro w'
       go_simp
       with_reducible rfl
      rotate_left
      ·simp only [Act.put, List.setIfInBounds_toArray, List.set_cons_zero, List.set_cons_succ, i64_w, i32_w]
       rfl
      refine pure_ (i := 8) (N := some 28) (v := ?_) (a' := ?_) #[true, true, true, true, true, true, true, true, true, false, false, false, false, false, false, false, false, false] rfl rfl (any_of HT_.out (by kernel_rfl)) (fun _ _ _ h => h) (Or.inl ⟨by rfl, ?_⟩) ?_ ?_
      rotate_left
      ·intro w'
       go_simp
       with_reducible rfl
      rotate_left
      ·simp only [Act.put, List.setIfInBounds_toArray, List.set_cons_zero, List.set_cons_succ, i64_w, i32_w]
       rfl
      refine take_ (i := 9) (N := some 29) (v := ?_) (a' := ?_) #[true, true, true, true, true, true, true, true, true, true, false, false, false, false, false, false, false, false] rfl rfl (take_ofW HT_.out HW_.out (by kernel_rfl)) (fun _ _ _ h => h) (Or.inl ⟨by rfl, ?_⟩) hHeld ?_ ?_
      rotate_left
      ·rintro w' ⟨s0, s1, s2, s3, s4, s5, s6, s7⟩
       go_simp
       with_reducible rfl
      rotate_left
      ·simp only [Act.put, List.setIfInBounds_toArray, List.set_cons_zero, List.set_cons_succ, i64_w, i32_w]
       rfl
      refine take_ (i := 10) (N := some 30) (v := ?_) (a' := ?_) #[true, true, true, true, true, true, true, true, true, true, true, false, false, false, false, false, false, false] rfl rfl (take_ofW HT_.out HW_.out (by kernel_rfl)) (fun _ _ _ h => h) (Or.inl ⟨by rfl, ?_⟩) hHeld ?_ ?_
      rotate_left
      ·rintro w' ⟨s0, s1, s2, s3, s4, s5, s6, s7⟩
       go_simp
       with_reducible rfl
      rotate_left
      ·simp only [Act.put, List.setIfInBounds_toArray, List.set_cons_zero, List.set_cons_succ, i64_w, i32_w]
       rfl
      refine take_ (i := 12) (N := some 32) (v := ?_) (a' := ?_) #[true, true, true, true, true, true, true, true, true, true, true, false, true, false, false, false, false, false] rfl rfl (take_ofW HT_.out HW_.out (by kernel_rfl)) (fun _ _ _ h => h) (Or.inl ⟨by rfl, ?_⟩) hHeld ?_ ?_
      rotate_left
      ·rintro w' ⟨s0, s1, s2, s3, s4, s5, s6, s7⟩
       go_simp
       with_reducible rfl
      rotate_left
      ·simp only [Act.put, List.setIfInBounds_toArray, List.set_cons_zero, List.set_cons_succ, i64_w, i32_w]
       rfl
      refine take_ (i := 14) (N := some 34) (v := ?_) (a' := ?_) #[true, true, true, true, true, true, true, true, true, true, true, false, true, false, true, false, false, false] rfl rfl (take_ofW HT_.out HW_.out (by kernel_rfl)) (fun _ _ _ h => h) (Or.inl ⟨by rfl, ?_⟩) hHeld ?_ ?_
      rotate_left
      ·rintro w' ⟨s0, s1, s2, s3, s4, s5, s6, s7⟩
       go_simp
       with_reducible rfl
      rotate_left
      ·simp only [Act.put, List.setIfInBounds_toArray, List.set_cons_zero, List.set_cons_succ, i64_w, i32_w]
       rfl
      refine one_ (i := 11) (N := some 31) #[true, true, true, true, true, true, true, true, true, true, true, true, true, false, true, false, false, false] rfl rfl (one_of HT_.out (by kernel_rfl)) (by decide) (fun K hK => ?_)
      refine goes_ Try.func20 (by kernel_rfl) rfl #[.agg #[.bool t518, .slice Ao28 t519.length co28], .agg #[.bool a1_0, .slice A1_1 l1_1.length c1_1]] (by rfl) rfl rfl (by (try simp only [List.map_toArray, List.map_cons, List.map_nil]); first | done | rfl | (simp only [List.length_drop, List.length_take]; rfl)) ?_
      with_reducible refine (num_Mul.calls k t518 _ _ t519 a1_0 _ _ l1_1 t530 t531 _ ?side1 ?side2 ?side3 ?side4 A37.out).mono ?_
      (case side1 => repeat (first | exact (Kd.V_reads' HO521.out).2.2 | (with_reducible refine Kd.C_alloc ?_ _) | (with_reducible refine Kd.C_drewN ?_ _) | (with_reducible refine Kd.C_drew ?_)))
      (case side2 => exact (Kd.V_reads' HO521.out).2.1)
      (case side3 => repeat (first | exact (Kd.V_reads' HO1_1.out).2.2 | (with_reducible refine Kd.C_alloc ?_ _) | (with_reducible refine Kd.C_drewN ?_ _) | (with_reducible refine Kd.C_drew ?_)))
      (case side4 => exact (Kd.V_reads' HO1_1.out).2.1)
      rintro e w44 ⟨v532, rfl, ho0, hb⟩
      refine ⟨_, rfl, ?_⟩
      have n0_ := Aside0.mk (Kd.V_below (gV HO0_1.out) hb)
      have n1_ := Aside0.mk (Kd.V_below (gV HO1_1.out) hb)
      have n2_ := Aside0.mk (Kd.N_below (gN HO516.out) hb)
      have n3_ := Aside0.mk (Kd.V_below (gV HO521.out) hb)
      have n4_ := Aside0.mk (Kd.V_below (gV HO525.out) hb)
      have n5_ := Aside0.mk (Kd.V_lower (Kd.V_mono (ok' := fun k_ => ((P0_1_ k_ ∨ P1_1_ k_) ∨ w.heap.size ≤ k_) ∧ some k_ ≠ (.slice Ao17 y514.length co17 : Value).ownBlock ∧ k_ ≠ gb511 ∧ k_ ≠ gb512 ∧ k_ ≠ gb526 ∧ k_ ≠ gb527) ho0 (fun k_ hk_ => ⟨(.inr (Nat.le_trans (below_size (by repeat (first | (with_reducible first | exact HB.out | apply bA | apply bN | apply bD | refine bS ?_ GE511.out | refine bS ?_ GE512.out | refine bS ?_ GE526.out | refine bS ?_ GE527.out) | exact HB.out))) hk_)), (Kd.fresh' (Kd.N_lt (gN HO516.out)) k_ hk_), (Kd.freshB (g := gb511) (o := .cells #[.bool a0_0, .slice A0_1 l0_1.length c0_1] 25 (0, 0)) (gK BK511.out) k_ hk_), (Kd.freshB (g := gb512) (o := .cells #[.bool a1_0, .slice A1_1 l1_1.length c1_1] 25 (0, 0)) (gK BK512.out) k_ hk_), (Kd.freshB (g := gb526) (o := .cells #[.bool t518, .slice Ao28 t519.length co28] 25 (0, 0)) (gK BK526.out) k_ hk_), (Kd.freshB (g := gb527) (o := .cells #[.bool t522, .slice Ao32 t523.length co32] 25 (0, 0)) (gK BK527.out) k_ hk_)⟩)) (below_size (by repeat (first | (with_reducible first | exact HB.out | apply bA | apply bN | apply bD | refine bS ?_ GE511.out | refine bS ?_ GE512.out | refine bS ?_ GE526.out | refine bS ?_ GE527.out) | exact HB.out))))
      have n6_ := Aside0.mk (blk_below (gK BK511.out) hb)
      have n7_ := Aside0.mk (blk_below (gK BK512.out) hb)
      have n8_ := Aside0.mk (blk_below (gK BK526.out) hb)
      have n9_ := Aside0.mk (blk_below (gK BK527.out) hb)
      have n10_ := Aside0.mk (below_step (by repeat (first | (with_reducible first | exact HB.out | apply bA | apply bN | apply bD | refine bS ?_ GE511.out | refine bS ?_ GE512.out | refine bS ?_ GE526.out | refine bS ?_ GE527.out) | exact HB.out)) hb)
      clear HO0_1
      clear HO1_1
      clear HO516
      clear HO521
      clear HO525
      clear BK511
      clear BK512
      clear BK526
      clear BK527
      clear HB
      have HO0_1 := n0_
      have HO1_1 := n1_
      have HO516 := n2_
      have HO521 := n3_
      have HO525 := n4_
      have HO533 := n5_
      have BK511 := n6_
      have BK512 := n7_
      have BK526 := n8_
      have BK527 := n9_
      have HB := n10_
      clear n0_ n1_ n2_ n3_ n4_ n5_ n6_ n7_ n8_ n9_ n10_
      (try clear hb)
      (try clear hb2)
      (try clear hk)
      (try clear hi)
      (try clear ho0)
      obtain ⟨Ao45, co45, eo45⟩ := Kd.V_slice HO533.out
      (first | subst eo45 | (injection eo45 with f1_ f2_ f3_; have f4_ := f1_.symm; have f5_ := f3_.symm; clear f1_ f2_ f3_; subst f4_; subst f5_))
      refine hK.out _ _ ⟨(blk_cell BK526.out 0).trans rfl, (blk_cell BK526.out 1).trans rfl, (blk_cell BK527.out 0).trans rfl, (blk_cell BK527.out 1).trans rfl, (blk_cell BK512.out 0).trans rfl, (blk_cell BK512.out 1).trans rfl, (blk_cell BK511.out 0).trans rfl, (blk_cell BK511.out 1).trans rfl⟩ (fun hHeld => ?_)
      clear hK K
      refine norm_ (a' := ?_) ?_ ?_
      rotate_left
      ·show Act.put _ (some 31) _ = _
       simp only [Act.put, List.setIfInBounds_toArray, List.set_cons_zero, List.set_cons_succ, i64_w, i32_w]
       rfl
      refine one_ (i := 13) (N := some 33) #[true, true, true, true, true, true, true, true, true, true, true, true, true, true, true, false, false, false] rfl rfl (one_of HT_.out (by kernel_rfl)) (by decide) (fun K hK => ?_)
      refine goes_ Try.func17 (by kernel_rfl) rfl #[.agg #[.bool t530, .slice Ao45 t531.length co45], .agg #[.bool t522, .slice Ao32 t523.length co32]] (by rfl) rfl rfl (by (try simp only [List.map_toArray, List.map_cons, List.map_nil]); first | done | rfl | (simp only [List.length_drop, List.length_take]; rfl)) ?_
      with_reducible refine (num_Add.calls k t530 (fun k_ => (((P0_1_ k_ ∨ P1_1_ k_) ∨ w.heap.size ≤ k_) ∧ (some k_ ≠ (.slice Ao17 y514.length co17 : Value).ownBlock ∧ (k_ ≠ gb511 ∧ (k_ ≠ gb512 ∧ (k_ ≠ gb526 ∧ k_ ≠ gb527)))))) _ _ t531 t522 (fun k_ => (((P0_1_ k_ ∨ P1_1_ k_) ∨ w.heap.size ≤ k_) ∧ (some k_ ≠ (.slice Ao17 y514.length co17 : Value).ownBlock ∧ (k_ ≠ gb511 ∧ (k_ ≠ gb512 ∧ (k_ ≠ gb526 ∧ k_ ≠ gb527)))))) _ _ t523 t534 t535 _ ?side1 ?side2 A38.out).mono ?_
      (case side1 => exact HO533.out)
      (case side2 => exact HO525.out)
      rintro e w46 ⟨v536, rfl, ho0, hb⟩
      refine ⟨_, rfl, ?_⟩
      have n0_ := Aside0.mk (Kd.V_below (gV HO0_1.out) hb)
      have n1_ := Aside0.mk (Kd.V_below (gV HO1_1.out) hb)
      have n2_ := Aside0.mk (Kd.N_below (gN HO516.out) hb)
      have n3_ := Aside0.mk (Kd.V_below (gV HO521.out) hb)
      have n4_ := Aside0.mk (Kd.V_below (gV HO525.out) hb)
      have n5_ := Aside0.mk (Kd.V_below (gV HO533.out) hb)
      have n6_ := Aside0.mk (Kd.V_lower (Kd.V_mono (ok' := fun k_ => ((P0_1_ k_ ∨ P1_1_ k_) ∨ w.heap.size ≤ k_) ∧ some k_ ≠ (.slice Ao17 y514.length co17 : Value).ownBlock ∧ k_ ≠ gb511 ∧ k_ ≠ gb512 ∧ k_ ≠ gb526 ∧ k_ ≠ gb527) ho0 (fun k_ hk_ => ⟨Or.elim hk_ (fun hs_ => Or.elim hs_ (fun hs_ => hs_.1) (fun hs_ => hs_.1)) (fun hn_ => (.inr (Nat.le_trans (below_size (by repeat (first | (with_reducible first | exact HB.out | apply bA | apply bN | apply bD | refine bS ?_ GE511.out | refine bS ?_ GE512.out | refine bS ?_ GE526.out | refine bS ?_ GE527.out) | exact HB.out))) hn_))), Or.elim hk_ (fun hs_ => Or.elim hs_ (fun hs_ => hs_.2.1) (fun hs_ => hs_.2.1)) (fun hn_ => (Kd.fresh' (Kd.N_lt (gN HO516.out)) k_ hn_)), Or.elim hk_ (fun hs_ => Or.elim hs_ (fun hs_ => hs_.2.2.1) (fun hs_ => hs_.2.2.1)) (fun hn_ => (Kd.freshB (g := gb511) (o := .cells #[.bool a0_0, .slice A0_1 l0_1.length c0_1] 25 (0, 0)) (gK BK511.out) k_ hn_)), Or.elim hk_ (fun hs_ => Or.elim hs_ (fun hs_ => hs_.2.2.2.1) (fun hs_ => hs_.2.2.2.1)) (fun hn_ => (Kd.freshB (g := gb512) (o := .cells #[.bool a1_0, .slice A1_1 l1_1.length c1_1] 25 (0, 0)) (gK BK512.out) k_ hn_)), Or.elim hk_ (fun hs_ => Or.elim hs_ (fun hs_ => hs_.2.2.2.2.1) (fun hs_ => hs_.2.2.2.2.1)) (fun hn_ => (Kd.freshB (g := gb526) (o := .cells #[.bool t518, .slice Ao28 t519.length co28] 25 (0, 0)) (gK BK526.out) k_ hn_)), Or.elim hk_ (fun hs_ => Or.elim hs_ (fun hs_ => hs_.2.2.2.2.2) (fun hs_ => hs_.2.2.2.2.2)) (fun hn_ => (Kd.freshB (g := gb527) (o := .cells #[.bool t522, .slice Ao32 t523.length co32] 25 (0, 0)) (gK BK527.out) k_ hn_))⟩)) (below_size (by repeat (first | (with_reducible first | exact HB.out | apply bA | apply bN | apply bD | refine bS ?_ GE511.out | refine bS ?_ GE512.out | refine bS ?_ GE526.out | refine bS ?_ GE527.out) | exact HB.out))))
      have n7_ := Aside0.mk (blk_below (gK BK511.out) hb)
      have n8_ := Aside0.mk (blk_below (gK BK512.out) hb)
      have n9_ := Aside0.mk (blk_below (gK BK526.out) hb)
      have n10_ := Aside0.mk (blk_below (gK BK527.out) hb)
      have n11_ := Aside0.mk (below_step (by repeat (first | (with_reducible first | exact HB.out | apply bA | apply bN | apply bD | refine bS ?_ GE511.out | refine bS ?_ GE512.out | refine bS ?_ GE526.out | refine bS ?_ GE527.out) | exact HB.out)) hb)
      clear HO0_1
      clear HO1_1
      clear HO516
      clear HO521
      clear HO525
      clear HO533
      clear BK511
      clear BK512
      clear BK526
      clear BK527
      clear HB
      have HO0_1 := n0_
      have HO1_1 := n1_
      have HO516 := n2_
      have HO521 := n3_
      have HO525 := n4_
      have HO533 := n5_
      have HO537 := n6_
      have BK511 := n7_
      have BK512 := n8_
      have BK526 := n9_
      have BK527 := n10_
      have HB := n11_
      clear n0_ n1_ n2_ n3_ n4_ n5_ n6_ n7_ n8_ n9_ n10_ n11_
      (try clear hb)
      (try clear hb2)
      (try clear hk)
      (try clear hi)
      (try clear ho0)
      obtain ⟨Ao47, co47, eo47⟩ := Kd.V_slice HO537.out
      (first | subst eo47 | (injection eo47 with f1_ f2_ f3_; have f4_ := f1_.symm; have f5_ := f3_.symm; clear f1_ f2_ f3_; subst f4_; subst f5_))
      refine hK.out _ _ ⟨(blk_cell BK526.out 0).trans rfl, (blk_cell BK526.out 1).trans rfl, (blk_cell BK527.out 0).trans rfl, (blk_cell BK527.out 1).trans rfl, (blk_cell BK512.out 0).trans rfl, (blk_cell BK512.out 1).trans rfl, (blk_cell BK511.out 0).trans rfl, (blk_cell BK511.out 1).trans rfl⟩ (fun hHeld => ?_)
      clear hK K
      refine norm_ (a' := ?_) ?_ ?_
      rotate_left
      ·show Act.put _ (some 33) _ = _
       simp only [Act.put, List.setIfInBounds_toArray, List.set_cons_zero, List.set_cons_succ, i64_w, i32_w]
       rfl
      refine one_ (i := 15) (N := some 35) #[true, true, true, true, true, true, true, true, true, true, true, true, true, true, true, true, false, false] rfl rfl (one_of HT_.out (by kernel_rfl)) (by decide) (fun K hK => ?_)
      refine goes_ Try.func14 (by kernel_rfl) rfl #[.agg #[.bool t534, .slice Ao47 t535.length co47], .agg #[.bool a0_0, .slice A0_1 l0_1.length c0_1]] (by rfl) rfl rfl (by (try simp only [List.map_toArray, List.map_cons, List.map_nil]); first | done | rfl | (simp only [List.length_drop, List.length_take]; rfl)) ?_
      with_reducible refine (num_Cmp.calls k t534 _ _ t535 a0_0 _ _ l0_1 t538 _ ?side1 ?side2 ?side3 ?side4 A39.out).mono ?_
      (case side1 => repeat (first | exact (Kd.V_reads' HO537.out).2.2 | (with_reducible refine Kd.C_alloc ?_ _) | (with_reducible refine Kd.C_drewN ?_ _) | (with_reducible refine Kd.C_drew ?_)))
      (case side2 => exact (Kd.V_reads' HO537.out).2.1)
      (case side3 => repeat (first | exact (Kd.V_reads' HO0_1.out).2.2 | (with_reducible refine Kd.C_alloc ?_ _) | (with_reducible refine Kd.C_drewN ?_ _) | (with_reducible refine Kd.C_drew ?_)))
      (case side4 => exact (Kd.V_reads' HO0_1.out).2.1)
      rintro e w48 ⟨rfl, hb⟩
      refine ⟨_, rfl, ?_⟩
      have n0_ := Aside0.mk (Kd.V_below (gV HO0_1.out) hb)
      have n1_ := Aside0.mk (Kd.V_below (gV HO1_1.out) hb)
      have n2_ := Aside0.mk (Kd.N_below (gN HO516.out) hb)
      have n3_ := Aside0.mk (Kd.V_below (gV HO521.out) hb)
      have n4_ := Aside0.mk (Kd.V_below (gV HO525.out) hb)
      have n5_ := Aside0.mk (Kd.V_below (gV HO533.out) hb)
      have n6_ := Aside0.mk (Kd.V_below (gV HO537.out) hb)
      have n7_ := Aside0.mk (blk_below (gK BK511.out) hb)
      have n8_ := Aside0.mk (blk_below (gK BK512.out) hb)
      have n9_ := Aside0.mk (blk_below (gK BK526.out) hb)
      have n10_ := Aside0.mk (blk_below (gK BK527.out) hb)
      have n11_ := Aside0.mk (below_step (by repeat (first | (with_reducible first | exact HB.out | apply bA | apply bN | apply bD | refine bS ?_ GE511.out | refine bS ?_ GE512.out | refine bS ?_ GE526.out | refine bS ?_ GE527.out) | exact HB.out)) hb)
      clear HO0_1
      clear HO1_1
      clear HO516
      clear HO521
      clear HO525
      clear HO533
      clear HO537
      clear BK511
      clear BK512
      clear BK526
      clear BK527
      clear HB
      have HO0_1 := n0_
      have HO1_1 := n1_
      have HO516 := n2_
      have HO521 := n3_
      have HO525 := n4_
      have HO533 := n5_
      have HO537 := n6_
      have BK511 := n7_
      have BK512 := n8_
      have BK526 := n9_
      have BK527 := n10_
      have HB := n11_
      clear n0_ n1_ n2_ n3_ n4_ n5_ n6_ n7_ n8_ n9_ n10_ n11_
      (try clear hb)
      (try clear hb2)
      (try clear hk)
      (try clear hi)
      refine hK.out _ _ ⟨(blk_cell BK526.out 0).trans rfl, (blk_cell BK526.out 1).trans rfl, (blk_cell BK527.out 0).trans rfl, (blk_cell BK527.out 1).trans rfl, (blk_cell BK512.out 0).trans rfl, (blk_cell BK512.out 1).trans rfl, (blk_cell BK511.out 0).trans rfl, (blk_cell BK511.out 1).trans rfl⟩ (fun hHeld => ?_)
      clear hK K
      refine norm_ (a' := ?_) ?_ ?_
      rotate_left
      ·show Act.put _ (some 35) _ = _
       simp only [Act.put, List.setIfInBounds_toArray, List.set_cons_zero, List.set_cons_succ, i64_w, i32_w]
       rfl
      refine pure_ (i := 16) (N := some 36) (v := ?_) (a' := ?_) #[true, true, true, true, true, true, true, true, true, true, true, true, true, true, true, true, true, false] rfl rfl (any_of HT_.out (by kernel_rfl)) (fun _ _ _ h => h) (Or.inl ⟨by rfl, ?_⟩) ?_ ?_
      rotate_left
      ·intro w'
       go_simp
       with_reducible rfl
      rotate_left
      ·simp only [Act.put, List.setIfInBounds_toArray, List.set_cons_zero, List.set_cons_succ, i64_w, i32_w]
       rfl
      refine pure_ (i := 17) (N := some 37) (v := ?_) (a' := ?_) #[true, true, true, true, true, true, true, true, true, true, true, true, true, true, true, true, true, true] rfl rfl (any_of HT_.out (by kernel_rfl)) (fun _ _ _ h => h) (Or.inl ⟨by rfl, ?_⟩) ?_ ?_
      rotate_left
      ·intro w'
       go_simp
       with_reducible rfl
      rotate_left
      ·simp only [Act.put, List.setIfInBounds_toArray, List.set_cons_zero, List.set_cons_succ, i64_w, i32_w]
       rfl
      refine done_ (done_of HT_.out (by kernel_rfl)) ?_
      try go_wp2
      go_meet
      case rel => exact ⟨_, ((t538 != 0)), (by first | rfl | (simp; done) | (simp [*]; done)), H', ⟨by first | omega | exact Nat.le_refl _⟩, ⟨by (with_reducible repeat (first | apply Kd.V_alloc | apply Kd.V_drewN | apply Kd.V_drew)); exact Kd.V_mono HO0_1.out (fun _ hk => ⟨hk.1, ⟨hk.2.2.1, ⟨hk.2.2.2.1, ⟨hk.2.2.2.2.1, hk.2.2.2.2.2⟩⟩⟩⟩)⟩, ⟨by (with_reducible repeat (first | apply Kd.V_alloc | apply Kd.V_drewN | apply Kd.V_drew)); exact Kd.V_mono HO1_1.out (fun _ hk => ⟨hk.1, ⟨hk.2.2.1, ⟨hk.2.2.2.1, ⟨hk.2.2.2.2.1, hk.2.2.2.2.2⟩⟩⟩⟩)⟩, ⟨by (with_reducible repeat (first | apply Kd.V_alloc | apply Kd.V_drewN | apply Kd.V_drew)); exact Kd.V_mono HO521.out (fun _ hk => ⟨hk.1, ⟨hk.2.2.1, ⟨hk.2.2.2.1, ⟨hk.2.2.2.2.1, hk.2.2.2.2.2⟩⟩⟩⟩)⟩, ⟨by (with_reducible repeat (first | apply Kd.V_alloc | apply Kd.V_drewN | apply Kd.V_drew)); exact Kd.V_mono HO525.out (fun _ hk => ⟨hk.1, ⟨hk.2.2.1, ⟨hk.2.2.2.1, ⟨hk.2.2.2.2.1, hk.2.2.2.2.2⟩⟩⟩⟩)⟩, ⟨by (with_reducible repeat (first | refine blk_drewN ?_ _ | refine blk_drew ?_ | refine blk_alloc ?_ _)); exact BK511.out⟩, ⟨by (with_reducible repeat (first | refine blk_drewN ?_ _ | refine blk_drew ?_ | refine blk_alloc ?_ _)); exact BK512.out⟩, ⟨by (with_reducible repeat (first | refine blk_drewN ?_ _ | refine blk_drew ?_ | refine blk_alloc ?_ _)); exact BK526.out⟩, ⟨by (with_reducible repeat (first | refine blk_drewN ?_ _ | refine blk_drew ?_ | refine blk_alloc ?_ _)); exact BK527.out⟩, ⟨by repeat (first | (with_reducible first | exact HB.out | apply bA | apply bN | apply bD | refine bS ?_ GE511.out | refine bS ?_ GE512.out | refine bS ?_ GE526.out | refine bS ?_ GE527.out) | exact HB.out)⟩⟩
     ·replace c36 := Bool.eq_false_iff.mpr c36
      subst c36
      have H1 : (isohyetlaw02_NumDivs.j0 k true a1_0 l1_1 t518 t519 t522 t523) = some r := by rw [if_neg (show ¬ (false = true) by decide)] at H; exact H
      clear H
      have H := H1
      clear H1
      have H' := Aside0.mk H
      clear H
      try go_wp2
      have n0_ : Aside0 (Kd.V (Kd.int .u64) 54 ((((w23.setCell ⟨gb526, 0, none⟩ (.bool t518)).setCell ⟨gb526, 1, none⟩ (.slice Ao28 t519.length co28)).setCell ⟨gb527, 0, none⟩ (.bool t522)).setCell ⟨gb527, 1, none⟩ (.slice Ao32 t523.length co32)) w.heap.size (fun k_ => ((P0_1_ k_ ∨ P1_1_ k_) ∨ w.heap.size ≤ k_) ∧ some k_ ≠ (.slice Ao17 y514.length co17 : Value).ownBlock ∧ k_ ≠ gb511 ∧ k_ ≠ gb512 ∧ k_ ≠ gb526 ∧ k_ ≠ gb527) (.slice A0_1 l0_1.length c0_1) l0_1) := ⟨by (with_reducible repeat (first | apply Kd.V_alloc | apply Kd.V_drewN | apply Kd.V_drew)); exact Kd.V_mono (Kd.V_far (p := ⟨gb527, 1, none⟩) (Kd.V_far (p := ⟨gb527, 0, none⟩) (Kd.V_far (p := ⟨gb526, 1, none⟩) (Kd.V_far (p := ⟨gb526, 0, none⟩) (Kd.V_mono (Kd.V_mono HO0_1.out (fun k_ hk => (⟨hk, hk.1.2⟩ : _ ∧ k_ ≠ gb526))) (fun k_ hk => (⟨hk, hk.1.2⟩ : _ ∧ k_ ≠ gb527))) (fun _ hk => hk.1.2) (.bool t518)) (fun _ hk => hk.1.2) (.slice Ao28 t519.length co28)) (fun _ hk => hk.2) (.bool t522)) (fun _ hk => hk.2) (.slice Ao32 t523.length co32)) (fun _ hk => ⟨hk.1.1.1.1.1.1.1, ⟨hk.1.1.1.1.2, ⟨hk.1.1.1.1.1.1.2, ⟨hk.1.1.1.1.1.2, ⟨hk.1.1.1.2, hk.1.1.2⟩⟩⟩⟩⟩)⟩
      have n1_ : Aside0 (Kd.V (Kd.int .u64) 54 ((((w23.setCell ⟨gb526, 0, none⟩ (.bool t518)).setCell ⟨gb526, 1, none⟩ (.slice Ao28 t519.length co28)).setCell ⟨gb527, 0, none⟩ (.bool t522)).setCell ⟨gb527, 1, none⟩ (.slice Ao32 t523.length co32)) w.heap.size (fun k_ => ((P0_1_ k_ ∨ P1_1_ k_) ∨ w.heap.size ≤ k_) ∧ some k_ ≠ (.slice Ao17 y514.length co17 : Value).ownBlock ∧ k_ ≠ gb511 ∧ k_ ≠ gb512 ∧ k_ ≠ gb526 ∧ k_ ≠ gb527) (.slice A1_1 l1_1.length c1_1) l1_1) := ⟨by (with_reducible repeat (first | apply Kd.V_alloc | apply Kd.V_drewN | apply Kd.V_drew)); exact Kd.V_mono (Kd.V_far (p := ⟨gb527, 1, none⟩) (Kd.V_far (p := ⟨gb527, 0, none⟩) (Kd.V_far (p := ⟨gb526, 1, none⟩) (Kd.V_far (p := ⟨gb526, 0, none⟩) (Kd.V_mono (Kd.V_mono HO1_1.out (fun k_ hk => (⟨hk, hk.1.2⟩ : _ ∧ k_ ≠ gb526))) (fun k_ hk => (⟨hk, hk.1.2⟩ : _ ∧ k_ ≠ gb527))) (fun _ hk => hk.1.2) (.bool t518)) (fun _ hk => hk.1.2) (.slice Ao28 t519.length co28)) (fun _ hk => hk.2) (.bool t522)) (fun _ hk => hk.2) (.slice Ao32 t523.length co32)) (fun _ hk => ⟨hk.1.1.1.1.1.1.1, ⟨hk.1.1.1.1.2, ⟨hk.1.1.1.1.1.1.2, ⟨hk.1.1.1.1.1.2, ⟨hk.1.1.1.2, hk.1.1.2⟩⟩⟩⟩⟩)⟩
      have n2_ : Aside0 (Kd.N k25 25 ((((w23.setCell ⟨gb526, 0, none⟩ (.bool t518)).setCell ⟨gb526, 1, none⟩ (.slice Ao28 t519.length co28)).setCell ⟨gb527, 0, none⟩ (.bool t522)).setCell ⟨gb527, 1, none⟩ (.slice Ao32 t523.length co32)) w.heap.size (fun k_ => ((P0_1_ k_ ∨ P1_1_ k_) ∨ w.heap.size ≤ k_) ∧ k_ ≠ gb511 ∧ k_ ≠ gb512 ∧ k_ ≠ gb526 ∧ k_ ≠ gb527) (.slice Ao17 y514.length co17) y514) := ⟨by (with_reducible repeat (first | apply Kd.N_alloc | apply Kd.N_drewN | apply Kd.N_drew)); exact Kd.N_mono (Kd.N_far (p := ⟨gb527, 1, none⟩) (Kd.N_far (p := ⟨gb527, 0, none⟩) (Kd.N_far (p := ⟨gb526, 1, none⟩) (Kd.N_far (p := ⟨gb526, 0, none⟩) (Kd.N_mono (Kd.N_mono HO516.out (fun k_ hk => (⟨hk, hk.1.2⟩ : _ ∧ k_ ≠ gb526))) (fun k_ hk => (⟨hk, hk.1.2⟩ : _ ∧ k_ ≠ gb527))) (fun _ hk => hk.1.2) (.bool t518)) (fun _ hk => hk.1.2) (.slice Ao28 t519.length co28)) (fun _ hk => hk.2) (.bool t522)) (fun _ hk => hk.2) (.slice Ao32 t523.length co32)) (fun _ hk => ⟨hk.1.1.1.1.1, ⟨hk.1.1.1.1.2.1, ⟨hk.1.1.1.1.2.2, ⟨hk.1.1.1.2, hk.1.1.2⟩⟩⟩⟩)⟩
      have n3_ : Aside0 (Kd.V (Kd.int .u64) 54 ((((w23.setCell ⟨gb526, 0, none⟩ (.bool t518)).setCell ⟨gb526, 1, none⟩ (.slice Ao28 t519.length co28)).setCell ⟨gb527, 0, none⟩ (.bool t522)).setCell ⟨gb527, 1, none⟩ (.slice Ao32 t523.length co32)) w.heap.size (fun k_ => ((P0_1_ k_ ∨ P1_1_ k_) ∨ w.heap.size ≤ k_) ∧ some k_ ≠ (.slice Ao17 y514.length co17 : Value).ownBlock ∧ k_ ≠ gb511 ∧ k_ ≠ gb512 ∧ k_ ≠ gb526 ∧ k_ ≠ gb527) (.slice Ao28 t519.length co28) t519) := ⟨by (with_reducible repeat (first | apply Kd.V_alloc | apply Kd.V_drewN | apply Kd.V_drew)); exact Kd.V_mono (Kd.V_far (p := ⟨gb527, 1, none⟩) (Kd.V_far (p := ⟨gb527, 0, none⟩) (Kd.V_far (p := ⟨gb526, 1, none⟩) (Kd.V_far (p := ⟨gb526, 0, none⟩) (Kd.V_mono (Kd.V_mono HO521.out (fun k_ hk => (⟨hk, hk.1.2⟩ : _ ∧ k_ ≠ gb526))) (fun k_ hk => (⟨hk, hk.1.2⟩ : _ ∧ k_ ≠ gb527))) (fun _ hk => hk.1.2) (.bool t518)) (fun _ hk => hk.1.2) (.slice Ao28 t519.length co28)) (fun _ hk => hk.2) (.bool t522)) (fun _ hk => hk.2) (.slice Ao32 t523.length co32)) (fun _ hk => ⟨hk.1.1.1.1.1, ⟨hk.1.1.1.1.2.1, ⟨hk.1.1.1.1.2.2.1, ⟨hk.1.1.1.1.2.2.2, ⟨hk.1.1.1.2, hk.1.1.2⟩⟩⟩⟩⟩)⟩
      have n4_ : Aside0 (Kd.V (Kd.int .u64) 54 ((((w23.setCell ⟨gb526, 0, none⟩ (.bool t518)).setCell ⟨gb526, 1, none⟩ (.slice Ao28 t519.length co28)).setCell ⟨gb527, 0, none⟩ (.bool t522)).setCell ⟨gb527, 1, none⟩ (.slice Ao32 t523.length co32)) w.heap.size (fun k_ => ((P0_1_ k_ ∨ P1_1_ k_) ∨ w.heap.size ≤ k_) ∧ some k_ ≠ (.slice Ao17 y514.length co17 : Value).ownBlock ∧ k_ ≠ gb511 ∧ k_ ≠ gb512 ∧ k_ ≠ gb526 ∧ k_ ≠ gb527) (.slice Ao32 t523.length co32) t523) := ⟨by (with_reducible repeat (first | apply Kd.V_alloc | apply Kd.V_drewN | apply Kd.V_drew)); exact Kd.V_mono (Kd.V_far (p := ⟨gb527, 1, none⟩) (Kd.V_far (p := ⟨gb527, 0, none⟩) (Kd.V_far (p := ⟨gb526, 1, none⟩) (Kd.V_far (p := ⟨gb526, 0, none⟩) (Kd.V_mono (Kd.V_mono HO525.out (fun k_ hk => (⟨hk, hk.1.2⟩ : _ ∧ k_ ≠ gb526))) (fun k_ hk => (⟨hk, hk.1.2⟩ : _ ∧ k_ ≠ gb527))) (fun _ hk => hk.1.2) (.bool t518)) (fun _ hk => hk.1.2) (.slice Ao28 t519.length co28)) (fun _ hk => hk.2) (.bool t522)) (fun _ hk => hk.2) (.slice Ao32 t523.length co32)) (fun _ hk => ⟨hk.1.1.1.1.1, ⟨hk.1.1.1.1.2.1, ⟨hk.1.1.1.1.2.2.1, ⟨hk.1.1.1.1.2.2.2, ⟨hk.1.1.1.2, hk.1.1.2⟩⟩⟩⟩⟩)⟩
      have n5_ : Aside0 (((((w23.setCell ⟨gb526, 0, none⟩ (.bool t518)).setCell ⟨gb526, 1, none⟩ (.slice Ao28 t519.length co28)).setCell ⟨gb527, 0, none⟩ (.bool t522)).setCell ⟨gb527, 1, none⟩ (.slice Ao32 t523.length co32)).heap[gb511]? = some (.cells #[.bool a0_0, .slice A0_1 l0_1.length c0_1] 25 (0, 0))) := ⟨by (with_reducible repeat (first | refine blk_drewN ?_ _ | refine blk_drew ?_ | refine blk_alloc ?_ _)); refine blk_far ?_ NB511_527.out _; (with_reducible repeat (first | refine blk_drewN ?_ _ | refine blk_drew ?_ | refine blk_alloc ?_ _)); refine blk_far ?_ NB511_527.out _; (with_reducible repeat (first | refine blk_drewN ?_ _ | refine blk_drew ?_ | refine blk_alloc ?_ _)); refine blk_far ?_ NB511_526.out _; (with_reducible repeat (first | refine blk_drewN ?_ _ | refine blk_drew ?_ | refine blk_alloc ?_ _)); refine blk_far ?_ NB511_526.out _; (with_reducible repeat (first | refine blk_drewN ?_ _ | refine blk_drew ?_ | refine blk_alloc ?_ _)); exact BK511.out⟩
      have n6_ : Aside0 (((((w23.setCell ⟨gb526, 0, none⟩ (.bool t518)).setCell ⟨gb526, 1, none⟩ (.slice Ao28 t519.length co28)).setCell ⟨gb527, 0, none⟩ (.bool t522)).setCell ⟨gb527, 1, none⟩ (.slice Ao32 t523.length co32)).heap[gb512]? = some (.cells #[.bool a1_0, .slice A1_1 l1_1.length c1_1] 25 (0, 0))) := ⟨by (with_reducible repeat (first | refine blk_drewN ?_ _ | refine blk_drew ?_ | refine blk_alloc ?_ _)); refine blk_far ?_ NB512_527.out _; (with_reducible repeat (first | refine blk_drewN ?_ _ | refine blk_drew ?_ | refine blk_alloc ?_ _)); refine blk_far ?_ NB512_527.out _; (with_reducible repeat (first | refine blk_drewN ?_ _ | refine blk_drew ?_ | refine blk_alloc ?_ _)); refine blk_far ?_ NB512_526.out _; (with_reducible repeat (first | refine blk_drewN ?_ _ | refine blk_drew ?_ | refine blk_alloc ?_ _)); refine blk_far ?_ NB512_526.out _; (with_reducible repeat (first | refine blk_drewN ?_ _ | refine blk_drew ?_ | refine blk_alloc ?_ _)); exact BK512.out⟩
      have n7_ : Aside0 (((((w23.setCell ⟨gb526, 0, none⟩ (.bool t518)).setCell ⟨gb526, 1, none⟩ (.slice Ao28 t519.length co28)).setCell ⟨gb527, 0, none⟩ (.bool t522)).setCell ⟨gb527, 1, none⟩ (.slice Ao32 t523.length co32)).heap[gb526]? = some (.cells #[.bool t518, .slice Ao28 t519.length co28] 25 (0, 0))) := ⟨by (with_reducible repeat (first | refine blk_drewN ?_ _ | refine blk_drew ?_ | refine blk_alloc ?_ _)); refine blk_far ?_ NB526_527.out _; (with_reducible repeat (first | refine blk_drewN ?_ _ | refine blk_drew ?_ | refine blk_alloc ?_ _)); refine blk_far ?_ NB526_527.out _; (with_reducible repeat (first | refine blk_drewN ?_ _ | refine blk_drew ?_ | refine blk_alloc ?_ _)); refine blk_put (cs := #[.bool t518, .slice none 0 0]) ?_ 1 _ rfl; (with_reducible repeat (first | refine blk_drewN ?_ _ | refine blk_drew ?_ | refine blk_alloc ?_ _)); refine blk_put (cs := #[.bool false, .slice none 0 0]) ?_ 0 _ rfl; (with_reducible repeat (first | refine blk_drewN ?_ _ | refine blk_drew ?_ | refine blk_alloc ?_ _)); exact BK526.out⟩
      have n8_ : Aside0 (((((w23.setCell ⟨gb526, 0, none⟩ (.bool t518)).setCell ⟨gb526, 1, none⟩ (.slice Ao28 t519.length co28)).setCell ⟨gb527, 0, none⟩ (.bool t522)).setCell ⟨gb527, 1, none⟩ (.slice Ao32 t523.length co32)).heap[gb527]? = some (.cells #[.bool t522, .slice Ao32 t523.length co32] 25 (0, 0))) := ⟨by (with_reducible repeat (first | refine blk_drewN ?_ _ | refine blk_drew ?_ | refine blk_alloc ?_ _)); refine blk_put (cs := #[.bool t522, .slice none 0 0]) ?_ 1 _ rfl; (with_reducible repeat (first | refine blk_drewN ?_ _ | refine blk_drew ?_ | refine blk_alloc ?_ _)); refine blk_put (cs := #[.bool false, .slice none 0 0]) ?_ 0 _ rfl; (with_reducible repeat (first | refine blk_drewN ?_ _ | refine blk_drew ?_ | refine blk_alloc ?_ _)); refine blk_far ?_ NB527_526.out _; (with_reducible repeat (first | refine blk_drewN ?_ _ | refine blk_drew ?_ | refine blk_alloc ?_ _)); refine blk_far ?_ NB527_526.out _; (with_reducible repeat (first | refine blk_drewN ?_ _ | refine blk_drew ?_ | refine blk_alloc ?_ _)); exact BK527.out⟩
      have n9_ : Aside0 (Below w.heap.size w ((((w23.setCell ⟨gb526, 0, none⟩ (.bool t518)).setCell ⟨gb526, 1, none⟩ (.slice Ao28 t519.length co28)).setCell ⟨gb527, 0, none⟩ (.bool t522)).setCell ⟨gb527, 1, none⟩ (.slice Ao32 t523.length co32))) := ⟨by repeat (first | (with_reducible first | exact HB.out | apply bA | apply bN | apply bD | refine bS ?_ GE511.out | refine bS ?_ GE512.out | refine bS ?_ GE526.out | refine bS ?_ GE527.out) | exact HB.out)⟩
      (try clear HO0_1)
      (try clear HO1_1)
      (try clear HO516)
      (try clear HO521)
      (try clear HO525)
      (try clear BK511)
      (try clear BK512)
      (try clear BK526)
      (try clear BK527)
      (try clear HB)
      generalize ((((w23.setCell ⟨gb526, 0, none⟩ (.bool t518)).setCell ⟨gb526, 1, none⟩ (.slice Ao28 t519.length co28)).setCell ⟨gb527, 0, none⟩ (.bool t522)).setCell ⟨gb527, 1, none⟩ (.slice Ao32 t523.length co32)) = w49 at n0_ n1_ n2_ n3_ n4_ n5_ n6_ n7_ n8_ n9_ ⊢
      have HO0_1 := n0_
      have HO1_1 := n1_
      have HO516 := n2_
      have HO521 := n3_
      have HO525 := n4_
      have BK511 := n5_
      have BK512 := n6_
      have BK526 := n7_
      have BK527 := n8_
      have HB := n9_
      clear n0_ n1_ n2_ n3_ n4_ n5_ n6_ n7_ n8_ n9_
      have n0_ := Aside0.mk (Kd.V_drew HO0_1.out)
      have n1_ := Aside0.mk (Kd.V_drew HO1_1.out)
      have n2_ := Aside0.mk (Kd.N_drew HO516.out)
      have n3_ := Aside0.mk (Kd.V_drew HO521.out)
      have n4_ := Aside0.mk (Kd.V_drew HO525.out)
      have n5_ := Aside0.mk (blk_drew BK511.out)
      have n6_ := Aside0.mk (blk_drew BK512.out)
      have n7_ := Aside0.mk (blk_drew BK526.out)
      have n8_ := Aside0.mk (blk_drew BK527.out)
      have n9_ := Aside0.mk (bD HB.out)
      clear HO0_1
      clear HO1_1
      clear HO516
      clear HO521
      clear HO525
      clear BK511
      clear BK512
      clear BK526
      clear BK527
      clear HB
      have HO0_1 := n0_
      have HO1_1 := n1_
      have HO516 := n2_
      have HO521 := n3_
      have HO525 := n4_
      have BK511 := n5_
      have BK512 := n6_
      have BK526 := n7_
      have BK527 := n8_
      have HB := n9_
      clear n0_ n1_ n2_ n3_ n4_ n5_ n6_ n7_ n8_ n9_
      refine start_ (n := 18) (S := fun w' => w'.cell? ⟨gb526, 0, none⟩ = some (.bool t518) ∧ w'.cell? ⟨gb526, 1, none⟩ = some (.slice Ao28 t519.length co28) ∧ w'.cell? ⟨gb527, 0, none⟩ = some (.bool t522) ∧ w'.cell? ⟨gb527, 1, none⟩ = some (.slice Ao32 t523.length co32)) (ds := []) #[false, false, false, false, false, false, false, false, false, false, false, false, false, false, false, false, false, false] (by kernel_rfl) rfl rfl ⟨(blk_cell BK526.out 0).trans rfl, (blk_cell BK526.out 1).trans rfl, (blk_cell BK527.out 0).trans rfl, (blk_cell BK527.out 1).trans rfl⟩ (fun hHeld => ?_); refine with_tabW isohyetlaw02_NumDivs.tab6 isohyetlaw02_NumDivs.bits6 (fun HT_ HW_ => ?_)
      generalize w49.drew = w50 at HO0_1 HO1_1 HO516 HO521 HO525 BK511 BK512 BK526 BK527 HB hHeld ⊢
      refine take_ (i := 0) (N := some 20) (v := ?_) (a' := ?_) #[true, false, false, false, false, false, false, false, false, false, false, false, false, false, false, false, false, false] rfl rfl (take_ofW HT_.out HW_.out (by kernel_rfl)) (fun _ _ _ h => h) (Or.inl ⟨by rfl, ?_⟩) hHeld ?_ ?_
      rotate_left
      ·rintro w' ⟨s0, s1, s2, s3⟩
       go_simp
       with_reducible rfl
      rotate_left
      ·simp only [Act.put, List.setIfInBounds_toArray, List.set_cons_zero, List.set_cons_succ, i64_w, i32_w]
       rfl
      refine one_ (i := 1) (N := some 21) #[true, true, false, false, false, false, false, false, false, false, false, false, false, false, false, false, false, false] rfl rfl (one_of HT_.out (by kernel_rfl)) (by decide) (fun K hK => ?_)
      refine goes_ Try.func13 (by kernel_rfl) rfl #[.agg #[.bool t518, .slice Ao28 t519.length co28]] (by rfl) rfl rfl (by (try simp only [List.map_toArray, List.map_cons, List.map_nil]); first | done | rfl | (simp only [List.length_drop, List.length_take]; rfl)) ?_
      with_reducible refine (isohyetlaw02_Right.calls t518 _ _ t519 true _ ?side1 ?side2 A33.out).mono ?_
      (case side1 => repeat (first | exact (Kd.V_reads' HO521.out).2.2 | (with_reducible refine Kd.C_alloc ?_ _) | (with_reducible refine Kd.C_drewN ?_ _) | (with_reducible refine Kd.C_drew ?_)))
      (case side2 => exact (Kd.V_reads' HO521.out).2.1)
      rintro e w51 ⟨rfl, hb⟩
      refine ⟨_, rfl, ?_⟩
      have n0_ := Aside0.mk (Kd.V_below (gV HO0_1.out) hb)
      have n1_ := Aside0.mk (Kd.V_below (gV HO1_1.out) hb)
      have n2_ := Aside0.mk (Kd.N_below (gN HO516.out) hb)
      have n3_ := Aside0.mk (Kd.V_below (gV HO521.out) hb)
      have n4_ := Aside0.mk (Kd.V_below (gV HO525.out) hb)
      have n5_ := Aside0.mk (blk_below (gK BK511.out) hb)
      have n6_ := Aside0.mk (blk_below (gK BK512.out) hb)
      have n7_ := Aside0.mk (blk_below (gK BK526.out) hb)
      have n8_ := Aside0.mk (blk_below (gK BK527.out) hb)
      have n9_ := Aside0.mk (below_step (by repeat (first | (with_reducible first | exact HB.out | apply bA | apply bN | apply bD | refine bS ?_ GE511.out | refine bS ?_ GE512.out | refine bS ?_ GE526.out | refine bS ?_ GE527.out) | exact HB.out)) hb)
      clear HO0_1
      clear HO1_1
      clear HO516
      clear HO521
      clear HO525
      clear BK511
      clear BK512
      clear BK526
      clear BK527
      clear HB
      have HO0_1 := n0_
      have HO1_1 := n1_
      have HO516 := n2_
      have HO521 := n3_
      have HO525 := n4_
      have BK511 := n5_
      have BK512 := n6_
      have BK526 := n7_
      have BK527 := n8_
      have HB := n9_
      clear n0_ n1_ n2_ n3_ n4_ n5_ n6_ n7_ n8_ n9_
      (try clear hb)
      (try clear hb2)
      (try clear hk)
      (try clear hi)
      refine hK.out _ _ ⟨(blk_cell BK526.out 0).trans rfl, (blk_cell BK526.out 1).trans rfl, (blk_cell BK527.out 0).trans rfl, (blk_cell BK527.out 1).trans rfl⟩ (fun hHeld => ?_)
      clear hK K
      refine norm_ (a' := ?_) ?_ ?_
      rotate_left
      ·show Act.put _ (some 21) _ = _
       simp only [Act.put, List.setIfInBounds_toArray, List.set_cons_zero, List.set_cons_succ, i64_w, i32_w]
       rfl
      refine pure_ (i := 2) (N := some 22) (v := ?_) (a' := ?_) #[true, true, true, false, false, false, false, false, false, false, false, false, false, false, false, false, false, false] rfl rfl (any_of HT_.out (by kernel_rfl)) (fun _ _ _ h => h) (Or.inl ⟨by rfl, ?_⟩) ?_ ?_
      rotate_left
      ·intro w'
       go_simp
       with_reducible rfl
      rotate_left
      ·simp only [Act.put, List.setIfInBounds_toArray, List.set_cons_zero, List.set_cons_succ, i64_w, i32_w]
       rfl
      refine pure_ (i := 3) (N := some 23) (v := ?_) (a' := ?_) #[true, true, true, true, false, false, false, false, false, false, false, false, false, false, false, false, false, false] rfl rfl (any_of HT_.out (by kernel_rfl)) (fun _ _ _ h => h) (Or.inl ⟨by rfl, ?_⟩) ?_ ?_
      rotate_left
      ·intro w'
       go_simp
       with_reducible rfl
      rotate_left
      ·simp only [Act.put, List.setIfInBounds_toArray, List.set_cons_zero, List.set_cons_succ, i64_w, i32_w]
       rfl
      refine take_ (i := 4) (N := some 24) (v := ?_) (a' := ?_) #[true, true, true, true, true, false, false, false, false, false, false, false, false, false, false, false, false, false] rfl rfl (take_ofW HT_.out HW_.out (by kernel_rfl)) (fun _ _ _ h => h) (Or.inl ⟨by rfl, ?_⟩) hHeld ?_ ?_
      rotate_left
      ·rintro w' ⟨s0, s1, s2, s3⟩
       go_simp
       with_reducible rfl
      rotate_left
      ·simp only [Act.put, List.setIfInBounds_toArray, List.set_cons_zero, List.set_cons_succ, i64_w, i32_w]
       rfl
      refine one_ (i := 5) (N := some 25) #[true, true, true, true, true, true, false, false, false, false, false, false, false, false, false, false, false, false] rfl rfl (one_of HT_.out (by kernel_rfl)) (by decide) (fun K hK => ?_)
      refine goes_ Try.func13 (by kernel_rfl) rfl #[.agg #[.bool t522, .slice Ao32 t523.length co32]] (by rfl) rfl rfl (by (try simp only [List.map_toArray, List.map_cons, List.map_nil]); first | done | rfl | (simp only [List.length_drop, List.length_take]; rfl)) ?_
      with_reducible refine (isohyetlaw02_Right.calls t522 _ _ t523 false _ ?side1 ?side2 A35.out).mono ?_
      (case side1 => repeat (first | exact (Kd.V_reads' HO525.out).2.2 | (with_reducible refine Kd.C_alloc ?_ _) | (with_reducible refine Kd.C_drewN ?_ _) | (with_reducible refine Kd.C_drew ?_)))
      (case side2 => exact (Kd.V_reads' HO525.out).2.1)
      rintro e w52 ⟨rfl, hb⟩
      refine ⟨_, rfl, ?_⟩
      have n0_ := Aside0.mk (Kd.V_below (gV HO0_1.out) hb)
      have n1_ := Aside0.mk (Kd.V_below (gV HO1_1.out) hb)
      have n2_ := Aside0.mk (Kd.N_below (gN HO516.out) hb)
      have n3_ := Aside0.mk (Kd.V_below (gV HO521.out) hb)
      have n4_ := Aside0.mk (Kd.V_below (gV HO525.out) hb)
      have n5_ := Aside0.mk (blk_below (gK BK511.out) hb)
      have n6_ := Aside0.mk (blk_below (gK BK512.out) hb)
      have n7_ := Aside0.mk (blk_below (gK BK526.out) hb)
      have n8_ := Aside0.mk (blk_below (gK BK527.out) hb)
      have n9_ := Aside0.mk (below_step (by repeat (first | (with_reducible first | exact HB.out | apply bA | apply bN | apply bD | refine bS ?_ GE511.out | refine bS ?_ GE512.out | refine bS ?_ GE526.out | refine bS ?_ GE527.out) | exact HB.out)) hb)
      clear HO0_1
      clear HO1_1
      clear HO516
      clear HO521
      clear HO525
      clear BK511
      clear BK512
      clear BK526
      clear BK527
      clear HB
      have HO0_1 := n0_
      have HO1_1 := n1_
      have HO516 := n2_
      have HO521 := n3_
      have HO525 := n4_
      have BK511 := n5_
      have BK512 := n6_
      have BK526 := n7_
      have BK527 := n8_
      have HB := n9_
      clear n0_ n1_ n2_ n3_ n4_ n5_ n6_ n7_ n8_ n9_
      (try clear hb)
      (try clear hb2)
      (try clear hk)
      (try clear hi)
      refine hK.out _ _ ⟨(blk_cell BK526.out 0).trans rfl, (blk_cell BK526.out 1).trans rfl, (blk_cell BK527.out 0).trans rfl, (blk_cell BK527.out 1).trans rfl⟩ (fun hHeld => ?_)
      clear hK K
      refine norm_ (a' := ?_) ?_ ?_
      rotate_left
      ·show Act.put _ (some 25) _ = _
       simp only [Act.put, List.setIfInBounds_toArray, List.set_cons_zero, List.set_cons_succ, i64_w, i32_w]
       rfl
      refine pure_ (i := 6) (N := some 26) (v := ?_) (a' := ?_) #[true, true, true, true, true, true, true, false, false, false, false, false, false, false, false, false, false, false] rfl rfl (any_of HT_.out (by kernel_rfl)) (fun _ _ _ h => h) (Or.inl ⟨by rfl, ?_⟩) ?_ ?_
      rotate_left
      ·intro w'
       go_simp
       with_reducible rfl
      rotate_left
      ·simp only [Act.put, List.setIfInBounds_toArray, List.set_cons_zero, List.set_cons_succ, i64_w, i32_w]
       rfl
      refine pure_ (i := 7) (N := some 27) (v := ?_) (a' := ?_) #[true, true, true, true, true, true, true, true, false, false, false, false, false, false, false, false, false, false] rfl rfl (any_of HT_.out (by kernel_rfl)) (fun _ _ _ h => h) (Or.inl ⟨by rfl, ?_⟩) ?_ ?_
      rotate_left
      ·intro w'
       go_simp
       with_reducible rfl
      rotate_left
      ·simp only [Act.put, List.setIfInBounds_toArray, List.set_cons_zero, List.set_cons_succ, i64_w, i32_w]
       rfl
      refine pure_ (i := 8) (N := some 28) (v := ?_) (a' := ?_) #[true, true, true, true, true, true, true, true, true, false, false, false, false, false, false, false, false, false] rfl rfl (any_of HT_.out (by kernel_rfl)) (fun _ _ _ h => h) (Or.inl ⟨by rfl, ?_⟩) ?_ ?_
      rotate_left
      ·intro w'
       go_simp
       with_reducible rfl
      rotate_left
      ·simp only [Act.put, List.setIfInBounds_toArray, List.set_cons_zero, List.set_cons_succ, i64_w, i32_w]
       rfl
      refine pure_ (i := 9) (N := some 29) (v := undef) (a' := ?_) #[true, true, true, true, true, true, true, true, true, true, false, false, false, false, false, false, false, false] rfl rfl (any_of HT_.out (by kernel_rfl)) (fun _ _ _ h => h) (Or.inr ⟨by rfl, rfl⟩) ?_ ?_
      rotate_left
      ·simp only [Act.put, List.setIfInBounds_toArray, List.set_cons_zero, List.set_cons_succ, i64_w, i32_w]
       rfl
      refine pure_ (i := 10) (N := some 30) (v := undef) (a' := ?_) #[true, true, true, true, true, true, true, true, true, true, true, false, false, false, false, false, false, false] rfl rfl (any_of HT_.out (by kernel_rfl)) (fun _ _ _ h => h) (Or.inr ⟨by rfl, rfl⟩) ?_ ?_
      rotate_left
      ·simp only [Act.put, List.setIfInBounds_toArray, List.set_cons_zero, List.set_cons_succ, i64_w, i32_w]
       rfl
      refine pure_ (i := 11) (N := some 31) (v := undef) (a' := ?_) #[true, true, true, true, true, true, true, true, true, true, true, true, false, false, false, false, false, false] rfl rfl (any_of HT_.out (by kernel_rfl)) (fun _ _ _ h => h) (Or.inr ⟨by rfl, rfl⟩) ?_ ?_
      rotate_left
      ·simp only [Act.put, List.setIfInBounds_toArray, List.set_cons_zero, List.set_cons_succ, i64_w, i32_w]
       rfl
      refine pure_ (i := 12) (N := some 32) (v := undef) (a' := ?_) #[true, true, true, true, true, true, true, true, true, true, true, true, true, false, false, false, false, false] rfl rfl (any_of HT_.out (by kernel_rfl)) (fun _ _ _ h => h) (Or.inr ⟨by rfl, rfl⟩) ?_ ?_
      rotate_left
      ·simp only [Act.put, List.setIfInBounds_toArray, List.set_cons_zero, List.set_cons_succ, i64_w, i32_w]
       rfl
      refine pure_ (i := 13) (N := some 33) (v := undef) (a' := ?_) #[true, true, true, true, true, true, true, true, true, true, true, true, true, true, false, false, false, false] rfl rfl (any_of HT_.out (by kernel_rfl)) (fun _ _ _ h => h) (Or.inr ⟨by rfl, rfl⟩) ?_ ?_
      rotate_left
      ·simp only [Act.put, List.setIfInBounds_toArray, List.set_cons_zero, List.set_cons_succ, i64_w, i32_w]
       rfl
      refine pure_ (i := 14) (N := some 34) (v := undef) (a' := ?_) #[true, true, true, true, true, true, true, true, true, true, true, true, true, true, true, false, false, false] rfl rfl (any_of HT_.out (by kernel_rfl)) (fun _ _ _ h => h) (Or.inr ⟨by rfl, rfl⟩) ?_ ?_
      rotate_left
      ·simp only [Act.put, List.setIfInBounds_toArray, List.set_cons_zero, List.set_cons_succ, i64_w, i32_w]
       rfl
      refine pure_ (i := 15) (N := some 35) (v := undef) (a' := ?_) #[true, true, true, true, true, true, true, true, true, true, true, true, true, true, true, true, false, false] rfl rfl (any_of HT_.out (by kernel_rfl)) (fun _ _ _ h => h) (Or.inr ⟨by rfl, rfl⟩) ?_ ?_
      rotate_left
      ·simp only [Act.put, List.setIfInBounds_toArray, List.set_cons_zero, List.set_cons_succ, i64_w, i32_w]
       rfl
      refine pure_ (i := 16) (N := some 36) (v := undef) (a' := ?_) #[true, true, true, true, true, true, true, true, true, true, true, true, true, true, true, true, true, false] rfl rfl (any_of HT_.out (by kernel_rfl)) (fun _ _ _ h => h) (Or.inr ⟨by rfl, rfl⟩) ?_ ?_
      rotate_left
      ·simp only [Act.put, List.setIfInBounds_toArray, List.set_cons_zero, List.set_cons_succ, i64_w, i32_w]
       rfl
      refine pure_ (i := 17) (N := some 37) (v := ?_) (a' := ?_) #[true, true, true, true, true, true, true, true, true, true, true, true, true, true, true, true, true, true] rfl rfl (any_of HT_.out (by kernel_rfl)) (fun _ _ _ h => h) (Or.inl ⟨by rfl, ?_⟩) ?_ ?_
      rotate_left
      ·intro w'
       go_simp
       with_reducible rfl
      rotate_left
      ·simp only [Act.put, List.setIfInBounds_toArray, List.set_cons_zero, List.set_cons_succ, i64_w, i32_w]
       rfl
      refine done_ (done_of HT_.out (by kernel_rfl)) ?_
      try go_wp2
      go_meet
      case rel => exact ⟨_, (true), (by first | rfl | (simp; done) | (simp [*]; done)), H', ⟨by first | omega | exact Nat.le_refl _⟩, ⟨by (with_reducible repeat (first | apply Kd.V_alloc | apply Kd.V_drewN | apply Kd.V_drew)); exact Kd.V_mono HO0_1.out (fun _ hk => ⟨hk.1, ⟨hk.2.2.1, ⟨hk.2.2.2.1, ⟨hk.2.2.2.2.1, hk.2.2.2.2.2⟩⟩⟩⟩)⟩, ⟨by (with_reducible repeat (first | apply Kd.V_alloc | apply Kd.V_drewN | apply Kd.V_drew)); exact Kd.V_mono HO1_1.out (fun _ hk => ⟨hk.1, ⟨hk.2.2.1, ⟨hk.2.2.2.1, ⟨hk.2.2.2.2.1, hk.2.2.2.2.2⟩⟩⟩⟩)⟩, ⟨by (with_reducible repeat (first | apply Kd.V_alloc | apply Kd.V_drewN | apply Kd.V_drew)); exact Kd.V_mono HO521.out (fun _ hk => ⟨hk.1, ⟨hk.2.2.1, ⟨hk.2.2.2.1, ⟨hk.2.2.2.2.1, hk.2.2.2.2.2⟩⟩⟩⟩)⟩, ⟨by (with_reducible repeat (first | apply Kd.V_alloc | apply Kd.V_drewN | apply Kd.V_drew)); exact Kd.V_mono HO525.out (fun _ hk => ⟨hk.1, ⟨hk.2.2.1, ⟨hk.2.2.2.1, ⟨hk.2.2.2.2.1, hk.2.2.2.2.2⟩⟩⟩⟩)⟩, ⟨by (with_reducible repeat (first | refine blk_drewN ?_ _ | refine blk_drew ?_ | refine blk_alloc ?_ _)); exact BK511.out⟩, ⟨by (with_reducible repeat (first | refine blk_drewN ?_ _ | refine blk_drew ?_ | refine blk_alloc ?_ _)); exact BK512.out⟩, ⟨by (with_reducible repeat (first | refine blk_drewN ?_ _ | refine blk_drew ?_ | refine blk_alloc ?_ _)); exact BK526.out⟩, ⟨by (with_reducible repeat (first | refine blk_drewN ?_ _ | refine blk_drew ?_ | refine blk_alloc ?_ _)); exact BK527.out⟩, ⟨by repeat (first | (with_reducible first | exact HB.out | apply bA | apply bN | apply bD | refine bS ?_ GE511.out | refine bS ?_ GE512.out | refine bS ?_ GE526.out | refine bS ?_ GE527.out) | exact HB.out)⟩⟩
    ·replace c34 := Bool.eq_false_iff.mpr c34
     subst c34
     have H1 : (isohyetlaw02_NumDivs.j0 k true a1_0 l1_1 t518 t519 t522 t523) = some r := by rw [if_neg (show ¬ (false = true) by decide)] at H; exact H
     clear H
     have H := H1
     clear H1
     have H' := Aside0.mk H
     clear H
     try go_wp2
     have n0_ : Aside0 (Kd.V (Kd.int .u64) 54 ((((w23.setCell ⟨gb526, 0, none⟩ (.bool t518)).setCell ⟨gb526, 1, none⟩ (.slice Ao28 t519.length co28)).setCell ⟨gb527, 0, none⟩ (.bool t522)).setCell ⟨gb527, 1, none⟩ (.slice Ao32 t523.length co32)) w.heap.size (fun k_ => ((P0_1_ k_ ∨ P1_1_ k_) ∨ w.heap.size ≤ k_) ∧ some k_ ≠ (.slice Ao17 y514.length co17 : Value).ownBlock ∧ k_ ≠ gb511 ∧ k_ ≠ gb512 ∧ k_ ≠ gb526 ∧ k_ ≠ gb527) (.slice A0_1 l0_1.length c0_1) l0_1) := ⟨by (with_reducible repeat (first | apply Kd.V_alloc | apply Kd.V_drewN | apply Kd.V_drew)); exact Kd.V_mono (Kd.V_far (p := ⟨gb527, 1, none⟩) (Kd.V_far (p := ⟨gb527, 0, none⟩) (Kd.V_far (p := ⟨gb526, 1, none⟩) (Kd.V_far (p := ⟨gb526, 0, none⟩) (Kd.V_mono (Kd.V_mono HO0_1.out (fun k_ hk => (⟨hk, hk.1.2⟩ : _ ∧ k_ ≠ gb526))) (fun k_ hk => (⟨hk, hk.1.2⟩ : _ ∧ k_ ≠ gb527))) (fun _ hk => hk.1.2) (.bool t518)) (fun _ hk => hk.1.2) (.slice Ao28 t519.length co28)) (fun _ hk => hk.2) (.bool t522)) (fun _ hk => hk.2) (.slice Ao32 t523.length co32)) (fun _ hk => ⟨hk.1.1.1.1.1.1.1, ⟨hk.1.1.1.1.2, ⟨hk.1.1.1.1.1.1.2, ⟨hk.1.1.1.1.1.2, ⟨hk.1.1.1.2, hk.1.1.2⟩⟩⟩⟩⟩)⟩
     have n1_ : Aside0 (Kd.V (Kd.int .u64) 54 ((((w23.setCell ⟨gb526, 0, none⟩ (.bool t518)).setCell ⟨gb526, 1, none⟩ (.slice Ao28 t519.length co28)).setCell ⟨gb527, 0, none⟩ (.bool t522)).setCell ⟨gb527, 1, none⟩ (.slice Ao32 t523.length co32)) w.heap.size (fun k_ => ((P0_1_ k_ ∨ P1_1_ k_) ∨ w.heap.size ≤ k_) ∧ some k_ ≠ (.slice Ao17 y514.length co17 : Value).ownBlock ∧ k_ ≠ gb511 ∧ k_ ≠ gb512 ∧ k_ ≠ gb526 ∧ k_ ≠ gb527) (.slice A1_1 l1_1.length c1_1) l1_1) := ⟨by (with_reducible repeat (first | apply Kd.V_alloc | apply Kd.V_drewN | apply Kd.V_drew)); exact Kd.V_mono (Kd.V_far (p := ⟨gb527, 1, none⟩) (Kd.V_far (p := ⟨gb527, 0, none⟩) (Kd.V_far (p := ⟨gb526, 1, none⟩) (Kd.V_far (p := ⟨gb526, 0, none⟩) (Kd.V_mono (Kd.V_mono HO1_1.out (fun k_ hk => (⟨hk, hk.1.2⟩ : _ ∧ k_ ≠ gb526))) (fun k_ hk => (⟨hk, hk.1.2⟩ : _ ∧ k_ ≠ gb527))) (fun _ hk => hk.1.2) (.bool t518)) (fun _ hk => hk.1.2) (.slice Ao28 t519.length co28)) (fun _ hk => hk.2) (.bool t522)) (fun _ hk => hk.2) (.slice Ao32 t523.length co32)) (fun _ hk => ⟨hk.1.1.1.1.1.1.1, ⟨hk.1.1.1.1.2, ⟨hk.1.1.1.1.1.1.2, ⟨hk.1.1.1.1.1.2, ⟨hk.1.1.1.2, hk.1.1.2⟩⟩⟩⟩⟩)⟩
     have n2_ : Aside0 (Kd.N k25 25 ((((w23.setCell ⟨gb526, 0, none⟩ (.bool t518)).setCell ⟨gb526, 1, none⟩ (.slice Ao28 t519.length co28)).setCell ⟨gb527, 0, none⟩ (.bool t522)).setCell ⟨gb527, 1, none⟩ (.slice Ao32 t523.length co32)) w.heap.size (fun k_ => ((P0_1_ k_ ∨ P1_1_ k_) ∨ w.heap.size ≤ k_) ∧ k_ ≠ gb511 ∧ k_ ≠ gb512 ∧ k_ ≠ gb526 ∧ k_ ≠ gb527) (.slice Ao17 y514.length co17) y514) := ⟨by (with_reducible repeat (first | apply Kd.N_alloc | apply Kd.N_drewN | apply Kd.N_drew)); exact Kd.N_mono (Kd.N_far (p := ⟨gb527, 1, none⟩) (Kd.N_far (p := ⟨gb527, 0, none⟩) (Kd.N_far (p := ⟨gb526, 1, none⟩) (Kd.N_far (p := ⟨gb526, 0, none⟩) (Kd.N_mono (Kd.N_mono HO516.out (fun k_ hk => (⟨hk, hk.1.2⟩ : _ ∧ k_ ≠ gb526))) (fun k_ hk => (⟨hk, hk.1.2⟩ : _ ∧ k_ ≠ gb527))) (fun _ hk => hk.1.2) (.bool t518)) (fun _ hk => hk.1.2) (.slice Ao28 t519.length co28)) (fun _ hk => hk.2) (.bool t522)) (fun _ hk => hk.2) (.slice Ao32 t523.length co32)) (fun _ hk => ⟨hk.1.1.1.1.1, ⟨hk.1.1.1.1.2.1, ⟨hk.1.1.1.1.2.2, ⟨hk.1.1.1.2, hk.1.1.2⟩⟩⟩⟩)⟩
     have n3_ : Aside0 (Kd.V (Kd.int .u64) 54 ((((w23.setCell ⟨gb526, 0, none⟩ (.bool t518)).setCell ⟨gb526, 1, none⟩ (.slice Ao28 t519.length co28)).setCell ⟨gb527, 0, none⟩ (.bool t522)).setCell ⟨gb527, 1, none⟩ (.slice Ao32 t523.length co32)) w.heap.size (fun k_ => ((P0_1_ k_ ∨ P1_1_ k_) ∨ w.heap.size ≤ k_) ∧ some k_ ≠ (.slice Ao17 y514.length co17 : Value).ownBlock ∧ k_ ≠ gb511 ∧ k_ ≠ gb512 ∧ k_ ≠ gb526 ∧ k_ ≠ gb527) (.slice Ao28 t519.length co28) t519) := ⟨by (with_reducible repeat (first | apply Kd.V_alloc | apply Kd.V_drewN | apply Kd.V_drew)); exact Kd.V_mono (Kd.V_far (p := ⟨gb527, 1, none⟩) (Kd.V_far (p := ⟨gb527, 0, none⟩) (Kd.V_far (p := ⟨gb526, 1, none⟩) (Kd.V_far (p := ⟨gb526, 0, none⟩) (Kd.V_mono (Kd.V_mono HO521.out (fun k_ hk => (⟨hk, hk.1.2⟩ : _ ∧ k_ ≠ gb526))) (fun k_ hk => (⟨hk, hk.1.2⟩ : _ ∧ k_ ≠ gb527))) (fun _ hk => hk.1.2) (.bool t518)) (fun _ hk => hk.1.2) (.slice Ao28 t519.length co28)) (fun _ hk => hk.2) (.bool t522)) (fun _ hk => hk.2) (.slice Ao32 t523.length co32)) (fun _ hk => ⟨hk.1.1.1.1.1, ⟨hk.1.1.1.1.2.1, ⟨hk.1.1.1.1.2.2.1, ⟨hk.1.1.1.1.2.2.2, ⟨hk.1.1.1.2, hk.1.1.2⟩⟩⟩⟩⟩)⟩
     have n4_ : Aside0 (Kd.V (Kd.int .u64) 54 ((((w23.setCell ⟨gb526, 0, none⟩ (.bool t518)).setCell ⟨gb526, 1, none⟩ (.slice Ao28 t519.length co28)).setCell ⟨gb527, 0, none⟩ (.bool t522)).setCell ⟨gb527, 1, none⟩ (.slice Ao32 t523.length co32)) w.heap.size (fun k_ => ((P0_1_ k_ ∨ P1_1_ k_) ∨ w.heap.size ≤ k_) ∧ some k_ ≠ (.slice Ao17 y514.length co17 : Value).ownBlock ∧ k_ ≠ gb511 ∧ k_ ≠ gb512 ∧ k_ ≠ gb526 ∧ k_ ≠ gb527) (.slice Ao32 t523.length co32) t523) := ⟨by (with_reducible repeat (first | apply Kd.V_alloc | apply Kd.V_drewN | apply Kd.V_drew)); exact Kd.V_mono (Kd.V_far (p := ⟨gb527, 1, none⟩) (Kd.V_far (p := ⟨gb527, 0, none⟩) (Kd.V_far (p := ⟨gb526, 1, none⟩) (Kd.V_far (p := ⟨gb526, 0, none⟩) (Kd.V_mono (Kd.V_mono HO525.out (fun k_ hk => (⟨hk, hk.1.2⟩ : _ ∧ k_ ≠ gb526))) (fun k_ hk => (⟨hk, hk.1.2⟩ : _ ∧ k_ ≠ gb527))) (fun _ hk => hk.1.2) (.bool t518)) (fun _ hk => hk.1.2) (.slice Ao28 t519.length co28)) (fun _ hk => hk.2) (.bool t522)) (fun _ hk => hk.2) (.slice Ao32 t523.length co32)) (fun _ hk => ⟨hk.1.1.1.1.1, ⟨hk.1.1.1.1.2.1, ⟨hk.1.1.1.1.2.2.1, ⟨hk.1.1.1.1.2.2.2, ⟨hk.1.1.1.2, hk.1.1.2⟩⟩⟩⟩⟩)⟩
     have n5_ : Aside0 (((((w23.setCell ⟨gb526, 0, none⟩ (.bool t518)).setCell ⟨gb526, 1, none⟩ (.slice Ao28 t519.length co28)).setCell ⟨gb527, 0, none⟩ (.bool t522)).setCell ⟨gb527, 1, none⟩ (.slice Ao32 t523.length co32)).heap[gb511]? = some (.cells #[.bool a0_0, .slice A0_1 l0_1.length c0_1] 25 (0, 0))) := ⟨by (with_reducible repeat (first | refine blk_drewN ?_ _ | refine blk_drew ?_ | refine blk_alloc ?_ _)); refine blk_far ?_ NB511_527.out _; (with_reducible repeat (first | refine blk_drewN ?_ _ | refine blk_drew ?_ | refine blk_alloc ?_ _)); refine blk_far ?_ NB511_527.out _; (with_reducible repeat (first | refine blk_drewN ?_ _ | refine blk_drew ?_ | refine blk_alloc ?_ _)); refine blk_far ?_ NB511_526.out _; (with_reducible repeat (first | refine blk_drewN ?_ _ | refine blk_drew ?_ | refine blk_alloc ?_ _)); refine blk_far ?_ NB511_526.out _; (with_reducible repeat (first | refine blk_drewN ?_ _ | refine blk_drew ?_ | refine blk_alloc ?_ _)); exact BK511.out⟩
     have n6_ : Aside0 (((((w23.setCell ⟨gb526, 0, none⟩ (.bool t518)).setCell ⟨gb526, 1, none⟩ (.slice Ao28 t519.length co28)).setCell ⟨gb527, 0, none⟩ (.bool t522)).setCell ⟨gb527, 1, none⟩ (.slice Ao32 t523.length co32)).heap[gb512]? = some (.cells #[.bool a1_0, .slice A1_1 l1_1.length c1_1] 25 (0, 0))) := ⟨by (with_reducible repeat (first | refine blk_drewN ?_ _ | refine blk_drew ?_ | refine blk_alloc ?_ _)); refine blk_far ?_ NB512_527.out _; (with_reducible repeat (first | refine blk_drewN ?_ _ | refine blk_drew ?_ | refine blk_alloc ?_ _)); refine blk_far ?_ NB512_527.out _; (with_reducible repeat (first | refine blk_drewN ?_ _ | refine blk_drew ?_ | refine blk_alloc ?_ _)); refine blk_far ?_ NB512_526.out _; (with_reducible repeat (first | refine blk_drewN ?_ _ | refine blk_drew ?_ | refine blk_alloc ?_ _)); refine blk_far ?_ NB512_526.out _; (with_reducible repeat (first | refine blk_drewN ?_ _ | refine blk_drew ?_ | refine blk_alloc ?_ _)); exact BK512.out⟩
     have n7_ : Aside0 (((((w23.setCell ⟨gb526, 0, none⟩ (.bool t518)).setCell ⟨gb526, 1, none⟩ (.slice Ao28 t519.length co28)).setCell ⟨gb527, 0, none⟩ (.bool t522)).setCell ⟨gb527, 1, none⟩ (.slice Ao32 t523.length co32)).heap[gb526]? = some (.cells #[.bool t518, .slice Ao28 t519.length co28] 25 (0, 0))) := ⟨by (with_reducible repeat (first | refine blk_drewN ?_ _ | refine blk_drew ?_ | refine blk_alloc ?_ _)); refine blk_far ?_ NB526_527.out _; (with_reducible repeat (first | refine blk_drewN ?_ _ | refine blk_drew ?_ | refine blk_alloc ?_ _)); refine blk_far ?_ NB526_527.out _; (with_reducible repeat (first | refine blk_drewN ?_ _ | refine blk_drew ?_ | refine blk_alloc ?_ _)); refine blk_put (cs := #[.bool t518, .slice none 0 0]) ?_ 1 _ rfl; (with_reducible repeat (first | refine blk_drewN ?_ _ | refine blk_drew ?_ | refine blk_alloc ?_ _)); refine blk_put (cs := #[.bool false, .slice none 0 0]) ?_ 0 _ rfl; (with_reducible repeat (first | refine blk_drewN ?_ _ | refine blk_drew ?_ | refine blk_alloc ?_ _)); exact BK526.out⟩
     have n8_ : Aside0 (((((w23.setCell ⟨gb526, 0, none⟩ (.bool t518)).setCell ⟨gb526, 1, none⟩ (.slice Ao28 t519.length co28)).setCell ⟨gb527, 0, none⟩ (.bool t522)).setCell ⟨gb527, 1, none⟩ (.slice Ao32 t523.length co32)).heap[gb527]? = some (.cells #[.bool t522, .slice Ao32 t523.length co32] 25 (0, 0))) := ⟨by (with_reducible repeat (first | refine blk_drewN ?_ _ | refine blk_drew ?_ | refine blk_alloc ?_ _)); refine blk_put (cs := #[.bool t522, .slice none 0 0]) ?_ 1 _ rfl; (with_reducible repeat (first | refine blk_drewN ?_ _ | refine blk_drew ?_ | refine blk_alloc ?_ _)); refine blk_put (cs := #[.bool false, .slice none 0 0]) ?_ 0 _ rfl; (with_reducible repeat (first | refine blk_drewN ?_ _ | refine blk_drew ?_ | refine blk_alloc ?_ _)); refine blk_far ?_ NB527_526.out _; (with_reducible repeat (first | refine blk_drewN ?_ _ | refine blk_drew ?_ | refine blk_alloc ?_ _)); refine blk_far ?_ NB527_526.out _; (with_reducible repeat (first | refine blk_drewN ?_ _ | refine blk_drew ?_ | refine blk_alloc ?_ _)); exact BK527.out⟩
     have n9_ : Aside0 (Below w.heap.size w ((((w23.setCell ⟨gb526, 0, none⟩ (.bool t518)).setCell ⟨gb526, 1, none⟩ (.slice Ao28 t519.length co28)).setCell ⟨gb527, 0, none⟩ (.bool t522)).setCell ⟨gb527, 1, none⟩ (.slice Ao32 t523.length co32))) := ⟨by repeat (first | (with_reducible first | exact HB.out | apply bA | apply bN | apply bD | refine bS ?_ GE511.out | refine bS ?_ GE512.out | refine bS ?_ GE526.out | refine bS ?_ GE527.out) | exact HB.out)⟩
     (try clear HO0_1)
     (try clear HO1_1)
     (try clear HO516)
     (try clear HO521)
     (try clear HO525)
     (try clear BK511)
     (try clear BK512)
     (try clear BK526)
     (try clear BK527)
     (try clear HB)
     generalize ((((w23.setCell ⟨gb526, 0, none⟩ (.bool t518)).setCell ⟨gb526, 1, none⟩ (.slice Ao28 t519.length co28)).setCell ⟨gb527, 0, none⟩ (.bool t522)).setCell ⟨gb527, 1, none⟩ (.slice Ao32 t523.length co32)) = w53 at n0_ n1_ n2_ n3_ n4_ n5_ n6_ n7_ n8_ n9_ ⊢
     have HO0_1 := n0_
     have HO1_1 := n1_
     have HO516 := n2_
     have HO521 := n3_
     have HO525 := n4_
     have BK511 := n5_
     have BK512 := n6_
     have BK526 := n7_
     have BK527 := n8_
     have HB := n9_
     clear n0_ n1_ n2_ n3_ n4_ n5_ n6_ n7_ n8_ n9_
     have n0_ := Aside0.mk (Kd.V_drew HO0_1.out)
     have n1_ := Aside0.mk (Kd.V_drew HO1_1.out)
     have n2_ := Aside0.mk (Kd.N_drew HO516.out)
     have n3_ := Aside0.mk (Kd.V_drew HO521.out)
     have n4_ := Aside0.mk (Kd.V_drew HO525.out)
     have n5_ := Aside0.mk (blk_drew BK511.out)
     have n6_ := Aside0.mk (blk_drew BK512.out)
     have n7_ := Aside0.mk (blk_drew BK526.out)
     have n8_ := Aside0.mk (blk_drew BK527.out)
     have n9_ := Aside0.mk (bD HB.out)
     clear HO0_1
     clear HO1_1
     clear HO516
     clear HO521
     clear HO525
     clear BK511
     clear BK512
     clear BK526
     clear BK527
     clear HB
     have HO0_1 := n0_
     have HO1_1 := n1_
     have HO516 := n2_
     have HO521 := n3_
     have HO525 := n4_
     have BK511 := n5_
     have BK512 := n6_
     have BK526 := n7_
     have BK527 := n8_
     have HB := n9_
     clear n0_ n1_ n2_ n3_ n4_ n5_ n6_ n7_ n8_ n9_
     refine start_ (n := 18) (S := fun w' => w'.cell? ⟨gb526, 0, none⟩ = some (.bool t518) ∧ w'.cell? ⟨gb526, 1, none⟩ = some (.slice Ao28 t519.length co28)) (ds := []) #[false, false, false, false, false, false, false, false, false, false, false, false, false, false, false, false, false, false] (by kernel_rfl) rfl rfl ⟨(blk_cell BK526.out 0).trans rfl, (blk_cell BK526.out 1).trans rfl⟩ (fun hHeld => ?_); refine with_tabW isohyetlaw02_NumDivs.tab6 isohyetlaw02_NumDivs.bits6 (fun HT_ HW_ => ?_)
     generalize w53.drew = w54 at HO0_1 HO1_1 HO516 HO521 HO525 BK511 BK512 BK526 BK527 HB hHeld ⊢
     refine take_ (i := 0) (N := some 20) (v := ?_) (a' := ?_) #[true, false, false, false, false, false, false, false, false, false, false, false, false, false, false, false, false, false] rfl rfl (take_ofW HT_.out HW_.out (by kernel_rfl)) (fun _ _ _ h => h) (Or.inl ⟨by rfl, ?_⟩) hHeld ?_ ?_
     rotate_left
     ·rintro w' ⟨s0, s1⟩
      go_simp
      with_reducible rfl
     rotate_left
     ·simp only [Act.put, List.setIfInBounds_toArray, List.set_cons_zero, List.set_cons_succ, i64_w, i32_w]
      rfl
     refine one_ (i := 1) (N := some 21) #[true, true, false, false, false, false, false, false, false, false, false, false, false, false, false, false, false, false] rfl rfl (one_of HT_.out (by kernel_rfl)) (by decide) (fun K hK => ?_)
     refine goes_ Try.func13 (by kernel_rfl) rfl #[.agg #[.bool t518, .slice Ao28 t519.length co28]] (by rfl) rfl rfl (by (try simp only [List.map_toArray, List.map_cons, List.map_nil]); first | done | rfl | (simp only [List.length_drop, List.length_take]; rfl)) ?_
     with_reducible refine (isohyetlaw02_Right.calls t518 _ _ t519 false _ ?side1 ?side2 A33.out).mono ?_
     (case side1 => repeat (first | exact (Kd.V_reads' HO521.out).2.2 | (with_reducible refine Kd.C_alloc ?_ _) | (with_reducible refine Kd.C_drewN ?_ _) | (with_reducible refine Kd.C_drew ?_)))
     (case side2 => exact (Kd.V_reads' HO521.out).2.1)
     rintro e w55 ⟨rfl, hb⟩
     refine ⟨_, rfl, ?_⟩
     have n0_ := Aside0.mk (Kd.V_below (gV HO0_1.out) hb)
     have n1_ := Aside0.mk (Kd.V_below (gV HO1_1.out) hb)
     have n2_ := Aside0.mk (Kd.N_below (gN HO516.out) hb)
     have n3_ := Aside0.mk (Kd.V_below (gV HO521.out) hb)
     have n4_ := Aside0.mk (Kd.V_below (gV HO525.out) hb)
     have n5_ := Aside0.mk (blk_below (gK BK511.out) hb)
     have n6_ := Aside0.mk (blk_below (gK BK512.out) hb)
     have n7_ := Aside0.mk (blk_below (gK BK526.out) hb)
     have n8_ := Aside0.mk (blk_below (gK BK527.out) hb)
     have n9_ := Aside0.mk (below_step (by repeat (first | (with_reducible first | exact HB.out | apply bA | apply bN | apply bD | refine bS ?_ GE511.out | refine bS ?_ GE512.out | refine bS ?_ GE526.out | refine bS ?_ GE527.out) | exact HB.out)) hb)
     clear HO0_1
     clear HO1_1
     clear HO516
     clear HO521
     clear HO525
     clear BK511
     clear BK512
     clear BK526
     clear BK527
     clear HB
     have HO0_1 := n0_
     have HO1_1 := n1_
     have HO516 := n2_
     have HO521 := n3_
     have HO525 := n4_
     have BK511 := n5_
     have BK512 := n6_
     have BK526 := n7_
     have BK527 := n8_
     have HB := n9_
     clear n0_ n1_ n2_ n3_ n4_ n5_ n6_ n7_ n8_ n9_
     (try clear hb)
     (try clear hb2)
     (try clear hk)
     (try clear hi)
     refine hK.out _ _ ⟨(blk_cell BK526.out 0).trans rfl, (blk_cell BK526.out 1).trans rfl⟩ (fun hHeld => ?_)
     clear hK K
     refine norm_ (a' := ?_) ?_ ?_
     rotate_left
     ·show Act.put _ (some 21) _ = _
      simp only [Act.put, List.setIfInBounds_toArray, List.set_cons_zero, List.set_cons_succ, i64_w, i32_w]
      rfl
     refine pure_ (i := 2) (N := some 22) (v := ?_) (a' := ?_) #[true, true, true, false, false, false, false, false, false, false, false, false, false, false, false, false, false, false] rfl rfl (any_of HT_.out (by kernel_rfl)) (fun _ _ _ h => h) (Or.inl ⟨by rfl, ?_⟩) ?_ ?_
     rotate_left
     ·intro w'
      go_simp
      with_reducible rfl
     rotate_left
     ·simp only [Act.put, List.setIfInBounds_toArray, List.set_cons_zero, List.set_cons_succ, i64_w, i32_w]
      rfl
     refine pure_ (i := 3) (N := some 23) (v := ?_) (a' := ?_) #[true, true, true, true, false, false, false, false, false, false, false, false, false, false, false, false, false, false] rfl rfl (any_of HT_.out (by kernel_rfl)) (fun _ _ _ h => h) (Or.inl ⟨by rfl, ?_⟩) ?_ ?_
     rotate_left
     ·intro w'
      go_simp
      with_reducible rfl
     rotate_left
     ·simp only [Act.put, List.setIfInBounds_toArray, List.set_cons_zero, List.set_cons_succ, i64_w, i32_w]
      rfl
     refine pure_ (i := 4) (N := some 24) (v := undef) (a' := ?_) #[true, true, true, true, true, false, false, false, false, false, false, false, false, false, false, false, false, false] rfl rfl (any_of HT_.out (by kernel_rfl)) (fun _ _ _ h => h) (Or.inr ⟨by rfl, rfl⟩) ?_ ?_
     rotate_left
     ·simp only [Act.put, List.setIfInBounds_toArray, List.set_cons_zero, List.set_cons_succ, i64_w, i32_w]
      rfl
     refine pure_ (i := 5) (N := some 25) (v := undef) (a' := ?_) #[true, true, true, true, true, true, false, false, false, false, false, false, false, false, false, false, false, false] rfl rfl (any_of HT_.out (by kernel_rfl)) (fun _ _ _ h => h) (Or.inr ⟨by rfl, rfl⟩) ?_ ?_
     rotate_left
     ·simp only [Act.put, List.setIfInBounds_toArray, List.set_cons_zero, List.set_cons_succ, i64_w, i32_w]
      rfl
     refine pure_ (i := 6) (N := some 26) (v := undef) (a' := ?_) #[true, true, true, true, true, true, true, false, false, false, false, false, false, false, false, false, false, false] rfl rfl (any_of HT_.out (by kernel_rfl)) (fun _ _ _ h => h) (Or.inr ⟨by rfl, rfl⟩) ?_ ?_
     rotate_left
     ·simp only [Act.put, List.setIfInBounds_toArray, List.set_cons_zero, List.set_cons_succ, i64_w, i32_w]
      rfl
     refine pure_ (i := 7) (N := some 27) (v := ?_) (a' := ?_) #[true, true, true, true, true, true, true, true, false, false, false, false, false, false, false, false, false, false] rfl rfl (any_of HT_.out (by kernel_rfl)) (fun _ _ _ h => h) (Or.inl ⟨by rfl, ?_⟩) ?_ ?_
     rotate_left
     ·intro w'
      go_simp
      with_reducible rfl
     rotate_left
     ·simp only [Act.put, List.setIfInBounds_toArray, List.set_cons_zero, List.set_cons_succ, i64_w, i32_w]
      rfl
     refine pure_ (i := 8) (N := some 28) (v := ?_) (a' := ?_) #[true, true, true, true, true, true, true, true, true, false, false, false, false, false, false, false, false, false] rfl rfl (any_of HT_.out (by kernel_rfl)) (fun _ _ _ h => h) (Or.inl ⟨by rfl, ?_⟩) ?_ ?_
     rotate_left
     ·intro w'
      go_simp
      with_reducible rfl
     rotate_left
     ·simp only [Act.put, List.setIfInBounds_toArray, List.set_cons_zero, List.set_cons_succ, i64_w, i32_w]
      rfl
     refine pure_ (i := 9) (N := some 29) (v := undef) (a' := ?_) #[true, true, true, true, true, true, true, true, true, true, false, false, false, false, false, false, false, false] rfl rfl (any_of HT_.out (by kernel_rfl)) (fun _ _ _ h => h) (Or.inr ⟨by rfl, rfl⟩) ?_ ?_
     rotate_left
     ·simp only [Act.put, List.setIfInBounds_toArray, List.set_cons_zero, List.set_cons_succ, i64_w, i32_w]
      rfl
     refine pure_ (i := 10) (N := some 30) (v := undef) (a' := ?_) #[true, true, true, true, true, true, true, true, true, true, true, false, false, false, false, false, false, false] rfl rfl (any_of HT_.out (by kernel_rfl)) (fun _ _ _ h => h) (Or.inr ⟨by rfl, rfl⟩) ?_ ?_
     rotate_left
     ·simp only [Act.put, List.setIfInBounds_toArray, List.set_cons_zero, List.set_cons_succ, i64_w, i32_w]
      rfl
     refine pure_ (i := 11) (N := some 31) (v := undef) (a' := ?_) #[true, true, true, true, true, true, true, true, true, true, true, true, false, false, false, false, false, false] rfl rfl (any_of HT_.out (by kernel_rfl)) (fun _ _ _ h => h) (Or.inr ⟨by rfl, rfl⟩) ?_ ?_
     rotate_left
     ·simp only [Act.put, List.setIfInBounds_toArray, List.set_cons_zero, List.set_cons_succ, i64_w, i32_w]
      rfl
     refine pure_ (i := 12) (N := some 32) (v := undef) (a' := ?_) #[true, true, true, true, true, true, true, true, true, true, true, true, true, false, false, false, false, false] rfl rfl (any_of HT_.out (by kernel_rfl)) (fun _ _ _ h => h) (Or.inr ⟨by rfl, rfl⟩) ?_ ?_
     rotate_left
     ·simp only [Act.put, List.setIfInBounds_toArray, List.set_cons_zero, List.set_cons_succ, i64_w, i32_w]
      rfl
     refine pure_ (i := 13) (N := some 33) (v := undef) (a' := ?_) #[true, true, true, true, true, true, true, true, true, true, true, true, true, true, false, false, false, false] rfl rfl (any_of HT_.out (by kernel_rfl)) (fun _ _ _ h => h) (Or.inr ⟨by rfl, rfl⟩) ?_ ?_
     rotate_left
     ·simp only [Act.put, List.setIfInBounds_toArray, List.set_cons_zero, List.set_cons_succ, i64_w, i32_w]
      rfl
     refine pure_ (i := 14) (N := some 34) (v := undef) (a' := ?_) #[true, true, true, true, true, true, true, true, true, true, true, true, true, true, true, false, false, false] rfl rfl (any_of HT_.out (by kernel_rfl)) (fun _ _ _ h => h) (Or.inr ⟨by rfl, rfl⟩) ?_ ?_
     rotate_left
     ·simp only [Act.put, List.setIfInBounds_toArray, List.set_cons_zero, List.set_cons_succ, i64_w, i32_w]
      rfl
     refine pure_ (i := 15) (N := some 35) (v := undef) (a' := ?_) #[true, true, true, true, true, true, true, true, true, true, true, true, true, true, true, true, false, false] rfl rfl (any_of HT_.out (by kernel_rfl)) (fun _ _ _ h => h) (Or.inr ⟨by rfl, rfl⟩) ?_ ?_
     rotate_left
     ·simp only [Act.put, List.setIfInBounds_toArray, List.set_cons_zero, List.set_cons_succ, i64_w, i32_w]
      rfl
     refine pure_ (i := 16) (N := some 36) (v := undef) (a' := ?_) #[true, true, true, true, true, true, true, true, true, true, true, true, true, true, true, true, true, false] rfl rfl (any_of HT_.out (by kernel_rfl)) (fun _ _ _ h => h) (Or.inr ⟨by rfl, rfl⟩) ?_ ?_
     rotate_left
     ·simp only [Act.put, List.setIfInBounds_toArray, List.set_cons_zero, List.set_cons_succ, i64_w, i32_w]
      rfl
     refine pure_ (i := 17) (N := some 37) (v := ?_) (a' := ?_) #[true, true, true, true, true, true, true, true, true, true, true, true, true, true, true, true, true, true] rfl rfl (any_of HT_.out (by kernel_rfl)) (fun _ _ _ h => h) (Or.inl ⟨by rfl, ?_⟩) ?_ ?_
     rotate_left
     ·intro w'
      go_simp
      with_reducible rfl
     rotate_left
     ·simp only [Act.put, List.setIfInBounds_toArray, List.set_cons_zero, List.set_cons_succ, i64_w, i32_w]
      rfl
     refine done_ (done_of HT_.out (by kernel_rfl)) ?_
     try go_wp2
     go_meet
     case rel => exact ⟨_, (true), (by first | rfl | (simp; done) | (simp [*]; done)), H', ⟨by first | omega | exact Nat.le_refl _⟩, ⟨by (with_reducible repeat (first | apply Kd.V_alloc | apply Kd.V_drewN | apply Kd.V_drew)); exact Kd.V_mono HO0_1.out (fun _ hk => ⟨hk.1, ⟨hk.2.2.1, ⟨hk.2.2.2.1, ⟨hk.2.2.2.2.1, hk.2.2.2.2.2⟩⟩⟩⟩)⟩, ⟨by (with_reducible repeat (first | apply Kd.V_alloc | apply Kd.V_drewN | apply Kd.V_drew)); exact Kd.V_mono HO1_1.out (fun _ hk => ⟨hk.1, ⟨hk.2.2.1, ⟨hk.2.2.2.1, ⟨hk.2.2.2.2.1, hk.2.2.2.2.2⟩⟩⟩⟩)⟩, ⟨by (with_reducible repeat (first | apply Kd.V_alloc | apply Kd.V_drewN | apply Kd.V_drew)); exact Kd.V_mono HO521.out (fun _ hk => ⟨hk.1, ⟨hk.2.2.1, ⟨hk.2.2.2.1, ⟨hk.2.2.2.2.1, hk.2.2.2.2.2⟩⟩⟩⟩)⟩, ⟨by (with_reducible repeat (first | apply Kd.V_alloc | apply Kd.V_drewN | apply Kd.V_drew)); exact Kd.V_mono HO525.out (fun _ hk => ⟨hk.1, ⟨hk.2.2.1, ⟨hk.2.2.2.1, ⟨hk.2.2.2.2.1, hk.2.2.2.2.2⟩⟩⟩⟩)⟩, ⟨by (with_reducible repeat (first | refine blk_drewN ?_ _ | refine blk_drew ?_ | refine blk_alloc ?_ _)); exact BK511.out⟩, ⟨by (with_reducible repeat (first | refine blk_drewN ?_ _ | refine blk_drew ?_ | refine blk_alloc ?_ _)); exact BK512.out⟩, ⟨by (with_reducible repeat (first | refine blk_drewN ?_ _ | refine blk_drew ?_ | refine blk_alloc ?_ _)); exact BK526.out⟩, ⟨by (with_reducible repeat (first | refine blk_drewN ?_ _ | refine blk_drew ?_ | refine blk_alloc ?_ _)); exact BK527.out⟩, ⟨by repeat (first | (with_reducible first | exact HB.out | apply bA | apply bN | apply bD | refine bS ?_ GE511.out | refine bS ?_ GE512.out | refine bS ?_ GE526.out | refine bS ?_ GE527.out) | exact HB.out)⟩⟩
   case rest =>
    clear HC8
    try clear c1
    try clear p2
    try clear c3
    try clear c13
    try clear c14
    try clear c34
    try clear c36
    obtain ⟨kq, x37_7, rfl, HA, HJ7, HO_512001, HO_513001, HO_527001, HO_528001, BK511, BK512, BK526, BK527, HB⟩ := hcut
    cases kq with
    | zero => exact absurd HA.out (by simp [isohyetlaw02_NumDivs.j0])
    | succ kj7 =>
     have H := HA.out
     clear HA
     simp only [isohyetlaw02_NumDivs.j0] at H
     by_cases c56 : x37_7 = true
     ·subst c56
      have H1 : (some false) = some r := by rw [if_pos rfl] at H; exact H
      clear H
      have H := H1
      clear H1
      exact absurd ((Option.some.inj H).trans HTRUE) (by decide)
     ·replace c56 := Bool.eq_false_iff.mpr c56
      subst c56
      have H1 : ((num_Sign.f kj7 a1_0 l1_1).bind fun t539 => (if t539 = 0 then ((num_Sign.f kj7 t518 t519).bind fun t540 => (some (t540 == 0))) else ((num_Abs.f kj7 t522 t523).bind fun bt541 => ((num_Abs.f kj7 a1_0 l1_1).bind fun bt545 => ((num_Cmp.f kj7 bt541.1 bt541.2 bt545.1 bt545.2).bind fun t549 => (if t549 < 0 then ((num_Sign.f kj7 t522 t523).bind fun t550 => (if t550 = 0 then (some true) else ((num_Sign.f kj7 t522 t523).bind fun t551 => ((num_Sign.f kj7 a1_0 l1_1).bind fun t552 => (some (t551 == t552)))))) else (some false))))))) = some r := by rw [if_neg (show ¬ (false = true) by decide)] at H; exact H
      clear H
      have H := H1
      clear H1
      replace H := Option.bind_eq_some_iff.mp H
      obtain ⟨t539, A570, H⟩ := H
      replace H : (if t539 = 0 then ((num_Sign.f kj7 t518 t519).bind fun t540 => (some (t540 == 0))) else ((num_Abs.f kj7 t522 t523).bind fun bt541 => ((num_Abs.f kj7 a1_0 l1_1).bind fun bt545 => ((num_Cmp.f kj7 bt541.1 bt541.2 bt545.1 bt545.2).bind fun t549 => (if t549 < 0 then ((num_Sign.f kj7 t522 t523).bind fun t550 => (if t550 = 0 then (some true) else ((num_Sign.f kj7 t522 t523).bind fun t551 => ((num_Sign.f kj7 a1_0 l1_1).bind fun t552 => (some (t551 == t552)))))) else (some false)))))) = some r := H
      have A57 := Aside0.mk A570
      clear A570
      by_cases c58 : t539 = 0
      ·rw [if_pos c58] at H
       have c58b0 : (t539 == 0) = true := beq_iff_eq.mpr c58
       have c58b1 : (t539 != 0) = false := bne_eq_false_iff_eq.mpr c58
       clear c58
       replace H := Option.bind_eq_some_iff.mp H
       obtain ⟨t540, A590, H⟩ := H
       replace H : (some (t540 == 0)) = some r := H
       have A59 := Aside0.mk A590
       clear A590
       obtain rfl := Option.some.inj H
       have hnb60 := NB512_511.out
       have hnc60 := NB511_512.out
       have hnb61 := NB512_526.out
       have hnc61 := NB526_512.out
       have hnb62 := NB512_527.out
       have hnc62 := NB527_512.out
       have hcz63_0 : wc.cell? ⟨gb512, 0, none⟩ = some (.bool a1_0) := (blk_cell BK512.out 0).trans rfl
       have hcz63_1 : wc.cell? ⟨gb512, 1, none⟩ = some (.slice A1_1 l1_1.length c1_1) := (blk_cell BK512.out 1).trans rfl
       have hfz63_0 := blk_frozen BK512.out 0
       have hfz63_1 := blk_frozen BK512.out 1
       go_wp2_with (first | ((with_reducible refine gate_callee (f := 15) rfl ?_); refine goesL_ (some 39) rfl rfl Try.func15 (by kernel_rfl) rfl #[.agg #[.bool a1_0, .slice A1_1 l1_1.length c1_1]] rfl (by (try simp only [List.map_toArray, List.map_cons, List.map_nil]); first | done | rfl | (simp only [List.length_drop, List.length_take]; rfl)) ?_; (with_reducible refine (num_Sign.calls kj7 a1_0 _ _ l1_1 t539 _ ?side1 ?side2 A57.out).mono ?_); (case side1 => repeat (first | exact (Kd.V_reads' HO_513001.out).2.2 | (with_reducible refine Kd.C_alloc ?_ _) | (with_reducible refine Kd.C_drewN ?_ _) | (with_reducible refine Kd.C_drew ?_))); (case side2 => exact (Kd.V_reads' HO_513001.out).2.1); (try clear A57); rintro e w64 ⟨rfl, hb⟩; refine ⟨_, rfl, ?_⟩; have n0_ := Aside0.mk (Kd.V_below (gV HO_512001.out) hb); have n1_ := Aside0.mk (Kd.V_below (gV HO_513001.out) hb); have n2_ := Aside0.mk (Kd.V_below (gV HO_527001.out) hb); have n3_ := Aside0.mk (Kd.V_below (gV HO_528001.out) hb); have n4_ := Aside0.mk (blk_below (gK BK511.out) hb); have n5_ := Aside0.mk (blk_below (gK BK512.out) hb); have n6_ := Aside0.mk (blk_below (gK BK526.out) hb); have n7_ := Aside0.mk (blk_below (gK BK527.out) hb); have n8_ := Aside0.mk (below_step (by repeat (first | (with_reducible first | exact HB.out | apply bA | apply bN | apply bD | refine bS ?_ GE511.out | refine bS ?_ GE512.out | refine bS ?_ GE526.out | refine bS ?_ GE527.out) | exact HB.out)) hb); clear HO_512001; clear HO_513001; clear HO_527001; clear HO_528001; clear BK511; clear BK512; clear BK526; clear BK527; clear HB; have HO_512001 := n0_; have HO_513001 := n1_; have HO_527001 := n2_; have HO_528001 := n3_; have BK511 := n4_; have BK512 := n5_; have BK526 := n6_; have BK527 := n7_; have HB := n8_; clear n0_ n1_ n2_ n3_ n4_ n5_ n6_ n7_ n8_; (try clear hb); (try clear hb2); (try clear hk); (try clear hi); have hnb65 := NB526_511.out; have hnc65 := NB511_526.out; have hnb66 := NB526_527.out; have hnc66 := NB527_526.out; have hcz67_0 : w64.cell? ⟨gb526, 0, none⟩ = some (.bool t518) := (blk_cell BK526.out 0).trans rfl; have hcz67_1 : w64.cell? ⟨gb526, 1, none⟩ = some (.slice Ao28 t519.length co28) := (blk_cell BK526.out 1).trans rfl; have hfz67_0 := blk_frozen BK526.out 0; have hfz67_1 := blk_frozen BK526.out 1) | ((with_reducible refine gate_callee (f := 15) rfl ?_); refine goesL_ (some 42) rfl rfl Try.func15 (by kernel_rfl) rfl #[.agg #[.bool t518, .slice Ao28 t519.length co28]] rfl (by (try simp only [List.map_toArray, List.map_cons, List.map_nil]); first | done | rfl | (simp only [List.length_drop, List.length_take]; rfl)) ?_; (with_reducible refine (num_Sign.calls kj7 t518 _ _ t519 t540 _ ?side1 ?side2 A59.out).mono ?_); (case side1 => repeat (first | exact (Kd.V_reads' HO_527001.out).2.2 | (with_reducible refine Kd.C_alloc ?_ _) | (with_reducible refine Kd.C_drewN ?_ _) | (with_reducible refine Kd.C_drew ?_))); (case side2 => exact (Kd.V_reads' HO_527001.out).2.1); (try clear A59); rintro e w68 ⟨rfl, hb⟩; refine ⟨_, rfl, ?_⟩; have n0_ := Aside0.mk (Kd.V_below (gV HO_512001.out) hb); have n1_ := Aside0.mk (Kd.V_below (gV HO_513001.out) hb); have n2_ := Aside0.mk (Kd.V_below (gV HO_527001.out) hb); have n3_ := Aside0.mk (Kd.V_below (gV HO_528001.out) hb); have n4_ := Aside0.mk (blk_below (gK BK511.out) hb); have n5_ := Aside0.mk (blk_below (gK BK512.out) hb); have n6_ := Aside0.mk (blk_below (gK BK526.out) hb); have n7_ := Aside0.mk (blk_below (gK BK527.out) hb); have n8_ := Aside0.mk (below_step (by repeat (first | (with_reducible first | exact HB.out | apply bA | apply bN | apply bD | refine bS ?_ GE511.out | refine bS ?_ GE512.out | refine bS ?_ GE526.out | refine bS ?_ GE527.out) | exact HB.out)) hb); clear HO_512001; clear HO_513001; clear HO_527001; clear HO_528001; clear BK511; clear BK512; clear BK526; clear BK527; clear HB; have HO_512001 := n0_; have HO_513001 := n1_; have HO_527001 := n2_; have HO_528001 := n3_; have BK511 := n4_; have BK512 := n5_; have BK526 := n6_; have BK527 := n7_; have HB := n8_; clear n0_ n1_ n2_ n3_ n4_ n5_ n6_ n7_ n8_; (try clear hb); (try clear hb2); (try clear hk); (try clear hi)))
       go_ret
       exact ⟨by first | rfl | (simp [errW_none, errW_some] <;> rfl) | (simp [*, errW_none, errW_some] <;> rfl), by repeat (first | (with_reducible first | exact HB.out | apply bA | apply bN | apply bD | refine bS ?_ GE511.out | refine bS ?_ GE512.out | refine bS ?_ GE526.out | refine bS ?_ GE527.out) | exact HB.out)⟩
      ·rw [if_neg c58] at H
       have c58b0 : (t539 == 0) = false := beq_eq_false_iff_ne.mpr c58
       have c58b1 : (t539 != 0) = true := bne_iff_ne.mpr c58
       replace H := Option.bind_eq_some_iff.mp H
       obtain ⟨⟨t541, t542⟩, A690, H⟩ := H
       replace H : ((num_Abs.f kj7 a1_0 l1_1).bind fun bt545 => ((num_Cmp.f kj7 t541 t542 bt545.1 bt545.2).bind fun t549 => (if t549 < 0 then ((num_Sign.f kj7 t522 t523).bind fun t550 => (if t550 = 0 then (some true) else ((num_Sign.f kj7 t522 t523).bind fun t551 => ((num_Sign.f kj7 a1_0 l1_1).bind fun t552 => (some (t551 == t552)))))) else (some false)))) = some r := H
       have A69 := Aside0.mk A690
       clear A690
       replace H := Option.bind_eq_some_iff.mp H
       obtain ⟨⟨t545, t546⟩, A700, H⟩ := H
       replace H : ((num_Cmp.f kj7 t541 t542 t545 t546).bind fun t549 => (if t549 < 0 then ((num_Sign.f kj7 t522 t523).bind fun t550 => (if t550 = 0 then (some true) else ((num_Sign.f kj7 t522 t523).bind fun t551 => ((num_Sign.f kj7 a1_0 l1_1).bind fun t552 => (some (t551 == t552)))))) else (some false))) = some r := H
       have A70 := Aside0.mk A700
       clear A700
       replace H := Option.bind_eq_some_iff.mp H
       obtain ⟨t549, A710, H⟩ := H
       replace H : (if t549 < 0 then ((num_Sign.f kj7 t522 t523).bind fun t550 => (if t550 = 0 then (some true) else ((num_Sign.f kj7 t522 t523).bind fun t551 => ((num_Sign.f kj7 a1_0 l1_1).bind fun t552 => (some (t551 == t552)))))) else (some false)) = some r := H
       have A71 := Aside0.mk A710
       clear A710
       by_cases c72 : t549 < 0
       ·rw [if_pos c72] at H
        have c72b0 : decide (t549 < 0) = true := decide_eq_true c72
        clear c72
        replace H := Option.bind_eq_some_iff.mp H
        obtain ⟨t550, A730, H⟩ := H
        replace H : (if t550 = 0 then (some true) else ((num_Sign.f kj7 t522 t523).bind fun t551 => ((num_Sign.f kj7 a1_0 l1_1).bind fun t552 => (some (t551 == t552))))) = some r := H
        have A73 := Aside0.mk A730
        clear A730
        by_cases c74 : t550 = 0
        ·rw [if_pos c74] at H
         have c74b0 : (t550 == 0) = true := beq_iff_eq.mpr c74
         have c74b1 : (t550 != 0) = false := bne_eq_false_iff_eq.mpr c74
         clear c74
         obtain rfl := Option.some.inj H
         have hnb75 := NB512_511.out
         have hnc75 := NB511_512.out
         have hnb76 := NB512_526.out
         have hnc76 := NB526_512.out
         have hnb77 := NB512_527.out
         have hnc77 := NB527_512.out
         have hcz78_0 : wc.cell? ⟨gb512, 0, none⟩ = some (.bool a1_0) := (blk_cell BK512.out 0).trans rfl
         have hcz78_1 : wc.cell? ⟨gb512, 1, none⟩ = some (.slice A1_1 l1_1.length c1_1) := (blk_cell BK512.out 1).trans rfl
         have hfz78_0 := blk_frozen BK512.out 0
         have hfz78_1 := blk_frozen BK512.out 1
         try go_wp2_with (first | ((with_reducible refine gate_callee (f := 15) rfl ?_); refine goesL_ (some 39) rfl rfl Try.func15 (by kernel_rfl) rfl #[.agg #[.bool a1_0, .slice A1_1 l1_1.length c1_1]] rfl (by (try simp only [List.map_toArray, List.map_cons, List.map_nil]); first | done | rfl | (simp only [List.length_drop, List.length_take]; rfl)) ?_; (with_reducible refine (num_Sign.calls kj7 a1_0 _ _ l1_1 t539 _ ?side1 ?side2 A57.out).mono ?_); (case side1 => repeat (first | exact (Kd.V_reads' HO_513001.out).2.2 | (with_reducible refine Kd.C_alloc ?_ _) | (with_reducible refine Kd.C_drewN ?_ _) | (with_reducible refine Kd.C_drew ?_))); (case side2 => exact (Kd.V_reads' HO_513001.out).2.1); (try clear A57); rintro e w79 ⟨rfl, hb⟩; refine ⟨_, rfl, ?_⟩; have n0_ := Aside0.mk (Kd.V_below (gV HO_512001.out) hb); have n1_ := Aside0.mk (Kd.V_below (gV HO_513001.out) hb); have n2_ := Aside0.mk (Kd.V_below (gV HO_527001.out) hb); have n3_ := Aside0.mk (Kd.V_below (gV HO_528001.out) hb); have n4_ := Aside0.mk (blk_below (gK BK511.out) hb); have n5_ := Aside0.mk (blk_below (gK BK512.out) hb); have n6_ := Aside0.mk (blk_below (gK BK526.out) hb); have n7_ := Aside0.mk (blk_below (gK BK527.out) hb); have n8_ := Aside0.mk (below_step (by repeat (first | (with_reducible first | exact HB.out | apply bA | apply bN | apply bD | refine bS ?_ GE511.out | refine bS ?_ GE512.out | refine bS ?_ GE526.out | refine bS ?_ GE527.out) | exact HB.out)) hb); clear HO_512001; clear HO_513001; clear HO_527001; clear HO_528001; clear BK511; clear BK512; clear BK526; clear BK527; clear HB; have HO_512001 := n0_; have HO_513001 := n1_; have HO_527001 := n2_; have HO_528001 := n3_; have BK511 := n4_; have BK512 := n5_; have BK526 := n6_; have BK527 := n7_; have HB := n8_; clear n0_ n1_ n2_ n3_ n4_ n5_ n6_ n7_ n8_; (try clear hb); (try clear hb2); (try clear hk); (try clear hi)))
         have n0_ := Aside0.mk (Kd.V_drew HO_512001.out)
         have n1_ := Aside0.mk (Kd.V_drew HO_513001.out)
         have n2_ := Aside0.mk (Kd.V_drew HO_527001.out)
         have n3_ := Aside0.mk (Kd.V_drew HO_528001.out)
         have n4_ := Aside0.mk (blk_drew BK511.out)
         have n5_ := Aside0.mk (blk_drew BK512.out)
         have n6_ := Aside0.mk (blk_drew BK526.out)
         have n7_ := Aside0.mk (blk_drew BK527.out)
         have n8_ := Aside0.mk (bD HB.out)
         clear HO_512001
         clear HO_513001
         clear HO_527001
         clear HO_528001
         clear BK511
         clear BK512
         clear BK526
         clear BK527
         clear HB
         have HO_512001 := n0_
         have HO_513001 := n1_
         have HO_527001 := n2_
         have HO_528001 := n3_
         have BK511 := n4_
         have BK512 := n5_
         have BK526 := n6_
         have BK527 := n7_
         have HB := n8_
         clear n0_ n1_ n2_ n3_ n4_ n5_ n6_ n7_ n8_
         refine start_ (n := 19) (S := fun w' => w'.cell? ⟨gb527, 0, none⟩ = some (.bool t522) ∧ w'.cell? ⟨gb527, 1, none⟩ = some (.slice Ao32 t523.length co32) ∧ w'.cell? ⟨gb512, 0, none⟩ = some (.bool a1_0) ∧ w'.cell? ⟨gb512, 1, none⟩ = some (.slice A1_1 l1_1.length c1_1)) (ds := []) #[false, false, false, false, false, false, false, false, false, false, false, false, false, false, false, false, false, false, false] (by kernel_rfl) rfl rfl ⟨(blk_cell BK527.out 0).trans rfl, (blk_cell BK527.out 1).trans rfl, (blk_cell BK512.out 0).trans rfl, (blk_cell BK512.out 1).trans rfl⟩ (fun hHeld => ?_); refine with_tabW isohyetlaw02_NumDivs.tab10 isohyetlaw02_NumDivs.bits10 (fun HT_ HW_ => ?_)
         generalize w79.drew = w80 at HO_512001 HO_513001 HO_527001 HO_528001 BK511 BK512 BK526 BK527 HB hHeld ⊢
         refine take_ (i := 0) (N := some 44) (v := ?_) (a' := ?_) #[true, false, false, false, false, false, false, false, false, false, false, false, false, false, false, false, false, false, false] rfl rfl (take_ofW HT_.out HW_.out (by kernel_rfl)) (fun _ _ _ h => h) (Or.inl ⟨by rfl, ?_⟩) hHeld ?_ ?_
         rotate_left
         ·rintro w' ⟨s0, s1, s2, s3⟩
          go_simp
          with_reducible rfl
         rotate_left
         ·simp only [Act.put, List.setIfInBounds_toArray, List.set_cons_zero, List.set_cons_succ, i64_w, i32_w]
          rfl
         refine take_ (i := 2) (N := some 46) (v := ?_) (a' := ?_) #[true, false, true, false, false, false, false, false, false, false, false, false, false, false, false, false, false, false, false] rfl rfl (take_ofW HT_.out HW_.out (by kernel_rfl)) (fun _ _ _ h => h) (Or.inl ⟨by rfl, ?_⟩) hHeld ?_ ?_
         rotate_left
         ·rintro w' ⟨s0, s1, s2, s3⟩
          go_simp
          with_reducible rfl
         rotate_left
         ·simp only [Act.put, List.setIfInBounds_toArray, List.set_cons_zero, List.set_cons_succ, i64_w, i32_w]
          rfl
         refine one_ (i := 1) (N := some 45) #[true, true, true, false, false, false, false, false, false, false, false, false, false, false, false, false, false, false, false] rfl rfl (one_of HT_.out (by kernel_rfl)) (by decide) (fun K hK => ?_)
         refine goes_ Try.func21 (by kernel_rfl) rfl #[.agg #[.bool t522, .slice Ao32 t523.length co32]] (by rfl) rfl rfl (by (try simp only [List.map_toArray, List.map_cons, List.map_nil]); first | done | rfl | (simp only [List.length_drop, List.length_take]; rfl)) ?_
         with_reducible refine (num_Abs.calls kj7 t522 (fun k_ => (((P0_1_ k_ ∨ P1_1_ k_) ∨ w.heap.size ≤ k_) ∧ (k_ ≠ gb511 ∧ (k_ ≠ gb512 ∧ (k_ ≠ gb526 ∧ k_ ≠ gb527))))) _ _ t523 t541 t542 _ ?side1 A69.out).mono ?_
         (case side1 => exact HO_528001.out)
         rintro e w81 ⟨v543, rfl, ho0, hb⟩
         refine ⟨_, rfl, ?_⟩
         have n0_ := Aside0.mk (Kd.V_below (gV HO_512001.out) hb)
         have n1_ := Aside0.mk (Kd.V_below (gV HO_513001.out) hb)
         have n2_ := Aside0.mk (Kd.V_below (gV HO_527001.out) hb)
         have n3_ := Aside0.mk (Kd.V_below (gV HO_528001.out) hb)
         have n4_ := Aside0.mk (Kd.V_lower (Kd.V_mono (ok' := fun k_ => ((P0_1_ k_ ∨ P1_1_ k_) ∨ w.heap.size ≤ k_) ∧ k_ ≠ gb511 ∧ k_ ≠ gb512 ∧ k_ ≠ gb526 ∧ k_ ≠ gb527) ho0 (fun k_ hk_ => ⟨Or.elim hk_ (fun hs_ => hs_.1) (fun hn_ => (.inr (Nat.le_trans (below_size (by repeat (first | (with_reducible first | exact HB.out | apply bA | apply bN | apply bD | refine bS ?_ GE511.out | refine bS ?_ GE512.out | refine bS ?_ GE526.out | refine bS ?_ GE527.out) | exact HB.out))) hn_))), Or.elim hk_ (fun hs_ => hs_.2.1) (fun hn_ => (Kd.freshB (g := gb511) (o := .cells #[.bool a0_0, .slice A0_1 l0_1.length c0_1] 25 (0, 0)) (gK BK511.out) k_ hn_)), Or.elim hk_ (fun hs_ => hs_.2.2.1) (fun hn_ => (Kd.freshB (g := gb512) (o := .cells #[.bool a1_0, .slice A1_1 l1_1.length c1_1] 25 (0, 0)) (gK BK512.out) k_ hn_)), Or.elim hk_ (fun hs_ => hs_.2.2.2.1) (fun hn_ => (Kd.freshB (g := gb526) (o := .cells #[.bool t518, .slice Ao28 t519.length co28] 25 (0, 0)) (gK BK526.out) k_ hn_)), Or.elim hk_ (fun hs_ => hs_.2.2.2.2) (fun hn_ => (Kd.freshB (g := gb527) (o := .cells #[.bool t522, .slice Ao32 t523.length co32] 25 (0, 0)) (gK BK527.out) k_ hn_))⟩)) (below_size (by repeat (first | (with_reducible first | exact HB.out | apply bA | apply bN | apply bD | refine bS ?_ GE511.out | refine bS ?_ GE512.out | refine bS ?_ GE526.out | refine bS ?_ GE527.out) | exact HB.out))))
         have n5_ := Aside0.mk (blk_below (gK BK511.out) hb)
         have n6_ := Aside0.mk (blk_below (gK BK512.out) hb)
         have n7_ := Aside0.mk (blk_below (gK BK526.out) hb)
         have n8_ := Aside0.mk (blk_below (gK BK527.out) hb)
         have n9_ := Aside0.mk (below_step (by repeat (first | (with_reducible first | exact HB.out | apply bA | apply bN | apply bD | refine bS ?_ GE511.out | refine bS ?_ GE512.out | refine bS ?_ GE526.out | refine bS ?_ GE527.out) | exact HB.out)) hb)
         clear HO_512001
         clear HO_513001
         clear HO_527001
         clear HO_528001
         clear BK511
         clear BK512
         clear BK526
         clear BK527
         clear HB
         have HO_512001 := n0_
         have HO_513001 := n1_
         have HO_527001 := n2_
         have HO_528001 := n3_
         have HO544 := n4_
         have BK511 := n5_
         have BK512 := n6_
         have BK526 := n7_
         have BK527 := n8_
         have HB := n9_
         clear n0_ n1_ n2_ n3_ n4_ n5_ n6_ n7_ n8_ n9_
         (try clear hb)
         (try clear hb2)
         (try clear hk)
         (try clear hi)
         (try clear ho0)
         refine hK.out _ _ ⟨(blk_cell BK527.out 0).trans rfl, (blk_cell BK527.out 1).trans rfl, (blk_cell BK512.out 0).trans rfl, (blk_cell BK512.out 1).trans rfl⟩ (fun hHeld => ?_)
         clear hK K
         refine norm_ (a' := ?_) ?_ ?_
         rotate_left
         ·show Act.put _ (some 45) _ = _
          simp only [Act.put, List.setIfInBounds_toArray, List.set_cons_zero, List.set_cons_succ, i64_w, i32_w]
          rfl
         refine one_ (i := 3) (N := some 47) #[true, true, true, true, false, false, false, false, false, false, false, false, false, false, false, false, false, false, false] rfl rfl (one_of HT_.out (by kernel_rfl)) (by decide) (fun K hK => ?_)
         refine goes_ Try.func21 (by kernel_rfl) rfl #[.agg #[.bool a1_0, .slice A1_1 l1_1.length c1_1]] (by rfl) rfl rfl (by (try simp only [List.map_toArray, List.map_cons, List.map_nil]); first | done | rfl | (simp only [List.length_drop, List.length_take]; rfl)) ?_
         with_reducible refine (num_Abs.calls kj7 a1_0 (fun k_ => (((P0_1_ k_ ∨ P1_1_ k_) ∨ w.heap.size ≤ k_) ∧ (k_ ≠ gb511 ∧ (k_ ≠ gb512 ∧ (k_ ≠ gb526 ∧ k_ ≠ gb527))))) _ _ l1_1 t545 t546 _ ?side1 A70.out).mono ?_
         (case side1 => exact HO_513001.out)
         rintro e w82 ⟨v547, rfl, ho0, hb⟩
         refine ⟨_, rfl, ?_⟩
         have n0_ := Aside0.mk (Kd.V_below (gV HO_512001.out) hb)
         have n1_ := Aside0.mk (Kd.V_below (gV HO_513001.out) hb)
         have n2_ := Aside0.mk (Kd.V_below (gV HO_527001.out) hb)
         have n3_ := Aside0.mk (Kd.V_below (gV HO_528001.out) hb)
         have n4_ := Aside0.mk (Kd.V_below (gV HO544.out) hb)
         have n5_ := Aside0.mk (Kd.V_lower (Kd.V_mono (ok' := fun k_ => ((P0_1_ k_ ∨ P1_1_ k_) ∨ w.heap.size ≤ k_) ∧ k_ ≠ gb511 ∧ k_ ≠ gb512 ∧ k_ ≠ gb526 ∧ k_ ≠ gb527) ho0 (fun k_ hk_ => ⟨Or.elim hk_ (fun hs_ => hs_.1) (fun hn_ => (.inr (Nat.le_trans (below_size (by repeat (first | (with_reducible first | exact HB.out | apply bA | apply bN | apply bD | refine bS ?_ GE511.out | refine bS ?_ GE512.out | refine bS ?_ GE526.out | refine bS ?_ GE527.out) | exact HB.out))) hn_))), Or.elim hk_ (fun hs_ => hs_.2.1) (fun hn_ => (Kd.freshB (g := gb511) (o := .cells #[.bool a0_0, .slice A0_1 l0_1.length c0_1] 25 (0, 0)) (gK BK511.out) k_ hn_)), Or.elim hk_ (fun hs_ => hs_.2.2.1) (fun hn_ => (Kd.freshB (g := gb512) (o := .cells #[.bool a1_0, .slice A1_1 l1_1.length c1_1] 25 (0, 0)) (gK BK512.out) k_ hn_)), Or.elim hk_ (fun hs_ => hs_.2.2.2.1) (fun hn_ => (Kd.freshB (g := gb526) (o := .cells #[.bool t518, .slice Ao28 t519.length co28] 25 (0, 0)) (gK BK526.out) k_ hn_)), Or.elim hk_ (fun hs_ => hs_.2.2.2.2) (fun hn_ => (Kd.freshB (g := gb527) (o := .cells #[.bool t522, .slice Ao32 t523.length co32] 25 (0, 0)) (gK BK527.out) k_ hn_))⟩)) (below_size (by repeat (first | (with_reducible first | exact HB.out | apply bA | apply bN | apply bD | refine bS ?_ GE511.out | refine bS ?_ GE512.out | refine bS ?_ GE526.out | refine bS ?_ GE527.out) | exact HB.out))))
         have n6_ := Aside0.mk (blk_below (gK BK511.out) hb)
         have n7_ := Aside0.mk (blk_below (gK BK512.out) hb)
         have n8_ := Aside0.mk (blk_below (gK BK526.out) hb)
         have n9_ := Aside0.mk (blk_below (gK BK527.out) hb)
         have n10_ := Aside0.mk (below_step (by repeat (first | (with_reducible first | exact HB.out | apply bA | apply bN | apply bD | refine bS ?_ GE511.out | refine bS ?_ GE512.out | refine bS ?_ GE526.out | refine bS ?_ GE527.out) | exact HB.out)) hb)
         clear HO_512001
         clear HO_513001
         clear HO_527001
         clear HO_528001
         clear HO544
         clear BK511
         clear BK512
         clear BK526
         clear BK527
         clear HB
         have HO_512001 := n0_
         have HO_513001 := n1_
         have HO_527001 := n2_
         have HO_528001 := n3_
         have HO544 := n4_
         have HO548 := n5_
         have BK511 := n6_
         have BK512 := n7_
         have BK526 := n8_
         have BK527 := n9_
         have HB := n10_
         clear n0_ n1_ n2_ n3_ n4_ n5_ n6_ n7_ n8_ n9_ n10_
         (try clear hb)
         (try clear hb2)
         (try clear hk)
         (try clear hi)
         (try clear ho0)
         obtain ⟨Ao83, co83, eo83⟩ := Kd.V_slice HO544.out
         (first | subst eo83 | (injection eo83 with f1_ f2_ f3_; have f4_ := f1_.symm; have f5_ := f3_.symm; clear f1_ f2_ f3_; subst f4_; subst f5_))
         obtain ⟨Ao84, co84, eo84⟩ := Kd.V_slice HO548.out
         (first | subst eo84 | (injection eo84 with f1_ f2_ f3_; have f4_ := f1_.symm; have f5_ := f3_.symm; clear f1_ f2_ f3_; subst f4_; subst f5_))
         refine hK.out _ _ ⟨(blk_cell BK527.out 0).trans rfl, (blk_cell BK527.out 1).trans rfl, (blk_cell BK512.out 0).trans rfl, (blk_cell BK512.out 1).trans rfl⟩ (fun hHeld => ?_)
         clear hK K
         refine norm_ (a' := ?_) ?_ ?_
         rotate_left
         ·show Act.put _ (some 47) _ = _
          simp only [Act.put, List.setIfInBounds_toArray, List.set_cons_zero, List.set_cons_succ, i64_w, i32_w]
          rfl
         refine one_ (i := 4) (N := some 48) #[true, true, true, true, true, false, false, false, false, false, false, false, false, false, false, false, false, false, false] rfl rfl (one_of HT_.out (by kernel_rfl)) (by decide) (fun K hK => ?_)
         refine goes_ Try.func14 (by kernel_rfl) rfl #[.agg #[.bool t541, .slice Ao83 t542.length co83], .agg #[.bool t545, .slice Ao84 t546.length co84]] (by rfl) rfl rfl (by (try simp only [List.map_toArray, List.map_cons, List.map_nil]); first | done | rfl | (simp only [List.length_drop, List.length_take]; rfl)) ?_
         with_reducible refine (num_Cmp.calls kj7 t541 _ _ t542 t545 _ _ t546 t549 _ ?side1 ?side2 ?side3 ?side4 A71.out).mono ?_
         (case side1 => repeat (first | exact (Kd.V_reads' HO544.out).2.2 | (with_reducible refine Kd.C_alloc ?_ _) | (with_reducible refine Kd.C_drewN ?_ _) | (with_reducible refine Kd.C_drew ?_)))
         (case side2 => exact (Kd.V_reads' HO544.out).2.1)
         (case side3 => repeat (first | exact (Kd.V_reads' HO548.out).2.2 | (with_reducible refine Kd.C_alloc ?_ _) | (with_reducible refine Kd.C_drewN ?_ _) | (with_reducible refine Kd.C_drew ?_)))
         (case side4 => exact (Kd.V_reads' HO548.out).2.1)
         rintro e w85 ⟨rfl, hb⟩
         refine ⟨_, rfl, ?_⟩
         have n0_ := Aside0.mk (Kd.V_below (gV HO_512001.out) hb)
         have n1_ := Aside0.mk (Kd.V_below (gV HO_513001.out) hb)
         have n2_ := Aside0.mk (Kd.V_below (gV HO_527001.out) hb)
         have n3_ := Aside0.mk (Kd.V_below (gV HO_528001.out) hb)
         have n4_ := Aside0.mk (Kd.V_below (gV HO544.out) hb)
         have n5_ := Aside0.mk (Kd.V_below (gV HO548.out) hb)
         have n6_ := Aside0.mk (blk_below (gK BK511.out) hb)
         have n7_ := Aside0.mk (blk_below (gK BK512.out) hb)
         have n8_ := Aside0.mk (blk_below (gK BK526.out) hb)
         have n9_ := Aside0.mk (blk_below (gK BK527.out) hb)
         have n10_ := Aside0.mk (below_step (by repeat (first | (with_reducible first | exact HB.out | apply bA | apply bN | apply bD | refine bS ?_ GE511.out | refine bS ?_ GE512.out | refine bS ?_ GE526.out | refine bS ?_ GE527.out) | exact HB.out)) hb)
         clear HO_512001
         clear HO_513001
         clear HO_527001
         clear HO_528001
         clear HO544
         clear HO548
         clear BK511
         clear BK512
         clear BK526
         clear BK527
         clear HB
         have HO_512001 := n0_
         have HO_513001 := n1_
         have HO_527001 := n2_
         have HO_528001 := n3_
         have HO544 := n4_
         have HO548 := n5_
         have BK511 := n6_
         have BK512 := n7_
         have BK526 := n8_
         have BK527 := n9_
         have HB := n10_
         clear n0_ n1_ n2_ n3_ n4_ n5_ n6_ n7_ n8_ n9_ n10_
         (try clear hb)
         (try clear hb2)
         (try clear hk)
         (try clear hi)
         refine hK.out _ _ ⟨(blk_cell BK527.out 0).trans rfl, (blk_cell BK527.out 1).trans rfl, (blk_cell BK512.out 0).trans rfl, (blk_cell BK512.out 1).trans rfl⟩ (fun hHeld => ?_)
         clear hK K
         refine norm_ (a' := ?_) ?_ ?_
         rotate_left
         ·show Act.put _ (some 48) _ = _
          simp only [Act.put, List.setIfInBounds_toArray, List.set_cons_zero, List.set_cons_succ, i64_w, i32_w]
          rfl
         refine pure_ (i := 5) (N := some 49) (v := ?_) (a' := ?_) #[true, true, true, true, true, true, false, false, false, false, false, false, false, false, false, false, false, false, false] rfl rfl (any_of HT_.out (by kernel_rfl)) (fun _ _ _ h => h) (Or.inl ⟨by rfl, ?_⟩) ?_ ?_
         rotate_left
         ·intro w'
          go_simp
          with_reducible rfl
         rotate_left
         ·simp only [Act.put, List.setIfInBounds_toArray, List.set_cons_zero, List.set_cons_succ, i64_w, i32_w]
          rfl
         refine pure_ (i := 6) (N := some 50) (v := ?_) (a' := ?_) #[true, true, true, true, true, true, true, false, false, false, false, false, false, false, false, false, false, false, false] rfl rfl (any_of HT_.out (by kernel_rfl)) (fun _ _ _ h => h) (Or.inl ⟨by rfl, ?_⟩) ?_ ?_
         rotate_left
         ·intro w'
          go_simp
          with_reducible rfl
         rotate_left
         ·simp only [Act.put, List.setIfInBounds_toArray, List.set_cons_zero, List.set_cons_succ, i64_w, i32_w]
          rfl
         refine take_ (i := 7) (N := some 51) (v := ?_) (a' := ?_) #[true, true, true, true, true, true, true, true, false, false, false, false, false, false, false, false, false, false, false] rfl rfl (take_ofW HT_.out HW_.out (by kernel_rfl)) (fun _ _ _ h => h) (Or.inl ⟨by rfl, ?_⟩) hHeld ?_ ?_
         rotate_left
         ·rintro w' ⟨s0, s1, s2, s3⟩
          go_simp
          with_reducible rfl
         rotate_left
         ·simp only [Act.put, List.setIfInBounds_toArray, List.set_cons_zero, List.set_cons_succ, i64_w, i32_w]
          rfl
         refine one_ (i := 8) (N := some 52) #[true, true, true, true, true, true, true, true, true, false, false, false, false, false, false, false, false, false, false] rfl rfl (one_of HT_.out (by kernel_rfl)) (by decide) (fun K hK => ?_)
         refine goes_ Try.func15 (by kernel_rfl) rfl #[.agg #[.bool t522, .slice Ao32 t523.length co32]] (by rfl) rfl rfl (by (try simp only [List.map_toArray, List.map_cons, List.map_nil]); first | done | rfl | (simp only [List.length_drop, List.length_take]; rfl)) ?_
         with_reducible refine (num_Sign.calls kj7 t522 _ _ t523 t550 _ ?side1 ?side2 A73.out).mono ?_
         (case side1 => repeat (first | exact (Kd.V_reads' HO_528001.out).2.2 | (with_reducible refine Kd.C_alloc ?_ _) | (with_reducible refine Kd.C_drewN ?_ _) | (with_reducible refine Kd.C_drew ?_)))
         (case side2 => exact (Kd.V_reads' HO_528001.out).2.1)
         rintro e w86 ⟨rfl, hb⟩
         refine ⟨_, rfl, ?_⟩
         have n0_ := Aside0.mk (Kd.V_below (gV HO_512001.out) hb)
         have n1_ := Aside0.mk (Kd.V_below (gV HO_513001.out) hb)
         have n2_ := Aside0.mk (Kd.V_below (gV HO_527001.out) hb)
         have n3_ := Aside0.mk (Kd.V_below (gV HO_528001.out) hb)
         have n4_ := Aside0.mk (Kd.V_below (gV HO544.out) hb)
         have n5_ := Aside0.mk (Kd.V_below (gV HO548.out) hb)
         have n6_ := Aside0.mk (blk_below (gK BK511.out) hb)
         have n7_ := Aside0.mk (blk_below (gK BK512.out) hb)
         have n8_ := Aside0.mk (blk_below (gK BK526.out) hb)
         have n9_ := Aside0.mk (blk_below (gK BK527.out) hb)
         have n10_ := Aside0.mk (below_step (by repeat (first | (with_reducible first | exact HB.out | apply bA | apply bN | apply bD | refine bS ?_ GE511.out | refine bS ?_ GE512.out | refine bS ?_ GE526.out | refine bS ?_ GE527.out) | exact HB.out)) hb)
         clear HO_512001
         clear HO_513001
         clear HO_527001
         clear HO_528001
         clear HO544
         clear HO548
         clear BK511
         clear BK512
         clear BK526
         clear BK527
         clear HB
         have HO_512001 := n0_
         have HO_513001 := n1_
         have HO_527001 := n2_
         have HO_528001 := n3_
         have HO544 := n4_
         have HO548 := n5_
         have BK511 := n6_
         have BK512 := n7_
         have BK526 := n8_
         have BK527 := n9_
         have HB := n10_
         clear n0_ n1_ n2_ n3_ n4_ n5_ n6_ n7_ n8_ n9_ n10_
         (try clear hb)
         (try clear hb2)
         (try clear hk)
         (try clear hi)
         refine hK.out _ _ ⟨(blk_cell BK527.out 0).trans rfl, (blk_cell BK527.out 1).trans rfl, (blk_cell BK512.out 0).trans rfl, (blk_cell BK512.out 1).trans rfl⟩ (fun hHeld => ?_)
         clear hK K
         refine norm_ (a' := ?_) ?_ ?_
         rotate_left
         ·show Act.put _ (some 52) _ = _
          simp only [Act.put, List.setIfInBounds_toArray, List.set_cons_zero, List.set_cons_succ, i64_w, i32_w]
          rfl
         refine pure_ (i := 9) (N := some 53) (v := ?_) (a' := ?_) #[true, true, true, true, true, true, true, true, true, true, false, false, false, false, false, false, false, false, false] rfl rfl (any_of HT_.out (by kernel_rfl)) (fun _ _ _ h => h) (Or.inl ⟨by rfl, ?_⟩) ?_ ?_
         rotate_left
         ·intro w'
          go_simp
          with_reducible rfl
         rotate_left
         ·simp only [Act.put, List.setIfInBounds_toArray, List.set_cons_zero, List.set_cons_succ, i64_w, i32_w]
          rfl
         refine pure_ (i := 10) (N := some 54) (v := ?_) (a' := ?_) #[true, true, true, true, true, true, true, true, true, true, true, false, false, false, false, false, false, false, false] rfl rfl (any_of HT_.out (by kernel_rfl)) (fun _ _ _ h => h) (Or.inl ⟨by rfl, ?_⟩) ?_ ?_
         rotate_left
         ·intro w'
          go_simp
          with_reducible rfl
         rotate_left
         ·simp only [Act.put, List.setIfInBounds_toArray, List.set_cons_zero, List.set_cons_succ, i64_w, i32_w]
          rfl
         refine pure_ (i := 11) (N := some 55) (v := undef) (a' := ?_) #[true, true, true, true, true, true, true, true, true, true, true, true, false, false, false, false, false, false, false] rfl rfl (any_of HT_.out (by kernel_rfl)) (fun _ _ _ h => h) (Or.inr ⟨by rfl, rfl⟩) ?_ ?_
         rotate_left
         ·simp only [Act.put, List.setIfInBounds_toArray, List.set_cons_zero, List.set_cons_succ, i64_w, i32_w]
          rfl
         refine pure_ (i := 12) (N := some 56) (v := undef) (a' := ?_) #[true, true, true, true, true, true, true, true, true, true, true, true, true, false, false, false, false, false, false] rfl rfl (any_of HT_.out (by kernel_rfl)) (fun _ _ _ h => h) (Or.inr ⟨by rfl, rfl⟩) ?_ ?_
         rotate_left
         ·simp only [Act.put, List.setIfInBounds_toArray, List.set_cons_zero, List.set_cons_succ, i64_w, i32_w]
          rfl
         refine pure_ (i := 13) (N := some 57) (v := undef) (a' := ?_) #[true, true, true, true, true, true, true, true, true, true, true, true, true, true, false, false, false, false, false] rfl rfl (any_of HT_.out (by kernel_rfl)) (fun _ _ _ h => h) (Or.inr ⟨by rfl, rfl⟩) ?_ ?_
         rotate_left
         ·simp only [Act.put, List.setIfInBounds_toArray, List.set_cons_zero, List.set_cons_succ, i64_w, i32_w]
          rfl
         refine pure_ (i := 14) (N := some 58) (v := undef) (a' := ?_) #[true, true, true, true, true, true, true, true, true, true, true, true, true, true, true, false, false, false, false] rfl rfl (any_of HT_.out (by kernel_rfl)) (fun _ _ _ h => h) (Or.inr ⟨by rfl, rfl⟩) ?_ ?_
         rotate_left
         ·simp only [Act.put, List.setIfInBounds_toArray, List.set_cons_zero, List.set_cons_succ, i64_w, i32_w]
          rfl
         refine pure_ (i := 15) (N := some 59) (v := undef) (a' := ?_) #[true, true, true, true, true, true, true, true, true, true, true, true, true, true, true, true, false, false, false] rfl rfl (any_of HT_.out (by kernel_rfl)) (fun _ _ _ h => h) (Or.inr ⟨by rfl, rfl⟩) ?_ ?_
         rotate_left
         ·simp only [Act.put, List.setIfInBounds_toArray, List.set_cons_zero, List.set_cons_succ, i64_w, i32_w]
          rfl
         refine pure_ (i := 16) (N := some 60) (v := ?_) (a' := ?_) #[true, true, true, true, true, true, true, true, true, true, true, true, true, true, true, true, true, false, false] rfl rfl (any_of HT_.out (by kernel_rfl)) (fun _ _ _ h => h) (Or.inl ⟨by rfl, ?_⟩) ?_ ?_
         rotate_left
         ·intro w'
          go_simp
          with_reducible rfl
         rotate_left
         ·simp only [Act.put, List.setIfInBounds_toArray, List.set_cons_zero, List.set_cons_succ, i64_w, i32_w]
          rfl
         refine pure_ (i := 17) (N := some 61) (v := ?_) (a' := ?_) #[true, true, true, true, true, true, true, true, true, true, true, true, true, true, true, true, true, true, false] rfl rfl (any_of HT_.out (by kernel_rfl)) (fun _ _ _ h => h) (Or.inl ⟨by rfl, ?_⟩) ?_ ?_
         rotate_left
         ·intro w'
          go_simp
          with_reducible rfl
         rotate_left
         ·simp only [Act.put, List.setIfInBounds_toArray, List.set_cons_zero, List.set_cons_succ, i64_w, i32_w]
          rfl
         refine pure_ (i := 18) (N := some 4) (v := ?_) (a' := ?_) #[true, true, true, true, true, true, true, true, true, true, true, true, true, true, true, true, true, true, true] rfl rfl (any_of HT_.out (by kernel_rfl)) (fun _ _ _ h => h) (Or.inl ⟨by rfl, ?_⟩) ?_ ?_
         rotate_left
         ·intro w'
          go_simp
          with_reducible rfl
         rotate_left
         ·simp only [Act.put, List.setIfInBounds_toArray, List.set_cons_zero, List.set_cons_succ, i64_w, i32_w]
          rfl
         refine done_ (done_of HT_.out (by kernel_rfl)) ?_
         try go_wp2
         go_ret
         exact ⟨by first | rfl | (simp [errW_none, errW_some] <;> rfl) | (simp [*, errW_none, errW_some] <;> rfl), by repeat (first | (with_reducible first | exact HB.out | apply bA | apply bN | apply bD | refine bS ?_ GE511.out | refine bS ?_ GE512.out | refine bS ?_ GE526.out | refine bS ?_ GE527.out) | exact HB.out)⟩
        ·rw [if_neg c74] at H
         have c74b0 : (t550 == 0) = false := beq_eq_false_iff_ne.mpr c74
         have c74b1 : (t550 != 0) = true := bne_iff_ne.mpr c74
         replace H := Option.bind_eq_some_iff.mp H
         obtain ⟨t551, A870, H⟩ := H
         replace H : ((num_Sign.f kj7 a1_0 l1_1).bind fun t552 => (some (t551 == t552))) = some r := H
         have A87 := Aside0.mk A870
         clear A870
         replace H := Option.bind_eq_some_iff.mp H
         obtain ⟨t552, A880, H⟩ := H
         replace H : (some (t551 == t552)) = some r := H
         have A88 := Aside0.mk A880
         clear A880
         obtain rfl := Option.some.inj H
         have hnb89 := NB512_511.out
         have hnc89 := NB511_512.out
         have hnb90 := NB512_526.out
         have hnc90 := NB526_512.out
         have hnb91 := NB512_527.out
         have hnc91 := NB527_512.out
         have hcz92_0 : wc.cell? ⟨gb512, 0, none⟩ = some (.bool a1_0) := (blk_cell BK512.out 0).trans rfl
         have hcz92_1 : wc.cell? ⟨gb512, 1, none⟩ = some (.slice A1_1 l1_1.length c1_1) := (blk_cell BK512.out 1).trans rfl
         have hfz92_0 := blk_frozen BK512.out 0
         have hfz92_1 := blk_frozen BK512.out 1
         try go_wp2_with (first | ((with_reducible refine gate_callee (f := 15) rfl ?_); refine goesL_ (some 39) rfl rfl Try.func15 (by kernel_rfl) rfl #[.agg #[.bool a1_0, .slice A1_1 l1_1.length c1_1]] rfl (by (try simp only [List.map_toArray, List.map_cons, List.map_nil]); first | done | rfl | (simp only [List.length_drop, List.length_take]; rfl)) ?_; (with_reducible refine (num_Sign.calls kj7 a1_0 _ _ l1_1 t539 _ ?side1 ?side2 A57.out).mono ?_); (case side1 => repeat (first | exact (Kd.V_reads' HO_513001.out).2.2 | (with_reducible refine Kd.C_alloc ?_ _) | (with_reducible refine Kd.C_drewN ?_ _) | (with_reducible refine Kd.C_drew ?_))); (case side2 => exact (Kd.V_reads' HO_513001.out).2.1); (try clear A57); rintro e w93 ⟨rfl, hb⟩; refine ⟨_, rfl, ?_⟩; have n0_ := Aside0.mk (Kd.V_below (gV HO_512001.out) hb); have n1_ := Aside0.mk (Kd.V_below (gV HO_513001.out) hb); have n2_ := Aside0.mk (Kd.V_below (gV HO_527001.out) hb); have n3_ := Aside0.mk (Kd.V_below (gV HO_528001.out) hb); have n4_ := Aside0.mk (blk_below (gK BK511.out) hb); have n5_ := Aside0.mk (blk_below (gK BK512.out) hb); have n6_ := Aside0.mk (blk_below (gK BK526.out) hb); have n7_ := Aside0.mk (blk_below (gK BK527.out) hb); have n8_ := Aside0.mk (below_step (by repeat (first | (with_reducible first | exact HB.out | apply bA | apply bN | apply bD | refine bS ?_ GE511.out | refine bS ?_ GE512.out | refine bS ?_ GE526.out | refine bS ?_ GE527.out) | exact HB.out)) hb); clear HO_512001; clear HO_513001; clear HO_527001; clear HO_528001; clear BK511; clear BK512; clear BK526; clear BK527; clear HB; have HO_512001 := n0_; have HO_513001 := n1_; have HO_527001 := n2_; have HO_528001 := n3_; have BK511 := n4_; have BK512 := n5_; have BK526 := n6_; have BK527 := n7_; have HB := n8_; clear n0_ n1_ n2_ n3_ n4_ n5_ n6_ n7_ n8_; (try clear hb); (try clear hb2); (try clear hk); (try clear hi)))
         have n0_ := Aside0.mk (Kd.V_drew HO_512001.out)
         have n1_ := Aside0.mk (Kd.V_drew HO_513001.out)
         have n2_ := Aside0.mk (Kd.V_drew HO_527001.out)
         have n3_ := Aside0.mk (Kd.V_drew HO_528001.out)
         have n4_ := Aside0.mk (blk_drew BK511.out)
         have n5_ := Aside0.mk (blk_drew BK512.out)
         have n6_ := Aside0.mk (blk_drew BK526.out)
         have n7_ := Aside0.mk (blk_drew BK527.out)
         have n8_ := Aside0.mk (bD HB.out)
         clear HO_512001
         clear HO_513001
         clear HO_527001
         clear HO_528001
         clear BK511
         clear BK512
         clear BK526
         clear BK527
         clear HB
         have HO_512001 := n0_
         have HO_513001 := n1_
         have HO_527001 := n2_
         have HO_528001 := n3_
         have BK511 := n4_
         have BK512 := n5_
         have BK526 := n6_
         have BK527 := n7_
         have HB := n8_
         clear n0_ n1_ n2_ n3_ n4_ n5_ n6_ n7_ n8_
         refine start_ (n := 19) (S := fun w' => w'.cell? ⟨gb527, 0, none⟩ = some (.bool t522) ∧ w'.cell? ⟨gb527, 1, none⟩ = some (.slice Ao32 t523.length co32) ∧ w'.cell? ⟨gb512, 0, none⟩ = some (.bool a1_0) ∧ w'.cell? ⟨gb512, 1, none⟩ = some (.slice A1_1 l1_1.length c1_1)) (ds := []) #[false, false, false, false, false, false, false, false, false, false, false, false, false, false, false, false, false, false, false] (by kernel_rfl) rfl rfl ⟨(blk_cell BK527.out 0).trans rfl, (blk_cell BK527.out 1).trans rfl, (blk_cell BK512.out 0).trans rfl, (blk_cell BK512.out 1).trans rfl⟩ (fun hHeld => ?_); refine with_tabW isohyetlaw02_NumDivs.tab10 isohyetlaw02_NumDivs.bits10 (fun HT_ HW_ => ?_)
         generalize w93.drew = w94 at HO_512001 HO_513001 HO_527001 HO_528001 BK511 BK512 BK526 BK527 HB hHeld ⊢
         refine take_ (i := 0) (N := some 44) (v := ?_) (a' := ?_) #[true, false, false, false, false, false, false, false, false, false, false, false, false, false, false, false, false, false, false] rfl rfl (take_ofW HT_.out HW_.out (by kernel_rfl)) (fun _ _ _ h => h) (Or.inl ⟨by rfl, ?_⟩) hHeld ?_ ?_
         rotate_left
         ·rintro w' ⟨s0, s1, s2, s3⟩
          go_simp
          with_reducible rfl
         rotate_left
         ·simp only [Act.put, List.setIfInBounds_toArray, List.set_cons_zero, List.set_cons_succ, i64_w, i32_w]
          rfl
         refine take_ (i := 2) (N := some 46) (v := ?_) (a' := ?_) #[true, false, true, false, false, false, false, false, false, false, false, false, false, false, false, false, false, false, false] rfl rfl (take_ofW HT_.out HW_.out (by kernel_rfl)) (fun _ _ _ h => h) (Or.inl ⟨by rfl, ?_⟩) hHeld ?_ ?_
         rotate_left
         ·rintro w' ⟨s0, s1, s2, s3⟩
          go_simp
          with_reducible rfl
         rotate_left
         ·simp only [Act.put, List.setIfInBounds_toArray, List.set_cons_zero, List.set_cons_succ, i64_w, i32_w]
          rfl
         refine one_ (i := 1) (N := some 45) #[true, true, true, false, false, false, false, false, false, false, false, false, false, false, false, false, false, false, false] rfl rfl (one_of HT_.out (by kernel_rfl)) (by decide) (fun K hK => ?_)
         refine goes_ Try.func21 (by kernel_rfl) rfl #[.agg #[.bool t522, .slice Ao32 t523.length co32]] (by rfl) rfl rfl (by (try simp only [List.map_toArray, List.map_cons, List.map_nil]); first | done | rfl | (simp only [List.length_drop, List.length_take]; rfl)) ?_
         with_reducible refine (num_Abs.calls kj7 t522 (fun k_ => (((P0_1_ k_ ∨ P1_1_ k_) ∨ w.heap.size ≤ k_) ∧ (k_ ≠ gb511 ∧ (k_ ≠ gb512 ∧ (k_ ≠ gb526 ∧ k_ ≠ gb527))))) _ _ t523 t541 t542 _ ?side1 A69.out).mono ?_
         (case side1 => exact HO_528001.out)
         rintro e w95 ⟨v543, rfl, ho0, hb⟩
         refine ⟨_, rfl, ?_⟩
         have n0_ := Aside0.mk (Kd.V_below (gV HO_512001.out) hb)
         have n1_ := Aside0.mk (Kd.V_below (gV HO_513001.out) hb)
         have n2_ := Aside0.mk (Kd.V_below (gV HO_527001.out) hb)
         have n3_ := Aside0.mk (Kd.V_below (gV HO_528001.out) hb)
         have n4_ := Aside0.mk (Kd.V_lower (Kd.V_mono (ok' := fun k_ => ((P0_1_ k_ ∨ P1_1_ k_) ∨ w.heap.size ≤ k_) ∧ k_ ≠ gb511 ∧ k_ ≠ gb512 ∧ k_ ≠ gb526 ∧ k_ ≠ gb527) ho0 (fun k_ hk_ => ⟨Or.elim hk_ (fun hs_ => hs_.1) (fun hn_ => (.inr (Nat.le_trans (below_size (by repeat (first | (with_reducible first | exact HB.out | apply bA | apply bN | apply bD | refine bS ?_ GE511.out | refine bS ?_ GE512.out | refine bS ?_ GE526.out | refine bS ?_ GE527.out) | exact HB.out))) hn_))), Or.elim hk_ (fun hs_ => hs_.2.1) (fun hn_ => (Kd.freshB (g := gb511) (o := .cells #[.bool a0_0, .slice A0_1 l0_1.length c0_1] 25 (0, 0)) (gK BK511.out) k_ hn_)), Or.elim hk_ (fun hs_ => hs_.2.2.1) (fun hn_ => (Kd.freshB (g := gb512) (o := .cells #[.bool a1_0, .slice A1_1 l1_1.length c1_1] 25 (0, 0)) (gK BK512.out) k_ hn_)), Or.elim hk_ (fun hs_ => hs_.2.2.2.1) (fun hn_ => (Kd.freshB (g := gb526) (o := .cells #[.bool t518, .slice Ao28 t519.length co28] 25 (0, 0)) (gK BK526.out) k_ hn_)), Or.elim hk_ (fun hs_ => hs_.2.2.2.2) (fun hn_ => (Kd.freshB (g := gb527) (o := .cells #[.bool t522, .slice Ao32 t523.length co32] 25 (0, 0)) (gK BK527.out) k_ hn_))⟩)) (below_size (by repeat (first | (with_reducible first | exact HB.out | apply bA | apply bN | apply bD | refine bS ?_ GE511.out | refine bS ?_ GE512.out | refine bS ?_ GE526.out | refine bS ?_ GE527.out) | exact HB.out))))
         have n5_ := Aside0.mk (blk_below (gK BK511.out) hb)
         have n6_ := Aside0.mk (blk_below (gK BK512.out) hb)
         have n7_ := Aside0.mk (blk_below (gK BK526.out) hb)
         have n8_ := Aside0.mk (blk_below (gK BK527.out) hb)
         have n9_ := Aside0.mk (below_step (by repeat (first | (with_reducible first | exact HB.out | apply bA | apply bN | apply bD | refine bS ?_ GE511.out | refine bS ?_ GE512.out | refine bS ?_ GE526.out | refine bS ?_ GE527.out) | exact HB.out)) hb)
         clear HO_512001
         clear HO_513001
         clear HO_527001
         clear HO_528001
         clear BK511
         clear BK512
         clear BK526
         clear BK527
         clear HB
         have HO_512001 := n0_
         have HO_513001 := n1_
         have HO_527001 := n2_
         have HO_528001 := n3_
         have HO544 := n4_
         have BK511 := n5_
         have BK512 := n6_
         have BK526 := n7_
         have BK527 := n8_
         have HB := n9_
         clear n0_ n1_ n2_ n3_ n4_ n5_ n6_ n7_ n8_ n9_
         (try clear hb)
         (try clear hb2)
         (try clear hk)
         (try clear hi)
         (try clear ho0)
         refine hK.out _ _ ⟨(blk_cell BK527.out 0).trans rfl, (blk_cell BK527.out 1).trans rfl, (blk_cell BK512.out 0).trans rfl, (blk_cell BK512.out 1).trans rfl⟩ (fun hHeld => ?_)
         clear hK K
         refine norm_ (a' := ?_) ?_ ?_
         rotate_left
         ·show Act.put _ (some 45) _ = _
          simp only [Act.put, List.setIfInBounds_toArray, List.set_cons_zero, List.set_cons_succ, i64_w, i32_w]
          rfl
         refine one_ (i := 3) (N := some 47) #[true, true, true, true, false, false, false, false, false, false, false, false, false, false, false, false, false, false, false] rfl rfl (one_of HT_.out (by kernel_rfl)) (by decide) (fun K hK => ?_)
         refine goes_ Try.func21 (by kernel_rfl) rfl #[.agg #[.bool a1_0, .slice A1_1 l1_1.length c1_1]] (by rfl) rfl rfl (by (try simp only [List.map_toArray, List.map_cons, List.map_nil]); first | done | rfl | (simp only [List.length_drop, List.length_take]; rfl)) ?_
         with_reducible refine (num_Abs.calls kj7 a1_0 (fun k_ => (((P0_1_ k_ ∨ P1_1_ k_) ∨ w.heap.size ≤ k_) ∧ (k_ ≠ gb511 ∧ (k_ ≠ gb512 ∧ (k_ ≠ gb526 ∧ k_ ≠ gb527))))) _ _ l1_1 t545 t546 _ ?side1 A70.out).mono ?_
         (case side1 => exact HO_513001.out)
         rintro e w96 ⟨v547, rfl, ho0, hb⟩
         refine ⟨_, rfl, ?_⟩
         have n0_ := Aside0.mk (Kd.V_below (gV HO_512001.out) hb)
         have n1_ := Aside0.mk (Kd.V_below (gV HO_513001.out) hb)
         have n2_ := Aside0.mk (Kd.V_below (gV HO_527001.out) hb)
         have n3_ := Aside0.mk (Kd.V_below (gV HO_528001.out) hb)
         have n4_ := Aside0.mk (Kd.V_below (gV HO544.out) hb)
         have n5_ := Aside0.mk (Kd.V_lower (Kd.V_mono (ok' := fun k_ => ((P0_1_ k_ ∨ P1_1_ k_) ∨ w.heap.size ≤ k_) ∧ k_ ≠ gb511 ∧ k_ ≠ gb512 ∧ k_ ≠ gb526 ∧ k_ ≠ gb527) ho0 (fun k_ hk_ => ⟨Or.elim hk_ (fun hs_ => hs_.1) (fun hn_ => (.inr (Nat.le_trans (below_size (by repeat (first | (with_reducible first | exact HB.out | apply bA | apply bN | apply bD | refine bS ?_ GE511.out | refine bS ?_ GE512.out | refine bS ?_ GE526.out | refine bS ?_ GE527.out) | exact HB.out))) hn_))), Or.elim hk_ (fun hs_ => hs_.2.1) (fun hn_ => (Kd.freshB (g := gb511) (o := .cells #[.bool a0_0, .slice A0_1 l0_1.length c0_1] 25 (0, 0)) (gK BK511.out) k_ hn_)), Or.elim hk_ (fun hs_ => hs_.2.2.1) (fun hn_ => (Kd.freshB (g := gb512) (o := .cells #[.bool a1_0, .slice A1_1 l1_1.length c1_1] 25 (0, 0)) (gK BK512.out) k_ hn_)), Or.elim hk_ (fun hs_ => hs_.2.2.2.1) (fun hn_ => (Kd.freshB (g := gb526) (o := .cells #[.bool t518, .slice Ao28 t519.length co28] 25 (0, 0)) (gK BK526.out) k_ hn_)), Or.elim hk_ (fun hs_ => hs_.2.2.2.2) (fun hn_ => (Kd.freshB (g := gb527) (o := .cells #[.bool t522, .slice Ao32 t523.length co32] 25 (0, 0)) (gK BK527.out) k_ hn_))⟩)) (below_size (by repeat (first | (with_reducible first | exact HB.out | apply bA | apply bN | apply bD | refine bS ?_ GE511.out | refine bS ?_ GE512.out | refine bS ?_ GE526.out | refine bS ?_ GE527.out) | exact HB.out))))
         have n6_ := Aside0.mk (blk_below (gK BK511.out) hb)
         have n7_ := Aside0.mk (blk_below (gK BK512.out) hb)
         have n8_ := Aside0.mk (blk_below (gK BK526.out) hb)
         have n9_ := Aside0.mk (blk_below (gK BK527.out) hb)
         have n10_ := Aside0.mk (below_step (by repeat (first | (with_reducible first | exact HB.out | apply bA | apply bN | apply bD | refine bS ?_ GE511.out | refine bS ?_ GE512.out | refine bS ?_ GE526.out | refine bS ?_ GE527.out) | exact HB.out)) hb)
         clear HO_512001
         clear HO_513001
         clear HO_527001
         clear HO_528001
         clear HO544
         clear BK511
         clear BK512
         clear BK526
         clear BK527
         clear HB
         have HO_512001 := n0_
         have HO_513001 := n1_
         have HO_527001 := n2_
         have HO_528001 := n3_
         have HO544 := n4_
         have HO548 := n5_
         have BK511 := n6_
         have BK512 := n7_
         have BK526 := n8_
         have BK527 := n9_
         have HB := n10_
         clear n0_ n1_ n2_ n3_ n4_ n5_ n6_ n7_ n8_ n9_ n10_
         (try clear hb)
         (try clear hb2)
         (try clear hk)
         (try clear hi)
         (try clear ho0)
         obtain ⟨Ao97, co97, eo97⟩ := Kd.V_slice HO544.out
         (first | subst eo97 | (injection eo97 with f1_ f2_ f3_; have f4_ := f1_.symm; have f5_ := f3_.symm; clear f1_ f2_ f3_; subst f4_; subst f5_))
         obtain ⟨Ao98, co98, eo98⟩ := Kd.V_slice HO548.out
         (first | subst eo98 | (injection eo98 with f1_ f2_ f3_; have f4_ := f1_.symm; have f5_ := f3_.symm; clear f1_ f2_ f3_; subst f4_; subst f5_))
         refine hK.out _ _ ⟨(blk_cell BK527.out 0).trans rfl, (blk_cell BK527.out 1).trans rfl, (blk_cell BK512.out 0).trans rfl, (blk_cell BK512.out 1).trans rfl⟩ (fun hHeld => ?_)
         clear hK K
         refine norm_ (a' := ?_) ?_ ?_
         rotate_left
         ·show Act.put _ (some 47) _ = _
          simp only [Act.put, List.setIfInBounds_toArray, List.set_cons_zero, List.set_cons_succ, i64_w, i32_w]
          rfl
         refine one_ (i := 4) (N := some 48) #[true, true, true, true, true, false, false, false, false, false, false, false, false, false, false, false, false, false, false] rfl rfl (one_of HT_.out (by kernel_rfl)) (by decide) (fun K hK => ?_)
         refine goes_ Try.func14 (by kernel_rfl) rfl #[.agg #[.bool t541, .slice Ao97 t542.length co97], .agg #[.bool t545, .slice Ao98 t546.length co98]] (by rfl) rfl rfl (by (try simp only [List.map_toArray, List.map_cons, List.map_nil]); first | done | rfl | (simp only [List.length_drop, List.length_take]; rfl)) ?_
         with_reducible refine (num_Cmp.calls kj7 t541 _ _ t542 t545 _ _ t546 t549 _ ?side1 ?side2 ?side3 ?side4 A71.out).mono ?_
         (case side1 => repeat (first | exact (Kd.V_reads' HO544.out).2.2 | (with_reducible refine Kd.C_alloc ?_ _) | (with_reducible refine Kd.C_drewN ?_ _) | (with_reducible refine Kd.C_drew ?_)))
         (case side2 => exact (Kd.V_reads' HO544.out).2.1)
         (case side3 => repeat (first | exact (Kd.V_reads' HO548.out).2.2 | (with_reducible refine Kd.C_alloc ?_ _) | (with_reducible refine Kd.C_drewN ?_ _) | (with_reducible refine Kd.C_drew ?_)))
         (case side4 => exact (Kd.V_reads' HO548.out).2.1)
         rintro e w99 ⟨rfl, hb⟩
         refine ⟨_, rfl, ?_⟩
         have n0_ := Aside0.mk (Kd.V_below (gV HO_512001.out) hb)
         have n1_ := Aside0.mk (Kd.V_below (gV HO_513001.out) hb)
         have n2_ := Aside0.mk (Kd.V_below (gV HO_527001.out) hb)
         have n3_ := Aside0.mk (Kd.V_below (gV HO_528001.out) hb)
         have n4_ := Aside0.mk (Kd.V_below (gV HO544.out) hb)
         have n5_ := Aside0.mk (Kd.V_below (gV HO548.out) hb)
         have n6_ := Aside0.mk (blk_below (gK BK511.out) hb)
         have n7_ := Aside0.mk (blk_below (gK BK512.out) hb)
         have n8_ := Aside0.mk (blk_below (gK BK526.out) hb)
         have n9_ := Aside0.mk (blk_below (gK BK527.out) hb)
         have n10_ := Aside0.mk (below_step (by repeat (first | (with_reducible first | exact HB.out | apply bA | apply bN | apply bD | refine bS ?_ GE511.out | refine bS ?_ GE512.out | refine bS ?_ GE526.out | refine bS ?_ GE527.out) | exact HB.out)) hb)
         clear HO_512001
         clear HO_513001
         clear HO_527001
         clear HO_528001
         clear HO544
         clear HO548
         clear BK511
         clear BK512
         clear BK526
         clear BK527
         clear HB
         have HO_512001 := n0_
         have HO_513001 := n1_
         have HO_527001 := n2_
         have HO_528001 := n3_
         have HO544 := n4_
         have HO548 := n5_
         have BK511 := n6_
         have BK512 := n7_
         have BK526 := n8_
         have BK527 := n9_
         have HB := n10_
         clear n0_ n1_ n2_ n3_ n4_ n5_ n6_ n7_ n8_ n9_ n10_
         (try clear hb)
         (try clear hb2)
         (try clear hk)
         (try clear hi)
         refine hK.out _ _ ⟨(blk_cell BK527.out 0).trans rfl, (blk_cell BK527.out 1).trans rfl, (blk_cell BK512.out 0).trans rfl, (blk_cell BK512.out 1).trans rfl⟩ (fun hHeld => ?_)
         clear hK K
         refine norm_ (a' := ?_) ?_ ?_
         rotate_left
         ·show Act.put _ (some 48) _ = _
          simp only [Act.put, List.setIfInBounds_toArray, List.set_cons_zero, List.set_cons_succ, i64_w, i32_w]
          rfl
         refine pure_ (i := 5) (N := some 49) (v := ?_) (a' := ?_) #[true, true, true, true, true, true, false, false, false, false, false, false, false, false, false, false, false, false, false] rfl rfl (any_of HT_.out (by kernel_rfl)) (fun _ _ _ h => h) (Or.inl ⟨by rfl, ?_⟩) ?_ ?_
         rotate_left
         ·intro w'
          go_simp
          with_reducible rfl
         rotate_left
         ·simp only [Act.put, List.setIfInBounds_toArray, List.set_cons_zero, List.set_cons_succ, i64_w, i32_w]
          rfl
         refine pure_ (i := 6) (N := some 50) (v := ?_) (a' := ?_) #[true, true, true, true, true, true, true, false, false, false, false, false, false, false, false, false, false, false, false] rfl rfl (any_of HT_.out (by kernel_rfl)) (fun _ _ _ h => h) (Or.inl ⟨by rfl, ?_⟩) ?_ ?_
         rotate_left
         ·intro w'
          go_simp
          with_reducible rfl
         rotate_left
         ·simp only [Act.put, List.setIfInBounds_toArray, List.set_cons_zero, List.set_cons_succ, i64_w, i32_w]
          rfl
         refine take_ (i := 7) (N := some 51) (v := ?_) (a' := ?_) #[true, true, true, true, true, true, true, true, false, false, false, false, false, false, false, false, false, false, false] rfl rfl (take_ofW HT_.out HW_.out (by kernel_rfl)) (fun _ _ _ h => h) (Or.inl ⟨by rfl, ?_⟩) hHeld ?_ ?_
         rotate_left
         ·rintro w' ⟨s0, s1, s2, s3⟩
          go_simp
          with_reducible rfl
         rotate_left
         ·simp only [Act.put, List.setIfInBounds_toArray, List.set_cons_zero, List.set_cons_succ, i64_w, i32_w]
          rfl
         refine one_ (i := 8) (N := some 52) #[true, true, true, true, true, true, true, true, true, false, false, false, false, false, false, false, false, false, false] rfl rfl (one_of HT_.out (by kernel_rfl)) (by decide) (fun K hK => ?_)
         refine goes_ Try.func15 (by kernel_rfl) rfl #[.agg #[.bool t522, .slice Ao32 t523.length co32]] (by rfl) rfl rfl (by (try simp only [List.map_toArray, List.map_cons, List.map_nil]); first | done | rfl | (simp only [List.length_drop, List.length_take]; rfl)) ?_
         with_reducible refine (num_Sign.calls kj7 t522 _ _ t523 t550 _ ?side1 ?side2 A73.out).mono ?_
         (case side1 => repeat (first | exact (Kd.V_reads' HO_528001.out).2.2 | (with_reducible refine Kd.C_alloc ?_ _) | (with_reducible refine Kd.C_drewN ?_ _) | (with_reducible refine Kd.C_drew ?_)))
         (case side2 => exact (Kd.V_reads' HO_528001.out).2.1)
         rintro e w100 ⟨rfl, hb⟩
         refine ⟨_, rfl, ?_⟩
         have n0_ := Aside0.mk (Kd.V_below (gV HO_512001.out) hb)
         have n1_ := Aside0.mk (Kd.V_below (gV HO_513001.out) hb)
         have n2_ := Aside0.mk (Kd.V_below (gV HO_527001.out) hb)
         have n3_ := Aside0.mk (Kd.V_below (gV HO_528001.out) hb)
         have n4_ := Aside0.mk (Kd.V_below (gV HO544.out) hb)
         have n5_ := Aside0.mk (Kd.V_below (gV HO548.out) hb)
         have n6_ := Aside0.mk (blk_below (gK BK511.out) hb)
         have n7_ := Aside0.mk (blk_below (gK BK512.out) hb)
         have n8_ := Aside0.mk (blk_below (gK BK526.out) hb)
         have n9_ := Aside0.mk (blk_below (gK BK527.out) hb)
         have n10_ := Aside0.mk (below_step (by repeat (first | (with_reducible first | exact HB.out | apply bA | apply bN | apply bD | refine bS ?_ GE511.out | refine bS ?_ GE512.out | refine bS ?_ GE526.out | refine bS ?_ GE527.out) | exact HB.out)) hb)
         clear HO_512001
         clear HO_513001
         clear HO_527001
         clear HO_528001
         clear HO544
         clear HO548
         clear BK511
         clear BK512
         clear BK526
         clear BK527
         clear HB
         have HO_512001 := n0_
         have HO_513001 := n1_
         have HO_527001 := n2_
         have HO_528001 := n3_
         have HO544 := n4_
         have HO548 := n5_
         have BK511 := n6_
         have BK512 := n7_
         have BK526 := n8_
         have BK527 := n9_
         have HB := n10_
         clear n0_ n1_ n2_ n3_ n4_ n5_ n6_ n7_ n8_ n9_ n10_
         (try clear hb)
         (try clear hb2)
         (try clear hk)
         (try clear hi)
         refine hK.out _ _ ⟨(blk_cell BK527.out 0).trans rfl, (blk_cell BK527.out 1).trans rfl, (blk_cell BK512.out 0).trans rfl, (blk_cell BK512.out 1).trans rfl⟩ (fun hHeld => ?_)
         clear hK K
         refine norm_ (a' := ?_) ?_ ?_
         rotate_left
         ·show Act.put _ (some 52) _ = _
          simp only [Act.put, List.setIfInBounds_toArray, List.set_cons_zero, List.set_cons_succ, i64_w, i32_w]
          rfl
         refine pure_ (i := 9) (N := some 53) (v := ?_) (a' := ?_) #[true, true, true, true, true, true, true, true, true, true, false, false, false, false, false, false, false, false, false] rfl rfl (any_of HT_.out (by kernel_rfl)) (fun _ _ _ h => h) (Or.inl ⟨by rfl, ?_⟩) ?_ ?_
         rotate_left
         ·intro w'
          go_simp
          with_reducible rfl
         rotate_left
         ·simp only [Act.put, List.setIfInBounds_toArray, List.set_cons_zero, List.set_cons_succ, i64_w, i32_w]
          rfl
         refine pure_ (i := 10) (N := some 54) (v := ?_) (a' := ?_) #[true, true, true, true, true, true, true, true, true, true, true, false, false, false, false, false, false, false, false] rfl rfl (any_of HT_.out (by kernel_rfl)) (fun _ _ _ h => h) (Or.inl ⟨by rfl, ?_⟩) ?_ ?_
         rotate_left
         ·intro w'
          go_simp
          with_reducible rfl
         rotate_left
         ·simp only [Act.put, List.setIfInBounds_toArray, List.set_cons_zero, List.set_cons_succ, i64_w, i32_w]
          rfl
         refine take_ (i := 11) (N := some 55) (v := ?_) (a' := ?_) #[true, true, true, true, true, true, true, true, true, true, true, true, false, false, false, false, false, false, false] rfl rfl (take_ofW HT_.out HW_.out (by kernel_rfl)) (fun _ _ _ h => h) (Or.inl ⟨by rfl, ?_⟩) hHeld ?_ ?_
         rotate_left
         ·rintro w' ⟨s0, s1, s2, s3⟩
          go_simp
          with_reducible rfl
         rotate_left
         ·simp only [Act.put, List.setIfInBounds_toArray, List.set_cons_zero, List.set_cons_succ, i64_w, i32_w]
          rfl
         refine take_ (i := 13) (N := some 57) (v := ?_) (a' := ?_) #[true, true, true, true, true, true, true, true, true, true, true, true, false, true, false, false, false, false, false] rfl rfl (take_ofW HT_.out HW_.out (by kernel_rfl)) (fun _ _ _ h => h) (Or.inl ⟨by rfl, ?_⟩) hHeld ?_ ?_
         rotate_left
         ·rintro w' ⟨s0, s1, s2, s3⟩
          go_simp
          with_reducible rfl
         rotate_left
         ·simp only [Act.put, List.setIfInBounds_toArray, List.set_cons_zero, List.set_cons_succ, i64_w, i32_w]
          rfl
         refine one_ (i := 12) (N := some 56) #[true, true, true, true, true, true, true, true, true, true, true, true, true, true, false, false, false, false, false] rfl rfl (one_of HT_.out (by kernel_rfl)) (by decide) (fun K hK => ?_)
         refine goes_ Try.func15 (by kernel_rfl) rfl #[.agg #[.bool t522, .slice Ao32 t523.length co32]] (by rfl) rfl rfl (by (try simp only [List.map_toArray, List.map_cons, List.map_nil]); first | done | rfl | (simp only [List.length_drop, List.length_take]; rfl)) ?_
         with_reducible refine (num_Sign.calls kj7 t522 _ _ t523 t551 _ ?side1 ?side2 A87.out).mono ?_
         (case side1 => repeat (first | exact (Kd.V_reads' HO_528001.out).2.2 | (with_reducible refine Kd.C_alloc ?_ _) | (with_reducible refine Kd.C_drewN ?_ _) | (with_reducible refine Kd.C_drew ?_)))
         (case side2 => exact (Kd.V_reads' HO_528001.out).2.1)
         rintro e w101 ⟨rfl, hb⟩
         refine ⟨_, rfl, ?_⟩
         have n0_ := Aside0.mk (Kd.V_below (gV HO_512001.out) hb)
         have n1_ := Aside0.mk (Kd.V_below (gV HO_513001.out) hb)
         have n2_ := Aside0.mk (Kd.V_below (gV HO_527001.out) hb)
         have n3_ := Aside0.mk (Kd.V_below (gV HO_528001.out) hb)
         have n4_ := Aside0.mk (Kd.V_below (gV HO544.out) hb)
         have n5_ := Aside0.mk (Kd.V_below (gV HO548.out) hb)
         have n6_ := Aside0.mk (blk_below (gK BK511.out) hb)
         have n7_ := Aside0.mk (blk_below (gK BK512.out) hb)
         have n8_ := Aside0.mk (blk_below (gK BK526.out) hb)
         have n9_ := Aside0.mk (blk_below (gK BK527.out) hb)
         have n10_ := Aside0.mk (below_step (by repeat (first | (with_reducible first | exact HB.out | apply bA | apply bN | apply bD | refine bS ?_ GE511.out | refine bS ?_ GE512.out | refine bS ?_ GE526.out | refine bS ?_ GE527.out) | exact HB.out)) hb)
         clear HO_512001
         clear HO_513001
         clear HO_527001
         clear HO_528001
         clear HO544
         clear HO548
         clear BK511
         clear BK512
         clear BK526
         clear BK527
         clear HB
         have HO_512001 := n0_
         have HO_513001 := n1_
         have HO_527001 := n2_
         have HO_528001 := n3_
         have HO544 := n4_
         have HO548 := n5_
         have BK511 := n6_
         have BK512 := n7_
         have BK526 := n8_
         have BK527 := n9_
         have HB := n10_
         clear n0_ n1_ n2_ n3_ n4_ n5_ n6_ n7_ n8_ n9_ n10_
         (try clear hb)
         (try clear hb2)
         (try clear hk)
         (try clear hi)
         refine hK.out _ _ ⟨(blk_cell BK527.out 0).trans rfl, (blk_cell BK527.out 1).trans rfl, (blk_cell BK512.out 0).trans rfl, (blk_cell BK512.out 1).trans rfl⟩ (fun hHeld => ?_)
         clear hK K
         refine norm_ (a' := ?_) ?_ ?_
         rotate_left
         ·show Act.put _ (some 56) _ = _
          simp only [Act.put, List.setIfInBounds_toArray, List.set_cons_zero, List.set_cons_succ, i64_w, i32_w]
          rfl
         refine one_ (i := 14) (N := some 58) #[true, true, true, true, true, true, true, true, true, true, true, true, true, true, true, false, false, false, false] rfl rfl (one_of HT_.out (by kernel_rfl)) (by decide) (fun K hK => ?_)
         refine goes_ Try.func15 (by kernel_rfl) rfl #[.agg #[.bool a1_0, .slice A1_1 l1_1.length c1_1]] (by rfl) rfl rfl (by (try simp only [List.map_toArray, List.map_cons, List.map_nil]); first | done | rfl | (simp only [List.length_drop, List.length_take]; rfl)) ?_
         with_reducible refine (num_Sign.calls kj7 a1_0 _ _ l1_1 t552 _ ?side1 ?side2 A88.out).mono ?_
         (case side1 => repeat (first | exact (Kd.V_reads' HO_513001.out).2.2 | (with_reducible refine Kd.C_alloc ?_ _) | (with_reducible refine Kd.C_drewN ?_ _) | (with_reducible refine Kd.C_drew ?_)))
         (case side2 => exact (Kd.V_reads' HO_513001.out).2.1)
         rintro e w102 ⟨rfl, hb⟩
         refine ⟨_, rfl, ?_⟩
         have n0_ := Aside0.mk (Kd.V_below (gV HO_512001.out) hb)
         have n1_ := Aside0.mk (Kd.V_below (gV HO_513001.out) hb)
         have n2_ := Aside0.mk (Kd.V_below (gV HO_527001.out) hb)
         have n3_ := Aside0.mk (Kd.V_below (gV HO_528001.out) hb)
         have n4_ := Aside0.mk (Kd.V_below (gV HO544.out) hb)
         have n5_ := Aside0.mk (Kd.V_below (gV HO548.out) hb)
         have n6_ := Aside0.mk (blk_below (gK BK511.out) hb)
         have n7_ := Aside0.mk (blk_below (gK BK512.out) hb)
         have n8_ := Aside0.mk (blk_below (gK BK526.out) hb)
         have n9_ := Aside0.mk (blk_below (gK BK527.out) hb)
         have n10_ := Aside0.mk (below_step (by repeat (first | (with_reducible first | exact HB.out | apply bA | apply bN | apply bD | refine bS ?_ GE511.out | refine bS ?_ GE512.out | refine bS ?_ GE526.out | refine bS ?_ GE527.out) | exact HB.out)) hb)
         clear HO_512001
         clear HO_513001
         clear HO_527001
         clear HO_528001
         clear HO544
         clear HO548
         clear BK511
         clear BK512
         clear BK526
         clear BK527
         clear HB
         have HO_512001 := n0_
         have HO_513001 := n1_
         have HO_527001 := n2_
         have HO_528001 := n3_
         have HO544 := n4_
         have HO548 := n5_
         have BK511 := n6_
         have BK512 := n7_
         have BK526 := n8_
         have BK527 := n9_
         have HB := n10_
         clear n0_ n1_ n2_ n3_ n4_ n5_ n6_ n7_ n8_ n9_ n10_
         (try clear hb)
         (try clear hb2)
         (try clear hk)
         (try clear hi)
         refine hK.out _ _ ⟨(blk_cell BK527.out 0).trans rfl, (blk_cell BK527.out 1).trans rfl, (blk_cell BK512.out 0).trans rfl, (blk_cell BK512.out 1).trans rfl⟩ (fun hHeld => ?_)
         clear hK K
         refine norm_ (a' := ?_) ?_ ?_
         rotate_left
         ·show Act.put _ (some 58) _ = _
          simp only [Act.put, List.setIfInBounds_toArray, List.set_cons_zero, List.set_cons_succ, i64_w, i32_w]
          rfl
         refine pure_ (i := 15) (N := some 59) (v := ?_) (a' := ?_) #[true, true, true, true, true, true, true, true, true, true, true, true, true, true, true, true, false, false, false] rfl rfl (any_of HT_.out (by kernel_rfl)) (fun _ _ _ h => h) (Or.inl ⟨by rfl, ?_⟩) ?_ ?_
         rotate_left
         ·intro w'
          go_simp
          with_reducible rfl
         rotate_left
         ·simp only [Act.put, List.setIfInBounds_toArray, List.set_cons_zero, List.set_cons_succ, i64_w, i32_w]
          rfl
         refine pure_ (i := 16) (N := some 60) (v := ?_) (a' := ?_) #[true, true, true, true, true, true, true, true, true, true, true, true, true, true, true, true, true, false, false] rfl rfl (any_of HT_.out (by kernel_rfl)) (fun _ _ _ h => h) (Or.inl ⟨by rfl, ?_⟩) ?_ ?_
         rotate_left
         ·intro w'
          go_simp
          with_reducible rfl
         rotate_left
         ·simp only [Act.put, List.setIfInBounds_toArray, List.set_cons_zero, List.set_cons_succ, i64_w, i32_w]
          rfl
         refine pure_ (i := 17) (N := some 61) (v := ?_) (a' := ?_) #[true, true, true, true, true, true, true, true, true, true, true, true, true, true, true, true, true, true, false] rfl rfl (any_of HT_.out (by kernel_rfl)) (fun _ _ _ h => h) (Or.inl ⟨by rfl, ?_⟩) ?_ ?_
         rotate_left
         ·intro w'
          go_simp
          with_reducible rfl
         rotate_left
         ·simp only [Act.put, List.setIfInBounds_toArray, List.set_cons_zero, List.set_cons_succ, i64_w, i32_w]
          rfl
         refine pure_ (i := 18) (N := some 4) (v := ?_) (a' := ?_) #[true, true, true, true, true, true, true, true, true, true, true, true, true, true, true, true, true, true, true] rfl rfl (any_of HT_.out (by kernel_rfl)) (fun _ _ _ h => h) (Or.inl ⟨by rfl, ?_⟩) ?_ ?_
         rotate_left
         ·intro w'
          go_simp
          with_reducible rfl
         rotate_left
         ·simp only [Act.put, List.setIfInBounds_toArray, List.set_cons_zero, List.set_cons_succ, i64_w, i32_w]
          rfl
         refine done_ (done_of HT_.out (by kernel_rfl)) ?_
         try go_wp2
         go_ret
         exact ⟨by first | rfl | (simp [errW_none, errW_some] <;> rfl) | (simp [*, errW_none, errW_some] <;> rfl), by repeat (first | (with_reducible first | exact HB.out | apply bA | apply bN | apply bD | refine bS ?_ GE511.out | refine bS ?_ GE512.out | refine bS ?_ GE526.out | refine bS ?_ GE527.out) | exact HB.out)⟩
       ·rw [if_neg c72] at H
        have c72b0 : decide (t549 < 0) = false := decide_eq_false c72
        clear c72
        exact absurd ((Option.some.inj H).trans HTRUE) (by decide)
  ·replace c6 := Bool.eq_false_iff.mpr c6
   subst c6
   have H1 : (some true) = some r := by rw [if_neg (show ¬ (false = true) by decide)] at H; exact H
   clear H
   have H := H1
   clear H1
   obtain rfl := Option.some.inj H
   go_enter Try.func5, Try.ntmps5
   go_wp2_with (first | ((with_reducible refine gate_dst (N := 2) rfl ?_); refine box_event ?hg (N := 2) ?hd (cs := #[.bool a0_0, .slice A0_1 l0_1.length c0_1]) (t := 25) ?hr ?_; (case hd => rfl); (case hg => rfl); (case hr => first | (go_simp; done) | (go_simp; rfl)); intro gb511 hg w103 hbox hb; have n0_ := Aside0.mk (Kd.V_below (Kd.V_elderB (gV HO0_1.out) gb511 (Nat.le_of_eq hg.symm)) hb); have n1_ := Aside0.mk (Kd.V_below (Kd.V_elderB (gV HO1_1.out) gb511 (Nat.le_of_eq hg.symm)) hb); have n2_ := Aside0.mk (below_step (gB HB.out) hb); have n3_ := Aside0.mk (hbox); have n4_ := Aside0.mk ((by rw [hg]; exact (below_size (gB HB.out)) : w.heap.size ≤ gb511)); have n5_ := Aside0.mk ((by rw [hg]; exact (below_size (gB HB.out)) : w.heap.size ≤ gb511)); clear HO0_1; clear HO1_1; clear HB; have HO0_1 := n0_; have HO1_1 := n1_; have HB := n2_; have BK511 := n3_; have GW511 := n4_; have GE511 := n5_; clear n0_ n1_ n2_ n3_ n4_ n5_; clear hb hbox hg) | ((with_reducible refine gate_dst (N := 3) rfl ?_); refine box_event ?hg (N := 3) ?hd (cs := #[.bool a1_0, .slice A1_1 l1_1.length c1_1]) (t := 25) ?hr ?_; (case hd => rfl); (case hg => rfl); (case hr => first | (go_simp; done) | (go_simp; rfl)); intro gb512 hg w104 hbox hb; have n0_ := Aside0.mk (Kd.V_below (Kd.V_elderB (gV HO0_1.out) gb512 (Nat.le_of_eq hg.symm)) hb); have n1_ := Aside0.mk (Kd.V_below (Kd.V_elderB (gV HO1_1.out) gb512 (Nat.le_of_eq hg.symm)) hb); have n2_ := Aside0.mk (blk_below (gK BK511.out) hb); have n3_ := Aside0.mk (below_step (by repeat (first | (with_reducible first | exact HB.out | apply bA | apply bN | apply bD | refine bS ?_ GE511.out) | exact HB.out)) hb); have n4_ := Aside0.mk (hbox); have n5_ := Aside0.mk ((by rw [hg]; exact (below_size (by repeat (first | (with_reducible first | exact HB.out | apply bA | apply bN | apply bD | refine bS ?_ GE511.out) | exact HB.out))) : w.heap.size ≤ gb512)); have n6_ := Aside0.mk ((by rw [hg]; exact (below_size (by repeat (first | (with_reducible first | exact HB.out | apply bA | apply bN | apply bD | refine bS ?_ GE511.out) | exact HB.out))) : w.heap.size ≤ gb512)); have n7_ := Aside0.mk ((by rw [hg]; exact Nat.ne_of_lt (blk_lt (g := gb511) (o := .cells #[.bool a0_0, .slice A0_1 l0_1.length c0_1] 25 (0, 0)) (gK BK511.out)) : gb511 ≠ gb512)); have n8_ := Aside0.mk ((by rw [hg]; exact Nat.ne_of_gt (blk_lt (g := gb511) (o := .cells #[.bool a0_0, .slice A0_1 l0_1.length c0_1] 25 (0, 0)) (gK BK511.out)) : gb512 ≠ gb511)); clear HO0_1; clear HO1_1; clear BK511; clear HB; have HO0_1 := n0_; have HO1_1 := n1_; have BK511 := n2_; have HB := n3_; have BK512 := n4_; have GW512 := n5_; have GE512 := n6_; have NB511_512 := n7_; have NB512_511 := n8_; clear n0_ n1_ n2_ n3_ n4_ n5_ n6_ n7_ n8_; clear hb hbox hg) | ((with_reducible refine gate_callee (f := 9) rfl ?_); refine goesL_ (some 7) rfl rfl Try.func9 (by kernel_rfl) rfl #[] rfl (by (try simp only [List.map_toArray, List.map_cons, List.map_nil]); first | done | rfl | (simp only [List.length_drop, List.length_take]; rfl)) ?_; (with_reducible refine (isohyetlaw02_fit.calls k  true _ rfl A3.out).mono ?_); (try clear A3); rintro e w105 ⟨rfl, hb⟩; refine ⟨_, rfl, ?_⟩; have n0_ := Aside0.mk (Kd.V_below (gV HO0_1.out) hb); have n1_ := Aside0.mk (Kd.V_below (gV HO1_1.out) hb); have n2_ := Aside0.mk (blk_below (gK BK511.out) hb); have n3_ := Aside0.mk (blk_below (gK BK512.out) hb); have n4_ := Aside0.mk (below_step (by repeat (first | (with_reducible first | exact HB.out | apply bA | apply bN | apply bD | refine bS ?_ GE511.out | refine bS ?_ GE512.out) | exact HB.out)) hb); clear HO0_1; clear HO1_1; clear BK511; clear BK512; clear HB; have HO0_1 := n0_; have HO1_1 := n1_; have BK511 := n2_; have BK512 := n3_; have HB := n4_; clear n0_ n1_ n2_ n3_ n4_; (try clear hb); (try clear hb2); (try clear hk); (try clear hi); have hnb106 := NB511_512.out; have hnc106 := NB512_511.out; have hcz107_0 : w105.cell? ⟨gb511, 0, none⟩ = some (.bool a0_0) := (blk_cell BK511.out 0).trans rfl; have hcz107_1 : w105.cell? ⟨gb511, 1, none⟩ = some (.slice A0_1 l0_1.length c0_1) := (blk_cell BK511.out 1).trans rfl; have hfz107_0 := blk_frozen BK511.out 0; have hfz107_1 := blk_frozen BK511.out 1; have hcz108_0 : w105.cell? ⟨gb512, 0, none⟩ = some (.bool a1_0) := (blk_cell BK512.out 0).trans rfl; have hcz108_1 : w105.cell? ⟨gb512, 1, none⟩ = some (.slice A1_1 l1_1.length c1_1) := (blk_cell BK512.out 1).trans rfl; have hfz108_0 := blk_frozen BK512.out 0; have hfz108_1 := blk_frozen BK512.out 1) | ((with_reducible refine gate_dst (N := 11) rfl ?_); refine Kd.N_lit k25 _ 25 ?hg (N' := 11) ?hd (xs := ([(⟨a0_0, l0_1⟩ : S25), (⟨a1_0, l1_1⟩ : S25)] : List (S25))) (inner := [.bool a0_0, .slice A0_1 l0_1.length c0_1, .bool a1_0, .slice A1_1 l1_1.length c1_1]) (ok := (fun k_ => ((P0_1_ k_ ∨ P1_1_ k_) ∨ w.heap.size ≤ k_) ∧ k_ ≠ gb511 ∧ k_ ≠ gb512)) (okp := (fun k_ => ((P0_1_ k_ ∨ P1_1_ k_) ∨ w.heap.size ≤ k_) ∧ k_ ≠ gb511 ∧ k_ ≠ gb512)) ?hr ?hp (fun _ hk => hk) ((show ∀ k_, w105.heap.size ≤ k_ → (fun k_ => ((P0_1_ k_ ∨ P1_1_ k_) ∨ w.heap.size ≤ k_) ∧ k_ ≠ gb511 ∧ k_ ≠ gb512) k_ from fun k_ hk => ⟨(.inr (Nat.le_trans (below_size (by repeat (first | (with_reducible first | exact HB.out | apply bA | apply bN | apply bD | refine bS ?_ GE511.out | refine bS ?_ GE512.out) | exact HB.out))) hk)), Kd.freshB (g := gb511) (o := .cells #[.bool a0_0, .slice A0_1 l0_1.length c0_1] 25 (0, 0)) (gK BK511.out) k_ hk, Kd.freshB (g := gb512) (o := .cells #[.bool a1_0, .slice A1_1 l1_1.length c1_1] 25 (0, 0)) (gK BK512.out) k_ hk⟩) _ (Nat.le_refl _)) (Below.refl _ _) (Nat.le_refl _) (by simp) ?_; (case hd => rfl); (case hg => rfl); (case hr => first | (go_simp; done) | (go_simp; rfl)); (case hp => exact (Reps.c2 (show Kd.FK k25 _ _ (⟨a0_0, l0_1⟩ : S25) [.bool a0_0, .slice A0_1 l0_1.length c0_1] from (k25_mkF _ _ (⟨a0_0, l0_1⟩ : S25) (Kd.V_reads' (Kd.V_mono (ok' := (fun k_ => ((P0_1_ k_ ∨ P1_1_ k_) ∨ w.heap.size ≤ k_) ∧ k_ ≠ gb511 ∧ k_ ≠ gb512)) (HO0_1.out) (fun k_ hk => ⟨hk.1.1, ⟨hk.1.2, hk.2⟩⟩))).2.1 (Kd.V_F (Kd.V_mono (ok' := (fun k_ => ((P0_1_ k_ ∨ P1_1_ k_) ∨ w.heap.size ≤ k_) ∧ k_ ≠ gb511 ∧ k_ ≠ gb512)) (HO0_1.out) (fun k_ hk => ⟨hk.1.1, ⟨hk.1.2, hk.2⟩⟩))))) (Reps.c2 (show Kd.FK k25 _ _ (⟨a1_0, l1_1⟩ : S25) [.bool a1_0, .slice A1_1 l1_1.length c1_1] from (k25_mkF _ _ (⟨a1_0, l1_1⟩ : S25) (Kd.V_reads' (Kd.V_mono (ok' := (fun k_ => ((P0_1_ k_ ∨ P1_1_ k_) ∨ w.heap.size ≤ k_) ∧ k_ ≠ gb511 ∧ k_ ≠ gb512)) (HO1_1.out) (fun k_ hk => ⟨hk.1.1, ⟨hk.1.2, hk.2⟩⟩))).2.1 (Kd.V_F (Kd.V_mono (ok' := (fun k_ => ((P0_1_ k_ ∨ P1_1_ k_) ∨ w.heap.size ≤ k_) ∧ k_ ≠ gb511 ∧ k_ ≠ gb512)) (HO1_1.out) (fun k_ hk => ⟨hk.1.1, ⟨hk.1.2, hk.2⟩⟩))))) (Reps.none _ _)))); intro v515 w109 ho110 hb hg_ hnew_; clear hg_ hnew_; (first | rw [← Ny514.out] at ho110 | (simp only [Int.reduceToNat] at ho110; rw [← Ny514.out] at ho110)); have n0_ := Aside0.mk (Kd.V_elder' (gV HO0_1.out) (Kd.N_base ho110) hb); have n1_ := Aside0.mk (Kd.V_elder' (gV HO1_1.out) (Kd.N_base ho110) hb); have n2_ := Aside0.mk (Kd.N_lower ho110 (below_size (by repeat (first | (with_reducible first | exact HB.out | apply bA | apply bN | apply bD | refine bS ?_ GE511.out | refine bS ?_ GE512.out) | exact HB.out)))); have n3_ := Aside0.mk (blk_below (gK BK511.out) hb); have n4_ := Aside0.mk (blk_below (gK BK512.out) hb); have n5_ := Aside0.mk (below_step (by repeat (first | (with_reducible first | exact HB.out | apply bA | apply bN | apply bD | refine bS ?_ GE511.out | refine bS ?_ GE512.out) | exact HB.out)) hb); clear HO0_1; clear HO1_1; clear BK511; clear BK512; clear HB; have HO0_1 := n0_; have HO1_1 := n1_; have HO516 := n2_; have BK511 := n3_; have BK512 := n4_; have HB := n5_; clear n0_ n1_ n2_ n3_ n4_ n5_; clear hb ho110; obtain ⟨Ao111, co111, eo111⟩ := Kd.N_slice HO516.out; subst eo111) | ((with_reducible refine gate_callee (f := 10) rfl ?_); refine goesL_ (some 12) rfl rfl Try.func10 (by kernel_rfl) rfl #[.int .i64 20, .slice Ao111 y514.length co111] rfl (by (try simp only [List.map_toArray, List.map_cons, List.map_nil]); first | done | rfl | (simp only [List.length_drop, List.length_take]; rfl)) ?_; (with_reducible refine (isohyetlaw02_short.calls k 20 _ _ y514 false _ ?side1 ?side2 A5.out).mono ?_); (case side1 => repeat (first | exact (Kd.N_reads' HO516.out).2.2 | (with_reducible refine Kd.C_alloc ?_ _) | (with_reducible refine Kd.C_drewN ?_ _) | (with_reducible refine Kd.C_drew ?_))); (case side2 => exact (Kd.N_reads' HO516.out).2.1); (try clear A5); rintro e w112 ⟨rfl, hb⟩; refine ⟨_, rfl, ?_⟩; have n0_ := Aside0.mk (Kd.V_below (gV HO0_1.out) hb); have n1_ := Aside0.mk (Kd.V_below (gV HO1_1.out) hb); have n2_ := Aside0.mk (Kd.N_below (gN HO516.out) hb); have n3_ := Aside0.mk (blk_below (gK BK511.out) hb); have n4_ := Aside0.mk (blk_below (gK BK512.out) hb); have n5_ := Aside0.mk (below_step (by repeat (first | (with_reducible first | exact HB.out | apply bA | apply bN | apply bD | refine bS ?_ GE511.out | refine bS ?_ GE512.out) | exact HB.out)) hb); clear HO0_1; clear HO1_1; clear HO516; clear BK511; clear BK512; clear HB; have HO0_1 := n0_; have HO1_1 := n1_; have HO516 := n2_; have BK511 := n3_; have BK512 := n4_; have HB := n5_; clear n0_ n1_ n2_ n3_ n4_ n5_; (try clear hb); (try clear hb2); (try clear hk); (try clear hi)))
   go_ret
   exact ⟨by first | rfl | (simp [errW_none, errW_some] <;> rfl) | (simp [*, errW_none, errW_some] <;> rfl), by repeat (first | (with_reducible first | exact HB.out | apply bA | apply bN | apply bD | refine bS ?_ GE511.out | refine bS ?_ GE512.out) | exact HB.out)⟩
 ·replace c4 := Bool.eq_false_iff.mpr c4
  subst c4
  have H1 : (some false) = some r := by rw [if_neg (show ¬ (false = true) by decide)] at H; exact H
  clear H
  have H := H1
  clear H1
  exact absurd ((Option.some.inj H).trans HTRUE) (by decide)

end Go.Proofs.Ytpgmhhkkbjbpgaa.M
