-- By drive.py (this session's program), out of the translation. Lean checks it.
import Derived.Test.YtpgmhhkkbjbpgaaA0
import Derived.Test.YtpgmhhkkbjbpgaaA6
import Derived.Test.YtpgmhhkkbjbpgaaA8
import Derived.Test.YtpgmhhkkbjbpgaaA9
import Derived.Test.YtpgmhhkkbjbpgaaC1
import Derived.Test.YtpgmhhkkbjbpgaaC4
import Derived.Test.YtpgmhhkkbjbpgaaC5
import Derived.Test.YtpgmhhkkbjbpgaaC6
import Derived.Test.YtpgmhhkkbjbpgaaC8
import Derived.Test.YtpgmhhkkbjbpgaaE1
namespace Go.Proofs.Ytpgmhhkkbjbpgaa.M
open Go.Proofs.Ytpgmhhkkbjbpgaa.MB Go.Proofs.Ytpgmhhkkbjbpgaa
open Go.RowKit Go.Proofs.YtpgmhhkkbjbpgaaW.PrintWords Go.Proofs.YtpgmhhkkbjbpgaaW.PrintLast Go.Proofs.YtpgmhhkkbjbpgaaW.PrintMore
attribute [local go_sem] max2_int min2_int max_two min_two max_three min_three max_four min_four   -- for this text's walks alone
set_option linter.unusedVariables false
set_option linter.unusedSimpArgs false
attribute [local go_sem] add64_run sub64_run

set_option maxHeartbeats 8000000 in
set_option maxRecDepth 100000 in
theorem isohyetlaw02_NumLaws.calls (k : Nat) (a0_0 : Bool) (P0_1_ : Nat → Prop) (A0_1 : Option Addr) (c0_1 : Nat) (l0_1 : List Int) (a1_0 : Bool) (P1_1_ : Nat → Prop) (A1_1 : Option Addr) (c1_1 : Nat) (l1_1 : List Int) (a2_0 : Bool) (P2_1_ : Nat → Prop) (A2_1 : Option Addr) (c2_1 : Nat) (l2_1 : List Int) (r : Bool) (w : World) (hs0_1 : Kd.V (Kd.int .u64) 54 w w.heap.size (fun k_ => P0_1_ k_) (.slice A0_1 l0_1.length c0_1) l0_1) (hs1_1 : Kd.V (Kd.int .u64) 54 w w.heap.size (fun k_ => P1_1_ k_) (.slice A1_1 l1_1.length c1_1) l1_1) (hs2_1 : Kd.V (Kd.int .u64) 54 w w.heap.size (fun k_ => P2_1_ k_) (.slice A2_1 l2_1.length c2_1) l2_1) (HTRUE : r = true) (h : isohyetlaw02_NumLaws.f k a0_0 l0_1 a1_0 l1_1 a2_0 l2_1 = some r) :
  Calls Try.prog 8 #[.agg #[.bool a0_0, .slice A0_1 l0_1.length c0_1], .agg #[.bool a1_0, .slice A1_1 l1_1.length c1_1], .agg #[.bool a2_0, .slice A2_1 l2_1.length c2_1]] w fun e w' => e = .returned (.bool r) ∧ Below w.heap.size w w' := by
 have hu25 := Try.underlying25
 have a3 := aK (show Kd.V (Kd.int .u64) 54 w w.heap.size (fun k_ => ((P0_1_ k_ ∨ P1_1_ k_ ∨ P2_1_ k_) ∨ w.heap.size ≤ k_)) (.slice A0_1 l0_1.length c0_1) l0_1 from Kd.V_mono hs0_1 (fun k_ hk => .inl (.inl hk)))
 have a4 := aK (show Kd.V (Kd.int .u64) 54 w w.heap.size (fun k_ => ((P0_1_ k_ ∨ P1_1_ k_ ∨ P2_1_ k_) ∨ w.heap.size ≤ k_)) (.slice A1_1 l1_1.length c1_1) l1_1 from Kd.V_mono hs1_1 (fun k_ hk => .inl (.inr (.inl hk))))
 have a5 := aK (show Kd.V (Kd.int .u64) 54 w w.heap.size (fun k_ => ((P0_1_ k_ ∨ P1_1_ k_ ∨ P2_1_ k_) ∨ w.heap.size ≤ k_)) (.slice A2_1 l2_1.length c2_1) l2_1 from Kd.V_mono hs2_1 (fun k_ hk => .inl (.inr (.inr hk))))
 have HB := aK (Below.refl w.heap.size w)
 have H : ((isohyetlaw02_fit.f k).bind fun t416 => (if t416 = true then ((isohyetlaw02_short.f k 20 (([(⟨a0_0, l0_1⟩ : S25), (⟨a1_0, l1_1⟩ : S25), (⟨a2_0, l2_1⟩ : S25)] : List (S25)))).bind fun t420 => (if t420 = true then ((num_Add.f k a1_0 l1_1 a2_0 l2_1).bind fun bt421 => ((num_Mul.f k a0_0 l0_1 bt421.1 bt421.2).bind fun bt425 => ((num_Mul.f k a2_0 l2_1 a0_0 l0_1).bind fun bt429 => ((num_Mul.f k a1_0 l1_1 a0_0 l0_1).bind fun bt433 => ((num_Add.f k bt429.1 bt429.2 bt433.1 bt433.2).bind fun bt437 => ((num_Sum.f k (([(⟨a0_0, l0_1⟩ : S25), (⟨a1_0, l1_1⟩ : S25), (⟨a2_0, l2_1⟩ : S25)] : List (S25)))).bind fun bt446 => ((num_Cmp.f k bt425.1 bt425.2 bt437.1 bt437.2).bind fun t451 => (if t451 = 0 then ((isohyetlaw02_Right.f bt425.1 bt425.2).bind fun t452 => (if t452 = true then ((isohyetlaw02_Right.f bt446.1 bt446.2).bind fun t453 => (if t453 = true then ((num_Add.f k a1_0 l1_1 a0_0 l0_1).bind fun bt454 => ((num_Add.f k a2_0 l2_1 bt454.1 bt454.2).bind fun bt458 => ((num_Cmp.f k bt446.1 bt446.2 bt458.1 bt458.2).bind fun t462 => (if t462 = 0 then ((num_Sub.f k bt446.1 bt446.2 a2_0 l2_1).bind fun bt463 => ((num_Sum.f k (([(⟨a1_0, l1_1⟩ : S25), (⟨a0_0, l0_1⟩ : S25)] : List (S25)))).bind fun bt470 => ((num_Cmp.f k bt463.1 bt463.2 bt470.1 bt470.2).bind fun t474 => (if t474 = 0 then ((num_Sum.f k ([] : List (S25))).bind fun bt475 => ((num_Sign.f k bt475.1 bt475.2).bind fun t479 => (some (t479 == 0)))) else (some false))))) else (some false))))) else (some false))) else (some false))) else (some false))))))))) else (some true))) else (some false))) = some r := h
 clear h
 replace H := Option.bind_eq_some_iff.mp H
 obtain ⟨t416, A40, H⟩ := H
 replace H : (if t416 = true then ((isohyetlaw02_short.f k 20 (([(⟨a0_0, l0_1⟩ : S25), (⟨a1_0, l1_1⟩ : S25), (⟨a2_0, l2_1⟩ : S25)] : List (S25)))).bind fun t420 => (if t420 = true then ((num_Add.f k a1_0 l1_1 a2_0 l2_1).bind fun bt421 => ((num_Mul.f k a0_0 l0_1 bt421.1 bt421.2).bind fun bt425 => ((num_Mul.f k a2_0 l2_1 a0_0 l0_1).bind fun bt429 => ((num_Mul.f k a1_0 l1_1 a0_0 l0_1).bind fun bt433 => ((num_Add.f k bt429.1 bt429.2 bt433.1 bt433.2).bind fun bt437 => ((num_Sum.f k (([(⟨a0_0, l0_1⟩ : S25), (⟨a1_0, l1_1⟩ : S25), (⟨a2_0, l2_1⟩ : S25)] : List (S25)))).bind fun bt446 => ((num_Cmp.f k bt425.1 bt425.2 bt437.1 bt437.2).bind fun t451 => (if t451 = 0 then ((isohyetlaw02_Right.f bt425.1 bt425.2).bind fun t452 => (if t452 = true then ((isohyetlaw02_Right.f bt446.1 bt446.2).bind fun t453 => (if t453 = true then ((num_Add.f k a1_0 l1_1 a0_0 l0_1).bind fun bt454 => ((num_Add.f k a2_0 l2_1 bt454.1 bt454.2).bind fun bt458 => ((num_Cmp.f k bt446.1 bt446.2 bt458.1 bt458.2).bind fun t462 => (if t462 = 0 then ((num_Sub.f k bt446.1 bt446.2 a2_0 l2_1).bind fun bt463 => ((num_Sum.f k (([(⟨a1_0, l1_1⟩ : S25), (⟨a0_0, l0_1⟩ : S25)] : List (S25)))).bind fun bt470 => ((num_Cmp.f k bt463.1 bt463.2 bt470.1 bt470.2).bind fun t474 => (if t474 = 0 then ((num_Sum.f k ([] : List (S25))).bind fun bt475 => ((num_Sign.f k bt475.1 bt475.2).bind fun t479 => (some (t479 == 0)))) else (some false))))) else (some false))))) else (some false))) else (some false))) else (some false))))))))) else (some true))) else (some false)) = some r := H
 have A4 := aK A40
 clear A40
 by_cases c5 : t416 = true
 ·subst c5
  replace H : ((isohyetlaw02_short.f k 20 (([(⟨a0_0, l0_1⟩ : S25), (⟨a1_0, l1_1⟩ : S25), (⟨a2_0, l2_1⟩ : S25)] : List (S25)))).bind fun t420 => (if t420 = true then ((num_Add.f k a1_0 l1_1 a2_0 l2_1).bind fun bt421 => ((num_Mul.f k a0_0 l0_1 bt421.1 bt421.2).bind fun bt425 => ((num_Mul.f k a2_0 l2_1 a0_0 l0_1).bind fun bt429 => ((num_Mul.f k a1_0 l1_1 a0_0 l0_1).bind fun bt433 => ((num_Add.f k bt429.1 bt429.2 bt433.1 bt433.2).bind fun bt437 => ((num_Sum.f k (([(⟨a0_0, l0_1⟩ : S25), (⟨a1_0, l1_1⟩ : S25), (⟨a2_0, l2_1⟩ : S25)] : List (S25)))).bind fun bt446 => ((num_Cmp.f k bt425.1 bt425.2 bt437.1 bt437.2).bind fun t451 => (if t451 = 0 then ((isohyetlaw02_Right.f bt425.1 bt425.2).bind fun t452 => (if t452 = true then ((isohyetlaw02_Right.f bt446.1 bt446.2).bind fun t453 => (if t453 = true then ((num_Add.f k a1_0 l1_1 a0_0 l0_1).bind fun bt454 => ((num_Add.f k a2_0 l2_1 bt454.1 bt454.2).bind fun bt458 => ((num_Cmp.f k bt446.1 bt446.2 bt458.1 bt458.2).bind fun t462 => (if t462 = 0 then ((num_Sub.f k bt446.1 bt446.2 a2_0 l2_1).bind fun bt463 => ((num_Sum.f k (([(⟨a1_0, l1_1⟩ : S25), (⟨a0_0, l0_1⟩ : S25)] : List (S25)))).bind fun bt470 => ((num_Cmp.f k bt463.1 bt463.2 bt470.1 bt470.2).bind fun t474 => (if t474 = 0 then ((num_Sum.f k ([] : List (S25))).bind fun bt475 => ((num_Sign.f k bt475.1 bt475.2).bind fun t479 => (some (t479 == 0)))) else (some false))))) else (some false))))) else (some false))) else (some false))) else (some false))))))))) else (some true))) = some r := by rw [if_pos rfl] at H; exact H
  obtain ⟨y417, hy417⟩ : ∃ y_ : List (S25), y_ = (([(⟨a0_0, l0_1⟩ : S25), (⟨a1_0, l1_1⟩ : S25), (⟨a2_0, l2_1⟩ : S25)] : List (S25))) := ⟨_, rfl⟩
  replace H : ((isohyetlaw02_short.f k 20 y417).bind fun t420 => (if t420 = true then ((num_Add.f k a1_0 l1_1 a2_0 l2_1).bind fun bt421 => ((num_Mul.f k a0_0 l0_1 bt421.1 bt421.2).bind fun bt425 => ((num_Mul.f k a2_0 l2_1 a0_0 l0_1).bind fun bt429 => ((num_Mul.f k a1_0 l1_1 a0_0 l0_1).bind fun bt433 => ((num_Add.f k bt429.1 bt429.2 bt433.1 bt433.2).bind fun bt437 => ((num_Sum.f k (([(⟨a0_0, l0_1⟩ : S25), (⟨a1_0, l1_1⟩ : S25), (⟨a2_0, l2_1⟩ : S25)] : List (S25)))).bind fun bt446 => ((num_Cmp.f k bt425.1 bt425.2 bt437.1 bt437.2).bind fun t451 => (if t451 = 0 then ((isohyetlaw02_Right.f bt425.1 bt425.2).bind fun t452 => (if t452 = true then ((isohyetlaw02_Right.f bt446.1 bt446.2).bind fun t453 => (if t453 = true then ((num_Add.f k a1_0 l1_1 a0_0 l0_1).bind fun bt454 => ((num_Add.f k a2_0 l2_1 bt454.1 bt454.2).bind fun bt458 => ((num_Cmp.f k bt446.1 bt446.2 bt458.1 bt458.2).bind fun t462 => (if t462 = 0 then ((num_Sub.f k bt446.1 bt446.2 a2_0 l2_1).bind fun bt463 => ((num_Sum.f k (([(⟨a1_0, l1_1⟩ : S25), (⟨a0_0, l0_1⟩ : S25)] : List (S25)))).bind fun bt470 => ((num_Cmp.f k bt463.1 bt463.2 bt470.1 bt470.2).bind fun t474 => (if t474 = 0 then ((num_Sum.f k ([] : List (S25))).bind fun bt475 => ((num_Sign.f k bt475.1 bt475.2).bind fun t479 => (some (t479 == 0)))) else (some false))))) else (some false))))) else (some false))) else (some false))) else (some false))))))))) else (some true))) = some r := by first | (rw [hy417]; with_reducible exact H) | (have H2_ := (Option.bind_some _ _).symm.trans H; rw [hy417]; with_reducible exact H2_) | (have H2_ := (Option.bind_some _ _).symm.trans H; with_reducible exact H2_) | with_reducible exact H | (rw [hy417]; exact H) | exact H
  have Ny417 := aK hy417
  clear hy417
  replace H := Option.bind_eq_some_iff.mp H
  obtain ⟨t420, A60, H⟩ := H
  replace H : (if t420 = true then ((num_Add.f k a1_0 l1_1 a2_0 l2_1).bind fun bt421 => ((num_Mul.f k a0_0 l0_1 bt421.1 bt421.2).bind fun bt425 => ((num_Mul.f k a2_0 l2_1 a0_0 l0_1).bind fun bt429 => ((num_Mul.f k a1_0 l1_1 a0_0 l0_1).bind fun bt433 => ((num_Add.f k bt429.1 bt429.2 bt433.1 bt433.2).bind fun bt437 => ((num_Sum.f k (([(⟨a0_0, l0_1⟩ : S25), (⟨a1_0, l1_1⟩ : S25), (⟨a2_0, l2_1⟩ : S25)] : List (S25)))).bind fun bt446 => ((num_Cmp.f k bt425.1 bt425.2 bt437.1 bt437.2).bind fun t451 => (if t451 = 0 then ((isohyetlaw02_Right.f bt425.1 bt425.2).bind fun t452 => (if t452 = true then ((isohyetlaw02_Right.f bt446.1 bt446.2).bind fun t453 => (if t453 = true then ((num_Add.f k a1_0 l1_1 a0_0 l0_1).bind fun bt454 => ((num_Add.f k a2_0 l2_1 bt454.1 bt454.2).bind fun bt458 => ((num_Cmp.f k bt446.1 bt446.2 bt458.1 bt458.2).bind fun t462 => (if t462 = 0 then ((num_Sub.f k bt446.1 bt446.2 a2_0 l2_1).bind fun bt463 => ((num_Sum.f k (([(⟨a1_0, l1_1⟩ : S25), (⟨a0_0, l0_1⟩ : S25)] : List (S25)))).bind fun bt470 => ((num_Cmp.f k bt463.1 bt463.2 bt470.1 bt470.2).bind fun t474 => (if t474 = 0 then ((num_Sum.f k ([] : List (S25))).bind fun bt475 => ((num_Sign.f k bt475.1 bt475.2).bind fun t479 => (some (t479 == 0)))) else (some false))))) else (some false))))) else (some false))) else (some false))) else (some false))))))))) else (some true)) = some r := H
  have A6 := aK A60
  clear A60
  by_cases c7 : t420 = true
  ·subst c7
   replace H : ((num_Add.f k a1_0 l1_1 a2_0 l2_1).bind fun bt421 => ((num_Mul.f k a0_0 l0_1 bt421.1 bt421.2).bind fun bt425 => ((num_Mul.f k a2_0 l2_1 a0_0 l0_1).bind fun bt429 => ((num_Mul.f k a1_0 l1_1 a0_0 l0_1).bind fun bt433 => ((num_Add.f k bt429.1 bt429.2 bt433.1 bt433.2).bind fun bt437 => ((num_Sum.f k (([(⟨a0_0, l0_1⟩ : S25), (⟨a1_0, l1_1⟩ : S25), (⟨a2_0, l2_1⟩ : S25)] : List (S25)))).bind fun bt446 => ((num_Cmp.f k bt425.1 bt425.2 bt437.1 bt437.2).bind fun t451 => (if t451 = 0 then ((isohyetlaw02_Right.f bt425.1 bt425.2).bind fun t452 => (if t452 = true then ((isohyetlaw02_Right.f bt446.1 bt446.2).bind fun t453 => (if t453 = true then ((num_Add.f k a1_0 l1_1 a0_0 l0_1).bind fun bt454 => ((num_Add.f k a2_0 l2_1 bt454.1 bt454.2).bind fun bt458 => ((num_Cmp.f k bt446.1 bt446.2 bt458.1 bt458.2).bind fun t462 => (if t462 = 0 then ((num_Sub.f k bt446.1 bt446.2 a2_0 l2_1).bind fun bt463 => ((num_Sum.f k (([(⟨a1_0, l1_1⟩ : S25), (⟨a0_0, l0_1⟩ : S25)] : List (S25)))).bind fun bt470 => ((num_Cmp.f k bt463.1 bt463.2 bt470.1 bt470.2).bind fun t474 => (if t474 = 0 then ((num_Sum.f k ([] : List (S25))).bind fun bt475 => ((num_Sign.f k bt475.1 bt475.2).bind fun t479 => (some (t479 == 0)))) else (some false))))) else (some false))))) else (some false))) else (some false))) else (some false))))))))) = some r := by rw [if_pos rfl] at H; exact H
   replace H := Option.bind_eq_some_iff.mp H
   obtain ⟨⟨t421, t422⟩, A80, H⟩ := H
   replace H : ((num_Mul.f k a0_0 l0_1 t421 t422).bind fun bt425 => ((num_Mul.f k a2_0 l2_1 a0_0 l0_1).bind fun bt429 => ((num_Mul.f k a1_0 l1_1 a0_0 l0_1).bind fun bt433 => ((num_Add.f k bt429.1 bt429.2 bt433.1 bt433.2).bind fun bt437 => ((num_Sum.f k (([(⟨a0_0, l0_1⟩ : S25), (⟨a1_0, l1_1⟩ : S25), (⟨a2_0, l2_1⟩ : S25)] : List (S25)))).bind fun bt446 => ((num_Cmp.f k bt425.1 bt425.2 bt437.1 bt437.2).bind fun t451 => (if t451 = 0 then ((isohyetlaw02_Right.f bt425.1 bt425.2).bind fun t452 => (if t452 = true then ((isohyetlaw02_Right.f bt446.1 bt446.2).bind fun t453 => (if t453 = true then ((num_Add.f k a1_0 l1_1 a0_0 l0_1).bind fun bt454 => ((num_Add.f k a2_0 l2_1 bt454.1 bt454.2).bind fun bt458 => ((num_Cmp.f k bt446.1 bt446.2 bt458.1 bt458.2).bind fun t462 => (if t462 = 0 then ((num_Sub.f k bt446.1 bt446.2 a2_0 l2_1).bind fun bt463 => ((num_Sum.f k (([(⟨a1_0, l1_1⟩ : S25), (⟨a0_0, l0_1⟩ : S25)] : List (S25)))).bind fun bt470 => ((num_Cmp.f k bt463.1 bt463.2 bt470.1 bt470.2).bind fun t474 => (if t474 = 0 then ((num_Sum.f k ([] : List (S25))).bind fun bt475 => ((num_Sign.f k bt475.1 bt475.2).bind fun t479 => (some (t479 == 0)))) else (some false))))) else (some false))))) else (some false))) else (some false))) else (some false)))))))) = some r := H
   have A8 := aK A80
   clear A80
   replace H := Option.bind_eq_some_iff.mp H
   obtain ⟨⟨t425, t426⟩, A90, H⟩ := H
   replace H : ((num_Mul.f k a2_0 l2_1 a0_0 l0_1).bind fun bt429 => ((num_Mul.f k a1_0 l1_1 a0_0 l0_1).bind fun bt433 => ((num_Add.f k bt429.1 bt429.2 bt433.1 bt433.2).bind fun bt437 => ((num_Sum.f k (([(⟨a0_0, l0_1⟩ : S25), (⟨a1_0, l1_1⟩ : S25), (⟨a2_0, l2_1⟩ : S25)] : List (S25)))).bind fun bt446 => ((num_Cmp.f k t425 t426 bt437.1 bt437.2).bind fun t451 => (if t451 = 0 then ((isohyetlaw02_Right.f t425 t426).bind fun t452 => (if t452 = true then ((isohyetlaw02_Right.f bt446.1 bt446.2).bind fun t453 => (if t453 = true then ((num_Add.f k a1_0 l1_1 a0_0 l0_1).bind fun bt454 => ((num_Add.f k a2_0 l2_1 bt454.1 bt454.2).bind fun bt458 => ((num_Cmp.f k bt446.1 bt446.2 bt458.1 bt458.2).bind fun t462 => (if t462 = 0 then ((num_Sub.f k bt446.1 bt446.2 a2_0 l2_1).bind fun bt463 => ((num_Sum.f k (([(⟨a1_0, l1_1⟩ : S25), (⟨a0_0, l0_1⟩ : S25)] : List (S25)))).bind fun bt470 => ((num_Cmp.f k bt463.1 bt463.2 bt470.1 bt470.2).bind fun t474 => (if t474 = 0 then ((num_Sum.f k ([] : List (S25))).bind fun bt475 => ((num_Sign.f k bt475.1 bt475.2).bind fun t479 => (some (t479 == 0)))) else (some false))))) else (some false))))) else (some false))) else (some false))) else (some false))))))) = some r := H
   have A9 := aK A90
   clear A90
   replace H := Option.bind_eq_some_iff.mp H
   obtain ⟨⟨t429, t430⟩, A100, H⟩ := H
   replace H : ((num_Mul.f k a1_0 l1_1 a0_0 l0_1).bind fun bt433 => ((num_Add.f k t429 t430 bt433.1 bt433.2).bind fun bt437 => ((num_Sum.f k (([(⟨a0_0, l0_1⟩ : S25), (⟨a1_0, l1_1⟩ : S25), (⟨a2_0, l2_1⟩ : S25)] : List (S25)))).bind fun bt446 => ((num_Cmp.f k t425 t426 bt437.1 bt437.2).bind fun t451 => (if t451 = 0 then ((isohyetlaw02_Right.f t425 t426).bind fun t452 => (if t452 = true then ((isohyetlaw02_Right.f bt446.1 bt446.2).bind fun t453 => (if t453 = true then ((num_Add.f k a1_0 l1_1 a0_0 l0_1).bind fun bt454 => ((num_Add.f k a2_0 l2_1 bt454.1 bt454.2).bind fun bt458 => ((num_Cmp.f k bt446.1 bt446.2 bt458.1 bt458.2).bind fun t462 => (if t462 = 0 then ((num_Sub.f k bt446.1 bt446.2 a2_0 l2_1).bind fun bt463 => ((num_Sum.f k (([(⟨a1_0, l1_1⟩ : S25), (⟨a0_0, l0_1⟩ : S25)] : List (S25)))).bind fun bt470 => ((num_Cmp.f k bt463.1 bt463.2 bt470.1 bt470.2).bind fun t474 => (if t474 = 0 then ((num_Sum.f k ([] : List (S25))).bind fun bt475 => ((num_Sign.f k bt475.1 bt475.2).bind fun t479 => (some (t479 == 0)))) else (some false))))) else (some false))))) else (some false))) else (some false))) else (some false)))))) = some r := H
   have A10 := aK A100
   clear A100
   replace H := Option.bind_eq_some_iff.mp H
   obtain ⟨⟨t433, t434⟩, A110, H⟩ := H
   replace H : ((num_Add.f k t429 t430 t433 t434).bind fun bt437 => ((num_Sum.f k (([(⟨a0_0, l0_1⟩ : S25), (⟨a1_0, l1_1⟩ : S25), (⟨a2_0, l2_1⟩ : S25)] : List (S25)))).bind fun bt446 => ((num_Cmp.f k t425 t426 bt437.1 bt437.2).bind fun t451 => (if t451 = 0 then ((isohyetlaw02_Right.f t425 t426).bind fun t452 => (if t452 = true then ((isohyetlaw02_Right.f bt446.1 bt446.2).bind fun t453 => (if t453 = true then ((num_Add.f k a1_0 l1_1 a0_0 l0_1).bind fun bt454 => ((num_Add.f k a2_0 l2_1 bt454.1 bt454.2).bind fun bt458 => ((num_Cmp.f k bt446.1 bt446.2 bt458.1 bt458.2).bind fun t462 => (if t462 = 0 then ((num_Sub.f k bt446.1 bt446.2 a2_0 l2_1).bind fun bt463 => ((num_Sum.f k (([(⟨a1_0, l1_1⟩ : S25), (⟨a0_0, l0_1⟩ : S25)] : List (S25)))).bind fun bt470 => ((num_Cmp.f k bt463.1 bt463.2 bt470.1 bt470.2).bind fun t474 => (if t474 = 0 then ((num_Sum.f k ([] : List (S25))).bind fun bt475 => ((num_Sign.f k bt475.1 bt475.2).bind fun t479 => (some (t479 == 0)))) else (some false))))) else (some false))))) else (some false))) else (some false))) else (some false))))) = some r := H
   have A11 := aK A110
   clear A110
   replace H := Option.bind_eq_some_iff.mp H
   obtain ⟨⟨t437, t438⟩, A120, H⟩ := H
   replace H : ((num_Sum.f k (([(⟨a0_0, l0_1⟩ : S25), (⟨a1_0, l1_1⟩ : S25), (⟨a2_0, l2_1⟩ : S25)] : List (S25)))).bind fun bt446 => ((num_Cmp.f k t425 t426 t437 t438).bind fun t451 => (if t451 = 0 then ((isohyetlaw02_Right.f t425 t426).bind fun t452 => (if t452 = true then ((isohyetlaw02_Right.f bt446.1 bt446.2).bind fun t453 => (if t453 = true then ((num_Add.f k a1_0 l1_1 a0_0 l0_1).bind fun bt454 => ((num_Add.f k a2_0 l2_1 bt454.1 bt454.2).bind fun bt458 => ((num_Cmp.f k bt446.1 bt446.2 bt458.1 bt458.2).bind fun t462 => (if t462 = 0 then ((num_Sub.f k bt446.1 bt446.2 a2_0 l2_1).bind fun bt463 => ((num_Sum.f k (([(⟨a1_0, l1_1⟩ : S25), (⟨a0_0, l0_1⟩ : S25)] : List (S25)))).bind fun bt470 => ((num_Cmp.f k bt463.1 bt463.2 bt470.1 bt470.2).bind fun t474 => (if t474 = 0 then ((num_Sum.f k ([] : List (S25))).bind fun bt475 => ((num_Sign.f k bt475.1 bt475.2).bind fun t479 => (some (t479 == 0)))) else (some false))))) else (some false))))) else (some false))) else (some false))) else (some false)))) = some r := H
   have A12 := aK A120
   clear A120
   obtain ⟨y443, hy443⟩ : ∃ y_ : List (S25), y_ = (([(⟨a0_0, l0_1⟩ : S25), (⟨a1_0, l1_1⟩ : S25), (⟨a2_0, l2_1⟩ : S25)] : List (S25))) := ⟨_, rfl⟩
   replace H : ((num_Sum.f k y443).bind fun bt446 => ((num_Cmp.f k t425 t426 t437 t438).bind fun t451 => (if t451 = 0 then ((isohyetlaw02_Right.f t425 t426).bind fun t452 => (if t452 = true then ((isohyetlaw02_Right.f bt446.1 bt446.2).bind fun t453 => (if t453 = true then ((num_Add.f k a1_0 l1_1 a0_0 l0_1).bind fun bt454 => ((num_Add.f k a2_0 l2_1 bt454.1 bt454.2).bind fun bt458 => ((num_Cmp.f k bt446.1 bt446.2 bt458.1 bt458.2).bind fun t462 => (if t462 = 0 then ((num_Sub.f k bt446.1 bt446.2 a2_0 l2_1).bind fun bt463 => ((num_Sum.f k (([(⟨a1_0, l1_1⟩ : S25), (⟨a0_0, l0_1⟩ : S25)] : List (S25)))).bind fun bt470 => ((num_Cmp.f k bt463.1 bt463.2 bt470.1 bt470.2).bind fun t474 => (if t474 = 0 then ((num_Sum.f k ([] : List (S25))).bind fun bt475 => ((num_Sign.f k bt475.1 bt475.2).bind fun t479 => (some (t479 == 0)))) else (some false))))) else (some false))))) else (some false))) else (some false))) else (some false)))) = some r := by first | (rw [hy443]; with_reducible exact H) | (have H2_ := (Option.bind_some _ _).symm.trans H; rw [hy443]; with_reducible exact H2_) | (have H2_ := (Option.bind_some _ _).symm.trans H; with_reducible exact H2_) | with_reducible exact H | (rw [hy443]; exact H) | exact H
   have Ny443 := aK hy443
   clear hy443
   replace H := Option.bind_eq_some_iff.mp H
   obtain ⟨⟨t446, t447⟩, A130, H⟩ := H
   replace H : ((num_Cmp.f k t425 t426 t437 t438).bind fun t451 => (if t451 = 0 then ((isohyetlaw02_Right.f t425 t426).bind fun t452 => (if t452 = true then ((isohyetlaw02_Right.f t446 t447).bind fun t453 => (if t453 = true then ((num_Add.f k a1_0 l1_1 a0_0 l0_1).bind fun bt454 => ((num_Add.f k a2_0 l2_1 bt454.1 bt454.2).bind fun bt458 => ((num_Cmp.f k t446 t447 bt458.1 bt458.2).bind fun t462 => (if t462 = 0 then ((num_Sub.f k t446 t447 a2_0 l2_1).bind fun bt463 => ((num_Sum.f k (([(⟨a1_0, l1_1⟩ : S25), (⟨a0_0, l0_1⟩ : S25)] : List (S25)))).bind fun bt470 => ((num_Cmp.f k bt463.1 bt463.2 bt470.1 bt470.2).bind fun t474 => (if t474 = 0 then ((num_Sum.f k ([] : List (S25))).bind fun bt475 => ((num_Sign.f k bt475.1 bt475.2).bind fun t479 => (some (t479 == 0)))) else (some false))))) else (some false))))) else (some false))) else (some false))) else (some false))) = some r := H
   have A13 := aK A130
   clear A130
   replace H := Option.bind_eq_some_iff.mp H
   obtain ⟨t451, A140, H⟩ := H
   replace H : (if t451 = 0 then ((isohyetlaw02_Right.f t425 t426).bind fun t452 => (if t452 = true then ((isohyetlaw02_Right.f t446 t447).bind fun t453 => (if t453 = true then ((num_Add.f k a1_0 l1_1 a0_0 l0_1).bind fun bt454 => ((num_Add.f k a2_0 l2_1 bt454.1 bt454.2).bind fun bt458 => ((num_Cmp.f k t446 t447 bt458.1 bt458.2).bind fun t462 => (if t462 = 0 then ((num_Sub.f k t446 t447 a2_0 l2_1).bind fun bt463 => ((num_Sum.f k (([(⟨a1_0, l1_1⟩ : S25), (⟨a0_0, l0_1⟩ : S25)] : List (S25)))).bind fun bt470 => ((num_Cmp.f k bt463.1 bt463.2 bt470.1 bt470.2).bind fun t474 => (if t474 = 0 then ((num_Sum.f k ([] : List (S25))).bind fun bt475 => ((num_Sign.f k bt475.1 bt475.2).bind fun t479 => (some (t479 == 0)))) else (some false))))) else (some false))))) else (some false))) else (some false))) else (some false)) = some r := H
   have A14 := aK A140
   clear A140
   by_cases c15 : t451 = 0
   ·rw [if_pos c15] at H
    have c15b0 : (t451 == 0) = true := beq_iff_eq.mpr c15
    have c15b1 : (t451 != 0) = false := bne_eq_false_iff_eq.mpr c15
    clear c15
    replace H := Option.bind_eq_some_iff.mp H
    obtain ⟨t452, A160, H⟩ := H
    replace H : (if t452 = true then ((isohyetlaw02_Right.f t446 t447).bind fun t453 => (if t453 = true then ((num_Add.f k a1_0 l1_1 a0_0 l0_1).bind fun bt454 => ((num_Add.f k a2_0 l2_1 bt454.1 bt454.2).bind fun bt458 => ((num_Cmp.f k t446 t447 bt458.1 bt458.2).bind fun t462 => (if t462 = 0 then ((num_Sub.f k t446 t447 a2_0 l2_1).bind fun bt463 => ((num_Sum.f k (([(⟨a1_0, l1_1⟩ : S25), (⟨a0_0, l0_1⟩ : S25)] : List (S25)))).bind fun bt470 => ((num_Cmp.f k bt463.1 bt463.2 bt470.1 bt470.2).bind fun t474 => (if t474 = 0 then ((num_Sum.f k ([] : List (S25))).bind fun bt475 => ((num_Sign.f k bt475.1 bt475.2).bind fun t479 => (some (t479 == 0)))) else (some false))))) else (some false))))) else (some false))) else (some false)) = some r := H
    have A16 := aK A160
    clear A160
    by_cases c17 : t452 = true
    ·subst c17
     replace H : ((isohyetlaw02_Right.f t446 t447).bind fun t453 => (if t453 = true then ((num_Add.f k a1_0 l1_1 a0_0 l0_1).bind fun bt454 => ((num_Add.f k a2_0 l2_1 bt454.1 bt454.2).bind fun bt458 => ((num_Cmp.f k t446 t447 bt458.1 bt458.2).bind fun t462 => (if t462 = 0 then ((num_Sub.f k t446 t447 a2_0 l2_1).bind fun bt463 => ((num_Sum.f k (([(⟨a1_0, l1_1⟩ : S25), (⟨a0_0, l0_1⟩ : S25)] : List (S25)))).bind fun bt470 => ((num_Cmp.f k bt463.1 bt463.2 bt470.1 bt470.2).bind fun t474 => (if t474 = 0 then ((num_Sum.f k ([] : List (S25))).bind fun bt475 => ((num_Sign.f k bt475.1 bt475.2).bind fun t479 => (some (t479 == 0)))) else (some false))))) else (some false))))) else (some false))) = some r := by rw [if_pos rfl] at H; exact H
     replace H := Option.bind_eq_some_iff.mp H
     obtain ⟨t453, A180, H⟩ := H
     replace H : (if t453 = true then ((num_Add.f k a1_0 l1_1 a0_0 l0_1).bind fun bt454 => ((num_Add.f k a2_0 l2_1 bt454.1 bt454.2).bind fun bt458 => ((num_Cmp.f k t446 t447 bt458.1 bt458.2).bind fun t462 => (if t462 = 0 then ((num_Sub.f k t446 t447 a2_0 l2_1).bind fun bt463 => ((num_Sum.f k (([(⟨a1_0, l1_1⟩ : S25), (⟨a0_0, l0_1⟩ : S25)] : List (S25)))).bind fun bt470 => ((num_Cmp.f k bt463.1 bt463.2 bt470.1 bt470.2).bind fun t474 => (if t474 = 0 then ((num_Sum.f k ([] : List (S25))).bind fun bt475 => ((num_Sign.f k bt475.1 bt475.2).bind fun t479 => (some (t479 == 0)))) else (some false))))) else (some false))))) else (some false)) = some r := H
     have A18 := aK A180
     clear A180
     by_cases c19 : t453 = true
     ·subst c19
      replace H : ((num_Add.f k a1_0 l1_1 a0_0 l0_1).bind fun bt454 => ((num_Add.f k a2_0 l2_1 bt454.1 bt454.2).bind fun bt458 => ((num_Cmp.f k t446 t447 bt458.1 bt458.2).bind fun t462 => (if t462 = 0 then ((num_Sub.f k t446 t447 a2_0 l2_1).bind fun bt463 => ((num_Sum.f k (([(⟨a1_0, l1_1⟩ : S25), (⟨a0_0, l0_1⟩ : S25)] : List (S25)))).bind fun bt470 => ((num_Cmp.f k bt463.1 bt463.2 bt470.1 bt470.2).bind fun t474 => (if t474 = 0 then ((num_Sum.f k ([] : List (S25))).bind fun bt475 => ((num_Sign.f k bt475.1 bt475.2).bind fun t479 => (some (t479 == 0)))) else (some false))))) else (some false))))) = some r := by rw [if_pos rfl] at H; exact H
      replace H := Option.bind_eq_some_iff.mp H
      obtain ⟨⟨t454, t455⟩, A200, H⟩ := H
      replace H : ((num_Add.f k a2_0 l2_1 t454 t455).bind fun bt458 => ((num_Cmp.f k t446 t447 bt458.1 bt458.2).bind fun t462 => (if t462 = 0 then ((num_Sub.f k t446 t447 a2_0 l2_1).bind fun bt463 => ((num_Sum.f k (([(⟨a1_0, l1_1⟩ : S25), (⟨a0_0, l0_1⟩ : S25)] : List (S25)))).bind fun bt470 => ((num_Cmp.f k bt463.1 bt463.2 bt470.1 bt470.2).bind fun t474 => (if t474 = 0 then ((num_Sum.f k ([] : List (S25))).bind fun bt475 => ((num_Sign.f k bt475.1 bt475.2).bind fun t479 => (some (t479 == 0)))) else (some false))))) else (some false)))) = some r := H
      have A20 := aK A200
      clear A200
      replace H := Option.bind_eq_some_iff.mp H
      obtain ⟨⟨t458, t459⟩, A210, H⟩ := H
      replace H : ((num_Cmp.f k t446 t447 t458 t459).bind fun t462 => (if t462 = 0 then ((num_Sub.f k t446 t447 a2_0 l2_1).bind fun bt463 => ((num_Sum.f k (([(⟨a1_0, l1_1⟩ : S25), (⟨a0_0, l0_1⟩ : S25)] : List (S25)))).bind fun bt470 => ((num_Cmp.f k bt463.1 bt463.2 bt470.1 bt470.2).bind fun t474 => (if t474 = 0 then ((num_Sum.f k ([] : List (S25))).bind fun bt475 => ((num_Sign.f k bt475.1 bt475.2).bind fun t479 => (some (t479 == 0)))) else (some false))))) else (some false))) = some r := H
      have A21 := aK A210
      clear A210
      replace H := Option.bind_eq_some_iff.mp H
      obtain ⟨t462, A220, H⟩ := H
      replace H : (if t462 = 0 then ((num_Sub.f k t446 t447 a2_0 l2_1).bind fun bt463 => ((num_Sum.f k (([(⟨a1_0, l1_1⟩ : S25), (⟨a0_0, l0_1⟩ : S25)] : List (S25)))).bind fun bt470 => ((num_Cmp.f k bt463.1 bt463.2 bt470.1 bt470.2).bind fun t474 => (if t474 = 0 then ((num_Sum.f k ([] : List (S25))).bind fun bt475 => ((num_Sign.f k bt475.1 bt475.2).bind fun t479 => (some (t479 == 0)))) else (some false))))) else (some false)) = some r := H
      have A22 := aK A220
      clear A220
      by_cases c23 : t462 = 0
      ·rw [if_pos c23] at H
       have c23b0 : (t462 == 0) = true := beq_iff_eq.mpr c23
       have c23b1 : (t462 != 0) = false := bne_eq_false_iff_eq.mpr c23
       clear c23
       replace H := Option.bind_eq_some_iff.mp H
       obtain ⟨⟨t463, t464⟩, A240, H⟩ := H
       replace H : ((num_Sum.f k (([(⟨a1_0, l1_1⟩ : S25), (⟨a0_0, l0_1⟩ : S25)] : List (S25)))).bind fun bt470 => ((num_Cmp.f k t463 t464 bt470.1 bt470.2).bind fun t474 => (if t474 = 0 then ((num_Sum.f k ([] : List (S25))).bind fun bt475 => ((num_Sign.f k bt475.1 bt475.2).bind fun t479 => (some (t479 == 0)))) else (some false)))) = some r := H
       have A24 := aK A240
       clear A240
       obtain ⟨y467, hy467⟩ : ∃ y_ : List (S25), y_ = (([(⟨a1_0, l1_1⟩ : S25), (⟨a0_0, l0_1⟩ : S25)] : List (S25))) := ⟨_, rfl⟩
       replace H : ((num_Sum.f k y467).bind fun bt470 => ((num_Cmp.f k t463 t464 bt470.1 bt470.2).bind fun t474 => (if t474 = 0 then ((num_Sum.f k ([] : List (S25))).bind fun bt475 => ((num_Sign.f k bt475.1 bt475.2).bind fun t479 => (some (t479 == 0)))) else (some false)))) = some r := by first | (rw [hy467]; with_reducible exact H) | (have H2_ := (Option.bind_some _ _).symm.trans H; rw [hy467]; with_reducible exact H2_) | (have H2_ := (Option.bind_some _ _).symm.trans H; with_reducible exact H2_) | with_reducible exact H | (rw [hy467]; exact H) | exact H
       have Ny467 := aK hy467
       clear hy467
       replace H := Option.bind_eq_some_iff.mp H
       obtain ⟨⟨t470, t471⟩, A250, H⟩ := H
       replace H : ((num_Cmp.f k t463 t464 t470 t471).bind fun t474 => (if t474 = 0 then ((num_Sum.f k ([] : List (S25))).bind fun bt475 => ((num_Sign.f k bt475.1 bt475.2).bind fun t479 => (some (t479 == 0)))) else (some false))) = some r := H
       have A25 := aK A250
       clear A250
       replace H := Option.bind_eq_some_iff.mp H
       obtain ⟨t474, A260, H⟩ := H
       replace H : (if t474 = 0 then ((num_Sum.f k ([] : List (S25))).bind fun bt475 => ((num_Sign.f k bt475.1 bt475.2).bind fun t479 => (some (t479 == 0)))) else (some false)) = some r := H
       have A26 := aK A260
       clear A260
       by_cases c27 : t474 = 0
       ·rw [if_pos c27] at H
        have c27b0 : (t474 == 0) = true := beq_iff_eq.mpr c27
        have c27b1 : (t474 != 0) = false := bne_eq_false_iff_eq.mpr c27
        clear c27
        replace H := Option.bind_eq_some_iff.mp H
        obtain ⟨⟨t475, t476⟩, A280, H⟩ := H
        replace H : ((num_Sign.f k t475 t476).bind fun t479 => (some (t479 == 0))) = some r := H
        have A28 := aK A280
        clear A280
        replace H := Option.bind_eq_some_iff.mp H
        obtain ⟨t479, A290, H⟩ := H
        replace H : (some (t479 == 0)) = some r := H
        have A29 := aK A290
        clear A290
        obtain rfl := Option.some.inj H
        go_enter Try.func8, Try.ntmps8
        try go_wp2_with (first | ((with_reducible refine gate_dst (N := 3) rfl ?_); (try (refine gate_guard (by rfl) ?_; dsimp only)); refine box_event ?hg (N := 3) ?hd (cs := #[.bool a0_0, .slice A0_1 l0_1.length c0_1]) (t := 25) ?hr ?_; (case hd => rfl); (case hg => rfl); (case hr => first | (go_simp; done) | (go_simp; rfl)); intro g4 hg w30 hbox hb; replace a3 := aK (Kd.V_below (gV a3.out) hb); replace a4 := aK (Kd.V_below (gV a4.out) hb); replace a5 := aK (Kd.V_below (gV a5.out) hb); have n3_ := aK (below_step (gB HB.out) hb); have a0 := aK (hbox); have m7 := aK ((by rw [hg]; exact (below_size (gB HB.out)) : w.heap.size ≤ g4)); clear HB; have HB := n3_; clear n3_; clear hb hbox hg) | ((with_reducible refine gate_dst (N := 4) rfl ?_); (try (refine gate_guard (by rfl) ?_; dsimp only)); refine box_event ?hg (N := 4) ?hd (cs := #[.bool a1_0, .slice A1_1 l1_1.length c1_1]) (t := 25) ?hr ?_; (case hd => rfl); (case hg => rfl); (case hr => first | (go_simp; done) | (go_simp; rfl)); intro g6 hg w31 hbox hb; replace a3 := aK (Kd.V_below (gV a3.out) hb); replace a4 := aK (Kd.V_below (gV a4.out) hb); replace a5 := aK (Kd.V_below (gV a5.out) hb); have n3_ := aK (blk_below (gK a0.out) hb); have n4_ := aK (below_step (gB HB.out) hb); have a1 := aK (hbox); have m8 := aK ((by rw [hg]; exact (below_size (gB HB.out)) : w.heap.size ≤ g6)); have s8 := aK ((by rw [hg]; exact Nat.ne_of_lt (blk_lt (gK a0.out)) : g4 ≠ g6)); have s9 := aK ((by rw [hg]; exact Nat.ne_of_gt (blk_lt (gK a0.out)) : g6 ≠ g4)); clear a0 HB; have a0 := n3_; have HB := n4_; clear n3_ n4_; clear hb hbox hg) | ((with_reducible refine gate_dst (N := 5) rfl ?_); (try (refine gate_guard (by rfl) ?_; dsimp only)); refine box_event ?hg (N := 5) ?hd (cs := #[.bool a2_0, .slice A2_1 l2_1.length c2_1]) (t := 25) ?hr ?_; (case hd => rfl); (case hg => rfl); (case hr => first | (go_simp; done) | (go_simp; rfl)); intro g7 hg w32 hbox hb; replace a3 := aK (Kd.V_below (gV a3.out) hb); replace a4 := aK (Kd.V_below (gV a4.out) hb); replace a5 := aK (Kd.V_below (gV a5.out) hb); have n3_ := aK (blk_below (gK a0.out) hb); have n4_ := aK (blk_below (gK a1.out) hb); have n5_ := aK (below_step (gB HB.out) hb); have a2 := aK (hbox); have m9 := aK ((by rw [hg]; exact (below_size (gB HB.out)) : w.heap.size ≤ g7)); have t0 := aK ((by rw [hg]; exact Nat.ne_of_lt (blk_lt (gK a0.out)) : g4 ≠ g7)); have t1 := aK ((by rw [hg]; exact Nat.ne_of_gt (blk_lt (gK a0.out)) : g7 ≠ g4)); have t2 := aK ((by rw [hg]; exact Nat.ne_of_lt (blk_lt (gK a1.out)) : g6 ≠ g7)); have t3 := aK ((by rw [hg]; exact Nat.ne_of_gt (blk_lt (gK a1.out)) : g7 ≠ g6)); clear a0 a1 HB; have a0 := n3_; have a1 := n4_; have HB := n5_; clear n3_ n4_ n5_; clear hb hbox hg) | ((with_reducible refine gate_callee (f := 9) rfl ?_); refine goesL_ (some 10) rfl rfl Try.func9 (by kernel_rfl) rfl #[] rfl (by (try simp only [List.map_toArray, List.map_cons, List.map_nil]); first | done | rfl | (simp only [List.length_drop, List.length_take]; rfl)) ?_; (with_reducible refine (isohyetlaw02_fit.calls k  true _ rfl A4.out).mono ?_); (try clear A4); rintro e w33 ⟨rfl, hb⟩; refine ⟨_, rfl, ?_⟩; replace a3 := aK (Kd.V_below (gV a3.out) hb); replace a4 := aK (Kd.V_below (gV a4.out) hb); replace a5 := aK (Kd.V_below (gV a5.out) hb); replace a0 := aK (blk_below (gK a0.out) hb); replace a1 := aK (blk_below (gK a1.out) hb); replace a2 := aK (blk_below (gK a2.out) hb); replace HB := aK (below_step (gB HB.out) hb); (try clear hb); (try clear hb2); (try clear hk); (try clear hi); have hnb34 := s8.out; have hnc34 := s9.out; have hnb35 := t0.out; have hnc35 := t1.out; have hcz36_0 : w33.cell? ⟨g4, 0, none⟩ = some (.bool a0_0) := (blk_cell a0.out 0).trans rfl; have hcz36_1 : w33.cell? ⟨g4, 1, none⟩ = some (.slice A0_1 l0_1.length c0_1) := (blk_cell a0.out 1).trans rfl; have hfz36_0 := blk_frozen a0.out 0; have hfz36_1 := blk_frozen a0.out 1; have hnb37 := t2.out; have hnc37 := t3.out; have hcz38_0 : w33.cell? ⟨g6, 0, none⟩ = some (.bool a1_0) := (blk_cell a1.out 0).trans rfl; have hcz38_1 : w33.cell? ⟨g6, 1, none⟩ = some (.slice A1_1 l1_1.length c1_1) := (blk_cell a1.out 1).trans rfl; have hfz38_0 := blk_frozen a1.out 0; have hfz38_1 := blk_frozen a1.out 1; have hcz39_0 : w33.cell? ⟨g7, 0, none⟩ = some (.bool a2_0) := (blk_cell a2.out 0).trans rfl; have hcz39_1 : w33.cell? ⟨g7, 1, none⟩ = some (.slice A2_1 l2_1.length c2_1) := (blk_cell a2.out 1).trans rfl; have hfz39_0 := blk_frozen a2.out 0; have hfz39_1 := blk_frozen a2.out 1) | ((with_reducible refine gate_dst (N := 15) rfl ?_); (try (refine gate_guard (by rfl) ?_; dsimp only)); refine Kd.N_lit k25 _ 25 ?hg (N' := 15) ?hd (xs := ([(⟨a0_0, l0_1⟩ : S25), (⟨a1_0, l1_1⟩ : S25), (⟨a2_0, l2_1⟩ : S25)] : List (S25))) (inner := [.bool a0_0, .slice A0_1 l0_1.length c0_1, .bool a1_0, .slice A1_1 l1_1.length c1_1, .bool a2_0, .slice A2_1 l2_1.length c2_1]) (ok := (fun k_ => ((P0_1_ k_ ∨ P1_1_ k_ ∨ P2_1_ k_) ∨ w.heap.size ≤ k_))) (okp := (fun k_ => ((P0_1_ k_ ∨ P1_1_ k_ ∨ P2_1_ k_) ∨ w.heap.size ≤ k_))) ?hr ?hp (fun _ hk => hk) ((show ∀ k_, w33.heap.size ≤ k_ → (fun k_ => ((P0_1_ k_ ∨ P1_1_ k_ ∨ P2_1_ k_) ∨ w.heap.size ≤ k_)) k_ from fun k_ hk => (.inr (Nat.le_trans (below_size (gB HB.out)) hk))) _ (Nat.le_refl _)) (Below.refl _ _) (Nat.le_refl _) (by simp) ?_; (case hd => rfl); (case hg => rfl); (case hr => first | (go_simp; done) | (go_simp; rfl)); (case hp => exact (Reps.c2 (show Kd.FK k25 _ _ (⟨a0_0, l0_1⟩ : S25) [.bool a0_0, .slice A0_1 l0_1.length c0_1] from (k25_mkF _ _ (⟨a0_0, l0_1⟩ : S25) (Kd.V_reads' (Kd.V_mono (ok' := (fun k_ => ((P0_1_ k_ ∨ P1_1_ k_ ∨ P2_1_ k_) ∨ w.heap.size ≤ k_))) (a3.out) (fun k_ hk => hk))).2.1 (Kd.V_F (Kd.V_mono (ok' := (fun k_ => ((P0_1_ k_ ∨ P1_1_ k_ ∨ P2_1_ k_) ∨ w.heap.size ≤ k_))) (a3.out) (fun k_ hk => hk))))) (Reps.c2 (show Kd.FK k25 _ _ (⟨a1_0, l1_1⟩ : S25) [.bool a1_0, .slice A1_1 l1_1.length c1_1] from (k25_mkF _ _ (⟨a1_0, l1_1⟩ : S25) (Kd.V_reads' (Kd.V_mono (ok' := (fun k_ => ((P0_1_ k_ ∨ P1_1_ k_ ∨ P2_1_ k_) ∨ w.heap.size ≤ k_))) (a4.out) (fun k_ hk => hk))).2.1 (Kd.V_F (Kd.V_mono (ok' := (fun k_ => ((P0_1_ k_ ∨ P1_1_ k_ ∨ P2_1_ k_) ∨ w.heap.size ≤ k_))) (a4.out) (fun k_ hk => hk))))) (Reps.c2 (show Kd.FK k25 _ _ (⟨a2_0, l2_1⟩ : S25) [.bool a2_0, .slice A2_1 l2_1.length c2_1] from (k25_mkF _ _ (⟨a2_0, l2_1⟩ : S25) (Kd.V_reads' (Kd.V_mono (ok' := (fun k_ => ((P0_1_ k_ ∨ P1_1_ k_ ∨ P2_1_ k_) ∨ w.heap.size ≤ k_))) (a5.out) (fun k_ hk => hk))).2.1 (Kd.V_F (Kd.V_mono (ok' := (fun k_ => ((P0_1_ k_ ∨ P1_1_ k_ ∨ P2_1_ k_) ∨ w.heap.size ≤ k_))) (a5.out) (fun k_ hk => hk))))) (Reps.none _ _))))); intro v418 w40 ho41 hb hg_ hnew_; clear hg_ hnew_; (first | rw [← Ny417.out] at ho41 | (simp only [Int.reduceToNat] at ho41; rw [← Ny417.out] at ho41)); replace a3 := aK (Kd.V_below (gV a3.out) hb); replace a4 := aK (Kd.V_below (gV a4.out) hb); replace a5 := aK (Kd.V_below (gV a5.out) hb); have o1 := aK (Kd.N_lower ho41 (below_size (gB HB.out))); replace a0 := aK (blk_below (gK a0.out) hb); replace a1 := aK (blk_below (gK a1.out) hb); replace a2 := aK (blk_below (gK a2.out) hb); have n7_ := aK (below_step (gB HB.out) hb); clear HB; have HB := n7_; clear n7_; clear hb ho41; obtain ⟨Ao42, co42, eo42⟩ := Kd.N_slice o1.out; subst eo42) | ((with_reducible refine gate_callee (f := 10) rfl ?_); refine goesL_ (some 16) rfl rfl Try.func10 (by kernel_rfl) rfl #[.int .i64 20, .slice Ao42 y417.length co42] rfl (by (try simp only [List.map_toArray, List.map_cons, List.map_nil]); first | done | rfl | (simp only [List.length_drop, List.length_take]; rfl)) ?_; (with_reducible refine (isohyetlaw02_short.calls k 20 _ _ y417 true _ ?side1 ?side2 A6.out).mono ?_); (case side1 => repeat (first | exact (Kd.N_reads' o1.out).2.2 | apply Kd.C_alloc | apply Kd.C_drewN | apply Kd.C_drew)); (case side2 => exact (Kd.N_reads' o1.out).2.1); (try clear A6); rintro e w43 ⟨rfl, hb⟩; refine ⟨_, rfl, ?_⟩; replace a3 := aK (Kd.V_below (gV a3.out) hb); replace a4 := aK (Kd.V_below (gV a4.out) hb); replace a5 := aK (Kd.V_below (gV a5.out) hb); replace o1 := aK (Kd.N_below (gN o1.out) hb); replace a0 := aK (blk_below (gK a0.out) hb); replace a1 := aK (blk_below (gK a1.out) hb); replace a2 := aK (blk_below (gK a2.out) hb); replace HB := aK (below_step (gB HB.out) hb); (try clear hb); (try clear hb2); (try clear hk); (try clear hi)))
        replace a3 := aK (Kd.V_drew a3.out)
        replace a4 := aK (Kd.V_drew a4.out)
        replace a5 := aK (Kd.V_drew a5.out)
        replace a0 := aK (blk_drew a0.out)
        replace a1 := aK (blk_drew a1.out)
        replace a2 := aK (blk_drew a2.out)
        replace HB := aK (bD HB.out)
        refine start_ (n := 16) (S := fun w' => True) (ds := []) #[false, false, false, false, false, false, false, false, false, false, false, false, false, false, false, false] (by kernel_rfl) rfl rfl trivial (fun hHeld => ?_); refine with_tabW isohyetlaw02_NumLaws.tab5 isohyetlaw02_NumLaws.bits5 (fun HT_ HW_ => ?_)
        generalize w43.drew = w44 at a3 a4 a5 a0 a1 a2 HB hHeld ⊢
        refine inv_at [0, 1, 2, 3, 4, 5, 6, 7, 8, 9, 10, 11, 12, 13, 14, 15] (fun a0_ b a w' => ∃ (v423 : Value) (v427 : Value) (v431 : Value) (v435 : Value) (v439 : Value) (d3 : Nat) (d5 : Nat) (g8 : Value) (g9 : Value) (h0 : Value) (h1 : Value) (h2 : Value) (h3 : Value) (h4 : Value), a = putSel a0_ b [(0, 18, .agg #[.bool a0_0, .slice A0_1 l0_1.length c0_1]), (1, 19, .agg #[.bool a1_0, .slice A1_1 l1_1.length c1_1]), (2, 20, .agg #[.bool a2_0, .slice A2_1 l2_1.length c2_1]), (3, 21, g8), (4, 22, g9), (5, 23, .agg #[.bool a2_0, .slice A2_1 l2_1.length c2_1]), (6, 24, .agg #[.bool a0_0, .slice A0_1 l0_1.length c0_1]), (7, 25, h0), (8, 26, .agg #[.bool a1_0, .slice A1_1 l1_1.length c1_1]), (9, 27, .agg #[.bool a0_0, .slice A0_1 l0_1.length c0_1]), (10, 28, h1), (11, 29, h2), (12, 7, h3), (13, 8, h4)] ∧ (Kd.V (Kd.int .u64) 54 w' w.heap.size (fun k_ => ((P0_1_ k_ ∨ P1_1_ k_ ∨ P2_1_ k_) ∨ w.heap.size ≤ k_)) (.slice A0_1 l0_1.length c0_1) l0_1) ∧ (Kd.V (Kd.int .u64) 54 w' w.heap.size (fun k_ => ((P0_1_ k_ ∨ P1_1_ k_ ∨ P2_1_ k_) ∨ w.heap.size ≤ k_)) (.slice A1_1 l1_1.length c1_1) l1_1) ∧ (Kd.V (Kd.int .u64) 54 w' w.heap.size (fun k_ => ((P0_1_ k_ ∨ P1_1_ k_ ∨ P2_1_ k_) ∨ w.heap.size ≤ k_)) (.slice A2_1 l2_1.length c2_1) l2_1) ∧ (w'.heap[g4]? = some (.cells #[.bool a0_0, .slice A0_1 l0_1.length c0_1] 25 (0, 0))) ∧ (w'.heap[g6]? = some (.cells #[.bool a1_0, .slice A1_1 l1_1.length c1_1] 25 (0, 0))) ∧ (w'.heap[g7]? = some (.cells #[.bool a2_0, .slice A2_1 l2_1.length c2_1] 25 (0, 0))) ∧ (Below w.heap.size w w') ∧ (b 12 = true → b 13 = true → d5 ≠ d3) ∧ (b 12 = true → b 13 = true → d3 ≠ d5) ∧ (b 3 = true → Kd.V (Kd.int .u64) 54 w' w.heap.size (fun k_ => ((P0_1_ k_ ∨ P1_1_ k_ ∨ P2_1_ k_) ∨ w.heap.size ≤ k_)) v423 t422) ∧ (b 4 = true → Kd.V (Kd.int .u64) 54 w' w.heap.size (fun k_ => ((P0_1_ k_ ∨ P1_1_ k_ ∨ P2_1_ k_) ∨ w.heap.size ≤ k_)) v427 t426) ∧ (b 7 = true → Kd.V (Kd.int .u64) 54 w' w.heap.size (fun k_ => ((P0_1_ k_ ∨ P1_1_ k_ ∨ P2_1_ k_) ∨ w.heap.size ≤ k_)) v431 t430) ∧ (b 10 = true → Kd.V (Kd.int .u64) 54 w' w.heap.size (fun k_ => ((P0_1_ k_ ∨ P1_1_ k_ ∨ P2_1_ k_) ∨ w.heap.size ≤ k_)) v435 t434) ∧ (b 11 = true → Kd.V (Kd.int .u64) 54 w' w.heap.size (fun k_ => ((P0_1_ k_ ∨ P1_1_ k_ ∨ P2_1_ k_) ∨ w.heap.size ≤ k_)) v439 t438) ∧ (b 12 = true → b 14 = false → w'.heap[d3]? = some (.cells #[.bool false, .slice none 0 0] 25 (0, 0))) ∧ (b 12 = true → w.heap.size ≤ d3) ∧ (b 12 = true → g4 ≠ d3) ∧ (b 12 = true → d3 ≠ g4) ∧ (b 12 = true → g6 ≠ d3) ∧ (b 12 = true → d3 ≠ g6) ∧ (b 12 = true → g7 ≠ d3) ∧ (b 12 = true → d3 ≠ g7) ∧ (b 13 = true → b 15 = false → w'.heap[d5]? = some (.cells #[.bool false, .slice none 0 0] 25 (0, 0))) ∧ (b 13 = true → w.heap.size ≤ d5) ∧ (b 13 = true → g4 ≠ d5) ∧ (b 13 = true → d5 ≠ g4) ∧ (b 13 = true → g6 ≠ d5) ∧ (b 13 = true → d5 ≠ g6) ∧ (b 13 = true → g7 ≠ d5) ∧ (b 13 = true → d5 ≠ g7) ∧ (b 14 = true → w'.heap[d3]? = some (.cells #[.bool t425, v427] 25 (0, 0))) ∧ (b 15 = true → w'.heap[d5]? = some (.cells #[.bool t437, v439] 25 (0, 0))) ∧ (b 3 = true → (g8 : Value) = .agg #[.bool t421, v423]) ∧ (b 4 = true → (g9 : Value) = .agg #[.bool t425, v427]) ∧ (b 7 = true → (h0 : Value) = .agg #[.bool t429, v431]) ∧ (b 10 = true → (h1 : Value) = .agg #[.bool t433, v435]) ∧ (b 11 = true → (h2 : Value) = .agg #[.bool t437, v439]) ∧ (b 12 = true → (h3 : Value) = .pointer (some ⟨d3, 0, none⟩)) ∧ (b 13 = true → (h4 : Value) = .pointer (some ⟨d5, 0, none⟩))) HT_.out HW_.out (by kernel_rfl) (by kernel_rfl) ?_ ?_ ?_
        ·exact ⟨.bool false, .bool false, .bool false, .bool false, .bool false, 0, 0, .bool false, .bool false, .bool false, .bool false, .bool false, .bool false, .bool false, by simp only [putSel, Bool.false_eq_true, if_false], a3.out, a4.out, a5.out, a0.out, a1.out, a2.out, HB.out, fun h_ => absurd h_ (by decide), fun h_ => absurd h_ (by decide), fun h_ => absurd h_ (by decide), fun h_ => absurd h_ (by decide), fun h_ => absurd h_ (by decide), fun h_ => absurd h_ (by decide), fun h_ => absurd h_ (by decide), fun h_ => absurd h_ (by decide), fun h_ => absurd h_ (by decide), fun h_ => absurd h_ (by decide), fun h_ => absurd h_ (by decide), fun h_ => absurd h_ (by decide), fun h_ => absurd h_ (by decide), fun h_ => absurd h_ (by decide), fun h_ => absurd h_ (by decide), fun h_ => absurd h_ (by decide), fun h_ => absurd h_ (by decide), fun h_ => absurd h_ (by decide), fun h_ => absurd h_ (by decide), fun h_ => absurd h_ (by decide), fun h_ => absurd h_ (by decide), fun h_ => absurd h_ (by decide), fun h_ => absurd h_ (by decide), fun h_ => absurd h_ (by decide), fun h_ => absurd h_ (by decide), fun h_ => absurd h_ (by decide), fun h_ => absurd h_ (by decide), fun h_ => absurd h_ (by decide), fun h_ => absurd h_ (by decide), fun h_ => absurd h_ (by decide), fun h_ => absurd h_ (by decide), fun h_ => absurd h_ (by decide)⟩
        ·skip
         clear a0 a1 a2 HB a3 a4 a5
         refine steps_cons ?_ ?_
         ·rintro b a w' ⟨v423, v427, v431, v435, v439, d3, d5, g8, g9, h0, h1, h2, h3, h4, ha, a6, a7, a8, a9, b0, b1, b2, l1, l2, b3, e6, b4, b5, f3, e2, h5, h6, h7, h8, h9, j0, j1, e1, j2, j3, j4, j5, j6, j7, j8, m1, m2, l3, l4, l6, l8, m0, j9, l0⟩ hb_ hon hoff
          refine ⟨_, rfl, fun K hK => ?_⟩
          have e3 : a.tmps[3]? = some (.pointer (some ⟨g4, 0, none⟩)) := by rw [ha]; exact (putSel_off rfl).trans rfl
          replace ha := aK ha
          have a3 := aK a6
          have a4 := aK a7
          have a5 := aK a8
          have a0 := aK a9
          have a1 := aK b0
          have a2 := aK b1
          have HB := aK b2
          have hc0_ : w'.cell? ⟨g4, 0, none⟩ = some (.bool a0_0) := (blk_cell a0.out 0).trans rfl
          have hc1_ : w'.cell? ⟨g4, 1, none⟩ = some (.slice A0_1 l0_1.length c0_1) := (blk_cell a0.out 1).trans rfl
          refine value_ (w1 := w') (v := .agg #[.bool a0_0, .slice A0_1 l0_1.length c0_1]) (by rfl) rfl ?_ ?_
          ·go_simp
           (try simp only [i64_w])
           try rfl
          refine hK.out _ _ ⟨v423, v427, v431, v435, v439, d3, d5, g8, g9, h0, h1, h2, h3, h4, (by rw [ha.out]; exact putSel_upk 0 hb_ rfl rfl rfl), a6, a7, a8, a9, b0, b1, b2, l1, l2, b3, fun h0_ => absurd ((hoff 4 (by kernel_rfl)).symm.trans h0_) (by decide), fun h0_ => absurd ((hoff 7 (by kernel_rfl)).symm.trans h0_) (by decide), fun h0_ => absurd ((hoff 10 (by kernel_rfl)).symm.trans h0_) (by decide), fun h0_ => absurd ((hoff 11 (by kernel_rfl)).symm.trans h0_) (by decide), e2, h5, h6, h7, h8, h9, j0, j1, e1, j2, j3, j4, j5, j6, j7, j8, fun h0_ => absurd ((hoff 14 (by kernel_rfl)).symm.trans h0_) (by decide), fun h0_ => absurd ((hoff 15 (by kernel_rfl)).symm.trans h0_) (by decide), l3, fun h0_ => absurd ((hoff 4 (by kernel_rfl)).symm.trans h0_) (by decide), fun h0_ => absurd ((hoff 7 (by kernel_rfl)).symm.trans h0_) (by decide), fun h0_ => absurd ((hoff 10 (by kernel_rfl)).symm.trans h0_) (by decide), fun h0_ => absurd ((hoff 11 (by kernel_rfl)).symm.trans h0_) (by decide), j9, l0⟩
         refine steps_cons ?_ ?_
         ·rintro b a w' ⟨v423, v427, v431, v435, v439, d3, d5, g8, g9, h0, h1, h2, h3, h4, ha, a6, a7, a8, a9, b0, b1, b2, l1, l2, b3, e6, b4, b5, f3, e2, h5, h6, h7, h8, h9, j0, j1, e1, j2, j3, j4, j5, j6, j7, j8, m1, m2, l3, l4, l6, l8, m0, j9, l0⟩ hb_ hon hoff
          refine ⟨_, rfl, fun K hK => ?_⟩
          have e4 : a.tmps[4]? = some (.pointer (some ⟨g6, 0, none⟩)) := by rw [ha]; exact (putSel_off rfl).trans rfl
          replace ha := aK ha
          have a3 := aK a6
          have a4 := aK a7
          have a5 := aK a8
          have a0 := aK a9
          have a1 := aK b0
          have a2 := aK b1
          have HB := aK b2
          have hc0_ : w'.cell? ⟨g6, 0, none⟩ = some (.bool a1_0) := (blk_cell a1.out 0).trans rfl
          have hc1_ : w'.cell? ⟨g6, 1, none⟩ = some (.slice A1_1 l1_1.length c1_1) := (blk_cell a1.out 1).trans rfl
          refine value_ (w1 := w') (v := .agg #[.bool a1_0, .slice A1_1 l1_1.length c1_1]) (by rfl) rfl ?_ ?_
          ·go_simp
           (try simp only [i64_w])
           try rfl
          refine hK.out _ _ ⟨v423, v427, v431, v435, v439, d3, d5, g8, g9, h0, h1, h2, h3, h4, (by rw [ha.out]; exact putSel_upk 1 hb_ rfl rfl rfl), a6, a7, a8, a9, b0, b1, b2, l1, l2, fun h0_ => absurd ((hoff 3 (by kernel_rfl)).symm.trans h0_) (by decide), fun h0_ => absurd ((hoff 4 (by kernel_rfl)).symm.trans h0_) (by decide), fun h0_ => absurd ((hoff 7 (by kernel_rfl)).symm.trans h0_) (by decide), fun h0_ => absurd ((hoff 10 (by kernel_rfl)).symm.trans h0_) (by decide), fun h0_ => absurd ((hoff 11 (by kernel_rfl)).symm.trans h0_) (by decide), e2, h5, h6, h7, h8, h9, j0, j1, e1, j2, j3, j4, j5, j6, j7, j8, fun h0_ => absurd ((hoff 14 (by kernel_rfl)).symm.trans h0_) (by decide), fun h0_ => absurd ((hoff 15 (by kernel_rfl)).symm.trans h0_) (by decide), fun h0_ => absurd ((hoff 3 (by kernel_rfl)).symm.trans h0_) (by decide), fun h0_ => absurd ((hoff 4 (by kernel_rfl)).symm.trans h0_) (by decide), fun h0_ => absurd ((hoff 7 (by kernel_rfl)).symm.trans h0_) (by decide), fun h0_ => absurd ((hoff 10 (by kernel_rfl)).symm.trans h0_) (by decide), fun h0_ => absurd ((hoff 11 (by kernel_rfl)).symm.trans h0_) (by decide), j9, l0⟩
         refine steps_cons ?_ ?_
         ·rintro b a w' ⟨v423, v427, v431, v435, v439, d3, d5, g8, g9, h0, h1, h2, h3, h4, ha, a6, a7, a8, a9, b0, b1, b2, l1, l2, b3, e6, b4, b5, f3, e2, h5, h6, h7, h8, h9, j0, j1, e1, j2, j3, j4, j5, j6, j7, j8, m1, m2, l3, l4, l6, l8, m0, j9, l0⟩ hb_ hon hoff
          refine ⟨_, rfl, fun K hK => ?_⟩
          have e5 : a.tmps[5]? = some (.pointer (some ⟨g7, 0, none⟩)) := by rw [ha]; exact (putSel_off rfl).trans rfl
          replace ha := aK ha
          have a3 := aK a6
          have a4 := aK a7
          have a5 := aK a8
          have a0 := aK a9
          have a1 := aK b0
          have a2 := aK b1
          have HB := aK b2
          have hc0_ : w'.cell? ⟨g7, 0, none⟩ = some (.bool a2_0) := (blk_cell a2.out 0).trans rfl
          have hc1_ : w'.cell? ⟨g7, 1, none⟩ = some (.slice A2_1 l2_1.length c2_1) := (blk_cell a2.out 1).trans rfl
          refine value_ (w1 := w') (v := .agg #[.bool a2_0, .slice A2_1 l2_1.length c2_1]) (by rfl) rfl ?_ ?_
          ·go_simp
           (try simp only [i64_w])
           try rfl
          refine hK.out _ _ ⟨v423, v427, v431, v435, v439, d3, d5, g8, g9, h0, h1, h2, h3, h4, (by rw [ha.out]; exact putSel_upk 2 hb_ rfl rfl rfl), a6, a7, a8, a9, b0, b1, b2, l1, l2, fun h0_ => absurd ((hoff 3 (by kernel_rfl)).symm.trans h0_) (by decide), fun h0_ => absurd ((hoff 4 (by kernel_rfl)).symm.trans h0_) (by decide), fun h0_ => absurd ((hoff 7 (by kernel_rfl)).symm.trans h0_) (by decide), fun h0_ => absurd ((hoff 10 (by kernel_rfl)).symm.trans h0_) (by decide), fun h0_ => absurd ((hoff 11 (by kernel_rfl)).symm.trans h0_) (by decide), e2, h5, h6, h7, h8, h9, j0, j1, e1, j2, j3, j4, j5, j6, j7, j8, fun h0_ => absurd ((hoff 14 (by kernel_rfl)).symm.trans h0_) (by decide), fun h0_ => absurd ((hoff 15 (by kernel_rfl)).symm.trans h0_) (by decide), fun h0_ => absurd ((hoff 3 (by kernel_rfl)).symm.trans h0_) (by decide), fun h0_ => absurd ((hoff 4 (by kernel_rfl)).symm.trans h0_) (by decide), fun h0_ => absurd ((hoff 7 (by kernel_rfl)).symm.trans h0_) (by decide), fun h0_ => absurd ((hoff 10 (by kernel_rfl)).symm.trans h0_) (by decide), fun h0_ => absurd ((hoff 11 (by kernel_rfl)).symm.trans h0_) (by decide), j9, l0⟩
         refine steps_cons ?_ ?_
         ·rintro b a w' ⟨v423, v427, v431, v435, v439, d3, d5, g8, g9, h0, h1, h2, h3, h4, ha, a6, a7, a8, a9, b0, b1, b2, l1, l2, b3, e6, b4, b5, f3, e2, h5, h6, h7, h8, h9, j0, j1, e1, j2, j3, j4, j5, j6, j7, j8, m1, m2, l3, l4, l6, l8, m0, j9, l0⟩ hb_ hon hoff
          refine ⟨_, rfl, fun K hK => ?_⟩
          have e19 : a.tmps[19]? = some (.agg #[.bool a1_0, .slice A1_1 l1_1.length c1_1]) := by rw [ha]; exact putSel_on (e := (1, 19, .agg #[.bool a1_0, .slice A1_1 l1_1.length c1_1])) 1 rfl rfl (hon 1 (by kernel_rfl)) rfl
          have e20 : a.tmps[20]? = some (.agg #[.bool a2_0, .slice A2_1 l2_1.length c2_1]) := by rw [ha]; exact putSel_on (e := (2, 20, .agg #[.bool a2_0, .slice A2_1 l2_1.length c2_1])) 2 rfl rfl (hon 2 (by kernel_rfl)) rfl
          replace ha := aK ha
          have a3 := aK a6
          have a4 := aK a7
          have a5 := aK a8
          have a0 := aK a9
          have a1 := aK b0
          have a2 := aK b1
          have HB := aK b2
          refine goes_ Try.func17 (by kernel_rfl) rfl #[.agg #[.bool a1_0, .slice A1_1 l1_1.length c1_1], .agg #[.bool a2_0, .slice A2_1 l2_1.length c2_1]] (by rfl) rfl rfl (by first | (simp only [List.map_toArray, List.map_cons, List.map_nil, Act.eval, Array.getD_eq_getD_getElem?, Option.getD_some, e19, e20]; done) | (simp only [List.map_toArray, List.map_cons, List.map_nil, Act.eval, Array.getD_eq_getD_getElem?, Option.getD_some, e19, e20]; rfl)) ?_
          with_reducible refine (num_Add.calls k a1_0 (fun k_ => ((P0_1_ k_ ∨ P1_1_ k_ ∨ P2_1_ k_) ∨ w.heap.size ≤ k_)) _ _ l1_1 a2_0 (fun k_ => ((P0_1_ k_ ∨ P1_1_ k_ ∨ P2_1_ k_) ∨ w.heap.size ≤ k_)) _ _ l2_1 t421 t422 _ ?side1 ?side2 A8.out).mono ?_
          (case side1 => exact a4.out)
          (case side2 => exact a5.out)
          rintro e w45 ⟨v423, rfl, ho0, hb⟩
          refine ⟨_, rfl, ?_⟩
          have n0_ := aK (Kd.V_below (gV a3.out) hb)
          have n1_ := aK (Kd.V_below (gV a4.out) hb)
          have n2_ := aK (Kd.V_below (gV a5.out) hb)
          have n3_ := aK (Kd.V_lower (Kd.V_mono (ok' := fun k_ => ((P0_1_ k_ ∨ P1_1_ k_ ∨ P2_1_ k_) ∨ w.heap.size ≤ k_)) ho0 (fun k_ hk_ => Or.elim hk_ (fun hs_ => Or.elim hs_ (fun hs_ => hs_) (fun hs_ => hs_)) (fun hn_ => (.inr (Nat.le_trans (below_size (gB HB.out)) hn_))))) (below_size (gB HB.out)))
          have n4_ := aK (blk_below (gK a0.out) hb)
          have n5_ := aK (blk_below (gK a1.out) hb)
          have n6_ := aK (blk_below (gK a2.out) hb)
          have n7_ := aK (below_step (gB HB.out) hb)
          have o2 := fun (h0_ : b 12 = true) (h1_ : b 14 = false) => (show w45.heap[d3]? = some (.cells #[.bool false, .slice none 0 0] 25 (0, 0)) from by first | exact (blk_below (gK (e2 h0_ h1_)) hb))
          have o3 := fun (h0_ : b 13 = true) (h1_ : b 15 = false) => (show w45.heap[d5]? = some (.cells #[.bool false, .slice none 0 0] 25 (0, 0)) from by first | exact (blk_below (gK (e1 h0_ h1_)) hb))
          clear a3
          clear a4
          clear a5
          clear a0
          clear a1
          clear a2
          clear HB
          have a3 := n0_
          have a4 := n1_
          have a5 := n2_
          have b6 := n3_
          have a0 := n4_
          have a1 := n5_
          have a2 := n6_
          have HB := n7_
          clear n0_ n1_ n2_ n3_ n4_ n5_ n6_ n7_
          (try clear hb)
          (try clear hb2)
          (try clear hk)
          (try clear hi)
          (try clear ho0)
          refine hK.out _ _ ⟨v423, v427, v431, v435, v439, d3, d5, (.agg #[.bool t421, v423]), g9, h0, h1, h2, h3, h4, (by rw [ha.out]; exact putSel_upk 3 hb_ rfl rfl rfl), (gV a3.out), (gV a4.out), (gV a5.out), (gK a0.out), (gK a1.out), (gK a2.out), (gB HB.out), l1, l2, fun _ => (gV b6.out), fun h0_ => absurd ((hoff 4 (by kernel_rfl)).symm.trans h0_) (by decide), fun h0_ => absurd ((hoff 7 (by kernel_rfl)).symm.trans h0_) (by decide), fun h0_ => absurd ((hoff 10 (by kernel_rfl)).symm.trans h0_) (by decide), fun h0_ => absurd ((hoff 11 (by kernel_rfl)).symm.trans h0_) (by decide), o2, h5, h6, h7, h8, h9, j0, j1, o3, j2, j3, j4, j5, j6, j7, j8, fun h0_ => absurd ((hoff 14 (by kernel_rfl)).symm.trans h0_) (by decide), fun h0_ => absurd ((hoff 15 (by kernel_rfl)).symm.trans h0_) (by decide), fun _ => rfl, fun h0_ => absurd ((hoff 4 (by kernel_rfl)).symm.trans h0_) (by decide), fun h0_ => absurd ((hoff 7 (by kernel_rfl)).symm.trans h0_) (by decide), fun h0_ => absurd ((hoff 10 (by kernel_rfl)).symm.trans h0_) (by decide), fun h0_ => absurd ((hoff 11 (by kernel_rfl)).symm.trans h0_) (by decide), j9, l0⟩
         refine steps_cons ?_ ?_
         ·rintro b a w' ⟨v423, v427, v431, v435, v439, d3, d5, g8, g9, h0, h1, h2, h3, h4, ha, a6, a7, a8, a9, b0, b1, b2, l1, l2, b3, e6, b4, b5, f3, e2, h5, h6, h7, h8, h9, j0, j1, e1, j2, j3, j4, j5, j6, j7, j8, m1, m2, l3, l4, l6, l8, m0, j9, l0⟩ hb_ hon hoff
          refine ⟨_, rfl, fun K hK => ?_⟩
          have e18 : a.tmps[18]? = some (.agg #[.bool a0_0, .slice A0_1 l0_1.length c0_1]) := by rw [ha]; exact putSel_on (e := (0, 18, .agg #[.bool a0_0, .slice A0_1 l0_1.length c0_1])) 0 rfl rfl (hon 0 (by kernel_rfl)) rfl
          have e21 : a.tmps[21]? = some (g8) := by rw [ha]; exact putSel_on (e := (3, 21, g8)) 3 rfl rfl (hon 3 (by kernel_rfl)) rfl
          rw [l3 (hon 3 (by kernel_rfl))] at e21
          replace ha := aK ha
          have a3 := aK a6
          have a4 := aK a7
          have a5 := aK a8
          have a0 := aK a9
          have a1 := aK b0
          have a2 := aK b1
          have HB := aK b2
          have b6 := aK (b3 (hon 3 (by kernel_rfl)))
          obtain ⟨Ao47, co47, eo47⟩ := Kd.V_slice b6.out
          (first | subst eo47 | (injection eo47 with f1_ f2_ f3_; have f4_ := f1_.symm; have f5_ := f3_.symm; clear f1_ f2_ f3_; subst f4_; subst f5_))
          refine goes_ Try.func20 (by kernel_rfl) rfl #[.agg #[.bool a0_0, .slice A0_1 l0_1.length c0_1], .agg #[.bool t421, .slice Ao47 t422.length co47]] (by rfl) rfl rfl (by first | (simp only [List.map_toArray, List.map_cons, List.map_nil, Act.eval, Array.getD_eq_getD_getElem?, Option.getD_some, e18, e21]; done) | (simp only [List.map_toArray, List.map_cons, List.map_nil, Act.eval, Array.getD_eq_getD_getElem?, Option.getD_some, e18, e21]; rfl)) ?_
          with_reducible refine (num_Mul.calls k a0_0 _ _ l0_1 t421 _ _ t422 t425 t426 _ ?side1 ?side2 ?side3 ?side4 A9.out).mono ?_
          (case side1 => repeat (first | exact (Kd.V_reads' a3.out).2.2 | apply Kd.C_alloc | apply Kd.C_drewN | apply Kd.C_drew))
          (case side2 => exact (Kd.V_reads' a3.out).2.1)
          (case side3 => repeat (first | exact (Kd.V_reads' b6.out).2.2 | apply Kd.C_alloc | apply Kd.C_drewN | apply Kd.C_drew))
          (case side4 => exact (Kd.V_reads' b6.out).2.1)
          rintro e w48 ⟨v427, rfl, ho0, hb⟩
          refine ⟨_, rfl, ?_⟩
          have n0_ := aK (Kd.V_below (gV a3.out) hb)
          have n1_ := aK (Kd.V_below (gV a4.out) hb)
          have n2_ := aK (Kd.V_below (gV a5.out) hb)
          have n3_ := aK (Kd.V_below (gV b6.out) hb)
          have n4_ := aK (Kd.V_lower (Kd.V_mono (ok' := fun k_ => ((P0_1_ k_ ∨ P1_1_ k_ ∨ P2_1_ k_) ∨ w.heap.size ≤ k_)) ho0 (fun k_ hk_ => (.inr (Nat.le_trans (below_size (gB HB.out)) hk_)))) (below_size (gB HB.out)))
          have n5_ := aK (blk_below (gK a0.out) hb)
          have n6_ := aK (blk_below (gK a1.out) hb)
          have n7_ := aK (blk_below (gK a2.out) hb)
          have n8_ := aK (below_step (gB HB.out) hb)
          have o2 := fun (h0_ : b 12 = true) (h1_ : b 14 = false) => (show w48.heap[d3]? = some (.cells #[.bool false, .slice none 0 0] 25 (0, 0)) from by first | exact (blk_below (gK (e2 h0_ h1_)) hb))
          have o3 := fun (h0_ : b 13 = true) (h1_ : b 15 = false) => (show w48.heap[d5]? = some (.cells #[.bool false, .slice none 0 0] 25 (0, 0)) from by first | exact (blk_below (gK (e1 h0_ h1_)) hb))
          clear a3
          clear a4
          clear a5
          clear b6
          clear a0
          clear a1
          clear a2
          clear HB
          have a3 := n0_
          have a4 := n1_
          have a5 := n2_
          have b6 := n3_
          have b7 := n4_
          have a0 := n5_
          have a1 := n6_
          have a2 := n7_
          have HB := n8_
          clear n0_ n1_ n2_ n3_ n4_ n5_ n6_ n7_ n8_
          (try clear hb)
          (try clear hb2)
          (try clear hk)
          (try clear hi)
          (try clear ho0)
          refine hK.out _ _ ⟨.slice Ao47 t422.length co47, v427, v431, v435, v439, d3, d5, g8, (.agg #[.bool t425, v427]), h0, h1, h2, h3, h4, (by rw [ha.out]; exact putSel_upk 4 hb_ rfl rfl rfl), (gV a3.out), (gV a4.out), (gV a5.out), (gK a0.out), (gK a1.out), (gK a2.out), (gB HB.out), l1, l2, fun _ => (gV b6.out), fun _ => (gV b7.out), fun h0_ => absurd ((hoff 7 (by kernel_rfl)).symm.trans h0_) (by decide), fun h0_ => absurd ((hoff 10 (by kernel_rfl)).symm.trans h0_) (by decide), fun h0_ => absurd ((hoff 11 (by kernel_rfl)).symm.trans h0_) (by decide), o2, h5, h6, h7, h8, h9, j0, j1, o3, j2, j3, j4, j5, j6, j7, j8, fun h0_ => absurd ((hoff 14 (by kernel_rfl)).symm.trans h0_) (by decide), fun h0_ => absurd ((hoff 15 (by kernel_rfl)).symm.trans h0_) (by decide), l3, fun _ => rfl, fun h0_ => absurd ((hoff 7 (by kernel_rfl)).symm.trans h0_) (by decide), fun h0_ => absurd ((hoff 10 (by kernel_rfl)).symm.trans h0_) (by decide), fun h0_ => absurd ((hoff 11 (by kernel_rfl)).symm.trans h0_) (by decide), j9, l0⟩
         refine steps_cons ?_ ?_
         ·rintro b a w' ⟨v423, v427, v431, v435, v439, d3, d5, g8, g9, h0, h1, h2, h3, h4, ha, a6, a7, a8, a9, b0, b1, b2, l1, l2, b3, e6, b4, b5, f3, e2, h5, h6, h7, h8, h9, j0, j1, e1, j2, j3, j4, j5, j6, j7, j8, m1, m2, l3, l4, l6, l8, m0, j9, l0⟩ hb_ hon hoff
          refine ⟨_, rfl, fun K hK => ?_⟩
          have e5 : a.tmps[5]? = some (.pointer (some ⟨g7, 0, none⟩)) := by rw [ha]; exact (putSel_off rfl).trans rfl
          replace ha := aK ha
          have a3 := aK a6
          have a4 := aK a7
          have a5 := aK a8
          have a0 := aK a9
          have a1 := aK b0
          have a2 := aK b1
          have HB := aK b2
          have hc0_ : w'.cell? ⟨g7, 0, none⟩ = some (.bool a2_0) := (blk_cell a2.out 0).trans rfl
          have hc1_ : w'.cell? ⟨g7, 1, none⟩ = some (.slice A2_1 l2_1.length c2_1) := (blk_cell a2.out 1).trans rfl
          refine value_ (w1 := w') (v := .agg #[.bool a2_0, .slice A2_1 l2_1.length c2_1]) (by rfl) rfl ?_ ?_
          ·go_simp
           (try simp only [i64_w])
           try rfl
          refine hK.out _ _ ⟨v423, v427, v431, v435, v439, d3, d5, g8, g9, h0, h1, h2, h3, h4, (by rw [ha.out]; exact putSel_upk 5 hb_ rfl rfl rfl), a6, a7, a8, a9, b0, b1, b2, l1, l2, b3, e6, fun h0_ => absurd ((hoff 7 (by kernel_rfl)).symm.trans h0_) (by decide), fun h0_ => absurd ((hoff 10 (by kernel_rfl)).symm.trans h0_) (by decide), fun h0_ => absurd ((hoff 11 (by kernel_rfl)).symm.trans h0_) (by decide), e2, h5, h6, h7, h8, h9, j0, j1, e1, j2, j3, j4, j5, j6, j7, j8, fun h0_ => absurd ((hoff 14 (by kernel_rfl)).symm.trans h0_) (by decide), fun h0_ => absurd ((hoff 15 (by kernel_rfl)).symm.trans h0_) (by decide), l3, l4, fun h0_ => absurd ((hoff 7 (by kernel_rfl)).symm.trans h0_) (by decide), fun h0_ => absurd ((hoff 10 (by kernel_rfl)).symm.trans h0_) (by decide), fun h0_ => absurd ((hoff 11 (by kernel_rfl)).symm.trans h0_) (by decide), j9, l0⟩
         refine steps_cons ?_ ?_
         ·rintro b a w' ⟨v423, v427, v431, v435, v439, d3, d5, g8, g9, h0, h1, h2, h3, h4, ha, a6, a7, a8, a9, b0, b1, b2, l1, l2, b3, e6, b4, b5, f3, e2, h5, h6, h7, h8, h9, j0, j1, e1, j2, j3, j4, j5, j6, j7, j8, m1, m2, l3, l4, l6, l8, m0, j9, l0⟩ hb_ hon hoff
          refine ⟨_, rfl, fun K hK => ?_⟩
          have e3 : a.tmps[3]? = some (.pointer (some ⟨g4, 0, none⟩)) := by rw [ha]; exact (putSel_off rfl).trans rfl
          replace ha := aK ha
          have a3 := aK a6
          have a4 := aK a7
          have a5 := aK a8
          have a0 := aK a9
          have a1 := aK b0
          have a2 := aK b1
          have HB := aK b2
          have hc0_ : w'.cell? ⟨g4, 0, none⟩ = some (.bool a0_0) := (blk_cell a0.out 0).trans rfl
          have hc1_ : w'.cell? ⟨g4, 1, none⟩ = some (.slice A0_1 l0_1.length c0_1) := (blk_cell a0.out 1).trans rfl
          refine value_ (w1 := w') (v := .agg #[.bool a0_0, .slice A0_1 l0_1.length c0_1]) (by rfl) rfl ?_ ?_
          ·go_simp
           (try simp only [i64_w])
           try rfl
          refine hK.out _ _ ⟨v423, v427, v431, v435, v439, d3, d5, g8, g9, h0, h1, h2, h3, h4, (by rw [ha.out]; exact putSel_upk 6 hb_ rfl rfl rfl), a6, a7, a8, a9, b0, b1, b2, l1, l2, b3, e6, fun h0_ => absurd ((hoff 7 (by kernel_rfl)).symm.trans h0_) (by decide), fun h0_ => absurd ((hoff 10 (by kernel_rfl)).symm.trans h0_) (by decide), fun h0_ => absurd ((hoff 11 (by kernel_rfl)).symm.trans h0_) (by decide), e2, h5, h6, h7, h8, h9, j0, j1, e1, j2, j3, j4, j5, j6, j7, j8, fun h0_ => absurd ((hoff 14 (by kernel_rfl)).symm.trans h0_) (by decide), fun h0_ => absurd ((hoff 15 (by kernel_rfl)).symm.trans h0_) (by decide), l3, l4, fun h0_ => absurd ((hoff 7 (by kernel_rfl)).symm.trans h0_) (by decide), fun h0_ => absurd ((hoff 10 (by kernel_rfl)).symm.trans h0_) (by decide), fun h0_ => absurd ((hoff 11 (by kernel_rfl)).symm.trans h0_) (by decide), j9, l0⟩
         refine steps_cons ?_ ?_
         ·rintro b a w' ⟨v423, v427, v431, v435, v439, d3, d5, g8, g9, h0, h1, h2, h3, h4, ha, a6, a7, a8, a9, b0, b1, b2, l1, l2, b3, e6, b4, b5, f3, e2, h5, h6, h7, h8, h9, j0, j1, e1, j2, j3, j4, j5, j6, j7, j8, m1, m2, l3, l4, l6, l8, m0, j9, l0⟩ hb_ hon hoff
          refine ⟨_, rfl, fun K hK => ?_⟩
          have e23 : a.tmps[23]? = some (.agg #[.bool a2_0, .slice A2_1 l2_1.length c2_1]) := by rw [ha]; exact putSel_on (e := (5, 23, .agg #[.bool a2_0, .slice A2_1 l2_1.length c2_1])) 5 rfl rfl (hon 5 (by kernel_rfl)) rfl
          have e24 : a.tmps[24]? = some (.agg #[.bool a0_0, .slice A0_1 l0_1.length c0_1]) := by rw [ha]; exact putSel_on (e := (6, 24, .agg #[.bool a0_0, .slice A0_1 l0_1.length c0_1])) 6 rfl rfl (hon 6 (by kernel_rfl)) rfl
          replace ha := aK ha
          have a3 := aK a6
          have a4 := aK a7
          have a5 := aK a8
          have a0 := aK a9
          have a1 := aK b0
          have a2 := aK b1
          have HB := aK b2
          have b6 := aK (b3 (hon 3 (by kernel_rfl)))
          have b7 := aK (e6 (hon 4 (by kernel_rfl)))
          refine goes_ Try.func20 (by kernel_rfl) rfl #[.agg #[.bool a2_0, .slice A2_1 l2_1.length c2_1], .agg #[.bool a0_0, .slice A0_1 l0_1.length c0_1]] (by rfl) rfl rfl (by first | (simp only [List.map_toArray, List.map_cons, List.map_nil, Act.eval, Array.getD_eq_getD_getElem?, Option.getD_some, e23, e24]; done) | (simp only [List.map_toArray, List.map_cons, List.map_nil, Act.eval, Array.getD_eq_getD_getElem?, Option.getD_some, e23, e24]; rfl)) ?_
          with_reducible refine (num_Mul.calls k a2_0 _ _ l2_1 a0_0 _ _ l0_1 t429 t430 _ ?side1 ?side2 ?side3 ?side4 A10.out).mono ?_
          (case side1 => repeat (first | exact (Kd.V_reads' a5.out).2.2 | apply Kd.C_alloc | apply Kd.C_drewN | apply Kd.C_drew))
          (case side2 => exact (Kd.V_reads' a5.out).2.1)
          (case side3 => repeat (first | exact (Kd.V_reads' a3.out).2.2 | apply Kd.C_alloc | apply Kd.C_drewN | apply Kd.C_drew))
          (case side4 => exact (Kd.V_reads' a3.out).2.1)
          rintro e w49 ⟨v431, rfl, ho0, hb⟩
          refine ⟨_, rfl, ?_⟩
          have n0_ := aK (Kd.V_below (gV a3.out) hb)
          have n1_ := aK (Kd.V_below (gV a4.out) hb)
          have n2_ := aK (Kd.V_below (gV a5.out) hb)
          have n3_ := aK (Kd.V_below (gV b6.out) hb)
          have n4_ := aK (Kd.V_below (gV b7.out) hb)
          have n5_ := aK (Kd.V_lower (Kd.V_mono (ok' := fun k_ => ((P0_1_ k_ ∨ P1_1_ k_ ∨ P2_1_ k_) ∨ w.heap.size ≤ k_)) ho0 (fun k_ hk_ => (.inr (Nat.le_trans (below_size (gB HB.out)) hk_)))) (below_size (gB HB.out)))
          have n6_ := aK (blk_below (gK a0.out) hb)
          have n7_ := aK (blk_below (gK a1.out) hb)
          have n8_ := aK (blk_below (gK a2.out) hb)
          have n9_ := aK (below_step (gB HB.out) hb)
          have o2 := fun (h0_ : b 12 = true) (h1_ : b 14 = false) => (show w49.heap[d3]? = some (.cells #[.bool false, .slice none 0 0] 25 (0, 0)) from by first | exact (blk_below (gK (e2 h0_ h1_)) hb))
          have o3 := fun (h0_ : b 13 = true) (h1_ : b 15 = false) => (show w49.heap[d5]? = some (.cells #[.bool false, .slice none 0 0] 25 (0, 0)) from by first | exact (blk_below (gK (e1 h0_ h1_)) hb))
          clear a3
          clear a4
          clear a5
          clear b6
          clear b7
          clear a0
          clear a1
          clear a2
          clear HB
          have a3 := n0_
          have a4 := n1_
          have a5 := n2_
          have b6 := n3_
          have b7 := n4_
          have c0 := n5_
          have a0 := n6_
          have a1 := n7_
          have a2 := n8_
          have HB := n9_
          clear n0_ n1_ n2_ n3_ n4_ n5_ n6_ n7_ n8_ n9_
          (try clear hb)
          (try clear hb2)
          (try clear hk)
          (try clear hi)
          (try clear ho0)
          refine hK.out _ _ ⟨v423, v427, v431, v435, v439, d3, d5, g8, g9, (.agg #[.bool t429, v431]), h1, h2, h3, h4, (by rw [ha.out]; exact putSel_upk 7 hb_ rfl rfl rfl), (gV a3.out), (gV a4.out), (gV a5.out), (gK a0.out), (gK a1.out), (gK a2.out), (gB HB.out), l1, l2, fun _ => (gV b6.out), fun _ => (gV b7.out), fun _ => (gV c0.out), fun h0_ => absurd ((hoff 10 (by kernel_rfl)).symm.trans h0_) (by decide), fun h0_ => absurd ((hoff 11 (by kernel_rfl)).symm.trans h0_) (by decide), o2, h5, h6, h7, h8, h9, j0, j1, o3, j2, j3, j4, j5, j6, j7, j8, fun h0_ => absurd ((hoff 14 (by kernel_rfl)).symm.trans h0_) (by decide), fun h0_ => absurd ((hoff 15 (by kernel_rfl)).symm.trans h0_) (by decide), l3, l4, fun _ => rfl, fun h0_ => absurd ((hoff 10 (by kernel_rfl)).symm.trans h0_) (by decide), fun h0_ => absurd ((hoff 11 (by kernel_rfl)).symm.trans h0_) (by decide), j9, l0⟩
         refine steps_cons ?_ ?_
         ·rintro b a w' ⟨v423, v427, v431, v435, v439, d3, d5, g8, g9, h0, h1, h2, h3, h4, ha, a6, a7, a8, a9, b0, b1, b2, l1, l2, b3, e6, b4, b5, f3, e2, h5, h6, h7, h8, h9, j0, j1, e1, j2, j3, j4, j5, j6, j7, j8, m1, m2, l3, l4, l6, l8, m0, j9, l0⟩ hb_ hon hoff
          refine ⟨_, rfl, fun K hK => ?_⟩
          have e4 : a.tmps[4]? = some (.pointer (some ⟨g6, 0, none⟩)) := by rw [ha]; exact (putSel_off rfl).trans rfl
          replace ha := aK ha
          have a3 := aK a6
          have a4 := aK a7
          have a5 := aK a8
          have a0 := aK a9
          have a1 := aK b0
          have a2 := aK b1
          have HB := aK b2
          have hc0_ : w'.cell? ⟨g6, 0, none⟩ = some (.bool a1_0) := (blk_cell a1.out 0).trans rfl
          have hc1_ : w'.cell? ⟨g6, 1, none⟩ = some (.slice A1_1 l1_1.length c1_1) := (blk_cell a1.out 1).trans rfl
          refine value_ (w1 := w') (v := .agg #[.bool a1_0, .slice A1_1 l1_1.length c1_1]) (by rfl) rfl ?_ ?_
          ·go_simp
           (try simp only [i64_w])
           try rfl
          refine hK.out _ _ ⟨v423, v427, v431, v435, v439, d3, d5, g8, g9, h0, h1, h2, h3, h4, (by rw [ha.out]; exact putSel_upk 8 hb_ rfl rfl rfl), a6, a7, a8, a9, b0, b1, b2, l1, l2, b3, e6, b4, fun h0_ => absurd ((hoff 10 (by kernel_rfl)).symm.trans h0_) (by decide), fun h0_ => absurd ((hoff 11 (by kernel_rfl)).symm.trans h0_) (by decide), e2, h5, h6, h7, h8, h9, j0, j1, e1, j2, j3, j4, j5, j6, j7, j8, fun h0_ => absurd ((hoff 14 (by kernel_rfl)).symm.trans h0_) (by decide), fun h0_ => absurd ((hoff 15 (by kernel_rfl)).symm.trans h0_) (by decide), l3, l4, l6, fun h0_ => absurd ((hoff 10 (by kernel_rfl)).symm.trans h0_) (by decide), fun h0_ => absurd ((hoff 11 (by kernel_rfl)).symm.trans h0_) (by decide), j9, l0⟩
         refine steps_cons ?_ ?_
         ·rintro b a w' ⟨v423, v427, v431, v435, v439, d3, d5, g8, g9, h0, h1, h2, h3, h4, ha, a6, a7, a8, a9, b0, b1, b2, l1, l2, b3, e6, b4, b5, f3, e2, h5, h6, h7, h8, h9, j0, j1, e1, j2, j3, j4, j5, j6, j7, j8, m1, m2, l3, l4, l6, l8, m0, j9, l0⟩ hb_ hon hoff
          refine ⟨_, rfl, fun K hK => ?_⟩
          have e3 : a.tmps[3]? = some (.pointer (some ⟨g4, 0, none⟩)) := by rw [ha]; exact (putSel_off rfl).trans rfl
          replace ha := aK ha
          have a3 := aK a6
          have a4 := aK a7
          have a5 := aK a8
          have a0 := aK a9
          have a1 := aK b0
          have a2 := aK b1
          have HB := aK b2
          have hc0_ : w'.cell? ⟨g4, 0, none⟩ = some (.bool a0_0) := (blk_cell a0.out 0).trans rfl
          have hc1_ : w'.cell? ⟨g4, 1, none⟩ = some (.slice A0_1 l0_1.length c0_1) := (blk_cell a0.out 1).trans rfl
          refine value_ (w1 := w') (v := .agg #[.bool a0_0, .slice A0_1 l0_1.length c0_1]) (by rfl) rfl ?_ ?_
          ·go_simp
           (try simp only [i64_w])
           try rfl
          refine hK.out _ _ ⟨v423, v427, v431, v435, v439, d3, d5, g8, g9, h0, h1, h2, h3, h4, (by rw [ha.out]; exact putSel_upk 9 hb_ rfl rfl rfl), a6, a7, a8, a9, b0, b1, b2, l1, l2, b3, e6, b4, fun h0_ => absurd ((hoff 10 (by kernel_rfl)).symm.trans h0_) (by decide), fun h0_ => absurd ((hoff 11 (by kernel_rfl)).symm.trans h0_) (by decide), e2, h5, h6, h7, h8, h9, j0, j1, e1, j2, j3, j4, j5, j6, j7, j8, fun h0_ => absurd ((hoff 14 (by kernel_rfl)).symm.trans h0_) (by decide), fun h0_ => absurd ((hoff 15 (by kernel_rfl)).symm.trans h0_) (by decide), l3, l4, l6, fun h0_ => absurd ((hoff 10 (by kernel_rfl)).symm.trans h0_) (by decide), fun h0_ => absurd ((hoff 11 (by kernel_rfl)).symm.trans h0_) (by decide), j9, l0⟩
         refine steps_cons ?_ ?_
         ·rintro b a w' ⟨v423, v427, v431, v435, v439, d3, d5, g8, g9, h0, h1, h2, h3, h4, ha, a6, a7, a8, a9, b0, b1, b2, l1, l2, b3, e6, b4, b5, f3, e2, h5, h6, h7, h8, h9, j0, j1, e1, j2, j3, j4, j5, j6, j7, j8, m1, m2, l3, l4, l6, l8, m0, j9, l0⟩ hb_ hon hoff
          refine ⟨_, rfl, fun K hK => ?_⟩
          have e26 : a.tmps[26]? = some (.agg #[.bool a1_0, .slice A1_1 l1_1.length c1_1]) := by rw [ha]; exact putSel_on (e := (8, 26, .agg #[.bool a1_0, .slice A1_1 l1_1.length c1_1])) 8 rfl rfl (hon 8 (by kernel_rfl)) rfl
          have e27 : a.tmps[27]? = some (.agg #[.bool a0_0, .slice A0_1 l0_1.length c0_1]) := by rw [ha]; exact putSel_on (e := (9, 27, .agg #[.bool a0_0, .slice A0_1 l0_1.length c0_1])) 9 rfl rfl (hon 9 (by kernel_rfl)) rfl
          replace ha := aK ha
          have a3 := aK a6
          have a4 := aK a7
          have a5 := aK a8
          have a0 := aK a9
          have a1 := aK b0
          have a2 := aK b1
          have HB := aK b2
          have b6 := aK (b3 (hon 3 (by kernel_rfl)))
          have b7 := aK (e6 (hon 4 (by kernel_rfl)))
          have c0 := aK (b4 (hon 7 (by kernel_rfl)))
          refine goes_ Try.func20 (by kernel_rfl) rfl #[.agg #[.bool a1_0, .slice A1_1 l1_1.length c1_1], .agg #[.bool a0_0, .slice A0_1 l0_1.length c0_1]] (by rfl) rfl rfl (by first | (simp only [List.map_toArray, List.map_cons, List.map_nil, Act.eval, Array.getD_eq_getD_getElem?, Option.getD_some, e26, e27]; done) | (simp only [List.map_toArray, List.map_cons, List.map_nil, Act.eval, Array.getD_eq_getD_getElem?, Option.getD_some, e26, e27]; rfl)) ?_
          with_reducible refine (num_Mul.calls k a1_0 _ _ l1_1 a0_0 _ _ l0_1 t433 t434 _ ?side1 ?side2 ?side3 ?side4 A11.out).mono ?_
          (case side1 => repeat (first | exact (Kd.V_reads' a4.out).2.2 | apply Kd.C_alloc | apply Kd.C_drewN | apply Kd.C_drew))
          (case side2 => exact (Kd.V_reads' a4.out).2.1)
          (case side3 => repeat (first | exact (Kd.V_reads' a3.out).2.2 | apply Kd.C_alloc | apply Kd.C_drewN | apply Kd.C_drew))
          (case side4 => exact (Kd.V_reads' a3.out).2.1)
          rintro e w50 ⟨v435, rfl, ho0, hb⟩
          refine ⟨_, rfl, ?_⟩
          have n0_ := aK (Kd.V_below (gV a3.out) hb)
          have n1_ := aK (Kd.V_below (gV a4.out) hb)
          have n2_ := aK (Kd.V_below (gV a5.out) hb)
          have n3_ := aK (Kd.V_below (gV b6.out) hb)
          have n4_ := aK (Kd.V_below (gV b7.out) hb)
          have n5_ := aK (Kd.V_below (gV c0.out) hb)
          have n6_ := aK (Kd.V_lower (Kd.V_mono (ok' := fun k_ => ((P0_1_ k_ ∨ P1_1_ k_ ∨ P2_1_ k_) ∨ w.heap.size ≤ k_)) ho0 (fun k_ hk_ => (.inr (Nat.le_trans (below_size (gB HB.out)) hk_)))) (below_size (gB HB.out)))
          have n7_ := aK (blk_below (gK a0.out) hb)
          have n8_ := aK (blk_below (gK a1.out) hb)
          have n9_ := aK (blk_below (gK a2.out) hb)
          have n10_ := aK (below_step (gB HB.out) hb)
          have o2 := fun (h0_ : b 12 = true) (h1_ : b 14 = false) => (show w50.heap[d3]? = some (.cells #[.bool false, .slice none 0 0] 25 (0, 0)) from by first | exact (blk_below (gK (e2 h0_ h1_)) hb))
          have o3 := fun (h0_ : b 13 = true) (h1_ : b 15 = false) => (show w50.heap[d5]? = some (.cells #[.bool false, .slice none 0 0] 25 (0, 0)) from by first | exact (blk_below (gK (e1 h0_ h1_)) hb))
          clear a3
          clear a4
          clear a5
          clear b6
          clear b7
          clear c0
          clear a0
          clear a1
          clear a2
          clear HB
          have a3 := n0_
          have a4 := n1_
          have a5 := n2_
          have b6 := n3_
          have b7 := n4_
          have c0 := n5_
          have c4 := n6_
          have a0 := n7_
          have a1 := n8_
          have a2 := n9_
          have HB := n10_
          clear n0_ n1_ n2_ n3_ n4_ n5_ n6_ n7_ n8_ n9_ n10_
          (try clear hb)
          (try clear hb2)
          (try clear hk)
          (try clear hi)
          (try clear ho0)
          refine hK.out _ _ ⟨v423, v427, v431, v435, v439, d3, d5, g8, g9, h0, (.agg #[.bool t433, v435]), h2, h3, h4, (by rw [ha.out]; exact putSel_upk 10 hb_ rfl rfl rfl), (gV a3.out), (gV a4.out), (gV a5.out), (gK a0.out), (gK a1.out), (gK a2.out), (gB HB.out), l1, l2, fun _ => (gV b6.out), fun _ => (gV b7.out), fun _ => (gV c0.out), fun _ => (gV c4.out), fun h0_ => absurd ((hoff 11 (by kernel_rfl)).symm.trans h0_) (by decide), o2, h5, h6, h7, h8, h9, j0, j1, o3, j2, j3, j4, j5, j6, j7, j8, fun h0_ => absurd ((hoff 14 (by kernel_rfl)).symm.trans h0_) (by decide), fun h0_ => absurd ((hoff 15 (by kernel_rfl)).symm.trans h0_) (by decide), l3, l4, l6, fun _ => rfl, fun h0_ => absurd ((hoff 11 (by kernel_rfl)).symm.trans h0_) (by decide), j9, l0⟩
         refine steps_cons ?_ ?_
         ·rintro b a w' ⟨v423, v427, v431, v435, v439, d3, d5, g8, g9, h0, h1, h2, h3, h4, ha, a6, a7, a8, a9, b0, b1, b2, l1, l2, b3, e6, b4, b5, f3, e2, h5, h6, h7, h8, h9, j0, j1, e1, j2, j3, j4, j5, j6, j7, j8, m1, m2, l3, l4, l6, l8, m0, j9, l0⟩ hb_ hon hoff
          refine ⟨_, rfl, fun K hK => ?_⟩
          have e25 : a.tmps[25]? = some (h0) := by rw [ha]; exact putSel_on (e := (7, 25, h0)) 7 rfl rfl (hon 7 (by kernel_rfl)) rfl
          rw [l6 (hon 7 (by kernel_rfl))] at e25
          have e28 : a.tmps[28]? = some (h1) := by rw [ha]; exact putSel_on (e := (10, 28, h1)) 10 rfl rfl (hon 10 (by kernel_rfl)) rfl
          rw [l8 (hon 10 (by kernel_rfl))] at e28
          replace ha := aK ha
          have a3 := aK a6
          have a4 := aK a7
          have a5 := aK a8
          have a0 := aK a9
          have a1 := aK b0
          have a2 := aK b1
          have HB := aK b2
          have b6 := aK (b3 (hon 3 (by kernel_rfl)))
          have b7 := aK (e6 (hon 4 (by kernel_rfl)))
          have c0 := aK (b4 (hon 7 (by kernel_rfl)))
          have c4 := aK (b5 (hon 10 (by kernel_rfl)))
          obtain ⟨Ao51, co51, eo51⟩ := Kd.V_slice c0.out
          (first | subst eo51 | (injection eo51 with f1_ f2_ f3_; have f4_ := f1_.symm; have f5_ := f3_.symm; clear f1_ f2_ f3_; subst f4_; subst f5_))
          obtain ⟨Ao52, co52, eo52⟩ := Kd.V_slice c4.out
          (first | subst eo52 | (injection eo52 with f1_ f2_ f3_; have f4_ := f1_.symm; have f5_ := f3_.symm; clear f1_ f2_ f3_; subst f4_; subst f5_))
          refine goes_ Try.func17 (by kernel_rfl) rfl #[.agg #[.bool t429, .slice Ao51 t430.length co51], .agg #[.bool t433, .slice Ao52 t434.length co52]] (by rfl) rfl rfl (by first | (simp only [List.map_toArray, List.map_cons, List.map_nil, Act.eval, Array.getD_eq_getD_getElem?, Option.getD_some, e25, e28]; done) | (simp only [List.map_toArray, List.map_cons, List.map_nil, Act.eval, Array.getD_eq_getD_getElem?, Option.getD_some, e25, e28]; rfl)) ?_
          with_reducible refine (num_Add.calls k t429 (fun k_ => ((P0_1_ k_ ∨ P1_1_ k_ ∨ P2_1_ k_) ∨ w.heap.size ≤ k_)) _ _ t430 t433 (fun k_ => ((P0_1_ k_ ∨ P1_1_ k_ ∨ P2_1_ k_) ∨ w.heap.size ≤ k_)) _ _ t434 t437 t438 _ ?side1 ?side2 A12.out).mono ?_
          (case side1 => exact c0.out)
          (case side2 => exact c4.out)
          rintro e w53 ⟨v439, rfl, ho0, hb⟩
          refine ⟨_, rfl, ?_⟩
          have n0_ := aK (Kd.V_below (gV a3.out) hb)
          have n1_ := aK (Kd.V_below (gV a4.out) hb)
          have n2_ := aK (Kd.V_below (gV a5.out) hb)
          have n3_ := aK (Kd.V_below (gV b6.out) hb)
          have n4_ := aK (Kd.V_below (gV b7.out) hb)
          have n5_ := aK (Kd.V_below (gV c0.out) hb)
          have n6_ := aK (Kd.V_below (gV c4.out) hb)
          have n7_ := aK (Kd.V_lower (Kd.V_mono (ok' := fun k_ => ((P0_1_ k_ ∨ P1_1_ k_ ∨ P2_1_ k_) ∨ w.heap.size ≤ k_)) ho0 (fun k_ hk_ => Or.elim hk_ (fun hs_ => Or.elim hs_ (fun hs_ => hs_) (fun hs_ => hs_)) (fun hn_ => (.inr (Nat.le_trans (below_size (gB HB.out)) hn_))))) (below_size (gB HB.out)))
          have n8_ := aK (blk_below (gK a0.out) hb)
          have n9_ := aK (blk_below (gK a1.out) hb)
          have n10_ := aK (blk_below (gK a2.out) hb)
          have n11_ := aK (below_step (gB HB.out) hb)
          have o2 := fun (h0_ : b 12 = true) (h1_ : b 14 = false) => (show w53.heap[d3]? = some (.cells #[.bool false, .slice none 0 0] 25 (0, 0)) from by first | exact (blk_below (gK (e2 h0_ h1_)) hb))
          have o3 := fun (h0_ : b 13 = true) (h1_ : b 15 = false) => (show w53.heap[d5]? = some (.cells #[.bool false, .slice none 0 0] 25 (0, 0)) from by first | exact (blk_below (gK (e1 h0_ h1_)) hb))
          clear a3
          clear a4
          clear a5
          clear b6
          clear b7
          clear c0
          clear c4
          clear a0
          clear a1
          clear a2
          clear HB
          have a3 := n0_
          have a4 := n1_
          have a5 := n2_
          have b6 := n3_
          have b7 := n4_
          have c0 := n5_
          have c4 := n6_
          have c8 := n7_
          have a0 := n8_
          have a1 := n9_
          have a2 := n10_
          have HB := n11_
          clear n0_ n1_ n2_ n3_ n4_ n5_ n6_ n7_ n8_ n9_ n10_ n11_
          (try clear hb)
          (try clear hb2)
          (try clear hk)
          (try clear hi)
          (try clear ho0)
          refine hK.out _ _ ⟨v423, v427, .slice Ao51 t430.length co51, .slice Ao52 t434.length co52, v439, d3, d5, g8, g9, h0, h1, (.agg #[.bool t437, v439]), h3, h4, (by rw [ha.out]; exact putSel_upk 11 hb_ rfl rfl rfl), (gV a3.out), (gV a4.out), (gV a5.out), (gK a0.out), (gK a1.out), (gK a2.out), (gB HB.out), l1, l2, fun _ => (gV b6.out), fun _ => (gV b7.out), fun _ => (gV c0.out), fun _ => (gV c4.out), fun _ => (gV c8.out), o2, h5, h6, h7, h8, h9, j0, j1, o3, j2, j3, j4, j5, j6, j7, j8, fun h0_ => absurd ((hoff 14 (by kernel_rfl)).symm.trans h0_) (by decide), fun h0_ => absurd ((hoff 15 (by kernel_rfl)).symm.trans h0_) (by decide), l3, l4, l6, l8, fun _ => rfl, j9, l0⟩
         refine steps_cons ?_ ?_
         ·rintro b a w' ⟨v423, v427, v431, v435, v439, d3, d5, g8, g9, h0, h1, h2, h3, h4, ha, a6, a7, a8, a9, b0, b1, b2, l1, l2, b3, e6, b4, b5, f3, e2, h5, h6, h7, h8, h9, j0, j1, e1, j2, j3, j4, j5, j6, j7, j8, m1, m2, l3, l4, l6, l8, m0, j9, l0⟩ hb_ hon hoff
          refine ⟨_, rfl, fun K hK => ?_⟩
          replace ha := aK ha
          have a3 := aK a6
          have a4 := aK a7
          have a5 := aK a8
          have a0 := aK a9
          have a1 := aK b0
          have a2 := aK b1
          have HB := aK b2
          refine box_step ?hg (N := 7) ?hd (cs := #[.bool false, .slice none 0 0]) (t := 25) ?hr ?_; (case hd => rfl); (case hg => rfl); (case hr => first | (go_simp; done) | (go_simp; rfl))
          intro d3 hg w45 hbox hb
          have n0_ := aK (Kd.V_below (gV a3.out) hb)
          have n1_ := aK (Kd.V_below (gV a4.out) hb)
          have n2_ := aK (Kd.V_below (gV a5.out) hb)
          have n3_ := aK (blk_below (gK a0.out) hb)
          have n4_ := aK (blk_below (gK a1.out) hb)
          have n5_ := aK (blk_below (gK a2.out) hb)
          have n6_ := aK (below_step (gB HB.out) hb)
          have n7_ := aK (hbox)
          have n8_ := aK ((by rw [hg]; exact (below_size (gB HB.out)) : w.heap.size ≤ d3))
          have n9_ := aK ((by rw [hg]; exact Nat.ne_of_lt (blk_lt (gK a0.out)) : g4 ≠ d3))
          have n10_ := aK ((by rw [hg]; exact Nat.ne_of_gt (blk_lt (gK a0.out)) : d3 ≠ g4))
          have n11_ := aK ((by rw [hg]; exact Nat.ne_of_lt (blk_lt (gK a1.out)) : g6 ≠ d3))
          have n12_ := aK ((by rw [hg]; exact Nat.ne_of_gt (blk_lt (gK a1.out)) : d3 ≠ g6))
          have n13_ := aK ((by rw [hg]; exact Nat.ne_of_lt (blk_lt (gK a2.out)) : g7 ≠ d3))
          have n14_ := aK ((by rw [hg]; exact Nat.ne_of_gt (blk_lt (gK a2.out)) : d3 ≠ g7))
          have t4 := fun (h0_ : up b 12 12 = true) (h1_ : up b 12 13 = true) => (show d5 ≠ d3 from by have hl_ : d5 < w'.heap.size := (by cases h_ : b 15 with | false => exact blk_lt (e1 h1_ h_) | true => exact blk_lt (m2 h_)); omega)
          have t5 := fun (h0_ : up b 12 12 = true) (h1_ : up b 12 13 = true) => (show d3 ≠ d5 from by have hl_ : d5 < w'.heap.size := (by cases h_ : b 15 with | false => exact blk_lt (e1 h1_ h_) | true => exact blk_lt (m2 h_)); omega)
          have t6 := fun (h0_ : b 3 = true) => (show Kd.V (Kd.int .u64) 54 w45 w.heap.size (fun k_ => ((P0_1_ k_ ∨ P1_1_ k_ ∨ P2_1_ k_) ∨ w.heap.size ≤ k_)) v423 t422 from by first | exact (Kd.V_below (gV (b3 h0_)) hb) | exact Kd.V_mono (Kd.V_below (gV (b3 h0_)) hb) (fun _ h_ => by first | trivial | exact h_ | exact h_.1))
          have t7 := fun (h0_ : b 4 = true) => (show Kd.V (Kd.int .u64) 54 w45 w.heap.size (fun k_ => ((P0_1_ k_ ∨ P1_1_ k_ ∨ P2_1_ k_) ∨ w.heap.size ≤ k_)) v427 t426 from by first | exact (Kd.V_below (gV (e6 h0_)) hb) | exact Kd.V_mono (Kd.V_below (gV (e6 h0_)) hb) (fun _ h_ => by first | trivial | exact h_ | exact h_.1))
          have t8 := fun (h0_ : b 7 = true) => (show Kd.V (Kd.int .u64) 54 w45 w.heap.size (fun k_ => ((P0_1_ k_ ∨ P1_1_ k_ ∨ P2_1_ k_) ∨ w.heap.size ≤ k_)) v431 t430 from by first | exact (Kd.V_below (gV (b4 h0_)) hb) | exact Kd.V_mono (Kd.V_below (gV (b4 h0_)) hb) (fun _ h_ => by first | trivial | exact h_ | exact h_.1))
          have t9 := fun (h0_ : b 10 = true) => (show Kd.V (Kd.int .u64) 54 w45 w.heap.size (fun k_ => ((P0_1_ k_ ∨ P1_1_ k_ ∨ P2_1_ k_) ∨ w.heap.size ≤ k_)) v435 t434 from by first | exact (Kd.V_below (gV (b5 h0_)) hb) | exact Kd.V_mono (Kd.V_below (gV (b5 h0_)) hb) (fun _ h_ => by first | trivial | exact h_ | exact h_.1))
          have u0 := fun (h0_ : b 11 = true) => (show Kd.V (Kd.int .u64) 54 w45 w.heap.size (fun k_ => ((P0_1_ k_ ∨ P1_1_ k_ ∨ P2_1_ k_) ∨ w.heap.size ≤ k_)) v439 t438 from by first | exact (Kd.V_below (gV (f3 h0_)) hb) | exact Kd.V_mono (Kd.V_below (gV (f3 h0_)) hb) (fun _ h_ => by first | trivial | exact h_ | exact h_.1))
          have o3 := fun (h0_ : b 13 = true) (h1_ : b 15 = false) => (show w45.heap[d5]? = some (.cells #[.bool false, .slice none 0 0] 25 (0, 0)) from by first | exact (blk_below (gK (e1 h0_ h1_)) hb))
          clear a3
          clear a4
          clear a5
          clear a0
          clear a1
          clear a2
          clear HB
          have a3 := n0_
          have a4 := n1_
          have a5 := n2_
          have a0 := n3_
          have a1 := n4_
          have a2 := n5_
          have HB := n6_
          have b8 := n7_
          have m3 := n8_
          have o4 := n9_
          have p2 := n10_
          have o5 := n11_
          have p3 := n12_
          have o6 := n13_
          have p4 := n14_
          clear n0_ n1_ n2_ n3_ n4_ n5_ n6_ n7_ n8_ n9_ n10_ n11_ n12_ n13_ n14_
          clear hb hbox hg
          refine hK.out _ _ ⟨v423, v427, v431, v435, v439, d3, d5, g8, g9, h0, h1, h2, (.pointer (some ⟨d3, 0, none⟩)), h4, (by rw [ha.out]; exact putSel_upk 12 hb_ rfl rfl rfl), (gV a3.out), (gV a4.out), (gV a5.out), (gK a0.out), (gK a1.out), (gK a2.out), (gB HB.out), @t4, @t5, t6, t7, t8, t9, u0, fun _ _ => (gK b8.out), fun _ => m3.out, fun _ => o4.out, fun _ => p2.out, fun _ => o5.out, fun _ => p3.out, fun _ => o6.out, fun _ => p4.out, o3, j2, j3, j4, j5, j6, j7, j8, fun h0_ => absurd ((hoff 14 (by kernel_rfl)).symm.trans h0_) (by decide), fun h0_ => absurd ((hoff 15 (by kernel_rfl)).symm.trans h0_) (by decide), l3, l4, l6, l8, m0, fun _ => rfl, l0⟩
         refine steps_cons ?_ ?_
         ·rintro b a w' ⟨v423, v427, v431, v435, v439, d3, d5, g8, g9, h0, h1, h2, h3, h4, ha, a6, a7, a8, a9, b0, b1, b2, l1, l2, b3, e6, b4, b5, f3, e2, h5, h6, h7, h8, h9, j0, j1, e1, j2, j3, j4, j5, j6, j7, j8, m1, m2, l3, l4, l6, l8, m0, j9, l0⟩ hb_ hon hoff
          refine ⟨_, rfl, fun K hK => ?_⟩
          replace ha := aK ha
          have a3 := aK a6
          have a4 := aK a7
          have a5 := aK a8
          have a0 := aK a9
          have a1 := aK b0
          have a2 := aK b1
          have HB := aK b2
          refine box_step ?hg (N := 8) ?hd (cs := #[.bool false, .slice none 0 0]) (t := 25) ?hr ?_; (case hd => rfl); (case hg => rfl); (case hr => first | (go_simp; done) | (go_simp; rfl))
          intro d5 hg w45 hbox hb
          have n0_ := aK (Kd.V_below (gV a3.out) hb)
          have n1_ := aK (Kd.V_below (gV a4.out) hb)
          have n2_ := aK (Kd.V_below (gV a5.out) hb)
          have n3_ := aK (blk_below (gK a0.out) hb)
          have n4_ := aK (blk_below (gK a1.out) hb)
          have n5_ := aK (blk_below (gK a2.out) hb)
          have n6_ := aK (below_step (gB HB.out) hb)
          have n7_ := aK (hbox)
          have n8_ := aK ((by rw [hg]; exact (below_size (gB HB.out)) : w.heap.size ≤ d5))
          have n9_ := aK ((by rw [hg]; exact Nat.ne_of_lt (blk_lt (gK a0.out)) : g4 ≠ d5))
          have n10_ := aK ((by rw [hg]; exact Nat.ne_of_gt (blk_lt (gK a0.out)) : d5 ≠ g4))
          have n11_ := aK ((by rw [hg]; exact Nat.ne_of_lt (blk_lt (gK a1.out)) : g6 ≠ d5))
          have n12_ := aK ((by rw [hg]; exact Nat.ne_of_gt (blk_lt (gK a1.out)) : d5 ≠ g6))
          have n13_ := aK ((by rw [hg]; exact Nat.ne_of_lt (blk_lt (gK a2.out)) : g7 ≠ d5))
          have n14_ := aK ((by rw [hg]; exact Nat.ne_of_gt (blk_lt (gK a2.out)) : d5 ≠ g7))
          have t4 := fun (h0_ : up b 13 12 = true) (h1_ : up b 13 13 = true) => (show d5 ≠ d3 from by have hl_ : d3 < w'.heap.size := (by cases h_ : b 14 with | false => exact blk_lt (e2 h0_ h_) | true => exact blk_lt (m1 h_)); omega)
          have t5 := fun (h0_ : up b 13 12 = true) (h1_ : up b 13 13 = true) => (show d3 ≠ d5 from by have hl_ : d3 < w'.heap.size := (by cases h_ : b 14 with | false => exact blk_lt (e2 h0_ h_) | true => exact blk_lt (m1 h_)); omega)
          have t6 := fun (h0_ : b 3 = true) => (show Kd.V (Kd.int .u64) 54 w45 w.heap.size (fun k_ => ((P0_1_ k_ ∨ P1_1_ k_ ∨ P2_1_ k_) ∨ w.heap.size ≤ k_)) v423 t422 from by first | exact (Kd.V_below (gV (b3 h0_)) hb) | exact Kd.V_mono (Kd.V_below (gV (b3 h0_)) hb) (fun _ h_ => by first | trivial | exact h_ | exact h_.1))
          have t7 := fun (h0_ : b 4 = true) => (show Kd.V (Kd.int .u64) 54 w45 w.heap.size (fun k_ => ((P0_1_ k_ ∨ P1_1_ k_ ∨ P2_1_ k_) ∨ w.heap.size ≤ k_)) v427 t426 from by first | exact (Kd.V_below (gV (e6 h0_)) hb) | exact Kd.V_mono (Kd.V_below (gV (e6 h0_)) hb) (fun _ h_ => by first | trivial | exact h_ | exact h_.1))
          have t8 := fun (h0_ : b 7 = true) => (show Kd.V (Kd.int .u64) 54 w45 w.heap.size (fun k_ => ((P0_1_ k_ ∨ P1_1_ k_ ∨ P2_1_ k_) ∨ w.heap.size ≤ k_)) v431 t430 from by first | exact (Kd.V_below (gV (b4 h0_)) hb) | exact Kd.V_mono (Kd.V_below (gV (b4 h0_)) hb) (fun _ h_ => by first | trivial | exact h_ | exact h_.1))
          have t9 := fun (h0_ : b 10 = true) => (show Kd.V (Kd.int .u64) 54 w45 w.heap.size (fun k_ => ((P0_1_ k_ ∨ P1_1_ k_ ∨ P2_1_ k_) ∨ w.heap.size ≤ k_)) v435 t434 from by first | exact (Kd.V_below (gV (b5 h0_)) hb) | exact Kd.V_mono (Kd.V_below (gV (b5 h0_)) hb) (fun _ h_ => by first | trivial | exact h_ | exact h_.1))
          have u0 := fun (h0_ : b 11 = true) => (show Kd.V (Kd.int .u64) 54 w45 w.heap.size (fun k_ => ((P0_1_ k_ ∨ P1_1_ k_ ∨ P2_1_ k_) ∨ w.heap.size ≤ k_)) v439 t438 from by first | exact (Kd.V_below (gV (f3 h0_)) hb) | exact Kd.V_mono (Kd.V_below (gV (f3 h0_)) hb) (fun _ h_ => by first | trivial | exact h_ | exact h_.1))
          have o2 := fun (h0_ : b 12 = true) (h1_ : b 14 = false) => (show w45.heap[d3]? = some (.cells #[.bool false, .slice none 0 0] 25 (0, 0)) from by first | exact (blk_below (gK (e2 h0_ h1_)) hb))
          clear a3
          clear a4
          clear a5
          clear a0
          clear a1
          clear a2
          clear HB
          have a3 := n0_
          have a4 := n1_
          have a5 := n2_
          have a0 := n3_
          have a1 := n4_
          have a2 := n5_
          have HB := n6_
          have b9 := n7_
          have m4 := n8_
          have o7 := n9_
          have p5 := n10_
          have o8 := n11_
          have p6 := n12_
          have o9 := n13_
          have p7 := n14_
          clear n0_ n1_ n2_ n3_ n4_ n5_ n6_ n7_ n8_ n9_ n10_ n11_ n12_ n13_ n14_
          clear hb hbox hg
          refine hK.out _ _ ⟨v423, v427, v431, v435, v439, d3, d5, g8, g9, h0, h1, h2, h3, (.pointer (some ⟨d5, 0, none⟩)), (by rw [ha.out]; exact putSel_upk 13 hb_ rfl rfl rfl), (gV a3.out), (gV a4.out), (gV a5.out), (gK a0.out), (gK a1.out), (gK a2.out), (gB HB.out), @t4, @t5, t6, t7, t8, t9, u0, o2, h5, h6, h7, h8, h9, j0, j1, fun _ _ => (gK b9.out), fun _ => m4.out, fun _ => o7.out, fun _ => p5.out, fun _ => o8.out, fun _ => p6.out, fun _ => o9.out, fun _ => p7.out, fun h0_ => absurd ((hoff 14 (by kernel_rfl)).symm.trans h0_) (by decide), fun h0_ => absurd ((hoff 15 (by kernel_rfl)).symm.trans h0_) (by decide), l3, l4, l6, l8, m0, j9, fun _ => rfl⟩
         refine steps_cons ?_ ?_
         ·rintro b a w' ⟨v423, v427, v431, v435, v439, d3, d5, g8, g9, h0, h1, h2, h3, h4, ha, a6, a7, a8, a9, b0, b1, b2, l1, l2, b3, e6, b4, b5, f3, e2, h5, h6, h7, h8, h9, j0, j1, e1, j2, j3, j4, j5, j6, j7, j8, m1, m2, l3, l4, l6, l8, m0, j9, l0⟩ hb_ hon hoff
          refine ⟨_, rfl, fun K hK => ?_⟩
          have e7 : a.tmps[7]? = some (h3) := by rw [ha]; exact putSel_on (e := (12, 7, h3)) 12 rfl rfl (hon 12 (by kernel_rfl)) rfl
          rw [j9 (hon 12 (by kernel_rfl))] at e7
          have e22 : a.tmps[22]? = some (g9) := by rw [ha]; exact putSel_on (e := (4, 22, g9)) 4 rfl rfl (hon 4 (by kernel_rfl)) rfl
          rw [l4 (hon 4 (by kernel_rfl))] at e22
          replace ha := aK ha
          have a3 := aK a6
          have a4 := aK a7
          have a5 := aK a8
          have a0 := aK a9
          have a1 := aK b0
          have a2 := aK b1
          have HB := aK b2
          have p0 := aK (l1 (hon 12 (by kernel_rfl)) (hon 13 (by kernel_rfl)))
          have p1 := aK (l2 (hon 12 (by kernel_rfl)) (hon 13 (by kernel_rfl)))
          have b6 := aK (b3 (hon 3 (by kernel_rfl)))
          have b7 := aK (e6 (hon 4 (by kernel_rfl)))
          have c0 := aK (b4 (hon 7 (by kernel_rfl)))
          have c4 := aK (b5 (hon 10 (by kernel_rfl)))
          have c8 := aK (f3 (hon 11 (by kernel_rfl)))
          have b8 := aK (e2 (hon 12 (by kernel_rfl)) hb_)
          have m3 := aK (h5 (hon 12 (by kernel_rfl)))
          have o4 := aK (h6 (hon 12 (by kernel_rfl)))
          have p2 := aK (h7 (hon 12 (by kernel_rfl)))
          have o5 := aK (h8 (hon 12 (by kernel_rfl)))
          have p3 := aK (h9 (hon 12 (by kernel_rfl)))
          have o6 := aK (j0 (hon 12 (by kernel_rfl)))
          have p4 := aK (j1 (hon 12 (by kernel_rfl)))
          have b9 := aK (e1 (hon 13 (by kernel_rfl)) (hoff 15 (by kernel_rfl)))
          have m4 := aK (j2 (hon 13 (by kernel_rfl)))
          have o7 := aK (j3 (hon 13 (by kernel_rfl)))
          have p5 := aK (j4 (hon 13 (by kernel_rfl)))
          have o8 := aK (j5 (hon 13 (by kernel_rfl)))
          have p6 := aK (j6 (hon 13 (by kernel_rfl)))
          have o9 := aK (j7 (hon 13 (by kernel_rfl)))
          have p7 := aK (j8 (hon 13 (by kernel_rfl)))
          obtain ⟨Ao57, co57, eo57⟩ := Kd.V_slice b7.out
          (first | subst eo57 | (injection eo57 with f1_ f2_ f3_; have f4_ := f1_.symm; have f5_ := f3_.symm; clear f1_ f2_ f3_; subst f4_; subst f5_))
          have hs56 : w'.cell? ⟨d3, 0, none⟩ = some (.bool false) := (blk_cell b8.out 0).trans rfl
          have hfs56 := blk_frozen b8.out 0
          have hns56_0 := o4.out
          have hns56_1 := o5.out
          have hns56_2 := o6.out
          have hns56_4 := p0.out
          have hms56_0 := p2.out
          have hms56_1 := p3.out
          have hms56_2 := p4.out
          have hms56_4 := p1.out
          have hs58 : w'.cell? ⟨d3, 1, none⟩ = some (.slice none 0 0) := (blk_cell b8.out 1).trans rfl
          have hfs58 := blk_frozen b8.out 1
          have hns58_0 := o4.out
          have hns58_1 := o5.out
          have hns58_2 := o6.out
          have hns58_4 := p0.out
          have hms58_0 := p2.out
          have hms58_1 := p3.out
          have hms58_2 := p4.out
          have hms58_4 := p1.out
          refine skip_ (w1 := ?_) (by rfl) rfl ?_ ?_
          rotate_left
          ·go_simp
           rfl
          refine hK.out _ _ ⟨v423, .slice Ao57 t426.length co57, v431, v435, v439, d3, d5, g8, g9, h0, h1, h2, h3, h4, (by rw [ha.out]; exact putSel_none (v := undef) rfl), (gV (Kd.V_mono (Kd.V_far (p := ⟨d3, 1, none⟩) (Kd.V_far (p := ⟨d3, 0, none⟩) (V_away a3.out b8.out (by simp)) (fun _ hk => hk.2) (.bool t425)) (fun _ hk => hk.2) (.slice Ao57 t426.length co57)) (fun _ hk => hk.1))), (gV (Kd.V_mono (Kd.V_far (p := ⟨d3, 1, none⟩) (Kd.V_far (p := ⟨d3, 0, none⟩) (V_away a4.out b8.out (by simp)) (fun _ hk => hk.2) (.bool t425)) (fun _ hk => hk.2) (.slice Ao57 t426.length co57)) (fun _ hk => hk.1))), (gV (Kd.V_mono (Kd.V_far (p := ⟨d3, 1, none⟩) (Kd.V_far (p := ⟨d3, 0, none⟩) (V_away a5.out b8.out (by simp)) (fun _ hk => hk.2) (.bool t425)) (fun _ hk => hk.2) (.slice Ao57 t426.length co57)) (fun _ hk => hk.1))), (by (with_reducible repeat (first | refine blk_drewN ?_ _ | refine blk_drew ?_ | refine blk_alloc ?_ _)); refine blk_far ?_ o4.out _; (with_reducible repeat (first | refine blk_drewN ?_ _ | refine blk_drew ?_ | refine blk_alloc ?_ _)); refine blk_far ?_ o4.out _; (with_reducible repeat (first | refine blk_drewN ?_ _ | refine blk_drew ?_ | refine blk_alloc ?_ _)); exact a0.out), (by (with_reducible repeat (first | refine blk_drewN ?_ _ | refine blk_drew ?_ | refine blk_alloc ?_ _)); refine blk_far ?_ o5.out _; (with_reducible repeat (first | refine blk_drewN ?_ _ | refine blk_drew ?_ | refine blk_alloc ?_ _)); refine blk_far ?_ o5.out _; (with_reducible repeat (first | refine blk_drewN ?_ _ | refine blk_drew ?_ | refine blk_alloc ?_ _)); exact a1.out), (by (with_reducible repeat (first | refine blk_drewN ?_ _ | refine blk_drew ?_ | refine blk_alloc ?_ _)); refine blk_far ?_ o6.out _; (with_reducible repeat (first | refine blk_drewN ?_ _ | refine blk_drew ?_ | refine blk_alloc ?_ _)); refine blk_far ?_ o6.out _; (with_reducible repeat (first | refine blk_drewN ?_ _ | refine blk_drew ?_ | refine blk_alloc ?_ _)); exact a2.out), (by repeat (first | (with_reducible first | exact HB.out | apply bA | apply bN | apply bD | refine bS ?_ m7.out | refine bS ?_ m8.out | refine bS ?_ m9.out | refine bS ?_ m3.out | refine bS ?_ m4.out) | exact HB.out)), fun _ _ => p0.out, fun _ _ => p1.out, fun _ => (gV (Kd.V_mono (Kd.V_far (p := ⟨d3, 1, none⟩) (Kd.V_far (p := ⟨d3, 0, none⟩) (V_away b6.out b8.out (by simp)) (fun _ hk => hk.2) (.bool t425)) (fun _ hk => hk.2) (.slice Ao57 t426.length co57)) (fun _ hk => hk.1))), fun _ => (gV (Kd.V_mono (Kd.V_far (p := ⟨d3, 1, none⟩) (Kd.V_far (p := ⟨d3, 0, none⟩) (V_away b7.out b8.out (by simp)) (fun _ hk => hk.2) (.bool t425)) (fun _ hk => hk.2) (.slice Ao57 t426.length co57)) (fun _ hk => hk.1))), fun _ => (gV (Kd.V_mono (Kd.V_far (p := ⟨d3, 1, none⟩) (Kd.V_far (p := ⟨d3, 0, none⟩) (V_away c0.out b8.out (by simp)) (fun _ hk => hk.2) (.bool t425)) (fun _ hk => hk.2) (.slice Ao57 t426.length co57)) (fun _ hk => hk.1))), fun _ => (gV (Kd.V_mono (Kd.V_far (p := ⟨d3, 1, none⟩) (Kd.V_far (p := ⟨d3, 0, none⟩) (V_away c4.out b8.out (by simp)) (fun _ hk => hk.2) (.bool t425)) (fun _ hk => hk.2) (.slice Ao57 t426.length co57)) (fun _ hk => hk.1))), fun _ => (gV (Kd.V_mono (Kd.V_far (p := ⟨d3, 1, none⟩) (Kd.V_far (p := ⟨d3, 0, none⟩) (V_away c8.out b8.out (by simp)) (fun _ hk => hk.2) (.bool t425)) (fun _ hk => hk.2) (.slice Ao57 t426.length co57)) (fun _ hk => hk.1))), fun _ h1_ => absurd ((up_self b 14).symm.trans h1_) (by decide), fun _ => m3.out, fun _ => o4.out, fun _ => p2.out, fun _ => o5.out, fun _ => p3.out, fun _ => o6.out, fun _ => p4.out, fun _ _ => (by (with_reducible repeat (first | refine blk_drewN ?_ _ | refine blk_drew ?_ | refine blk_alloc ?_ _)); refine blk_far ?_ p0.out _; (with_reducible repeat (first | refine blk_drewN ?_ _ | refine blk_drew ?_ | refine blk_alloc ?_ _)); refine blk_far ?_ p0.out _; (with_reducible repeat (first | refine blk_drewN ?_ _ | refine blk_drew ?_ | refine blk_alloc ?_ _)); exact b9.out), fun _ => m4.out, fun _ => o7.out, fun _ => p5.out, fun _ => o8.out, fun _ => p6.out, fun _ => o9.out, fun _ => p7.out, fun _ => (by (with_reducible repeat (first | refine blk_drewN ?_ _ | refine blk_drew ?_ | refine blk_alloc ?_ _)); refine blk_put (cs := #[.bool t425, .slice none 0 0]) ?_ 1 _ rfl; (with_reducible repeat (first | refine blk_drewN ?_ _ | refine blk_drew ?_ | refine blk_alloc ?_ _)); refine blk_put (cs := #[.bool false, .slice none 0 0]) ?_ 0 _ rfl; (with_reducible repeat (first | refine blk_drewN ?_ _ | refine blk_drew ?_ | refine blk_alloc ?_ _)); exact b8.out), fun h0_ => absurd ((hoff 15 (by kernel_rfl)).symm.trans h0_) (by decide), l3, l4, l6, l8, m0, j9, l0⟩
         refine steps_cons ?_ ?_
         ·rintro b a w' ⟨v423, v427, v431, v435, v439, d3, d5, g8, g9, h0, h1, h2, h3, h4, ha, a6, a7, a8, a9, b0, b1, b2, l1, l2, b3, e6, b4, b5, f3, e2, h5, h6, h7, h8, h9, j0, j1, e1, j2, j3, j4, j5, j6, j7, j8, m1, m2, l3, l4, l6, l8, m0, j9, l0⟩ hb_ hon hoff
          refine ⟨_, rfl, fun K hK => ?_⟩
          have e8 : a.tmps[8]? = some (h4) := by rw [ha]; exact putSel_on (e := (13, 8, h4)) 13 rfl rfl (hon 13 (by kernel_rfl)) rfl
          rw [l0 (hon 13 (by kernel_rfl))] at e8
          have e29 : a.tmps[29]? = some (h2) := by rw [ha]; exact putSel_on (e := (11, 29, h2)) 11 rfl rfl (hon 11 (by kernel_rfl)) rfl
          rw [m0 (hon 11 (by kernel_rfl))] at e29
          replace ha := aK ha
          have a3 := aK a6
          have a4 := aK a7
          have a5 := aK a8
          have a0 := aK a9
          have a1 := aK b0
          have a2 := aK b1
          have HB := aK b2
          have p0 := aK (l1 (hon 12 (by kernel_rfl)) (hon 13 (by kernel_rfl)))
          have p1 := aK (l2 (hon 12 (by kernel_rfl)) (hon 13 (by kernel_rfl)))
          have b6 := aK (b3 (hon 3 (by kernel_rfl)))
          have b7 := aK (e6 (hon 4 (by kernel_rfl)))
          have c0 := aK (b4 (hon 7 (by kernel_rfl)))
          have c4 := aK (b5 (hon 10 (by kernel_rfl)))
          have c8 := aK (f3 (hon 11 (by kernel_rfl)))
          have m3 := aK (h5 (hon 12 (by kernel_rfl)))
          have o4 := aK (h6 (hon 12 (by kernel_rfl)))
          have p2 := aK (h7 (hon 12 (by kernel_rfl)))
          have o5 := aK (h8 (hon 12 (by kernel_rfl)))
          have p3 := aK (h9 (hon 12 (by kernel_rfl)))
          have o6 := aK (j0 (hon 12 (by kernel_rfl)))
          have p4 := aK (j1 (hon 12 (by kernel_rfl)))
          have b9 := aK (e1 (hon 13 (by kernel_rfl)) hb_)
          have m4 := aK (j2 (hon 13 (by kernel_rfl)))
          have o7 := aK (j3 (hon 13 (by kernel_rfl)))
          have p5 := aK (j4 (hon 13 (by kernel_rfl)))
          have o8 := aK (j5 (hon 13 (by kernel_rfl)))
          have p6 := aK (j6 (hon 13 (by kernel_rfl)))
          have o9 := aK (j7 (hon 13 (by kernel_rfl)))
          have p7 := aK (j8 (hon 13 (by kernel_rfl)))
          have b8 := aK (m1 (hon 14 (by kernel_rfl)))
          obtain ⟨Ao60, co60, eo60⟩ := Kd.V_slice c8.out
          (first | subst eo60 | (injection eo60 with f1_ f2_ f3_; have f4_ := f1_.symm; have f5_ := f3_.symm; clear f1_ f2_ f3_; subst f4_; subst f5_))
          have hs59 : w'.cell? ⟨d5, 0, none⟩ = some (.bool false) := (blk_cell b9.out 0).trans rfl
          have hfs59 := blk_frozen b9.out 0
          have hns59_0 := o7.out
          have hns59_1 := o8.out
          have hns59_2 := o9.out
          have hns59_3 := p1.out
          have hms59_0 := p5.out
          have hms59_1 := p6.out
          have hms59_2 := p7.out
          have hms59_3 := p0.out
          have hs61 : w'.cell? ⟨d5, 1, none⟩ = some (.slice none 0 0) := (blk_cell b9.out 1).trans rfl
          have hfs61 := blk_frozen b9.out 1
          have hns61_0 := o7.out
          have hns61_1 := o8.out
          have hns61_2 := o9.out
          have hns61_3 := p1.out
          have hms61_0 := p5.out
          have hms61_1 := p6.out
          have hms61_2 := p7.out
          have hms61_3 := p0.out
          refine skip_ (w1 := ?_) (by rfl) rfl ?_ ?_
          rotate_left
          ·go_simp
           rfl
          refine hK.out _ _ ⟨v423, v427, v431, v435, .slice Ao60 t438.length co60, d3, d5, g8, g9, h0, h1, h2, h3, h4, (by rw [ha.out]; exact putSel_none (v := undef) rfl), (gV (Kd.V_mono (Kd.V_far (p := ⟨d5, 1, none⟩) (Kd.V_far (p := ⟨d5, 0, none⟩) (V_away a3.out b9.out (by simp)) (fun _ hk => hk.2) (.bool t437)) (fun _ hk => hk.2) (.slice Ao60 t438.length co60)) (fun _ hk => hk.1))), (gV (Kd.V_mono (Kd.V_far (p := ⟨d5, 1, none⟩) (Kd.V_far (p := ⟨d5, 0, none⟩) (V_away a4.out b9.out (by simp)) (fun _ hk => hk.2) (.bool t437)) (fun _ hk => hk.2) (.slice Ao60 t438.length co60)) (fun _ hk => hk.1))), (gV (Kd.V_mono (Kd.V_far (p := ⟨d5, 1, none⟩) (Kd.V_far (p := ⟨d5, 0, none⟩) (V_away a5.out b9.out (by simp)) (fun _ hk => hk.2) (.bool t437)) (fun _ hk => hk.2) (.slice Ao60 t438.length co60)) (fun _ hk => hk.1))), (by (with_reducible repeat (first | refine blk_drewN ?_ _ | refine blk_drew ?_ | refine blk_alloc ?_ _)); refine blk_far ?_ o7.out _; (with_reducible repeat (first | refine blk_drewN ?_ _ | refine blk_drew ?_ | refine blk_alloc ?_ _)); refine blk_far ?_ o7.out _; (with_reducible repeat (first | refine blk_drewN ?_ _ | refine blk_drew ?_ | refine blk_alloc ?_ _)); exact a0.out), (by (with_reducible repeat (first | refine blk_drewN ?_ _ | refine blk_drew ?_ | refine blk_alloc ?_ _)); refine blk_far ?_ o8.out _; (with_reducible repeat (first | refine blk_drewN ?_ _ | refine blk_drew ?_ | refine blk_alloc ?_ _)); refine blk_far ?_ o8.out _; (with_reducible repeat (first | refine blk_drewN ?_ _ | refine blk_drew ?_ | refine blk_alloc ?_ _)); exact a1.out), (by (with_reducible repeat (first | refine blk_drewN ?_ _ | refine blk_drew ?_ | refine blk_alloc ?_ _)); refine blk_far ?_ o9.out _; (with_reducible repeat (first | refine blk_drewN ?_ _ | refine blk_drew ?_ | refine blk_alloc ?_ _)); refine blk_far ?_ o9.out _; (with_reducible repeat (first | refine blk_drewN ?_ _ | refine blk_drew ?_ | refine blk_alloc ?_ _)); exact a2.out), (by repeat (first | (with_reducible first | exact HB.out | apply bA | apply bN | apply bD | refine bS ?_ m7.out | refine bS ?_ m8.out | refine bS ?_ m9.out | refine bS ?_ m3.out | refine bS ?_ m4.out) | exact HB.out)), fun _ _ => p0.out, fun _ _ => p1.out, fun _ => (gV (Kd.V_mono (Kd.V_far (p := ⟨d5, 1, none⟩) (Kd.V_far (p := ⟨d5, 0, none⟩) (V_away b6.out b9.out (by simp)) (fun _ hk => hk.2) (.bool t437)) (fun _ hk => hk.2) (.slice Ao60 t438.length co60)) (fun _ hk => hk.1))), fun _ => (gV (Kd.V_mono (Kd.V_far (p := ⟨d5, 1, none⟩) (Kd.V_far (p := ⟨d5, 0, none⟩) (V_away b7.out b9.out (by simp)) (fun _ hk => hk.2) (.bool t437)) (fun _ hk => hk.2) (.slice Ao60 t438.length co60)) (fun _ hk => hk.1))), fun _ => (gV (Kd.V_mono (Kd.V_far (p := ⟨d5, 1, none⟩) (Kd.V_far (p := ⟨d5, 0, none⟩) (V_away c0.out b9.out (by simp)) (fun _ hk => hk.2) (.bool t437)) (fun _ hk => hk.2) (.slice Ao60 t438.length co60)) (fun _ hk => hk.1))), fun _ => (gV (Kd.V_mono (Kd.V_far (p := ⟨d5, 1, none⟩) (Kd.V_far (p := ⟨d5, 0, none⟩) (V_away c4.out b9.out (by simp)) (fun _ hk => hk.2) (.bool t437)) (fun _ hk => hk.2) (.slice Ao60 t438.length co60)) (fun _ hk => hk.1))), fun _ => (gV (Kd.V_mono (Kd.V_far (p := ⟨d5, 1, none⟩) (Kd.V_far (p := ⟨d5, 0, none⟩) (V_away c8.out b9.out (by simp)) (fun _ hk => hk.2) (.bool t437)) (fun _ hk => hk.2) (.slice Ao60 t438.length co60)) (fun _ hk => hk.1))), fun _ h1_ => absurd ((hon 14 (by kernel_rfl)).symm.trans h1_) (by decide), fun _ => m3.out, fun _ => o4.out, fun _ => p2.out, fun _ => o5.out, fun _ => p3.out, fun _ => o6.out, fun _ => p4.out, fun _ h1_ => absurd ((up_self b 15).symm.trans h1_) (by decide), fun _ => m4.out, fun _ => o7.out, fun _ => p5.out, fun _ => o8.out, fun _ => p6.out, fun _ => o9.out, fun _ => p7.out, fun _ => (by (with_reducible repeat (first | refine blk_drewN ?_ _ | refine blk_drew ?_ | refine blk_alloc ?_ _)); refine blk_far ?_ p1.out _; (with_reducible repeat (first | refine blk_drewN ?_ _ | refine blk_drew ?_ | refine blk_alloc ?_ _)); refine blk_far ?_ p1.out _; (with_reducible repeat (first | refine blk_drewN ?_ _ | refine blk_drew ?_ | refine blk_alloc ?_ _)); exact b8.out), fun _ => (by (with_reducible repeat (first | refine blk_drewN ?_ _ | refine blk_drew ?_ | refine blk_alloc ?_ _)); refine blk_put (cs := #[.bool t437, .slice none 0 0]) ?_ 1 _ rfl; (with_reducible repeat (first | refine blk_drewN ?_ _ | refine blk_drew ?_ | refine blk_alloc ?_ _)); refine blk_put (cs := #[.bool false, .slice none 0 0]) ?_ 0 _ rfl; (with_reducible repeat (first | refine blk_drewN ?_ _ | refine blk_drew ?_ | refine blk_alloc ?_ _)); exact b9.out), l3, l4, l6, l8, m0, j9, l0⟩
         exact steps_nil
        rintro b a w61 hall ⟨v423, v427, v431, v435, v439, d3, d5, g8, g9, h0, h1, h2, h3, h4, ha, a6, a7, a8, a9, b0, b1, b2, l1, l2, b3, e6, b4, b5, f3, e2, h5, h6, h7, h8, h9, j0, j1, e1, j2, j3, j4, j5, j6, j7, j8, m1, m2, l3, l4, l6, l8, m0, j9, l0⟩
        clear a0 a1 a2 HB a3 a4 a5
        have q7 := hall 0 (by kernel_rfl)
        have q8 := hall 1 (by kernel_rfl)
        have p8 := hall 2 (by kernel_rfl)
        have p9 := hall 3 (by kernel_rfl)
        have q0 := hall 4 (by kernel_rfl)
        have q9 := hall 5 (by kernel_rfl)
        have s0 := hall 6 (by kernel_rfl)
        have q1 := hall 7 (by kernel_rfl)
        have s1 := hall 8 (by kernel_rfl)
        have s2 := hall 9 (by kernel_rfl)
        have q2 := hall 10 (by kernel_rfl)
        have q3 := hall 11 (by kernel_rfl)
        have m5 := hall 12 (by kernel_rfl)
        have m6 := hall 13 (by kernel_rfl)
        have q4 := hall 14 (by kernel_rfl)
        have q5 := hall 15 (by kernel_rfl)
        subst ha
        obtain rfl := l3 p9
        obtain rfl := l4 q0
        obtain rfl := l6 q1
        obtain rfl := l8 q2
        obtain rfl := m0 q3
        obtain rfl := j9 m5
        obtain rfl := l0 m6
        simp only [putSel, q7, q8, p8, p9, q0, q9, s0, q1, s1, s2, q2, q3, m5, m6, q4, q5, if_true, Act.put, List.setIfInBounds_toArray, List.set_cons_zero, List.set_cons_succ]
        have a3 := aK a6
        clear a6
        have a4 := aK a7
        clear a7
        have a5 := aK a8
        clear a8
        have a0 := aK a9
        clear a9
        have a1 := aK b0
        clear b0
        have a2 := aK b1
        clear b1
        have HB := aK b2
        clear b2
        have p0 := aK (l1 m5 m6)
        clear l1
        have p1 := aK (l2 m5 m6)
        clear l2
        have b6 := aK (b3 p9)
        clear b3
        have b7 := aK (e6 q0)
        clear e6
        have c0 := aK (b4 q1)
        clear b4
        have c4 := aK (b5 q2)
        clear b5
        have c8 := aK (f3 q3)
        clear f3
        clear e2
        have m3 := aK (h5 m5)
        clear h5
        have o4 := aK (h6 m5)
        clear h6
        have p2 := aK (h7 m5)
        clear h7
        have o5 := aK (h8 m5)
        clear h8
        have p3 := aK (h9 m5)
        clear h9
        have o6 := aK (j0 m5)
        clear j0
        have p4 := aK (j1 m5)
        clear j1
        clear e1
        have m4 := aK (j2 m6)
        clear j2
        have o7 := aK (j3 m6)
        clear j3
        have p5 := aK (j4 m6)
        clear j4
        have o8 := aK (j5 m6)
        clear j5
        have p6 := aK (j6 m6)
        clear j6
        have o9 := aK (j7 m6)
        clear j7
        have p7 := aK (j8 m6)
        clear j8
        have b8 := aK (m1 q4)
        clear m1
        have b9 := aK (m2 q5)
        clear m2
        clear hall q7 q8 p8 p9 q0 q9 s0 q1 s1 s2 q2 q3 m5 m6 q4 q5
        have hnb62 := o4.out
        have hnc62 := p2.out
        have hnb63 := o7.out
        have hnc63 := p5.out
        have hcz64_0 : w61.cell? ⟨g4, 0, none⟩ = some (.bool a0_0) := (blk_cell a0.out 0).trans rfl
        have hcz64_1 : w61.cell? ⟨g4, 1, none⟩ = some (.slice A0_1 l0_1.length c0_1) := (blk_cell a0.out 1).trans rfl
        have hfz64_0 := blk_frozen a0.out 0
        have hfz64_1 := blk_frozen a0.out 1
        have hnb65 := o5.out
        have hnc65 := p3.out
        have hnb66 := o8.out
        have hnc66 := p6.out
        have hcz67_0 : w61.cell? ⟨g6, 0, none⟩ = some (.bool a1_0) := (blk_cell a1.out 0).trans rfl
        have hcz67_1 : w61.cell? ⟨g6, 1, none⟩ = some (.slice A1_1 l1_1.length c1_1) := (blk_cell a1.out 1).trans rfl
        have hfz67_0 := blk_frozen a1.out 0
        have hfz67_1 := blk_frozen a1.out 1
        have hnb68 := o6.out
        have hnc68 := p4.out
        have hnb69 := o9.out
        have hnc69 := p7.out
        have hcz70_0 : w61.cell? ⟨g7, 0, none⟩ = some (.bool a2_0) := (blk_cell a2.out 0).trans rfl
        have hcz70_1 : w61.cell? ⟨g7, 1, none⟩ = some (.slice A2_1 l2_1.length c2_1) := (blk_cell a2.out 1).trans rfl
        have hfz70_0 := blk_frozen a2.out 0
        have hfz70_1 := blk_frozen a2.out 1
        try go_wp2_with (first | ((with_reducible refine gate_dst (N := 33) rfl ?_); (try (refine gate_guard (by rfl) ?_; dsimp only)); refine Kd.N_lit k25 _ 25 ?hg (N' := 33) ?hd (xs := ([(⟨a0_0, l0_1⟩ : S25), (⟨a1_0, l1_1⟩ : S25), (⟨a2_0, l2_1⟩ : S25)] : List (S25))) (inner := [.bool a0_0, .slice A0_1 l0_1.length c0_1, .bool a1_0, .slice A1_1 l1_1.length c1_1, .bool a2_0, .slice A2_1 l2_1.length c2_1]) (ok := (fun k_ => ((P0_1_ k_ ∨ P1_1_ k_ ∨ P2_1_ k_) ∨ w.heap.size ≤ k_))) (okp := (fun k_ => ((P0_1_ k_ ∨ P1_1_ k_ ∨ P2_1_ k_) ∨ w.heap.size ≤ k_))) ?hr ?hp (fun _ hk => hk) ((show ∀ k_, w61.heap.size ≤ k_ → (fun k_ => ((P0_1_ k_ ∨ P1_1_ k_ ∨ P2_1_ k_) ∨ w.heap.size ≤ k_)) k_ from fun k_ hk => (.inr (Nat.le_trans (below_size (by repeat (first | (with_reducible first | exact HB.out | apply bA | apply bN | apply bD | refine bS ?_ m7.out | refine bS ?_ m8.out | refine bS ?_ m9.out | refine bS ?_ m3.out | refine bS ?_ m4.out) | exact HB.out))) hk))) _ (Nat.le_refl _)) (Below.refl _ _) (Nat.le_refl _) (by simp) ?_; (case hd => rfl); (case hg => rfl); (case hr => first | (go_simp; done) | (go_simp; rfl)); (case hp => exact (Reps.c2 (show Kd.FK k25 _ _ (⟨a0_0, l0_1⟩ : S25) [.bool a0_0, .slice A0_1 l0_1.length c0_1] from (k25_mkF _ _ (⟨a0_0, l0_1⟩ : S25) (Kd.V_reads' (Kd.V_mono (ok' := (fun k_ => ((P0_1_ k_ ∨ P1_1_ k_ ∨ P2_1_ k_) ∨ w.heap.size ≤ k_))) (a3.out) (fun k_ hk => hk))).2.1 (Kd.V_F (Kd.V_mono (ok' := (fun k_ => ((P0_1_ k_ ∨ P1_1_ k_ ∨ P2_1_ k_) ∨ w.heap.size ≤ k_))) (a3.out) (fun k_ hk => hk))))) (Reps.c2 (show Kd.FK k25 _ _ (⟨a1_0, l1_1⟩ : S25) [.bool a1_0, .slice A1_1 l1_1.length c1_1] from (k25_mkF _ _ (⟨a1_0, l1_1⟩ : S25) (Kd.V_reads' (Kd.V_mono (ok' := (fun k_ => ((P0_1_ k_ ∨ P1_1_ k_ ∨ P2_1_ k_) ∨ w.heap.size ≤ k_))) (a4.out) (fun k_ hk => hk))).2.1 (Kd.V_F (Kd.V_mono (ok' := (fun k_ => ((P0_1_ k_ ∨ P1_1_ k_ ∨ P2_1_ k_) ∨ w.heap.size ≤ k_))) (a4.out) (fun k_ hk => hk))))) (Reps.c2 (show Kd.FK k25 _ _ (⟨a2_0, l2_1⟩ : S25) [.bool a2_0, .slice A2_1 l2_1.length c2_1] from (k25_mkF _ _ (⟨a2_0, l2_1⟩ : S25) (Kd.V_reads' (Kd.V_mono (ok' := (fun k_ => ((P0_1_ k_ ∨ P1_1_ k_ ∨ P2_1_ k_) ∨ w.heap.size ≤ k_))) (a5.out) (fun k_ hk => hk))).2.1 (Kd.V_F (Kd.V_mono (ok' := (fun k_ => ((P0_1_ k_ ∨ P1_1_ k_ ∨ P2_1_ k_) ∨ w.heap.size ≤ k_))) (a5.out) (fun k_ hk => hk))))) (Reps.none _ _))))); intro v444 w71 ho72 hb hg_ hnew_; clear hg_ hnew_; (first | rw [← Ny443.out] at ho72 | (simp only [Int.reduceToNat] at ho72; rw [← Ny443.out] at ho72)); replace a3 := aK (Kd.V_below (gV a3.out) hb); replace a4 := aK (Kd.V_below (gV a4.out) hb); replace a5 := aK (Kd.V_below (gV a5.out) hb); replace b6 := aK (Kd.V_below (gV b6.out) hb); replace b7 := aK (Kd.V_below (gV b7.out) hb); replace c0 := aK (Kd.V_below (gV c0.out) hb); replace c4 := aK (Kd.V_below (gV c4.out) hb); replace c8 := aK (Kd.V_below (gV c8.out) hb); have q6 := aK (Kd.N_lower ho72 (below_size (by repeat (first | (with_reducible first | exact HB.out | apply bA | apply bN | apply bD | refine bS ?_ m7.out | refine bS ?_ m8.out | refine bS ?_ m9.out | refine bS ?_ m3.out | refine bS ?_ m4.out) | exact HB.out)))); replace a0 := aK (blk_below (gK a0.out) hb); replace a1 := aK (blk_below (gK a1.out) hb); replace a2 := aK (blk_below (gK a2.out) hb); replace b8 := aK (blk_below (gK b8.out) hb); replace b9 := aK (blk_below (gK b9.out) hb); have n14_ := aK (below_step (by repeat (first | (with_reducible first | exact HB.out | apply bA | apply bN | apply bD | refine bS ?_ m7.out | refine bS ?_ m8.out | refine bS ?_ m9.out | refine bS ?_ m3.out | refine bS ?_ m4.out) | exact HB.out)) hb); clear HB; have HB := n14_; clear n14_; clear hb ho72; obtain ⟨Ao73, co73, eo73⟩ := Kd.N_slice q6.out; subst eo73) | ((with_reducible refine gate_callee (f := 30) rfl ?_); refine goesL_ (some 34) rfl rfl Try.func30 (by kernel_rfl) rfl #[.slice Ao73 y443.length co73] rfl (by (try simp only [List.map_toArray, List.map_cons, List.map_nil]); first | done | rfl | (simp only [List.length_drop, List.length_take]; rfl)) ?_; (with_reducible refine (num_Sum.calls k (fun k_ => ((P0_1_ k_ ∨ P1_1_ k_ ∨ P2_1_ k_) ∨ w.heap.size ≤ k_)) _ _ y443 t446 t447 _ ?side1 A13.out).mono ?_); (case side1 => exact Kd.N_V (q6.out)); (try clear A13); rintro e w74 ⟨v448, rfl, ho0, hb⟩; refine ⟨_, rfl, ?_⟩; replace a3 := aK (Kd.V_below (gV a3.out) hb); replace a4 := aK (Kd.V_below (gV a4.out) hb); replace a5 := aK (Kd.V_below (gV a5.out) hb); replace b6 := aK (Kd.V_below (gV b6.out) hb); replace b7 := aK (Kd.V_below (gV b7.out) hb); replace c0 := aK (Kd.V_below (gV c0.out) hb); replace c4 := aK (Kd.V_below (gV c4.out) hb); replace c8 := aK (Kd.V_below (gV c8.out) hb); replace q6 := aK (Kd.N_below (gN q6.out) hb); have d4 := aK (Kd.V_lower (Kd.V_mono (ok' := fun k_ => ((P0_1_ k_ ∨ P1_1_ k_ ∨ P2_1_ k_) ∨ w.heap.size ≤ k_)) ho0 (fun k_ hk_ => Or.elim hk_ (fun hs_ => hs_) (fun hn_ => (.inr (Nat.le_trans (below_size (by repeat (first | (with_reducible first | exact HB.out | apply bA | apply bN | apply bD | refine bS ?_ m7.out | refine bS ?_ m8.out | refine bS ?_ m9.out | refine bS ?_ m3.out | refine bS ?_ m4.out) | exact HB.out))) hn_))))) (below_size (by repeat (first | (with_reducible first | exact HB.out | apply bA | apply bN | apply bD | refine bS ?_ m7.out | refine bS ?_ m8.out | refine bS ?_ m9.out | refine bS ?_ m3.out | refine bS ?_ m4.out) | exact HB.out)))); replace a0 := aK (blk_below (gK a0.out) hb); replace a1 := aK (blk_below (gK a1.out) hb); replace a2 := aK (blk_below (gK a2.out) hb); replace b8 := aK (blk_below (gK b8.out) hb); replace b9 := aK (blk_below (gK b9.out) hb); have n15_ := aK (below_step (by repeat (first | (with_reducible first | exact HB.out | apply bA | apply bN | apply bD | refine bS ?_ m7.out | refine bS ?_ m8.out | refine bS ?_ m9.out | refine bS ?_ m3.out | refine bS ?_ m4.out) | exact HB.out)) hb); clear HB; have HB := n15_; clear n15_; (try clear hb); (try clear hb2); (try clear hk); (try clear hi); (try clear ho0)) | ((with_reducible refine gate_dst (N := 9) rfl ?_); (try (refine gate_guard (by rfl) ?_; dsimp only)); refine box_event ?hg (N := 9) ?hd (cs := #[.bool false, .slice none 0 0]) (t := 25) ?hr ?_; (case hd => rfl); (case hg => rfl); (case hr => first | (go_simp; done) | (go_simp; rfl)); intro f1 hg w75 hbox hb; replace a3 := aK (Kd.V_below (gV a3.out) hb); replace a4 := aK (Kd.V_below (gV a4.out) hb); replace a5 := aK (Kd.V_below (gV a5.out) hb); replace b6 := aK (Kd.V_below (gV b6.out) hb); replace b7 := aK (Kd.V_below (gV b7.out) hb); replace c0 := aK (Kd.V_below (gV c0.out) hb); replace c4 := aK (Kd.V_below (gV c4.out) hb); replace c8 := aK (Kd.V_below (gV c8.out) hb); replace q6 := aK (Kd.N_below (gN q6.out) hb); replace d4 := aK (Kd.V_below (gV d4.out) hb); have n10_ := aK (blk_below (gK a0.out) hb); have n11_ := aK (blk_below (gK a1.out) hb); have n12_ := aK (blk_below (gK a2.out) hb); have n13_ := aK (blk_below (gK b8.out) hb); have n14_ := aK (blk_below (gK b9.out) hb); have n15_ := aK (below_step (by repeat (first | (with_reducible first | exact HB.out | apply bA | apply bN | apply bD | refine bS ?_ m7.out | refine bS ?_ m8.out | refine bS ?_ m9.out | refine bS ?_ m3.out | refine bS ?_ m4.out) | exact HB.out)) hb); have c6 := aK (hbox); have x4 := aK ((by rw [hg]; exact (below_size (by repeat (first | (with_reducible first | exact HB.out | apply bA | apply bN | apply bD | refine bS ?_ m7.out | refine bS ?_ m8.out | refine bS ?_ m9.out | refine bS ?_ m3.out | refine bS ?_ m4.out) | exact HB.out))) : w.heap.size ≤ f1)); have u1 := aK ((by rw [hg]; exact Nat.ne_of_lt (blk_lt (gK a0.out)) : g4 ≠ f1)); have x5 := aK ((by rw [hg]; exact Nat.ne_of_gt (blk_lt (gK a0.out)) : f1 ≠ g4)); have u2 := aK ((by rw [hg]; exact Nat.ne_of_lt (blk_lt (gK a1.out)) : g6 ≠ f1)); have x6 := aK ((by rw [hg]; exact Nat.ne_of_gt (blk_lt (gK a1.out)) : f1 ≠ g6)); have u3 := aK ((by rw [hg]; exact Nat.ne_of_lt (blk_lt (gK a2.out)) : g7 ≠ f1)); have x7 := aK ((by rw [hg]; exact Nat.ne_of_gt (blk_lt (gK a2.out)) : f1 ≠ g7)); have u4 := aK ((by rw [hg]; exact Nat.ne_of_lt (blk_lt (gK b8.out)) : d3 ≠ f1)); have x8 := aK ((by rw [hg]; exact Nat.ne_of_gt (blk_lt (gK b8.out)) : f1 ≠ d3)); have u5 := aK ((by rw [hg]; exact Nat.ne_of_lt (blk_lt (gK b9.out)) : d5 ≠ f1)); have x9 := aK ((by rw [hg]; exact Nat.ne_of_gt (blk_lt (gK b9.out)) : f1 ≠ d5)); clear a0 a1 a2 b8 b9 HB; have a0 := n10_; have a1 := n11_; have a2 := n12_; have b8 := n13_; have b9 := n14_; have HB := n15_; clear n10_ n11_ n12_ n13_ n14_ n15_; clear hb hbox hg; have hnb76 := x5.out; have hnc76 := u1.out; have hnb77 := x6.out; have hnc77 := u2.out; have hnb78 := x7.out; have hnc78 := u3.out; have hnb79 := x8.out; have hnc79 := u4.out; have hnb80 := x9.out; have hnc80 := u5.out; have hcz81_0 : w75.cell? ⟨f1, 0, none⟩ = some (.bool false) := (blk_cell c6.out 0).trans rfl; have hcz81_1 : w75.cell? ⟨f1, 1, none⟩ = some (.slice none 0 0) := (blk_cell c6.out 1).trans rfl; have hfz81_0 := blk_frozen c6.out 0; have hfz81_1 := blk_frozen c6.out 1; obtain ⟨Ao82, co82, eo82⟩ := Kd.V_slice d4.out; subst eo82; obtain ⟨Ao83, co83, eo83⟩ := Kd.V_slice b7.out; subst eo83; obtain ⟨Ao84, co84, eo84⟩ := Kd.V_slice c8.out; subst eo84))
        have n0_ : Aside0 (Kd.V (Kd.int .u64) 54 ((w75.setCell ⟨f1, 0, none⟩ (.bool t446)).setCell ⟨f1, 1, none⟩ (.slice Ao82 t447.length co82)) w.heap.size (fun k_ => ((P0_1_ k_ ∨ P1_1_ k_ ∨ P2_1_ k_) ∨ w.heap.size ≤ k_)) (.slice A0_1 l0_1.length c0_1) l0_1) := ⟨by (with_reducible repeat (first | apply Kd.V_alloc | apply Kd.V_drewN | apply Kd.V_drew)); exact Kd.V_mono (Kd.V_far (p := ⟨f1, 1, none⟩) (Kd.V_far (p := ⟨f1, 0, none⟩) (V_away a3.out c6.out (by simp)) (fun _ hk => hk.2) (.bool t446)) (fun _ hk => hk.2) (.slice Ao82 t447.length co82)) (fun _ hk => hk.1)⟩
        have n1_ : Aside0 (Kd.V (Kd.int .u64) 54 ((w75.setCell ⟨f1, 0, none⟩ (.bool t446)).setCell ⟨f1, 1, none⟩ (.slice Ao82 t447.length co82)) w.heap.size (fun k_ => ((P0_1_ k_ ∨ P1_1_ k_ ∨ P2_1_ k_) ∨ w.heap.size ≤ k_)) (.slice A1_1 l1_1.length c1_1) l1_1) := ⟨by (with_reducible repeat (first | apply Kd.V_alloc | apply Kd.V_drewN | apply Kd.V_drew)); exact Kd.V_mono (Kd.V_far (p := ⟨f1, 1, none⟩) (Kd.V_far (p := ⟨f1, 0, none⟩) (V_away a4.out c6.out (by simp)) (fun _ hk => hk.2) (.bool t446)) (fun _ hk => hk.2) (.slice Ao82 t447.length co82)) (fun _ hk => hk.1)⟩
        have n2_ : Aside0 (Kd.V (Kd.int .u64) 54 ((w75.setCell ⟨f1, 0, none⟩ (.bool t446)).setCell ⟨f1, 1, none⟩ (.slice Ao82 t447.length co82)) w.heap.size (fun k_ => ((P0_1_ k_ ∨ P1_1_ k_ ∨ P2_1_ k_) ∨ w.heap.size ≤ k_)) (.slice A2_1 l2_1.length c2_1) l2_1) := ⟨by (with_reducible repeat (first | apply Kd.V_alloc | apply Kd.V_drewN | apply Kd.V_drew)); exact Kd.V_mono (Kd.V_far (p := ⟨f1, 1, none⟩) (Kd.V_far (p := ⟨f1, 0, none⟩) (V_away a5.out c6.out (by simp)) (fun _ hk => hk.2) (.bool t446)) (fun _ hk => hk.2) (.slice Ao82 t447.length co82)) (fun _ hk => hk.1)⟩
        have n3_ : Aside0 (Kd.V (Kd.int .u64) 54 ((w75.setCell ⟨f1, 0, none⟩ (.bool t446)).setCell ⟨f1, 1, none⟩ (.slice Ao82 t447.length co82)) w.heap.size (fun k_ => ((P0_1_ k_ ∨ P1_1_ k_ ∨ P2_1_ k_) ∨ w.heap.size ≤ k_)) v423 t422) := ⟨by (with_reducible repeat (first | apply Kd.V_alloc | apply Kd.V_drewN | apply Kd.V_drew)); exact Kd.V_mono (Kd.V_far (p := ⟨f1, 1, none⟩) (Kd.V_far (p := ⟨f1, 0, none⟩) (V_away b6.out c6.out (by simp)) (fun _ hk => hk.2) (.bool t446)) (fun _ hk => hk.2) (.slice Ao82 t447.length co82)) (fun _ hk => hk.1)⟩
        have n4_ : Aside0 (Kd.V (Kd.int .u64) 54 ((w75.setCell ⟨f1, 0, none⟩ (.bool t446)).setCell ⟨f1, 1, none⟩ (.slice Ao82 t447.length co82)) w.heap.size (fun k_ => ((P0_1_ k_ ∨ P1_1_ k_ ∨ P2_1_ k_) ∨ w.heap.size ≤ k_)) (.slice Ao83 t426.length co83) t426) := ⟨by (with_reducible repeat (first | apply Kd.V_alloc | apply Kd.V_drewN | apply Kd.V_drew)); exact Kd.V_mono (Kd.V_far (p := ⟨f1, 1, none⟩) (Kd.V_far (p := ⟨f1, 0, none⟩) (V_away b7.out c6.out (by simp)) (fun _ hk => hk.2) (.bool t446)) (fun _ hk => hk.2) (.slice Ao82 t447.length co82)) (fun _ hk => hk.1)⟩
        have n5_ : Aside0 (Kd.V (Kd.int .u64) 54 ((w75.setCell ⟨f1, 0, none⟩ (.bool t446)).setCell ⟨f1, 1, none⟩ (.slice Ao82 t447.length co82)) w.heap.size (fun k_ => ((P0_1_ k_ ∨ P1_1_ k_ ∨ P2_1_ k_) ∨ w.heap.size ≤ k_)) v431 t430) := ⟨by (with_reducible repeat (first | apply Kd.V_alloc | apply Kd.V_drewN | apply Kd.V_drew)); exact Kd.V_mono (Kd.V_far (p := ⟨f1, 1, none⟩) (Kd.V_far (p := ⟨f1, 0, none⟩) (V_away c0.out c6.out (by simp)) (fun _ hk => hk.2) (.bool t446)) (fun _ hk => hk.2) (.slice Ao82 t447.length co82)) (fun _ hk => hk.1)⟩
        have n6_ : Aside0 (Kd.V (Kd.int .u64) 54 ((w75.setCell ⟨f1, 0, none⟩ (.bool t446)).setCell ⟨f1, 1, none⟩ (.slice Ao82 t447.length co82)) w.heap.size (fun k_ => ((P0_1_ k_ ∨ P1_1_ k_ ∨ P2_1_ k_) ∨ w.heap.size ≤ k_)) v435 t434) := ⟨by (with_reducible repeat (first | apply Kd.V_alloc | apply Kd.V_drewN | apply Kd.V_drew)); exact Kd.V_mono (Kd.V_far (p := ⟨f1, 1, none⟩) (Kd.V_far (p := ⟨f1, 0, none⟩) (V_away c4.out c6.out (by simp)) (fun _ hk => hk.2) (.bool t446)) (fun _ hk => hk.2) (.slice Ao82 t447.length co82)) (fun _ hk => hk.1)⟩
        have n7_ : Aside0 (Kd.V (Kd.int .u64) 54 ((w75.setCell ⟨f1, 0, none⟩ (.bool t446)).setCell ⟨f1, 1, none⟩ (.slice Ao82 t447.length co82)) w.heap.size (fun k_ => ((P0_1_ k_ ∨ P1_1_ k_ ∨ P2_1_ k_) ∨ w.heap.size ≤ k_)) (.slice Ao84 t438.length co84) t438) := ⟨by (with_reducible repeat (first | apply Kd.V_alloc | apply Kd.V_drewN | apply Kd.V_drew)); exact Kd.V_mono (Kd.V_far (p := ⟨f1, 1, none⟩) (Kd.V_far (p := ⟨f1, 0, none⟩) (V_away c8.out c6.out (by simp)) (fun _ hk => hk.2) (.bool t446)) (fun _ hk => hk.2) (.slice Ao82 t447.length co82)) (fun _ hk => hk.1)⟩
        have n8_ : Aside0 (Kd.V (Kd.int .u64) 54 ((w75.setCell ⟨f1, 0, none⟩ (.bool t446)).setCell ⟨f1, 1, none⟩ (.slice Ao82 t447.length co82)) w.heap.size (fun k_ => ((P0_1_ k_ ∨ P1_1_ k_ ∨ P2_1_ k_) ∨ w.heap.size ≤ k_)) (.slice Ao82 t447.length co82) t447) := ⟨by (with_reducible repeat (first | apply Kd.V_alloc | apply Kd.V_drewN | apply Kd.V_drew)); exact Kd.V_mono (Kd.V_far (p := ⟨f1, 1, none⟩) (Kd.V_far (p := ⟨f1, 0, none⟩) (V_away d4.out c6.out (by simp)) (fun _ hk => hk.2) (.bool t446)) (fun _ hk => hk.2) (.slice Ao82 t447.length co82)) (fun _ hk => hk.1)⟩
        have n9_ : Aside0 (((w75.setCell ⟨f1, 0, none⟩ (.bool t446)).setCell ⟨f1, 1, none⟩ (.slice Ao82 t447.length co82)).heap[g4]? = some (.cells #[.bool a0_0, .slice A0_1 l0_1.length c0_1] 25 (0, 0))) := ⟨by (with_reducible repeat (first | refine blk_drewN ?_ _ | refine blk_drew ?_ | refine blk_alloc ?_ _)); refine blk_far ?_ u1.out _; (with_reducible repeat (first | refine blk_drewN ?_ _ | refine blk_drew ?_ | refine blk_alloc ?_ _)); refine blk_far ?_ u1.out _; (with_reducible repeat (first | refine blk_drewN ?_ _ | refine blk_drew ?_ | refine blk_alloc ?_ _)); exact a0.out⟩
        have n10_ : Aside0 (((w75.setCell ⟨f1, 0, none⟩ (.bool t446)).setCell ⟨f1, 1, none⟩ (.slice Ao82 t447.length co82)).heap[g6]? = some (.cells #[.bool a1_0, .slice A1_1 l1_1.length c1_1] 25 (0, 0))) := ⟨by (with_reducible repeat (first | refine blk_drewN ?_ _ | refine blk_drew ?_ | refine blk_alloc ?_ _)); refine blk_far ?_ u2.out _; (with_reducible repeat (first | refine blk_drewN ?_ _ | refine blk_drew ?_ | refine blk_alloc ?_ _)); refine blk_far ?_ u2.out _; (with_reducible repeat (first | refine blk_drewN ?_ _ | refine blk_drew ?_ | refine blk_alloc ?_ _)); exact a1.out⟩
        have n11_ : Aside0 (((w75.setCell ⟨f1, 0, none⟩ (.bool t446)).setCell ⟨f1, 1, none⟩ (.slice Ao82 t447.length co82)).heap[g7]? = some (.cells #[.bool a2_0, .slice A2_1 l2_1.length c2_1] 25 (0, 0))) := ⟨by (with_reducible repeat (first | refine blk_drewN ?_ _ | refine blk_drew ?_ | refine blk_alloc ?_ _)); refine blk_far ?_ u3.out _; (with_reducible repeat (first | refine blk_drewN ?_ _ | refine blk_drew ?_ | refine blk_alloc ?_ _)); refine blk_far ?_ u3.out _; (with_reducible repeat (first | refine blk_drewN ?_ _ | refine blk_drew ?_ | refine blk_alloc ?_ _)); exact a2.out⟩
        have n12_ : Aside0 (((w75.setCell ⟨f1, 0, none⟩ (.bool t446)).setCell ⟨f1, 1, none⟩ (.slice Ao82 t447.length co82)).heap[d3]? = some (.cells #[.bool t425, .slice Ao83 t426.length co83] 25 (0, 0))) := ⟨by (with_reducible repeat (first | refine blk_drewN ?_ _ | refine blk_drew ?_ | refine blk_alloc ?_ _)); refine blk_far ?_ u4.out _; (with_reducible repeat (first | refine blk_drewN ?_ _ | refine blk_drew ?_ | refine blk_alloc ?_ _)); refine blk_far ?_ u4.out _; (with_reducible repeat (first | refine blk_drewN ?_ _ | refine blk_drew ?_ | refine blk_alloc ?_ _)); exact b8.out⟩
        have n13_ : Aside0 (((w75.setCell ⟨f1, 0, none⟩ (.bool t446)).setCell ⟨f1, 1, none⟩ (.slice Ao82 t447.length co82)).heap[d5]? = some (.cells #[.bool t437, .slice Ao84 t438.length co84] 25 (0, 0))) := ⟨by (with_reducible repeat (first | refine blk_drewN ?_ _ | refine blk_drew ?_ | refine blk_alloc ?_ _)); refine blk_far ?_ u5.out _; (with_reducible repeat (first | refine blk_drewN ?_ _ | refine blk_drew ?_ | refine blk_alloc ?_ _)); refine blk_far ?_ u5.out _; (with_reducible repeat (first | refine blk_drewN ?_ _ | refine blk_drew ?_ | refine blk_alloc ?_ _)); exact b9.out⟩
        have n14_ : Aside0 (((w75.setCell ⟨f1, 0, none⟩ (.bool t446)).setCell ⟨f1, 1, none⟩ (.slice Ao82 t447.length co82)).heap[f1]? = some (.cells #[.bool t446, .slice Ao82 t447.length co82] 25 (0, 0))) := ⟨by (with_reducible repeat (first | refine blk_drewN ?_ _ | refine blk_drew ?_ | refine blk_alloc ?_ _)); refine blk_put (cs := #[.bool t446, .slice none 0 0]) ?_ 1 _ rfl; (with_reducible repeat (first | refine blk_drewN ?_ _ | refine blk_drew ?_ | refine blk_alloc ?_ _)); refine blk_put (cs := #[.bool false, .slice none 0 0]) ?_ 0 _ rfl; (with_reducible repeat (first | refine blk_drewN ?_ _ | refine blk_drew ?_ | refine blk_alloc ?_ _)); exact c6.out⟩
        have n15_ : Aside0 (Below w.heap.size w ((w75.setCell ⟨f1, 0, none⟩ (.bool t446)).setCell ⟨f1, 1, none⟩ (.slice Ao82 t447.length co82))) := ⟨by repeat (first | (with_reducible first | exact HB.out | apply bA | apply bN | apply bD | refine bS ?_ m7.out | refine bS ?_ m8.out | refine bS ?_ m9.out | refine bS ?_ m3.out | refine bS ?_ m4.out | refine bS ?_ x4.out) | exact HB.out)⟩
        (try clear a3)
        (try clear a4)
        (try clear a5)
        (try clear b6)
        (try clear b7)
        (try clear c0)
        (try clear c4)
        (try clear c8)
        (try clear d4)
        (try clear a0)
        (try clear a1)
        (try clear a2)
        (try clear b8)
        (try clear b9)
        (try clear c6)
        (try clear HB)
        generalize ((w75.setCell ⟨f1, 0, none⟩ (.bool t446)).setCell ⟨f1, 1, none⟩ (.slice Ao82 t447.length co82)) = w85 at n0_ n1_ n2_ n3_ n4_ n5_ n6_ n7_ n8_ n9_ n10_ n11_ n12_ n13_ n14_ n15_ ⊢
        have a3 := n0_
        have a4 := n1_
        have a5 := n2_
        have b6 := n3_
        have b7 := n4_
        have c0 := n5_
        have c4 := n6_
        have c8 := n7_
        have d4 := n8_
        have a0 := n9_
        have a1 := n10_
        have a2 := n11_
        have b8 := n12_
        have b9 := n13_
        have c6 := n14_
        have HB := n15_
        clear n0_ n1_ n2_ n3_ n4_ n5_ n6_ n7_ n8_ n9_ n10_ n11_ n12_ n13_ n14_ n15_
        replace a3 := aK (Kd.V_drew a3.out)
        replace a4 := aK (Kd.V_drew a4.out)
        replace a5 := aK (Kd.V_drew a5.out)
        replace b6 := aK (Kd.V_drew b6.out)
        replace b7 := aK (Kd.V_drew b7.out)
        replace c0 := aK (Kd.V_drew c0.out)
        replace c4 := aK (Kd.V_drew c4.out)
        replace c8 := aK (Kd.V_drew c8.out)
        replace d4 := aK (Kd.V_drew d4.out)
        replace a0 := aK (blk_drew a0.out)
        replace a1 := aK (blk_drew a1.out)
        replace a2 := aK (blk_drew a2.out)
        replace b8 := aK (blk_drew b8.out)
        replace b9 := aK (blk_drew b9.out)
        replace c6 := aK (blk_drew c6.out)
        replace HB := aK (bD HB.out)
        refine start_ (n := 39) (S := fun w' => True) (ds := []) #[false, false, false, false, false, false, false, false, false, false, false, false, false, false, false, false, false, false, false, false, false, false, false, false, false, false, false, false, false, false, false, false, false, false, false, false, false, false, false] (by kernel_rfl) rfl rfl trivial (fun hHeld => ?_); refine with_tabW isohyetlaw02_NumLaws.tab7 isohyetlaw02_NumLaws.bits7 (fun HT_ HW_ => ?_)
        generalize w85.drew = w86 at a3 a4 a5 b6 b7 c0 c4 c8 d4 a0 a1 a2 b8 b9 c6 HB hHeld ⊢
        refine inv_at [0, 1, 2, 3, 4, 5, 6, 7, 8, 9, 10, 11, 12, 13, 14, 15, 16, 17, 18, 19, 20, 21, 22, 23, 24, 25, 26, 27, 28, 29, 30, 31, 32, 33, 34, 35, 36, 37, 38] (fun a0_ b a w' => ∃ (v456 : Value) (v460 : Value) (v465 : Value) (v468 : Value) (v472 : Value) (v477 : Value) (d6 : Value) (d7 : Value) (d8 : Value) (d9 : Value) (e0 : Value), a = putSel a0_ b [(0, 35, .agg #[.bool t425, .slice Ao83 t426.length co83]), (1, 36, .agg #[.bool t437, .slice Ao84 t438.length co84]), (2, 37, .int .i64 t451), (3, 38, .bool (t451 == 0)), (4, 39, .bool (t451 == 0)), (5, 40, .agg #[.bool t425, .slice Ao83 t426.length co83]), (6, 41, .bool true), (7, 42, .bool true), (8, 43, .bool true), (9, 44, .agg #[.bool t446, .slice Ao82 t447.length co82]), (10, 45, .bool true), (11, 46, .bool true), (12, 47, .bool true), (13, 48, .agg #[.bool t446, .slice Ao82 t447.length co82]), (14, 49, .agg #[.bool a2_0, .slice A2_1 l2_1.length c2_1]), (15, 50, .agg #[.bool a1_0, .slice A1_1 l1_1.length c1_1]), (16, 51, .agg #[.bool a0_0, .slice A0_1 l0_1.length c0_1]), (17, 52, d6), (18, 53, d7), (19, 54, .int .i64 t462), (20, 55, .bool (t462 == 0)), (21, 56, .bool (t462 == 0)), (22, 57, .bool (t462 == 0)), (23, 58, .agg #[.bool t446, .slice Ao82 t447.length co82]), (24, 59, .agg #[.bool a2_0, .slice A2_1 l2_1.length c2_1]), (25, 60, d8), (26, 61, .agg #[.bool a1_0, .slice A1_1 l1_1.length c1_1]), (27, 62, .agg #[.bool a0_0, .slice A0_1 l0_1.length c0_1]), (28, 63, v468), (29, 64, d9), (30, 65, .int .i64 t474), (31, 66, .bool (t474 == 0)), (32, 67, .bool (t474 == 0)), (33, 68, .bool (t474 == 0)), (34, 69, e0), (35, 70, .int .i64 t479), (36, 71, .bool (t479 == 0)), (37, 72, .bool (t479 == 0)), (38, 6, .bool (t479 == 0))] ∧ (Kd.V (Kd.int .u64) 54 w' w.heap.size (fun k_ => ((P0_1_ k_ ∨ P1_1_ k_ ∨ P2_1_ k_) ∨ w.heap.size ≤ k_)) (.slice A0_1 l0_1.length c0_1) l0_1) ∧ (Kd.V (Kd.int .u64) 54 w' w.heap.size (fun k_ => ((P0_1_ k_ ∨ P1_1_ k_ ∨ P2_1_ k_) ∨ w.heap.size ≤ k_)) (.slice A1_1 l1_1.length c1_1) l1_1) ∧ (Kd.V (Kd.int .u64) 54 w' w.heap.size (fun k_ => ((P0_1_ k_ ∨ P1_1_ k_ ∨ P2_1_ k_) ∨ w.heap.size ≤ k_)) (.slice A2_1 l2_1.length c2_1) l2_1) ∧ (Kd.V (Kd.int .u64) 54 w' w.heap.size (fun k_ => ((P0_1_ k_ ∨ P1_1_ k_ ∨ P2_1_ k_) ∨ w.heap.size ≤ k_)) v423 t422) ∧ (b 2 = false → Kd.V (Kd.int .u64) 54 w' w.heap.size (fun k_ => ((P0_1_ k_ ∨ P1_1_ k_ ∨ P2_1_ k_) ∨ w.heap.size ≤ k_)) (.slice Ao83 t426.length co83) t426) ∧ (Kd.V (Kd.int .u64) 54 w' w.heap.size (fun k_ => ((P0_1_ k_ ∨ P1_1_ k_ ∨ P2_1_ k_) ∨ w.heap.size ≤ k_)) v431 t430) ∧ (Kd.V (Kd.int .u64) 54 w' w.heap.size (fun k_ => ((P0_1_ k_ ∨ P1_1_ k_ ∨ P2_1_ k_) ∨ w.heap.size ≤ k_)) v435 t434) ∧ (b 2 = false → Kd.V (Kd.int .u64) 54 w' w.heap.size (fun k_ => ((P0_1_ k_ ∨ P1_1_ k_ ∨ P2_1_ k_) ∨ w.heap.size ≤ k_)) (.slice Ao84 t438.length co84) t438) ∧ (Kd.V (Kd.int .u64) 54 w' w.heap.size (fun k_ => ((P0_1_ k_ ∨ P1_1_ k_ ∨ P2_1_ k_) ∨ w.heap.size ≤ k_)) (.slice Ao82 t447.length co82) t447) ∧ (w'.heap[g4]? = some (.cells #[.bool a0_0, .slice A0_1 l0_1.length c0_1] 25 (0, 0))) ∧ (w'.heap[g6]? = some (.cells #[.bool a1_0, .slice A1_1 l1_1.length c1_1] 25 (0, 0))) ∧ (w'.heap[g7]? = some (.cells #[.bool a2_0, .slice A2_1 l2_1.length c2_1] 25 (0, 0))) ∧ (b 2 = false → w'.heap[d3]? = some (.cells #[.bool t425, .slice Ao83 t426.length co83] 25 (0, 0))) ∧ (b 2 = false → w'.heap[d5]? = some (.cells #[.bool t437, .slice Ao84 t438.length co84] 25 (0, 0))) ∧ (w'.heap[f1]? = some (.cells #[.bool t446, .slice Ao82 t447.length co82] 25 (0, 0))) ∧ (Below w.heap.size w w') ∧ (b 2 = true → Kd.V (Kd.int .u64) 54 w' w.heap.size (fun k_ => ((P0_1_ k_ ∨ P1_1_ k_ ∨ P2_1_ k_) ∨ w.heap.size ≤ k_)) (.slice Ao83 t426.length co83) t426) ∧ (b 2 = true → Kd.V (Kd.int .u64) 54 w' w.heap.size (fun k_ => ((P0_1_ k_ ∨ P1_1_ k_ ∨ P2_1_ k_) ∨ w.heap.size ≤ k_)) (.slice Ao84 t438.length co84) t438) ∧ (b 2 = true → w'.heap[d3]? = some (.cells #[.bool t425, .slice Ao83 t426.length co83] 25 (0, 0))) ∧ (b 2 = true → w'.heap[d5]? = some (.cells #[.bool t437, .slice Ao84 t438.length co84] 25 (0, 0))) ∧ (b 17 = true → Kd.V (Kd.int .u64) 54 w' w.heap.size (fun k_ => ((P0_1_ k_ ∨ P1_1_ k_ ∨ P2_1_ k_) ∨ w.heap.size ≤ k_)) v456 t455) ∧ (b 18 = true → Kd.V (Kd.int .u64) 54 w' w.heap.size (fun k_ => ((P0_1_ k_ ∨ P1_1_ k_ ∨ P2_1_ k_) ∨ w.heap.size ≤ k_)) v460 t459) ∧ (b 25 = true → Kd.V (Kd.int .u64) 54 w' w.heap.size (fun k_ => ((P0_1_ k_ ∨ P1_1_ k_ ∨ P2_1_ k_) ∨ w.heap.size ≤ k_)) v465 t464) ∧ (b 28 = true → Kd.N k25 25 w' w.heap.size (fun k_ => ((P0_1_ k_ ∨ P1_1_ k_ ∨ P2_1_ k_) ∨ w.heap.size ≤ k_)) v468 y467) ∧ (b 29 = true → Kd.V (Kd.int .u64) 54 w' w.heap.size (fun k_ => ((P0_1_ k_ ∨ P1_1_ k_ ∨ P2_1_ k_) ∨ w.heap.size ≤ k_)) v472 t471) ∧ (b 34 = true → Kd.V (Kd.int .u64) 54 w' w.heap.size (fun k_ => ((P0_1_ k_ ∨ P1_1_ k_ ∨ P2_1_ k_) ∨ w.heap.size ≤ k_)) v477 t476) ∧ (b 17 = true → (d6 : Value) = .agg #[.bool t454, v456]) ∧ (b 18 = true → (d7 : Value) = .agg #[.bool t458, v460]) ∧ (b 25 = true → (d8 : Value) = .agg #[.bool t463, v465]) ∧ (b 29 = true → (d9 : Value) = .agg #[.bool t470, v472]) ∧ (b 34 = true → (e0 : Value) = .agg #[.bool t475, v477])) HT_.out HW_.out (by kernel_rfl) (by kernel_rfl) ?_ ?_ ?_
        ·exact ⟨.bool false, .bool false, .bool false, .bool false, .bool false, .bool false, .bool false, .bool false, .bool false, .bool false, .bool false, by simp only [putSel, Bool.false_eq_true, if_false], a3.out, a4.out, a5.out, b6.out, fun _ => b7.out, c0.out, c4.out, fun _ => c8.out, d4.out, a0.out, a1.out, a2.out, fun _ => b8.out, fun _ => b9.out, c6.out, HB.out, fun h_ => absurd h_ (by decide), fun h_ => absurd h_ (by decide), fun h_ => absurd h_ (by decide), fun h_ => absurd h_ (by decide), fun h_ => absurd h_ (by decide), fun h_ => absurd h_ (by decide), fun h_ => absurd h_ (by decide), fun h_ => absurd h_ (by decide), fun h_ => absurd h_ (by decide), fun h_ => absurd h_ (by decide), fun h_ => absurd h_ (by decide), fun h_ => absurd h_ (by decide), fun h_ => absurd h_ (by decide), fun h_ => absurd h_ (by decide), fun h_ => absurd h_ (by decide)⟩
        ·skip
         clear a0 a1 a2 b8 b9 c6 HB a3 a4 a5 b6 b7 c0 c4 c8 d4
         refine steps_cons ?_ ?_
         ·rintro b a w' ⟨v456, v460, v465, v468, v472, v477, d6, d7, d8, d9, e0, ha, a6, a7, a8, b3, e6, b4, b5, f3, c1, a9, b0, b1, e2, e1, c3, b2, c9, d0, d1, d2, f0, f2, f6, f7, f8, g2, f4, f5, f9, g1, g5⟩ hb_ hon hoff
          refine ⟨_, rfl, fun K hK => ?_⟩
          have e7 : a.tmps[7]? = some (.pointer (some ⟨d3, 0, none⟩)) := by rw [ha]; exact (putSel_off rfl).trans rfl
          replace ha := aK ha
          have a3 := aK a6
          have a4 := aK a7
          have a5 := aK a8
          have b6 := aK b3
          have b7 := aK (e6 (hoff 2 (by kernel_rfl)))
          have c0 := aK b4
          have c4 := aK b5
          have c8 := aK (f3 (hoff 2 (by kernel_rfl)))
          have d4 := aK c1
          have a0 := aK a9
          have a1 := aK b0
          have a2 := aK b1
          have b8 := aK (e2 (hoff 2 (by kernel_rfl)))
          have b9 := aK (e1 (hoff 2 (by kernel_rfl)))
          have c6 := aK c3
          have HB := aK b2
          have hc0_ : w'.cell? ⟨d3, 0, none⟩ = some (.bool t425) := (blk_cell b8.out 0).trans rfl
          have hc1_ : w'.cell? ⟨d3, 1, none⟩ = some (.slice Ao83 t426.length co83) := (blk_cell b8.out 1).trans rfl
          refine value_ (w1 := w') (v := .agg #[.bool t425, .slice Ao83 t426.length co83]) (by rfl) rfl ?_ ?_
          ·go_simp
           (try simp only [i64_w])
           try rfl
          refine hK.out _ _ ⟨v456, v460, v465, v468, v472, v477, d6, d7, d8, d9, e0, (by rw [ha.out]; exact putSel_upk 0 hb_ rfl rfl rfl), a6, a7, a8, b3, e6, b4, b5, f3, c1, a9, b0, b1, e2, e1, c3, b2, fun h0_ => absurd ((hoff 2 (by kernel_rfl)).symm.trans h0_) (by decide), fun h0_ => absurd ((hoff 2 (by kernel_rfl)).symm.trans h0_) (by decide), fun h0_ => absurd ((hoff 2 (by kernel_rfl)).symm.trans h0_) (by decide), fun h0_ => absurd ((hoff 2 (by kernel_rfl)).symm.trans h0_) (by decide), fun h0_ => absurd ((hoff 17 (by kernel_rfl)).symm.trans h0_) (by decide), fun h0_ => absurd ((hoff 18 (by kernel_rfl)).symm.trans h0_) (by decide), fun h0_ => absurd ((hoff 25 (by kernel_rfl)).symm.trans h0_) (by decide), fun h0_ => absurd ((hoff 28 (by kernel_rfl)).symm.trans h0_) (by decide), fun h0_ => absurd ((hoff 29 (by kernel_rfl)).symm.trans h0_) (by decide), fun h0_ => absurd ((hoff 34 (by kernel_rfl)).symm.trans h0_) (by decide), fun h0_ => absurd ((hoff 17 (by kernel_rfl)).symm.trans h0_) (by decide), fun h0_ => absurd ((hoff 18 (by kernel_rfl)).symm.trans h0_) (by decide), fun h0_ => absurd ((hoff 25 (by kernel_rfl)).symm.trans h0_) (by decide), fun h0_ => absurd ((hoff 29 (by kernel_rfl)).symm.trans h0_) (by decide), fun h0_ => absurd ((hoff 34 (by kernel_rfl)).symm.trans h0_) (by decide)⟩
         refine steps_cons ?_ ?_
         ·rintro b a w' ⟨v456, v460, v465, v468, v472, v477, d6, d7, d8, d9, e0, ha, a6, a7, a8, b3, e6, b4, b5, f3, c1, a9, b0, b1, e2, e1, c3, b2, c9, d0, d1, d2, f0, f2, f6, f7, f8, g2, f4, f5, f9, g1, g5⟩ hb_ hon hoff
          refine ⟨_, rfl, fun K hK => ?_⟩
          have e8 : a.tmps[8]? = some (.pointer (some ⟨d5, 0, none⟩)) := by rw [ha]; exact (putSel_off rfl).trans rfl
          replace ha := aK ha
          have a3 := aK a6
          have a4 := aK a7
          have a5 := aK a8
          have b6 := aK b3
          have b7 := aK (e6 (hoff 2 (by kernel_rfl)))
          have c0 := aK b4
          have c4 := aK b5
          have c8 := aK (f3 (hoff 2 (by kernel_rfl)))
          have d4 := aK c1
          have a0 := aK a9
          have a1 := aK b0
          have a2 := aK b1
          have b8 := aK (e2 (hoff 2 (by kernel_rfl)))
          have b9 := aK (e1 (hoff 2 (by kernel_rfl)))
          have c6 := aK c3
          have HB := aK b2
          have hc0_ : w'.cell? ⟨d5, 0, none⟩ = some (.bool t437) := (blk_cell b9.out 0).trans rfl
          have hc1_ : w'.cell? ⟨d5, 1, none⟩ = some (.slice Ao84 t438.length co84) := (blk_cell b9.out 1).trans rfl
          refine value_ (w1 := w') (v := .agg #[.bool t437, .slice Ao84 t438.length co84]) (by rfl) rfl ?_ ?_
          ·go_simp
           (try simp only [i64_w])
           try rfl
          refine hK.out _ _ ⟨v456, v460, v465, v468, v472, v477, d6, d7, d8, d9, e0, (by rw [ha.out]; exact putSel_upk 1 hb_ rfl rfl rfl), a6, a7, a8, b3, e6, b4, b5, f3, c1, a9, b0, b1, e2, e1, c3, b2, fun h0_ => absurd ((hoff 2 (by kernel_rfl)).symm.trans h0_) (by decide), fun h0_ => absurd ((hoff 2 (by kernel_rfl)).symm.trans h0_) (by decide), fun h0_ => absurd ((hoff 2 (by kernel_rfl)).symm.trans h0_) (by decide), fun h0_ => absurd ((hoff 2 (by kernel_rfl)).symm.trans h0_) (by decide), fun h0_ => absurd ((hoff 17 (by kernel_rfl)).symm.trans h0_) (by decide), fun h0_ => absurd ((hoff 18 (by kernel_rfl)).symm.trans h0_) (by decide), fun h0_ => absurd ((hoff 25 (by kernel_rfl)).symm.trans h0_) (by decide), fun h0_ => absurd ((hoff 28 (by kernel_rfl)).symm.trans h0_) (by decide), fun h0_ => absurd ((hoff 29 (by kernel_rfl)).symm.trans h0_) (by decide), fun h0_ => absurd ((hoff 34 (by kernel_rfl)).symm.trans h0_) (by decide), fun h0_ => absurd ((hoff 17 (by kernel_rfl)).symm.trans h0_) (by decide), fun h0_ => absurd ((hoff 18 (by kernel_rfl)).symm.trans h0_) (by decide), fun h0_ => absurd ((hoff 25 (by kernel_rfl)).symm.trans h0_) (by decide), fun h0_ => absurd ((hoff 29 (by kernel_rfl)).symm.trans h0_) (by decide), fun h0_ => absurd ((hoff 34 (by kernel_rfl)).symm.trans h0_) (by decide)⟩
         refine steps_cons ?_ ?_
         ·rintro b a w' ⟨v456, v460, v465, v468, v472, v477, d6, d7, d8, d9, e0, ha, a6, a7, a8, b3, e6, b4, b5, f3, c1, a9, b0, b1, e2, e1, c3, b2, c9, d0, d1, d2, f0, f2, f6, f7, f8, g2, f4, f5, f9, g1, g5⟩ hb_ hon hoff
          refine ⟨_, rfl, fun K hK => ?_⟩
          have e35 : a.tmps[35]? = some (.agg #[.bool t425, .slice Ao83 t426.length co83]) := by rw [ha]; exact putSel_on (e := (0, 35, .agg #[.bool t425, .slice Ao83 t426.length co83])) 0 rfl rfl (hon 0 (by kernel_rfl)) rfl
          have e36 : a.tmps[36]? = some (.agg #[.bool t437, .slice Ao84 t438.length co84]) := by rw [ha]; exact putSel_on (e := (1, 36, .agg #[.bool t437, .slice Ao84 t438.length co84])) 1 rfl rfl (hon 1 (by kernel_rfl)) rfl
          replace ha := aK ha
          have a3 := aK a6
          have a4 := aK a7
          have a5 := aK a8
          have b6 := aK b3
          have b7 := aK (e6 hb_)
          have c0 := aK b4
          have c4 := aK b5
          have c8 := aK (f3 hb_)
          have d4 := aK c1
          have a0 := aK a9
          have a1 := aK b0
          have a2 := aK b1
          have b8 := aK (e2 hb_)
          have b9 := aK (e1 hb_)
          have c6 := aK c3
          have HB := aK b2
          refine goes_ Try.func14 (by kernel_rfl) rfl #[.agg #[.bool t425, .slice Ao83 t426.length co83], .agg #[.bool t437, .slice Ao84 t438.length co84]] (by rfl) rfl rfl (by first | (simp only [List.map_toArray, List.map_cons, List.map_nil, Act.eval, Array.getD_eq_getD_getElem?, Option.getD_some, e35, e36]; done) | (simp only [List.map_toArray, List.map_cons, List.map_nil, Act.eval, Array.getD_eq_getD_getElem?, Option.getD_some, e35, e36]; rfl)) ?_
          with_reducible refine (num_Cmp.calls k t425 _ _ t426 t437 _ _ t438 t451 _ ?side1 ?side2 ?side3 ?side4 A14.out).mono ?_
          (case side1 => repeat (first | exact (Kd.V_reads' b7.out).2.2 | apply Kd.C_alloc | apply Kd.C_drewN | apply Kd.C_drew))
          (case side2 => exact (Kd.V_reads' b7.out).2.1)
          (case side3 => repeat (first | exact (Kd.V_reads' c8.out).2.2 | apply Kd.C_alloc | apply Kd.C_drewN | apply Kd.C_drew))
          (case side4 => exact (Kd.V_reads' c8.out).2.1)
          rintro e w87 ⟨rfl, hb⟩
          refine ⟨_, rfl, ?_⟩
          replace a3 := aK (Kd.V_below (gV a3.out) hb)
          replace a4 := aK (Kd.V_below (gV a4.out) hb)
          replace a5 := aK (Kd.V_below (gV a5.out) hb)
          replace b6 := aK (Kd.V_below (gV b6.out) hb)
          replace b7 := aK (Kd.V_below (gV b7.out) hb)
          replace c0 := aK (Kd.V_below (gV c0.out) hb)
          replace c4 := aK (Kd.V_below (gV c4.out) hb)
          replace c8 := aK (Kd.V_below (gV c8.out) hb)
          replace d4 := aK (Kd.V_below (gV d4.out) hb)
          replace a0 := aK (blk_below (gK a0.out) hb)
          replace a1 := aK (blk_below (gK a1.out) hb)
          replace a2 := aK (blk_below (gK a2.out) hb)
          replace b8 := aK (blk_below (gK b8.out) hb)
          replace b9 := aK (blk_below (gK b9.out) hb)
          replace c6 := aK (blk_below (gK c6.out) hb)
          replace HB := aK (below_step (gB HB.out) hb)
          (try clear hb)
          (try clear hb2)
          (try clear hk)
          (try clear hi)
          refine hK.out _ _ ⟨v456, v460, v465, v468, v472, v477, d6, d7, d8, d9, e0, (by rw [ha.out]; exact putSel_upk 2 hb_ rfl rfl rfl), (gV a3.out), (gV a4.out), (gV a5.out), (gV b6.out), fun h0_ => absurd ((up_self b 2).symm.trans h0_) (by decide), (gV c0.out), (gV c4.out), fun h0_ => absurd ((up_self b 2).symm.trans h0_) (by decide), (gV d4.out), (gK a0.out), (gK a1.out), (gK a2.out), fun h0_ => absurd ((up_self b 2).symm.trans h0_) (by decide), fun h0_ => absurd ((up_self b 2).symm.trans h0_) (by decide), (gK c6.out), (gB HB.out), fun _ => (gV b7.out), fun _ => (gV c8.out), fun _ => (gK b8.out), fun _ => (gK b9.out), fun h0_ => absurd ((hoff 17 (by kernel_rfl)).symm.trans h0_) (by decide), fun h0_ => absurd ((hoff 18 (by kernel_rfl)).symm.trans h0_) (by decide), fun h0_ => absurd ((hoff 25 (by kernel_rfl)).symm.trans h0_) (by decide), fun h0_ => absurd ((hoff 28 (by kernel_rfl)).symm.trans h0_) (by decide), fun h0_ => absurd ((hoff 29 (by kernel_rfl)).symm.trans h0_) (by decide), fun h0_ => absurd ((hoff 34 (by kernel_rfl)).symm.trans h0_) (by decide), fun h0_ => absurd ((hoff 17 (by kernel_rfl)).symm.trans h0_) (by decide), fun h0_ => absurd ((hoff 18 (by kernel_rfl)).symm.trans h0_) (by decide), fun h0_ => absurd ((hoff 25 (by kernel_rfl)).symm.trans h0_) (by decide), fun h0_ => absurd ((hoff 29 (by kernel_rfl)).symm.trans h0_) (by decide), fun h0_ => absurd ((hoff 34 (by kernel_rfl)).symm.trans h0_) (by decide)⟩
         refine steps_cons ?_ ?_
         ·rintro b a w' ⟨v456, v460, v465, v468, v472, v477, d6, d7, d8, d9, e0, ha, a6, a7, a8, b3, e6, b4, b5, f3, c1, a9, b0, b1, e2, e1, c3, b2, c9, d0, d1, d2, f0, f2, f6, f7, f8, g2, f4, f5, f9, g1, g5⟩ hb_ hon hoff
          refine ⟨_, rfl, fun K hK => ?_⟩
          have e37 : a.tmps[37]? = some (.int .i64 t451) := by rw [ha]; exact putSel_on (e := (2, 37, .int .i64 t451)) 2 rfl rfl (hon 2 (by kernel_rfl)) rfl
          replace ha := aK ha
          have a3 := aK a6
          have a4 := aK a7
          have a5 := aK a8
          have b6 := aK b3
          have c0 := aK b4
          have c4 := aK b5
          have d4 := aK c1
          have a0 := aK a9
          have a1 := aK b0
          have a2 := aK b1
          have c6 := aK c3
          have HB := aK b2
          have b7 := aK (c9 (hon 2 (by kernel_rfl)))
          have c8 := aK (d0 (hon 2 (by kernel_rfl)))
          have b8 := aK (d1 (hon 2 (by kernel_rfl)))
          have b9 := aK (d2 (hon 2 (by kernel_rfl)))
          refine value_ (w1 := w') (v := .bool (t451 == 0)) (by rfl) rfl ?_ ?_
          ·go_simp
           (try simp only [i64_w])
           try rfl
          refine hK.out _ _ ⟨v456, v460, v465, v468, v472, v477, d6, d7, d8, d9, e0, (by rw [ha.out]; exact putSel_upk 3 hb_ rfl rfl rfl), a6, a7, a8, b3, fun h0_ => absurd ((hon 2 (by kernel_rfl)).symm.trans h0_) (by decide), b4, b5, fun h0_ => absurd ((hon 2 (by kernel_rfl)).symm.trans h0_) (by decide), c1, a9, b0, b1, fun h0_ => absurd ((hon 2 (by kernel_rfl)).symm.trans h0_) (by decide), fun h0_ => absurd ((hon 2 (by kernel_rfl)).symm.trans h0_) (by decide), c3, b2, c9, d0, d1, d2, fun h0_ => absurd ((hoff 17 (by kernel_rfl)).symm.trans h0_) (by decide), fun h0_ => absurd ((hoff 18 (by kernel_rfl)).symm.trans h0_) (by decide), fun h0_ => absurd ((hoff 25 (by kernel_rfl)).symm.trans h0_) (by decide), fun h0_ => absurd ((hoff 28 (by kernel_rfl)).symm.trans h0_) (by decide), fun h0_ => absurd ((hoff 29 (by kernel_rfl)).symm.trans h0_) (by decide), fun h0_ => absurd ((hoff 34 (by kernel_rfl)).symm.trans h0_) (by decide), fun h0_ => absurd ((hoff 17 (by kernel_rfl)).symm.trans h0_) (by decide), fun h0_ => absurd ((hoff 18 (by kernel_rfl)).symm.trans h0_) (by decide), fun h0_ => absurd ((hoff 25 (by kernel_rfl)).symm.trans h0_) (by decide), fun h0_ => absurd ((hoff 29 (by kernel_rfl)).symm.trans h0_) (by decide), fun h0_ => absurd ((hoff 34 (by kernel_rfl)).symm.trans h0_) (by decide)⟩
         refine steps_cons ?_ ?_
         ·rintro b a w' ⟨v456, v460, v465, v468, v472, v477, d6, d7, d8, d9, e0, ha, a6, a7, a8, b3, e6, b4, b5, f3, c1, a9, b0, b1, e2, e1, c3, b2, c9, d0, d1, d2, f0, f2, f6, f7, f8, g2, f4, f5, f9, g1, g5⟩ hb_ hon hoff
          refine ⟨_, rfl, fun K hK => ?_⟩
          have e38 : a.tmps[38]? = some (.bool (t451 == 0)) := by rw [ha]; exact putSel_on (e := (3, 38, .bool (t451 == 0))) 3 rfl rfl (hon 3 (by kernel_rfl)) rfl
          replace ha := aK ha
          have a3 := aK a6
          have a4 := aK a7
          have a5 := aK a8
          have b6 := aK b3
          have c0 := aK b4
          have c4 := aK b5
          have d4 := aK c1
          have a0 := aK a9
          have a1 := aK b0
          have a2 := aK b1
          have c6 := aK c3
          have HB := aK b2
          have b7 := aK (c9 (hon 2 (by kernel_rfl)))
          have c8 := aK (d0 (hon 2 (by kernel_rfl)))
          have b8 := aK (d1 (hon 2 (by kernel_rfl)))
          have b9 := aK (d2 (hon 2 (by kernel_rfl)))
          refine value_ (w1 := w') (v := .bool (t451 == 0)) (by rfl) rfl ?_ ?_
          ·go_simp
           (try simp only [i64_w])
           try rfl
          refine hK.out _ _ ⟨v456, v460, v465, v468, v472, v477, d6, d7, d8, d9, e0, (by rw [ha.out]; exact putSel_upk 4 hb_ rfl rfl rfl), a6, a7, a8, b3, fun h0_ => absurd ((hon 2 (by kernel_rfl)).symm.trans h0_) (by decide), b4, b5, fun h0_ => absurd ((hon 2 (by kernel_rfl)).symm.trans h0_) (by decide), c1, a9, b0, b1, fun h0_ => absurd ((hon 2 (by kernel_rfl)).symm.trans h0_) (by decide), fun h0_ => absurd ((hon 2 (by kernel_rfl)).symm.trans h0_) (by decide), c3, b2, c9, d0, d1, d2, fun h0_ => absurd ((hoff 17 (by kernel_rfl)).symm.trans h0_) (by decide), fun h0_ => absurd ((hoff 18 (by kernel_rfl)).symm.trans h0_) (by decide), fun h0_ => absurd ((hoff 25 (by kernel_rfl)).symm.trans h0_) (by decide), fun h0_ => absurd ((hoff 28 (by kernel_rfl)).symm.trans h0_) (by decide), fun h0_ => absurd ((hoff 29 (by kernel_rfl)).symm.trans h0_) (by decide), fun h0_ => absurd ((hoff 34 (by kernel_rfl)).symm.trans h0_) (by decide), fun h0_ => absurd ((hoff 17 (by kernel_rfl)).symm.trans h0_) (by decide), fun h0_ => absurd ((hoff 18 (by kernel_rfl)).symm.trans h0_) (by decide), fun h0_ => absurd ((hoff 25 (by kernel_rfl)).symm.trans h0_) (by decide), fun h0_ => absurd ((hoff 29 (by kernel_rfl)).symm.trans h0_) (by decide), fun h0_ => absurd ((hoff 34 (by kernel_rfl)).symm.trans h0_) (by decide)⟩
         refine steps_cons ?_ ?_
         ·rintro b a w' ⟨v456, v460, v465, v468, v472, v477, d6, d7, d8, d9, e0, ha, a6, a7, a8, b3, e6, b4, b5, f3, c1, a9, b0, b1, e2, e1, c3, b2, c9, d0, d1, d2, f0, f2, f6, f7, f8, g2, f4, f5, f9, g1, g5⟩ hb_ hon hoff
          refine ⟨_, rfl, fun K hK => ?_⟩
          have e7 : a.tmps[7]? = some (.pointer (some ⟨d3, 0, none⟩)) := by rw [ha]; exact (putSel_off rfl).trans rfl
          have e39 : a.tmps[39]? = some (.bool (t451 == 0)) := by rw [ha]; exact putSel_on (e := (4, 39, .bool (t451 == 0))) 4 rfl rfl (hon 4 (by kernel_rfl)) rfl
          replace ha := aK ha
          have a3 := aK a6
          have a4 := aK a7
          have a5 := aK a8
          have b6 := aK b3
          have c0 := aK b4
          have c4 := aK b5
          have d4 := aK c1
          have a0 := aK a9
          have a1 := aK b0
          have a2 := aK b1
          have c6 := aK c3
          have HB := aK b2
          have b7 := aK (c9 (hon 2 (by kernel_rfl)))
          have c8 := aK (d0 (hon 2 (by kernel_rfl)))
          have b8 := aK (d1 (hon 2 (by kernel_rfl)))
          have b9 := aK (d2 (hon 2 (by kernel_rfl)))
          have hc0_ : w'.cell? ⟨d3, 0, none⟩ = some (.bool t425) := (blk_cell b8.out 0).trans rfl
          have hc1_ : w'.cell? ⟨d3, 1, none⟩ = some (.slice Ao83 t426.length co83) := (blk_cell b8.out 1).trans rfl
          refine value_ (w1 := w') (v := .agg #[.bool t425, .slice Ao83 t426.length co83]) (wanted_on rfl rfl rfl (e39.trans (by first | rfl | (simp [*]; done)))) rfl ?_ ?_
          ·go_simp
           (try simp only [i64_w])
           try rfl
          refine hK.out _ _ ⟨v456, v460, v465, v468, v472, v477, d6, d7, d8, d9, e0, (by rw [ha.out]; exact putSel_upk 5 hb_ rfl rfl rfl), a6, a7, a8, b3, fun h0_ => absurd ((hon 2 (by kernel_rfl)).symm.trans h0_) (by decide), b4, b5, fun h0_ => absurd ((hon 2 (by kernel_rfl)).symm.trans h0_) (by decide), c1, a9, b0, b1, fun h0_ => absurd ((hon 2 (by kernel_rfl)).symm.trans h0_) (by decide), fun h0_ => absurd ((hon 2 (by kernel_rfl)).symm.trans h0_) (by decide), c3, b2, c9, d0, d1, d2, fun h0_ => absurd ((hoff 17 (by kernel_rfl)).symm.trans h0_) (by decide), fun h0_ => absurd ((hoff 18 (by kernel_rfl)).symm.trans h0_) (by decide), fun h0_ => absurd ((hoff 25 (by kernel_rfl)).symm.trans h0_) (by decide), fun h0_ => absurd ((hoff 28 (by kernel_rfl)).symm.trans h0_) (by decide), fun h0_ => absurd ((hoff 29 (by kernel_rfl)).symm.trans h0_) (by decide), fun h0_ => absurd ((hoff 34 (by kernel_rfl)).symm.trans h0_) (by decide), fun h0_ => absurd ((hoff 17 (by kernel_rfl)).symm.trans h0_) (by decide), fun h0_ => absurd ((hoff 18 (by kernel_rfl)).symm.trans h0_) (by decide), fun h0_ => absurd ((hoff 25 (by kernel_rfl)).symm.trans h0_) (by decide), fun h0_ => absurd ((hoff 29 (by kernel_rfl)).symm.trans h0_) (by decide), fun h0_ => absurd ((hoff 34 (by kernel_rfl)).symm.trans h0_) (by decide)⟩
         refine steps_cons ?_ ?_
         ·rintro b a w' ⟨v456, v460, v465, v468, v472, v477, d6, d7, d8, d9, e0, ha, a6, a7, a8, b3, e6, b4, b5, f3, c1, a9, b0, b1, e2, e1, c3, b2, c9, d0, d1, d2, f0, f2, f6, f7, f8, g2, f4, f5, f9, g1, g5⟩ hb_ hon hoff
          refine ⟨_, rfl, fun K hK => ?_⟩
          have e40 : a.tmps[40]? = some (.agg #[.bool t425, .slice Ao83 t426.length co83]) := by rw [ha]; exact putSel_on (e := (5, 40, .agg #[.bool t425, .slice Ao83 t426.length co83])) 5 rfl rfl (hon 5 (by kernel_rfl)) rfl
          have e39 : a.tmps[39]? = some (.bool (t451 == 0)) := by rw [ha]; exact putSel_on (e := (4, 39, .bool (t451 == 0))) 4 rfl rfl (hon 4 (by kernel_rfl)) rfl
          replace ha := aK ha
          have a3 := aK a6
          have a4 := aK a7
          have a5 := aK a8
          have b6 := aK b3
          have c0 := aK b4
          have c4 := aK b5
          have d4 := aK c1
          have a0 := aK a9
          have a1 := aK b0
          have a2 := aK b1
          have c6 := aK c3
          have HB := aK b2
          have b7 := aK (c9 (hon 2 (by kernel_rfl)))
          have c8 := aK (d0 (hon 2 (by kernel_rfl)))
          have b8 := aK (d1 (hon 2 (by kernel_rfl)))
          have b9 := aK (d2 (hon 2 (by kernel_rfl)))
          refine goes_ Try.func13 (by kernel_rfl) rfl #[.agg #[.bool t425, .slice Ao83 t426.length co83]] (by first | rfl | exact wanted_on rfl rfl rfl (e39.trans (by first | rfl | (simp [*]; done)))) rfl rfl (by first | (simp only [List.map_toArray, List.map_cons, List.map_nil, Act.eval, Array.getD_eq_getD_getElem?, Option.getD_some, e40, e39]; done) | (simp only [List.map_toArray, List.map_cons, List.map_nil, Act.eval, Array.getD_eq_getD_getElem?, Option.getD_some, e40, e39]; rfl)) ?_
          with_reducible refine (isohyetlaw02_Right.calls t425 _ _ t426 true _ ?side1 ?side2 A16.out).mono ?_
          (case side1 => repeat (first | exact (Kd.V_reads' b7.out).2.2 | apply Kd.C_alloc | apply Kd.C_drewN | apply Kd.C_drew))
          (case side2 => exact (Kd.V_reads' b7.out).2.1)
          rintro e w89 ⟨rfl, hb⟩
          refine ⟨_, rfl, ?_⟩
          replace a3 := aK (Kd.V_below (gV a3.out) hb)
          replace a4 := aK (Kd.V_below (gV a4.out) hb)
          replace a5 := aK (Kd.V_below (gV a5.out) hb)
          replace b6 := aK (Kd.V_below (gV b6.out) hb)
          replace b7 := aK (Kd.V_below (gV b7.out) hb)
          replace c0 := aK (Kd.V_below (gV c0.out) hb)
          replace c4 := aK (Kd.V_below (gV c4.out) hb)
          replace c8 := aK (Kd.V_below (gV c8.out) hb)
          replace d4 := aK (Kd.V_below (gV d4.out) hb)
          replace a0 := aK (blk_below (gK a0.out) hb)
          replace a1 := aK (blk_below (gK a1.out) hb)
          replace a2 := aK (blk_below (gK a2.out) hb)
          replace b8 := aK (blk_below (gK b8.out) hb)
          replace b9 := aK (blk_below (gK b9.out) hb)
          replace c6 := aK (blk_below (gK c6.out) hb)
          replace HB := aK (below_step (gB HB.out) hb)
          (try clear hb)
          (try clear hb2)
          (try clear hk)
          (try clear hi)
          refine hK.out _ _ ⟨v456, v460, v465, v468, v472, v477, d6, d7, d8, d9, e0, (by rw [ha.out]; exact putSel_upk 6 hb_ rfl rfl rfl), (gV a3.out), (gV a4.out), (gV a5.out), (gV b6.out), fun h0_ => absurd ((hon 2 (by kernel_rfl)).symm.trans h0_) (by decide), (gV c0.out), (gV c4.out), fun h0_ => absurd ((hon 2 (by kernel_rfl)).symm.trans h0_) (by decide), (gV d4.out), (gK a0.out), (gK a1.out), (gK a2.out), fun h0_ => absurd ((hon 2 (by kernel_rfl)).symm.trans h0_) (by decide), fun h0_ => absurd ((hon 2 (by kernel_rfl)).symm.trans h0_) (by decide), (gK c6.out), (gB HB.out), fun _ => (gV b7.out), fun _ => (gV c8.out), fun _ => (gK b8.out), fun _ => (gK b9.out), fun h0_ => absurd ((hoff 17 (by kernel_rfl)).symm.trans h0_) (by decide), fun h0_ => absurd ((hoff 18 (by kernel_rfl)).symm.trans h0_) (by decide), fun h0_ => absurd ((hoff 25 (by kernel_rfl)).symm.trans h0_) (by decide), fun h0_ => absurd ((hoff 28 (by kernel_rfl)).symm.trans h0_) (by decide), fun h0_ => absurd ((hoff 29 (by kernel_rfl)).symm.trans h0_) (by decide), fun h0_ => absurd ((hoff 34 (by kernel_rfl)).symm.trans h0_) (by decide), fun h0_ => absurd ((hoff 17 (by kernel_rfl)).symm.trans h0_) (by decide), fun h0_ => absurd ((hoff 18 (by kernel_rfl)).symm.trans h0_) (by decide), fun h0_ => absurd ((hoff 25 (by kernel_rfl)).symm.trans h0_) (by decide), fun h0_ => absurd ((hoff 29 (by kernel_rfl)).symm.trans h0_) (by decide), fun h0_ => absurd ((hoff 34 (by kernel_rfl)).symm.trans h0_) (by decide)⟩
         refine steps_cons ?_ ?_
         ·rintro b a w' ⟨v456, v460, v465, v468, v472, v477, d6, d7, d8, d9, e0, ha, a6, a7, a8, b3, e6, b4, b5, f3, c1, a9, b0, b1, e2, e1, c3, b2, c9, d0, d1, d2, f0, f2, f6, f7, f8, g2, f4, f5, f9, g1, g5⟩ hb_ hon hoff
          refine ⟨_, rfl, fun K hK => ?_⟩
          have e39 : a.tmps[39]? = some (.bool (t451 == 0)) := by rw [ha]; exact putSel_on (e := (4, 39, .bool (t451 == 0))) 4 rfl rfl (hon 4 (by kernel_rfl)) rfl
          have e41 : a.tmps[41]? = some (.bool true) := by rw [ha]; exact putSel_on (e := (6, 41, .bool true)) 6 rfl rfl (hon 6 (by kernel_rfl)) rfl
          replace ha := aK ha
          have a3 := aK a6
          have a4 := aK a7
          have a5 := aK a8
          have b6 := aK b3
          have c0 := aK b4
          have c4 := aK b5
          have d4 := aK c1
          have a0 := aK a9
          have a1 := aK b0
          have a2 := aK b1
          have c6 := aK c3
          have HB := aK b2
          have b7 := aK (c9 (hon 2 (by kernel_rfl)))
          have c8 := aK (d0 (hon 2 (by kernel_rfl)))
          have b8 := aK (d1 (hon 2 (by kernel_rfl)))
          have b9 := aK (d2 (hon 2 (by kernel_rfl)))
          refine value_ (w1 := w') (v := .bool true) (by rfl) rfl ?_ ?_
          ·go_simp
           (try simp only [i64_w])
           try rfl
          refine hK.out _ _ ⟨v456, v460, v465, v468, v472, v477, d6, d7, d8, d9, e0, (by rw [ha.out]; exact putSel_upk 7 hb_ rfl rfl rfl), a6, a7, a8, b3, fun h0_ => absurd ((hon 2 (by kernel_rfl)).symm.trans h0_) (by decide), b4, b5, fun h0_ => absurd ((hon 2 (by kernel_rfl)).symm.trans h0_) (by decide), c1, a9, b0, b1, fun h0_ => absurd ((hon 2 (by kernel_rfl)).symm.trans h0_) (by decide), fun h0_ => absurd ((hon 2 (by kernel_rfl)).symm.trans h0_) (by decide), c3, b2, c9, d0, d1, d2, fun h0_ => absurd ((hoff 17 (by kernel_rfl)).symm.trans h0_) (by decide), fun h0_ => absurd ((hoff 18 (by kernel_rfl)).symm.trans h0_) (by decide), fun h0_ => absurd ((hoff 25 (by kernel_rfl)).symm.trans h0_) (by decide), fun h0_ => absurd ((hoff 28 (by kernel_rfl)).symm.trans h0_) (by decide), fun h0_ => absurd ((hoff 29 (by kernel_rfl)).symm.trans h0_) (by decide), fun h0_ => absurd ((hoff 34 (by kernel_rfl)).symm.trans h0_) (by decide), fun h0_ => absurd ((hoff 17 (by kernel_rfl)).symm.trans h0_) (by decide), fun h0_ => absurd ((hoff 18 (by kernel_rfl)).symm.trans h0_) (by decide), fun h0_ => absurd ((hoff 25 (by kernel_rfl)).symm.trans h0_) (by decide), fun h0_ => absurd ((hoff 29 (by kernel_rfl)).symm.trans h0_) (by decide), fun h0_ => absurd ((hoff 34 (by kernel_rfl)).symm.trans h0_) (by decide)⟩
         refine steps_cons ?_ ?_
         ·rintro b a w' ⟨v456, v460, v465, v468, v472, v477, d6, d7, d8, d9, e0, ha, a6, a7, a8, b3, e6, b4, b5, f3, c1, a9, b0, b1, e2, e1, c3, b2, c9, d0, d1, d2, f0, f2, f6, f7, f8, g2, f4, f5, f9, g1, g5⟩ hb_ hon hoff
          refine ⟨_, rfl, fun K hK => ?_⟩
          have e42 : a.tmps[42]? = some (.bool true) := by rw [ha]; exact putSel_on (e := (7, 42, .bool true)) 7 rfl rfl (hon 7 (by kernel_rfl)) rfl
          replace ha := aK ha
          have a3 := aK a6
          have a4 := aK a7
          have a5 := aK a8
          have b6 := aK b3
          have c0 := aK b4
          have c4 := aK b5
          have d4 := aK c1
          have a0 := aK a9
          have a1 := aK b0
          have a2 := aK b1
          have c6 := aK c3
          have HB := aK b2
          have b7 := aK (c9 (hon 2 (by kernel_rfl)))
          have c8 := aK (d0 (hon 2 (by kernel_rfl)))
          have b8 := aK (d1 (hon 2 (by kernel_rfl)))
          have b9 := aK (d2 (hon 2 (by kernel_rfl)))
          refine value_ (w1 := w') (v := .bool true) (by rfl) rfl ?_ ?_
          ·go_simp
           (try simp only [i64_w])
           try rfl
          refine hK.out _ _ ⟨v456, v460, v465, v468, v472, v477, d6, d7, d8, d9, e0, (by rw [ha.out]; exact putSel_upk 8 hb_ rfl rfl rfl), a6, a7, a8, b3, fun h0_ => absurd ((hon 2 (by kernel_rfl)).symm.trans h0_) (by decide), b4, b5, fun h0_ => absurd ((hon 2 (by kernel_rfl)).symm.trans h0_) (by decide), c1, a9, b0, b1, fun h0_ => absurd ((hon 2 (by kernel_rfl)).symm.trans h0_) (by decide), fun h0_ => absurd ((hon 2 (by kernel_rfl)).symm.trans h0_) (by decide), c3, b2, c9, d0, d1, d2, fun h0_ => absurd ((hoff 17 (by kernel_rfl)).symm.trans h0_) (by decide), fun h0_ => absurd ((hoff 18 (by kernel_rfl)).symm.trans h0_) (by decide), fun h0_ => absurd ((hoff 25 (by kernel_rfl)).symm.trans h0_) (by decide), fun h0_ => absurd ((hoff 28 (by kernel_rfl)).symm.trans h0_) (by decide), fun h0_ => absurd ((hoff 29 (by kernel_rfl)).symm.trans h0_) (by decide), fun h0_ => absurd ((hoff 34 (by kernel_rfl)).symm.trans h0_) (by decide), fun h0_ => absurd ((hoff 17 (by kernel_rfl)).symm.trans h0_) (by decide), fun h0_ => absurd ((hoff 18 (by kernel_rfl)).symm.trans h0_) (by decide), fun h0_ => absurd ((hoff 25 (by kernel_rfl)).symm.trans h0_) (by decide), fun h0_ => absurd ((hoff 29 (by kernel_rfl)).symm.trans h0_) (by decide), fun h0_ => absurd ((hoff 34 (by kernel_rfl)).symm.trans h0_) (by decide)⟩
         refine steps_cons ?_ ?_
         ·rintro b a w' ⟨v456, v460, v465, v468, v472, v477, d6, d7, d8, d9, e0, ha, a6, a7, a8, b3, e6, b4, b5, f3, c1, a9, b0, b1, e2, e1, c3, b2, c9, d0, d1, d2, f0, f2, f6, f7, f8, g2, f4, f5, f9, g1, g5⟩ hb_ hon hoff
          refine ⟨_, rfl, fun K hK => ?_⟩
          have e9 : a.tmps[9]? = some (.pointer (some ⟨f1, 0, none⟩)) := by rw [ha]; exact (putSel_off rfl).trans rfl
          have e43 : a.tmps[43]? = some (.bool true) := by rw [ha]; exact putSel_on (e := (8, 43, .bool true)) 8 rfl rfl (hon 8 (by kernel_rfl)) rfl
          replace ha := aK ha
          have a3 := aK a6
          have a4 := aK a7
          have a5 := aK a8
          have b6 := aK b3
          have c0 := aK b4
          have c4 := aK b5
          have d4 := aK c1
          have a0 := aK a9
          have a1 := aK b0
          have a2 := aK b1
          have c6 := aK c3
          have HB := aK b2
          have b7 := aK (c9 (hon 2 (by kernel_rfl)))
          have c8 := aK (d0 (hon 2 (by kernel_rfl)))
          have b8 := aK (d1 (hon 2 (by kernel_rfl)))
          have b9 := aK (d2 (hon 2 (by kernel_rfl)))
          have hc0_ : w'.cell? ⟨f1, 0, none⟩ = some (.bool t446) := (blk_cell c6.out 0).trans rfl
          have hc1_ : w'.cell? ⟨f1, 1, none⟩ = some (.slice Ao82 t447.length co82) := (blk_cell c6.out 1).trans rfl
          refine value_ (w1 := w') (v := .agg #[.bool t446, .slice Ao82 t447.length co82]) (wanted_on rfl rfl rfl (e43.trans (by first | rfl | (simp [*]; done)))) rfl ?_ ?_
          ·go_simp
           (try simp only [i64_w])
           try rfl
          refine hK.out _ _ ⟨v456, v460, v465, v468, v472, v477, d6, d7, d8, d9, e0, (by rw [ha.out]; exact putSel_upk 9 hb_ rfl rfl rfl), a6, a7, a8, b3, fun h0_ => absurd ((hon 2 (by kernel_rfl)).symm.trans h0_) (by decide), b4, b5, fun h0_ => absurd ((hon 2 (by kernel_rfl)).symm.trans h0_) (by decide), c1, a9, b0, b1, fun h0_ => absurd ((hon 2 (by kernel_rfl)).symm.trans h0_) (by decide), fun h0_ => absurd ((hon 2 (by kernel_rfl)).symm.trans h0_) (by decide), c3, b2, c9, d0, d1, d2, fun h0_ => absurd ((hoff 17 (by kernel_rfl)).symm.trans h0_) (by decide), fun h0_ => absurd ((hoff 18 (by kernel_rfl)).symm.trans h0_) (by decide), fun h0_ => absurd ((hoff 25 (by kernel_rfl)).symm.trans h0_) (by decide), fun h0_ => absurd ((hoff 28 (by kernel_rfl)).symm.trans h0_) (by decide), fun h0_ => absurd ((hoff 29 (by kernel_rfl)).symm.trans h0_) (by decide), fun h0_ => absurd ((hoff 34 (by kernel_rfl)).symm.trans h0_) (by decide), fun h0_ => absurd ((hoff 17 (by kernel_rfl)).symm.trans h0_) (by decide), fun h0_ => absurd ((hoff 18 (by kernel_rfl)).symm.trans h0_) (by decide), fun h0_ => absurd ((hoff 25 (by kernel_rfl)).symm.trans h0_) (by decide), fun h0_ => absurd ((hoff 29 (by kernel_rfl)).symm.trans h0_) (by decide), fun h0_ => absurd ((hoff 34 (by kernel_rfl)).symm.trans h0_) (by decide)⟩
         refine steps_cons ?_ ?_
         ·rintro b a w' ⟨v456, v460, v465, v468, v472, v477, d6, d7, d8, d9, e0, ha, a6, a7, a8, b3, e6, b4, b5, f3, c1, a9, b0, b1, e2, e1, c3, b2, c9, d0, d1, d2, f0, f2, f6, f7, f8, g2, f4, f5, f9, g1, g5⟩ hb_ hon hoff
          refine ⟨_, rfl, fun K hK => ?_⟩
          have e44 : a.tmps[44]? = some (.agg #[.bool t446, .slice Ao82 t447.length co82]) := by rw [ha]; exact putSel_on (e := (9, 44, .agg #[.bool t446, .slice Ao82 t447.length co82])) 9 rfl rfl (hon 9 (by kernel_rfl)) rfl
          have e43 : a.tmps[43]? = some (.bool true) := by rw [ha]; exact putSel_on (e := (8, 43, .bool true)) 8 rfl rfl (hon 8 (by kernel_rfl)) rfl
          replace ha := aK ha
          have a3 := aK a6
          have a4 := aK a7
          have a5 := aK a8
          have b6 := aK b3
          have c0 := aK b4
          have c4 := aK b5
          have d4 := aK c1
          have a0 := aK a9
          have a1 := aK b0
          have a2 := aK b1
          have c6 := aK c3
          have HB := aK b2
          have b7 := aK (c9 (hon 2 (by kernel_rfl)))
          have c8 := aK (d0 (hon 2 (by kernel_rfl)))
          have b8 := aK (d1 (hon 2 (by kernel_rfl)))
          have b9 := aK (d2 (hon 2 (by kernel_rfl)))
          refine goes_ Try.func13 (by kernel_rfl) rfl #[.agg #[.bool t446, .slice Ao82 t447.length co82]] (by first | rfl | exact wanted_on rfl rfl rfl (e43.trans (by first | rfl | (simp [*]; done)))) rfl rfl (by first | (simp only [List.map_toArray, List.map_cons, List.map_nil, Act.eval, Array.getD_eq_getD_getElem?, Option.getD_some, e44, e43]; done) | (simp only [List.map_toArray, List.map_cons, List.map_nil, Act.eval, Array.getD_eq_getD_getElem?, Option.getD_some, e44, e43]; rfl)) ?_
          with_reducible refine (isohyetlaw02_Right.calls t446 _ _ t447 true _ ?side1 ?side2 A18.out).mono ?_
          (case side1 => repeat (first | exact (Kd.V_reads' d4.out).2.2 | apply Kd.C_alloc | apply Kd.C_drewN | apply Kd.C_drew))
          (case side2 => exact (Kd.V_reads' d4.out).2.1)
          rintro e w90 ⟨rfl, hb⟩
          refine ⟨_, rfl, ?_⟩
          replace a3 := aK (Kd.V_below (gV a3.out) hb)
          replace a4 := aK (Kd.V_below (gV a4.out) hb)
          replace a5 := aK (Kd.V_below (gV a5.out) hb)
          replace b6 := aK (Kd.V_below (gV b6.out) hb)
          replace b7 := aK (Kd.V_below (gV b7.out) hb)
          replace c0 := aK (Kd.V_below (gV c0.out) hb)
          replace c4 := aK (Kd.V_below (gV c4.out) hb)
          replace c8 := aK (Kd.V_below (gV c8.out) hb)
          replace d4 := aK (Kd.V_below (gV d4.out) hb)
          replace a0 := aK (blk_below (gK a0.out) hb)
          replace a1 := aK (blk_below (gK a1.out) hb)
          replace a2 := aK (blk_below (gK a2.out) hb)
          replace b8 := aK (blk_below (gK b8.out) hb)
          replace b9 := aK (blk_below (gK b9.out) hb)
          replace c6 := aK (blk_below (gK c6.out) hb)
          replace HB := aK (below_step (gB HB.out) hb)
          (try clear hb)
          (try clear hb2)
          (try clear hk)
          (try clear hi)
          refine hK.out _ _ ⟨v456, v460, v465, v468, v472, v477, d6, d7, d8, d9, e0, (by rw [ha.out]; exact putSel_upk 10 hb_ rfl rfl rfl), (gV a3.out), (gV a4.out), (gV a5.out), (gV b6.out), fun h0_ => absurd ((hon 2 (by kernel_rfl)).symm.trans h0_) (by decide), (gV c0.out), (gV c4.out), fun h0_ => absurd ((hon 2 (by kernel_rfl)).symm.trans h0_) (by decide), (gV d4.out), (gK a0.out), (gK a1.out), (gK a2.out), fun h0_ => absurd ((hon 2 (by kernel_rfl)).symm.trans h0_) (by decide), fun h0_ => absurd ((hon 2 (by kernel_rfl)).symm.trans h0_) (by decide), (gK c6.out), (gB HB.out), fun _ => (gV b7.out), fun _ => (gV c8.out), fun _ => (gK b8.out), fun _ => (gK b9.out), fun h0_ => absurd ((hoff 17 (by kernel_rfl)).symm.trans h0_) (by decide), fun h0_ => absurd ((hoff 18 (by kernel_rfl)).symm.trans h0_) (by decide), fun h0_ => absurd ((hoff 25 (by kernel_rfl)).symm.trans h0_) (by decide), fun h0_ => absurd ((hoff 28 (by kernel_rfl)).symm.trans h0_) (by decide), fun h0_ => absurd ((hoff 29 (by kernel_rfl)).symm.trans h0_) (by decide), fun h0_ => absurd ((hoff 34 (by kernel_rfl)).symm.trans h0_) (by decide), fun h0_ => absurd ((hoff 17 (by kernel_rfl)).symm.trans h0_) (by decide), fun h0_ => absurd ((hoff 18 (by kernel_rfl)).symm.trans h0_) (by decide), fun h0_ => absurd ((hoff 25 (by kernel_rfl)).symm.trans h0_) (by decide), fun h0_ => absurd ((hoff 29 (by kernel_rfl)).symm.trans h0_) (by decide), fun h0_ => absurd ((hoff 34 (by kernel_rfl)).symm.trans h0_) (by decide)⟩
         refine steps_cons ?_ ?_
         ·rintro b a w' ⟨v456, v460, v465, v468, v472, v477, d6, d7, d8, d9, e0, ha, a6, a7, a8, b3, e6, b4, b5, f3, c1, a9, b0, b1, e2, e1, c3, b2, c9, d0, d1, d2, f0, f2, f6, f7, f8, g2, f4, f5, f9, g1, g5⟩ hb_ hon hoff
          refine ⟨_, rfl, fun K hK => ?_⟩
          have e43 : a.tmps[43]? = some (.bool true) := by rw [ha]; exact putSel_on (e := (8, 43, .bool true)) 8 rfl rfl (hon 8 (by kernel_rfl)) rfl
          have e45 : a.tmps[45]? = some (.bool true) := by rw [ha]; exact putSel_on (e := (10, 45, .bool true)) 10 rfl rfl (hon 10 (by kernel_rfl)) rfl
          replace ha := aK ha
          have a3 := aK a6
          have a4 := aK a7
          have a5 := aK a8
          have b6 := aK b3
          have c0 := aK b4
          have c4 := aK b5
          have d4 := aK c1
          have a0 := aK a9
          have a1 := aK b0
          have a2 := aK b1
          have c6 := aK c3
          have HB := aK b2
          have b7 := aK (c9 (hon 2 (by kernel_rfl)))
          have c8 := aK (d0 (hon 2 (by kernel_rfl)))
          have b8 := aK (d1 (hon 2 (by kernel_rfl)))
          have b9 := aK (d2 (hon 2 (by kernel_rfl)))
          refine value_ (w1 := w') (v := .bool true) (by rfl) rfl ?_ ?_
          ·go_simp
           (try simp only [i64_w])
           try rfl
          refine hK.out _ _ ⟨v456, v460, v465, v468, v472, v477, d6, d7, d8, d9, e0, (by rw [ha.out]; exact putSel_upk 11 hb_ rfl rfl rfl), a6, a7, a8, b3, fun h0_ => absurd ((hon 2 (by kernel_rfl)).symm.trans h0_) (by decide), b4, b5, fun h0_ => absurd ((hon 2 (by kernel_rfl)).symm.trans h0_) (by decide), c1, a9, b0, b1, fun h0_ => absurd ((hon 2 (by kernel_rfl)).symm.trans h0_) (by decide), fun h0_ => absurd ((hon 2 (by kernel_rfl)).symm.trans h0_) (by decide), c3, b2, c9, d0, d1, d2, fun h0_ => absurd ((hoff 17 (by kernel_rfl)).symm.trans h0_) (by decide), fun h0_ => absurd ((hoff 18 (by kernel_rfl)).symm.trans h0_) (by decide), fun h0_ => absurd ((hoff 25 (by kernel_rfl)).symm.trans h0_) (by decide), fun h0_ => absurd ((hoff 28 (by kernel_rfl)).symm.trans h0_) (by decide), fun h0_ => absurd ((hoff 29 (by kernel_rfl)).symm.trans h0_) (by decide), fun h0_ => absurd ((hoff 34 (by kernel_rfl)).symm.trans h0_) (by decide), fun h0_ => absurd ((hoff 17 (by kernel_rfl)).symm.trans h0_) (by decide), fun h0_ => absurd ((hoff 18 (by kernel_rfl)).symm.trans h0_) (by decide), fun h0_ => absurd ((hoff 25 (by kernel_rfl)).symm.trans h0_) (by decide), fun h0_ => absurd ((hoff 29 (by kernel_rfl)).symm.trans h0_) (by decide), fun h0_ => absurd ((hoff 34 (by kernel_rfl)).symm.trans h0_) (by decide)⟩
         refine steps_cons ?_ ?_
         ·rintro b a w' ⟨v456, v460, v465, v468, v472, v477, d6, d7, d8, d9, e0, ha, a6, a7, a8, b3, e6, b4, b5, f3, c1, a9, b0, b1, e2, e1, c3, b2, c9, d0, d1, d2, f0, f2, f6, f7, f8, g2, f4, f5, f9, g1, g5⟩ hb_ hon hoff
          refine ⟨_, rfl, fun K hK => ?_⟩
          have e46 : a.tmps[46]? = some (.bool true) := by rw [ha]; exact putSel_on (e := (11, 46, .bool true)) 11 rfl rfl (hon 11 (by kernel_rfl)) rfl
          replace ha := aK ha
          have a3 := aK a6
          have a4 := aK a7
          have a5 := aK a8
          have b6 := aK b3
          have c0 := aK b4
          have c4 := aK b5
          have d4 := aK c1
          have a0 := aK a9
          have a1 := aK b0
          have a2 := aK b1
          have c6 := aK c3
          have HB := aK b2
          have b7 := aK (c9 (hon 2 (by kernel_rfl)))
          have c8 := aK (d0 (hon 2 (by kernel_rfl)))
          have b8 := aK (d1 (hon 2 (by kernel_rfl)))
          have b9 := aK (d2 (hon 2 (by kernel_rfl)))
          refine value_ (w1 := w') (v := .bool true) (by rfl) rfl ?_ ?_
          ·go_simp
           (try simp only [i64_w])
           try rfl
          refine hK.out _ _ ⟨v456, v460, v465, v468, v472, v477, d6, d7, d8, d9, e0, (by rw [ha.out]; exact putSel_upk 12 hb_ rfl rfl rfl), a6, a7, a8, b3, fun h0_ => absurd ((hon 2 (by kernel_rfl)).symm.trans h0_) (by decide), b4, b5, fun h0_ => absurd ((hon 2 (by kernel_rfl)).symm.trans h0_) (by decide), c1, a9, b0, b1, fun h0_ => absurd ((hon 2 (by kernel_rfl)).symm.trans h0_) (by decide), fun h0_ => absurd ((hon 2 (by kernel_rfl)).symm.trans h0_) (by decide), c3, b2, c9, d0, d1, d2, fun h0_ => absurd ((hoff 17 (by kernel_rfl)).symm.trans h0_) (by decide), fun h0_ => absurd ((hoff 18 (by kernel_rfl)).symm.trans h0_) (by decide), fun h0_ => absurd ((hoff 25 (by kernel_rfl)).symm.trans h0_) (by decide), fun h0_ => absurd ((hoff 28 (by kernel_rfl)).symm.trans h0_) (by decide), fun h0_ => absurd ((hoff 29 (by kernel_rfl)).symm.trans h0_) (by decide), fun h0_ => absurd ((hoff 34 (by kernel_rfl)).symm.trans h0_) (by decide), fun h0_ => absurd ((hoff 17 (by kernel_rfl)).symm.trans h0_) (by decide), fun h0_ => absurd ((hoff 18 (by kernel_rfl)).symm.trans h0_) (by decide), fun h0_ => absurd ((hoff 25 (by kernel_rfl)).symm.trans h0_) (by decide), fun h0_ => absurd ((hoff 29 (by kernel_rfl)).symm.trans h0_) (by decide), fun h0_ => absurd ((hoff 34 (by kernel_rfl)).symm.trans h0_) (by decide)⟩
         refine steps_cons ?_ ?_
         ·rintro b a w' ⟨v456, v460, v465, v468, v472, v477, d6, d7, d8, d9, e0, ha, a6, a7, a8, b3, e6, b4, b5, f3, c1, a9, b0, b1, e2, e1, c3, b2, c9, d0, d1, d2, f0, f2, f6, f7, f8, g2, f4, f5, f9, g1, g5⟩ hb_ hon hoff
          refine ⟨_, rfl, fun K hK => ?_⟩
          have e9 : a.tmps[9]? = some (.pointer (some ⟨f1, 0, none⟩)) := by rw [ha]; exact (putSel_off rfl).trans rfl
          have e47 : a.tmps[47]? = some (.bool true) := by rw [ha]; exact putSel_on (e := (12, 47, .bool true)) 12 rfl rfl (hon 12 (by kernel_rfl)) rfl
          replace ha := aK ha
          have a3 := aK a6
          have a4 := aK a7
          have a5 := aK a8
          have b6 := aK b3
          have c0 := aK b4
          have c4 := aK b5
          have d4 := aK c1
          have a0 := aK a9
          have a1 := aK b0
          have a2 := aK b1
          have c6 := aK c3
          have HB := aK b2
          have b7 := aK (c9 (hon 2 (by kernel_rfl)))
          have c8 := aK (d0 (hon 2 (by kernel_rfl)))
          have b8 := aK (d1 (hon 2 (by kernel_rfl)))
          have b9 := aK (d2 (hon 2 (by kernel_rfl)))
          have hc0_ : w'.cell? ⟨f1, 0, none⟩ = some (.bool t446) := (blk_cell c6.out 0).trans rfl
          have hc1_ : w'.cell? ⟨f1, 1, none⟩ = some (.slice Ao82 t447.length co82) := (blk_cell c6.out 1).trans rfl
          refine value_ (w1 := w') (v := .agg #[.bool t446, .slice Ao82 t447.length co82]) (wanted_on rfl rfl rfl (e47.trans (by first | rfl | (simp [*]; done)))) rfl ?_ ?_
          ·go_simp
           (try simp only [i64_w])
           try rfl
          refine hK.out _ _ ⟨v456, v460, v465, v468, v472, v477, d6, d7, d8, d9, e0, (by rw [ha.out]; exact putSel_upk 13 hb_ rfl rfl rfl), a6, a7, a8, b3, fun h0_ => absurd ((hon 2 (by kernel_rfl)).symm.trans h0_) (by decide), b4, b5, fun h0_ => absurd ((hon 2 (by kernel_rfl)).symm.trans h0_) (by decide), c1, a9, b0, b1, fun h0_ => absurd ((hon 2 (by kernel_rfl)).symm.trans h0_) (by decide), fun h0_ => absurd ((hon 2 (by kernel_rfl)).symm.trans h0_) (by decide), c3, b2, c9, d0, d1, d2, f0, f2, fun h0_ => absurd ((hoff 25 (by kernel_rfl)).symm.trans h0_) (by decide), fun h0_ => absurd ((hoff 28 (by kernel_rfl)).symm.trans h0_) (by decide), fun h0_ => absurd ((hoff 29 (by kernel_rfl)).symm.trans h0_) (by decide), fun h0_ => absurd ((hoff 34 (by kernel_rfl)).symm.trans h0_) (by decide), f4, f5, fun h0_ => absurd ((hoff 25 (by kernel_rfl)).symm.trans h0_) (by decide), fun h0_ => absurd ((hoff 29 (by kernel_rfl)).symm.trans h0_) (by decide), fun h0_ => absurd ((hoff 34 (by kernel_rfl)).symm.trans h0_) (by decide)⟩
         refine steps_cons ?_ ?_
         ·rintro b a w' ⟨v456, v460, v465, v468, v472, v477, d6, d7, d8, d9, e0, ha, a6, a7, a8, b3, e6, b4, b5, f3, c1, a9, b0, b1, e2, e1, c3, b2, c9, d0, d1, d2, f0, f2, f6, f7, f8, g2, f4, f5, f9, g1, g5⟩ hb_ hon hoff
          refine ⟨_, rfl, fun K hK => ?_⟩
          have e5 : a.tmps[5]? = some (.pointer (some ⟨g7, 0, none⟩)) := by rw [ha]; exact (putSel_off rfl).trans rfl
          have e47 : a.tmps[47]? = some (.bool true) := by rw [ha]; exact putSel_on (e := (12, 47, .bool true)) 12 rfl rfl (hon 12 (by kernel_rfl)) rfl
          replace ha := aK ha
          have a3 := aK a6
          have a4 := aK a7
          have a5 := aK a8
          have b6 := aK b3
          have c0 := aK b4
          have c4 := aK b5
          have d4 := aK c1
          have a0 := aK a9
          have a1 := aK b0
          have a2 := aK b1
          have c6 := aK c3
          have HB := aK b2
          have b7 := aK (c9 (hon 2 (by kernel_rfl)))
          have c8 := aK (d0 (hon 2 (by kernel_rfl)))
          have b8 := aK (d1 (hon 2 (by kernel_rfl)))
          have b9 := aK (d2 (hon 2 (by kernel_rfl)))
          have hc0_ : w'.cell? ⟨g7, 0, none⟩ = some (.bool a2_0) := (blk_cell a2.out 0).trans rfl
          have hc1_ : w'.cell? ⟨g7, 1, none⟩ = some (.slice A2_1 l2_1.length c2_1) := (blk_cell a2.out 1).trans rfl
          refine value_ (w1 := w') (v := .agg #[.bool a2_0, .slice A2_1 l2_1.length c2_1]) (wanted_on rfl rfl rfl (e47.trans (by first | rfl | (simp [*]; done)))) rfl ?_ ?_
          ·go_simp
           (try simp only [i64_w])
           try rfl
          refine hK.out _ _ ⟨v456, v460, v465, v468, v472, v477, d6, d7, d8, d9, e0, (by rw [ha.out]; exact putSel_upk 14 hb_ rfl rfl rfl), a6, a7, a8, b3, fun h0_ => absurd ((hon 2 (by kernel_rfl)).symm.trans h0_) (by decide), b4, b5, fun h0_ => absurd ((hon 2 (by kernel_rfl)).symm.trans h0_) (by decide), c1, a9, b0, b1, fun h0_ => absurd ((hon 2 (by kernel_rfl)).symm.trans h0_) (by decide), fun h0_ => absurd ((hon 2 (by kernel_rfl)).symm.trans h0_) (by decide), c3, b2, c9, d0, d1, d2, f0, fun h0_ => absurd ((hoff 18 (by kernel_rfl)).symm.trans h0_) (by decide), fun h0_ => absurd ((hoff 25 (by kernel_rfl)).symm.trans h0_) (by decide), fun h0_ => absurd ((hoff 28 (by kernel_rfl)).symm.trans h0_) (by decide), fun h0_ => absurd ((hoff 29 (by kernel_rfl)).symm.trans h0_) (by decide), fun h0_ => absurd ((hoff 34 (by kernel_rfl)).symm.trans h0_) (by decide), f4, fun h0_ => absurd ((hoff 18 (by kernel_rfl)).symm.trans h0_) (by decide), fun h0_ => absurd ((hoff 25 (by kernel_rfl)).symm.trans h0_) (by decide), fun h0_ => absurd ((hoff 29 (by kernel_rfl)).symm.trans h0_) (by decide), fun h0_ => absurd ((hoff 34 (by kernel_rfl)).symm.trans h0_) (by decide)⟩
         refine steps_cons ?_ ?_
         ·rintro b a w' ⟨v456, v460, v465, v468, v472, v477, d6, d7, d8, d9, e0, ha, a6, a7, a8, b3, e6, b4, b5, f3, c1, a9, b0, b1, e2, e1, c3, b2, c9, d0, d1, d2, f0, f2, f6, f7, f8, g2, f4, f5, f9, g1, g5⟩ hb_ hon hoff
          refine ⟨_, rfl, fun K hK => ?_⟩
          have e4 : a.tmps[4]? = some (.pointer (some ⟨g6, 0, none⟩)) := by rw [ha]; exact (putSel_off rfl).trans rfl
          have e47 : a.tmps[47]? = some (.bool true) := by rw [ha]; exact putSel_on (e := (12, 47, .bool true)) 12 rfl rfl (hon 12 (by kernel_rfl)) rfl
          replace ha := aK ha
          have a3 := aK a6
          have a4 := aK a7
          have a5 := aK a8
          have b6 := aK b3
          have c0 := aK b4
          have c4 := aK b5
          have d4 := aK c1
          have a0 := aK a9
          have a1 := aK b0
          have a2 := aK b1
          have c6 := aK c3
          have HB := aK b2
          have b7 := aK (c9 (hon 2 (by kernel_rfl)))
          have c8 := aK (d0 (hon 2 (by kernel_rfl)))
          have b8 := aK (d1 (hon 2 (by kernel_rfl)))
          have b9 := aK (d2 (hon 2 (by kernel_rfl)))
          have hc0_ : w'.cell? ⟨g6, 0, none⟩ = some (.bool a1_0) := (blk_cell a1.out 0).trans rfl
          have hc1_ : w'.cell? ⟨g6, 1, none⟩ = some (.slice A1_1 l1_1.length c1_1) := (blk_cell a1.out 1).trans rfl
          refine value_ (w1 := w') (v := .agg #[.bool a1_0, .slice A1_1 l1_1.length c1_1]) (wanted_on rfl rfl rfl (e47.trans (by first | rfl | (simp [*]; done)))) rfl ?_ ?_
          ·go_simp
           (try simp only [i64_w])
           try rfl
          refine hK.out _ _ ⟨v456, v460, v465, v468, v472, v477, d6, d7, d8, d9, e0, (by rw [ha.out]; exact putSel_upk 15 hb_ rfl rfl rfl), a6, a7, a8, b3, fun h0_ => absurd ((hon 2 (by kernel_rfl)).symm.trans h0_) (by decide), b4, b5, fun h0_ => absurd ((hon 2 (by kernel_rfl)).symm.trans h0_) (by decide), c1, a9, b0, b1, fun h0_ => absurd ((hon 2 (by kernel_rfl)).symm.trans h0_) (by decide), fun h0_ => absurd ((hon 2 (by kernel_rfl)).symm.trans h0_) (by decide), c3, b2, c9, d0, d1, d2, fun h0_ => absurd ((hoff 17 (by kernel_rfl)).symm.trans h0_) (by decide), fun h0_ => absurd ((hoff 18 (by kernel_rfl)).symm.trans h0_) (by decide), fun h0_ => absurd ((hoff 25 (by kernel_rfl)).symm.trans h0_) (by decide), fun h0_ => absurd ((hoff 28 (by kernel_rfl)).symm.trans h0_) (by decide), fun h0_ => absurd ((hoff 29 (by kernel_rfl)).symm.trans h0_) (by decide), fun h0_ => absurd ((hoff 34 (by kernel_rfl)).symm.trans h0_) (by decide), fun h0_ => absurd ((hoff 17 (by kernel_rfl)).symm.trans h0_) (by decide), fun h0_ => absurd ((hoff 18 (by kernel_rfl)).symm.trans h0_) (by decide), fun h0_ => absurd ((hoff 25 (by kernel_rfl)).symm.trans h0_) (by decide), fun h0_ => absurd ((hoff 29 (by kernel_rfl)).symm.trans h0_) (by decide), fun h0_ => absurd ((hoff 34 (by kernel_rfl)).symm.trans h0_) (by decide)⟩
         refine steps_cons ?_ ?_
         ·rintro b a w' ⟨v456, v460, v465, v468, v472, v477, d6, d7, d8, d9, e0, ha, a6, a7, a8, b3, e6, b4, b5, f3, c1, a9, b0, b1, e2, e1, c3, b2, c9, d0, d1, d2, f0, f2, f6, f7, f8, g2, f4, f5, f9, g1, g5⟩ hb_ hon hoff
          refine ⟨_, rfl, fun K hK => ?_⟩
          have e3 : a.tmps[3]? = some (.pointer (some ⟨g4, 0, none⟩)) := by rw [ha]; exact (putSel_off rfl).trans rfl
          have e47 : a.tmps[47]? = some (.bool true) := by rw [ha]; exact putSel_on (e := (12, 47, .bool true)) 12 rfl rfl (hon 12 (by kernel_rfl)) rfl
          replace ha := aK ha
          have a3 := aK a6
          have a4 := aK a7
          have a5 := aK a8
          have b6 := aK b3
          have c0 := aK b4
          have c4 := aK b5
          have d4 := aK c1
          have a0 := aK a9
          have a1 := aK b0
          have a2 := aK b1
          have c6 := aK c3
          have HB := aK b2
          have b7 := aK (c9 (hon 2 (by kernel_rfl)))
          have c8 := aK (d0 (hon 2 (by kernel_rfl)))
          have b8 := aK (d1 (hon 2 (by kernel_rfl)))
          have b9 := aK (d2 (hon 2 (by kernel_rfl)))
          have hc0_ : w'.cell? ⟨g4, 0, none⟩ = some (.bool a0_0) := (blk_cell a0.out 0).trans rfl
          have hc1_ : w'.cell? ⟨g4, 1, none⟩ = some (.slice A0_1 l0_1.length c0_1) := (blk_cell a0.out 1).trans rfl
          refine value_ (w1 := w') (v := .agg #[.bool a0_0, .slice A0_1 l0_1.length c0_1]) (wanted_on rfl rfl rfl (e47.trans (by first | rfl | (simp [*]; done)))) rfl ?_ ?_
          ·go_simp
           (try simp only [i64_w])
           try rfl
          refine hK.out _ _ ⟨v456, v460, v465, v468, v472, v477, d6, d7, d8, d9, e0, (by rw [ha.out]; exact putSel_upk 16 hb_ rfl rfl rfl), a6, a7, a8, b3, fun h0_ => absurd ((hon 2 (by kernel_rfl)).symm.trans h0_) (by decide), b4, b5, fun h0_ => absurd ((hon 2 (by kernel_rfl)).symm.trans h0_) (by decide), c1, a9, b0, b1, fun h0_ => absurd ((hon 2 (by kernel_rfl)).symm.trans h0_) (by decide), fun h0_ => absurd ((hon 2 (by kernel_rfl)).symm.trans h0_) (by decide), c3, b2, c9, d0, d1, d2, fun h0_ => absurd ((hoff 17 (by kernel_rfl)).symm.trans h0_) (by decide), fun h0_ => absurd ((hoff 18 (by kernel_rfl)).symm.trans h0_) (by decide), fun h0_ => absurd ((hoff 25 (by kernel_rfl)).symm.trans h0_) (by decide), fun h0_ => absurd ((hoff 28 (by kernel_rfl)).symm.trans h0_) (by decide), fun h0_ => absurd ((hoff 29 (by kernel_rfl)).symm.trans h0_) (by decide), fun h0_ => absurd ((hoff 34 (by kernel_rfl)).symm.trans h0_) (by decide), fun h0_ => absurd ((hoff 17 (by kernel_rfl)).symm.trans h0_) (by decide), fun h0_ => absurd ((hoff 18 (by kernel_rfl)).symm.trans h0_) (by decide), fun h0_ => absurd ((hoff 25 (by kernel_rfl)).symm.trans h0_) (by decide), fun h0_ => absurd ((hoff 29 (by kernel_rfl)).symm.trans h0_) (by decide), fun h0_ => absurd ((hoff 34 (by kernel_rfl)).symm.trans h0_) (by decide)⟩
         refine steps_cons ?_ ?_
         ·rintro b a w' ⟨v456, v460, v465, v468, v472, v477, d6, d7, d8, d9, e0, ha, a6, a7, a8, b3, e6, b4, b5, f3, c1, a9, b0, b1, e2, e1, c3, b2, c9, d0, d1, d2, f0, f2, f6, f7, f8, g2, f4, f5, f9, g1, g5⟩ hb_ hon hoff
          refine ⟨_, rfl, fun K hK => ?_⟩
          have e50 : a.tmps[50]? = some (.agg #[.bool a1_0, .slice A1_1 l1_1.length c1_1]) := by rw [ha]; exact putSel_on (e := (15, 50, .agg #[.bool a1_0, .slice A1_1 l1_1.length c1_1])) 15 rfl rfl (hon 15 (by kernel_rfl)) rfl
          have e51 : a.tmps[51]? = some (.agg #[.bool a0_0, .slice A0_1 l0_1.length c0_1]) := by rw [ha]; exact putSel_on (e := (16, 51, .agg #[.bool a0_0, .slice A0_1 l0_1.length c0_1])) 16 rfl rfl (hon 16 (by kernel_rfl)) rfl
          have e47 : a.tmps[47]? = some (.bool true) := by rw [ha]; exact putSel_on (e := (12, 47, .bool true)) 12 rfl rfl (hon 12 (by kernel_rfl)) rfl
          replace ha := aK ha
          have a3 := aK a6
          have a4 := aK a7
          have a5 := aK a8
          have b6 := aK b3
          have c0 := aK b4
          have c4 := aK b5
          have d4 := aK c1
          have a0 := aK a9
          have a1 := aK b0
          have a2 := aK b1
          have c6 := aK c3
          have HB := aK b2
          have b7 := aK (c9 (hon 2 (by kernel_rfl)))
          have c8 := aK (d0 (hon 2 (by kernel_rfl)))
          have b8 := aK (d1 (hon 2 (by kernel_rfl)))
          have b9 := aK (d2 (hon 2 (by kernel_rfl)))
          refine goes_ Try.func17 (by kernel_rfl) rfl #[.agg #[.bool a1_0, .slice A1_1 l1_1.length c1_1], .agg #[.bool a0_0, .slice A0_1 l0_1.length c0_1]] (by first | rfl | exact wanted_on rfl rfl rfl (e47.trans (by first | rfl | (simp [*]; done)))) rfl rfl (by first | (simp only [List.map_toArray, List.map_cons, List.map_nil, Act.eval, Array.getD_eq_getD_getElem?, Option.getD_some, e50, e51, e47]; done) | (simp only [List.map_toArray, List.map_cons, List.map_nil, Act.eval, Array.getD_eq_getD_getElem?, Option.getD_some, e50, e51, e47]; rfl)) ?_
          with_reducible refine (num_Add.calls k a1_0 (fun k_ => ((P0_1_ k_ ∨ P1_1_ k_ ∨ P2_1_ k_) ∨ w.heap.size ≤ k_)) _ _ l1_1 a0_0 (fun k_ => ((P0_1_ k_ ∨ P1_1_ k_ ∨ P2_1_ k_) ∨ w.heap.size ≤ k_)) _ _ l0_1 t454 t455 _ ?side1 ?side2 A20.out).mono ?_
          (case side1 => exact a4.out)
          (case side2 => exact a3.out)
          rintro e w91 ⟨v456, rfl, ho0, hb⟩
          refine ⟨_, rfl, ?_⟩
          replace a3 := aK (Kd.V_below (gV a3.out) hb)
          replace a4 := aK (Kd.V_below (gV a4.out) hb)
          replace a5 := aK (Kd.V_below (gV a5.out) hb)
          replace b6 := aK (Kd.V_below (gV b6.out) hb)
          replace b7 := aK (Kd.V_below (gV b7.out) hb)
          replace c0 := aK (Kd.V_below (gV c0.out) hb)
          replace c4 := aK (Kd.V_below (gV c4.out) hb)
          replace c8 := aK (Kd.V_below (gV c8.out) hb)
          replace d4 := aK (Kd.V_below (gV d4.out) hb)
          have g0 := aK (Kd.V_lower (Kd.V_mono (ok' := fun k_ => ((P0_1_ k_ ∨ P1_1_ k_ ∨ P2_1_ k_) ∨ w.heap.size ≤ k_)) ho0 (fun k_ hk_ => Or.elim hk_ (fun hs_ => Or.elim hs_ (fun hs_ => hs_) (fun hs_ => hs_)) (fun hn_ => (.inr (Nat.le_trans (below_size (gB HB.out)) hn_))))) (below_size (gB HB.out)))
          replace a0 := aK (blk_below (gK a0.out) hb)
          replace a1 := aK (blk_below (gK a1.out) hb)
          replace a2 := aK (blk_below (gK a2.out) hb)
          replace b8 := aK (blk_below (gK b8.out) hb)
          replace b9 := aK (blk_below (gK b9.out) hb)
          replace c6 := aK (blk_below (gK c6.out) hb)
          have n16_ := aK (below_step (gB HB.out) hb)
          clear HB
          have HB := n16_
          clear n16_
          (try clear hb)
          (try clear hb2)
          (try clear hk)
          (try clear hi)
          (try clear ho0)
          refine hK.out _ _ ⟨v456, v460, v465, v468, v472, v477, (.agg #[.bool t454, v456]), d7, d8, d9, e0, (by rw [ha.out]; exact putSel_upk 17 hb_ rfl rfl rfl), (gV a3.out), (gV a4.out), (gV a5.out), (gV b6.out), fun h0_ => absurd ((hon 2 (by kernel_rfl)).symm.trans h0_) (by decide), (gV c0.out), (gV c4.out), fun h0_ => absurd ((hon 2 (by kernel_rfl)).symm.trans h0_) (by decide), (gV d4.out), (gK a0.out), (gK a1.out), (gK a2.out), fun h0_ => absurd ((hon 2 (by kernel_rfl)).symm.trans h0_) (by decide), fun h0_ => absurd ((hon 2 (by kernel_rfl)).symm.trans h0_) (by decide), (gK c6.out), (gB HB.out), fun _ => (gV b7.out), fun _ => (gV c8.out), fun _ => (gK b8.out), fun _ => (gK b9.out), fun _ => (gV g0.out), fun h0_ => absurd ((hoff 18 (by kernel_rfl)).symm.trans h0_) (by decide), fun h0_ => absurd ((hoff 25 (by kernel_rfl)).symm.trans h0_) (by decide), fun h0_ => absurd ((hoff 28 (by kernel_rfl)).symm.trans h0_) (by decide), fun h0_ => absurd ((hoff 29 (by kernel_rfl)).symm.trans h0_) (by decide), fun h0_ => absurd ((hoff 34 (by kernel_rfl)).symm.trans h0_) (by decide), fun _ => rfl, fun h0_ => absurd ((hoff 18 (by kernel_rfl)).symm.trans h0_) (by decide), fun h0_ => absurd ((hoff 25 (by kernel_rfl)).symm.trans h0_) (by decide), fun h0_ => absurd ((hoff 29 (by kernel_rfl)).symm.trans h0_) (by decide), fun h0_ => absurd ((hoff 34 (by kernel_rfl)).symm.trans h0_) (by decide)⟩
         refine steps_cons ?_ ?_
         ·rintro b a w' ⟨v456, v460, v465, v468, v472, v477, d6, d7, d8, d9, e0, ha, a6, a7, a8, b3, e6, b4, b5, f3, c1, a9, b0, b1, e2, e1, c3, b2, c9, d0, d1, d2, f0, f2, f6, f7, f8, g2, f4, f5, f9, g1, g5⟩ hb_ hon hoff
          refine ⟨_, rfl, fun K hK => ?_⟩
          have e49 : a.tmps[49]? = some (.agg #[.bool a2_0, .slice A2_1 l2_1.length c2_1]) := by rw [ha]; exact putSel_on (e := (14, 49, .agg #[.bool a2_0, .slice A2_1 l2_1.length c2_1])) 14 rfl rfl (hon 14 (by kernel_rfl)) rfl
          have e52 : a.tmps[52]? = some (d6) := by rw [ha]; exact putSel_on (e := (17, 52, d6)) 17 rfl rfl (hon 17 (by kernel_rfl)) rfl
          rw [f4 (hon 17 (by kernel_rfl))] at e52
          have e47 : a.tmps[47]? = some (.bool true) := by rw [ha]; exact putSel_on (e := (12, 47, .bool true)) 12 rfl rfl (hon 12 (by kernel_rfl)) rfl
          replace ha := aK ha
          have a3 := aK a6
          have a4 := aK a7
          have a5 := aK a8
          have b6 := aK b3
          have c0 := aK b4
          have c4 := aK b5
          have d4 := aK c1
          have a0 := aK a9
          have a1 := aK b0
          have a2 := aK b1
          have c6 := aK c3
          have HB := aK b2
          have b7 := aK (c9 (hon 2 (by kernel_rfl)))
          have c8 := aK (d0 (hon 2 (by kernel_rfl)))
          have b8 := aK (d1 (hon 2 (by kernel_rfl)))
          have b9 := aK (d2 (hon 2 (by kernel_rfl)))
          have g0 := aK (f0 (hon 17 (by kernel_rfl)))
          obtain ⟨Ao92, co92, eo92⟩ := Kd.V_slice g0.out
          (first | subst eo92 | (injection eo92 with f1_ f2_ f3_; have f4_ := f1_.symm; have f5_ := f3_.symm; clear f1_ f2_ f3_; subst f4_; subst f5_))
          refine goes_ Try.func17 (by kernel_rfl) rfl #[.agg #[.bool a2_0, .slice A2_1 l2_1.length c2_1], .agg #[.bool t454, .slice Ao92 t455.length co92]] (by first | rfl | exact wanted_on rfl rfl rfl (e47.trans (by first | rfl | (simp [*]; done)))) rfl rfl (by first | (simp only [List.map_toArray, List.map_cons, List.map_nil, Act.eval, Array.getD_eq_getD_getElem?, Option.getD_some, e49, e52, e47]; done) | (simp only [List.map_toArray, List.map_cons, List.map_nil, Act.eval, Array.getD_eq_getD_getElem?, Option.getD_some, e49, e52, e47]; rfl)) ?_
          with_reducible refine (num_Add.calls k a2_0 (fun k_ => ((P0_1_ k_ ∨ P1_1_ k_ ∨ P2_1_ k_) ∨ w.heap.size ≤ k_)) _ _ l2_1 t454 (fun k_ => ((P0_1_ k_ ∨ P1_1_ k_ ∨ P2_1_ k_) ∨ w.heap.size ≤ k_)) _ _ t455 t458 t459 _ ?side1 ?side2 A21.out).mono ?_
          (case side1 => exact a5.out)
          (case side2 => exact g0.out)
          rintro e w93 ⟨v460, rfl, ho0, hb⟩
          refine ⟨_, rfl, ?_⟩
          replace a3 := aK (Kd.V_below (gV a3.out) hb)
          replace a4 := aK (Kd.V_below (gV a4.out) hb)
          replace a5 := aK (Kd.V_below (gV a5.out) hb)
          replace b6 := aK (Kd.V_below (gV b6.out) hb)
          replace b7 := aK (Kd.V_below (gV b7.out) hb)
          replace c0 := aK (Kd.V_below (gV c0.out) hb)
          replace c4 := aK (Kd.V_below (gV c4.out) hb)
          replace c8 := aK (Kd.V_below (gV c8.out) hb)
          replace d4 := aK (Kd.V_below (gV d4.out) hb)
          replace g0 := aK (Kd.V_below (gV g0.out) hb)
          have g3 := aK (Kd.V_lower (Kd.V_mono (ok' := fun k_ => ((P0_1_ k_ ∨ P1_1_ k_ ∨ P2_1_ k_) ∨ w.heap.size ≤ k_)) ho0 (fun k_ hk_ => Or.elim hk_ (fun hs_ => Or.elim hs_ (fun hs_ => hs_) (fun hs_ => hs_)) (fun hn_ => (.inr (Nat.le_trans (below_size (gB HB.out)) hn_))))) (below_size (gB HB.out)))
          replace a0 := aK (blk_below (gK a0.out) hb)
          replace a1 := aK (blk_below (gK a1.out) hb)
          replace a2 := aK (blk_below (gK a2.out) hb)
          replace b8 := aK (blk_below (gK b8.out) hb)
          replace b9 := aK (blk_below (gK b9.out) hb)
          replace c6 := aK (blk_below (gK c6.out) hb)
          have n17_ := aK (below_step (gB HB.out) hb)
          clear HB
          have HB := n17_
          clear n17_
          (try clear hb)
          (try clear hb2)
          (try clear hk)
          (try clear hi)
          (try clear ho0)
          refine hK.out _ _ ⟨.slice Ao92 t455.length co92, v460, v465, v468, v472, v477, d6, (.agg #[.bool t458, v460]), d8, d9, e0, (by rw [ha.out]; exact putSel_upk 18 hb_ rfl rfl rfl), (gV a3.out), (gV a4.out), (gV a5.out), (gV b6.out), fun h0_ => absurd ((hon 2 (by kernel_rfl)).symm.trans h0_) (by decide), (gV c0.out), (gV c4.out), fun h0_ => absurd ((hon 2 (by kernel_rfl)).symm.trans h0_) (by decide), (gV d4.out), (gK a0.out), (gK a1.out), (gK a2.out), fun h0_ => absurd ((hon 2 (by kernel_rfl)).symm.trans h0_) (by decide), fun h0_ => absurd ((hon 2 (by kernel_rfl)).symm.trans h0_) (by decide), (gK c6.out), (gB HB.out), fun _ => (gV b7.out), fun _ => (gV c8.out), fun _ => (gK b8.out), fun _ => (gK b9.out), fun _ => (gV g0.out), fun _ => (gV g3.out), fun h0_ => absurd ((hoff 25 (by kernel_rfl)).symm.trans h0_) (by decide), fun h0_ => absurd ((hoff 28 (by kernel_rfl)).symm.trans h0_) (by decide), fun h0_ => absurd ((hoff 29 (by kernel_rfl)).symm.trans h0_) (by decide), fun h0_ => absurd ((hoff 34 (by kernel_rfl)).symm.trans h0_) (by decide), f4, fun _ => rfl, fun h0_ => absurd ((hoff 25 (by kernel_rfl)).symm.trans h0_) (by decide), fun h0_ => absurd ((hoff 29 (by kernel_rfl)).symm.trans h0_) (by decide), fun h0_ => absurd ((hoff 34 (by kernel_rfl)).symm.trans h0_) (by decide)⟩
         refine steps_cons ?_ ?_
         ·rintro b a w' ⟨v456, v460, v465, v468, v472, v477, d6, d7, d8, d9, e0, ha, a6, a7, a8, b3, e6, b4, b5, f3, c1, a9, b0, b1, e2, e1, c3, b2, c9, d0, d1, d2, f0, f2, f6, f7, f8, g2, f4, f5, f9, g1, g5⟩ hb_ hon hoff
          refine ⟨_, rfl, fun K hK => ?_⟩
          have e48 : a.tmps[48]? = some (.agg #[.bool t446, .slice Ao82 t447.length co82]) := by rw [ha]; exact putSel_on (e := (13, 48, .agg #[.bool t446, .slice Ao82 t447.length co82])) 13 rfl rfl (hon 13 (by kernel_rfl)) rfl
          have e53 : a.tmps[53]? = some (d7) := by rw [ha]; exact putSel_on (e := (18, 53, d7)) 18 rfl rfl (hon 18 (by kernel_rfl)) rfl
          rw [f5 (hon 18 (by kernel_rfl))] at e53
          have e47 : a.tmps[47]? = some (.bool true) := by rw [ha]; exact putSel_on (e := (12, 47, .bool true)) 12 rfl rfl (hon 12 (by kernel_rfl)) rfl
          replace ha := aK ha
          have a3 := aK a6
          have a4 := aK a7
          have a5 := aK a8
          have b6 := aK b3
          have c0 := aK b4
          have c4 := aK b5
          have d4 := aK c1
          have a0 := aK a9
          have a1 := aK b0
          have a2 := aK b1
          have c6 := aK c3
          have HB := aK b2
          have b7 := aK (c9 (hon 2 (by kernel_rfl)))
          have c8 := aK (d0 (hon 2 (by kernel_rfl)))
          have b8 := aK (d1 (hon 2 (by kernel_rfl)))
          have b9 := aK (d2 (hon 2 (by kernel_rfl)))
          have g0 := aK (f0 (hon 17 (by kernel_rfl)))
          have g3 := aK (f2 (hon 18 (by kernel_rfl)))
          obtain ⟨Ao94, co94, eo94⟩ := Kd.V_slice g3.out
          (first | subst eo94 | (injection eo94 with f1_ f2_ f3_; have f4_ := f1_.symm; have f5_ := f3_.symm; clear f1_ f2_ f3_; subst f4_; subst f5_))
          refine goes_ Try.func14 (by kernel_rfl) rfl #[.agg #[.bool t446, .slice Ao82 t447.length co82], .agg #[.bool t458, .slice Ao94 t459.length co94]] (by first | rfl | exact wanted_on rfl rfl rfl (e47.trans (by first | rfl | (simp [*]; done)))) rfl rfl (by first | (simp only [List.map_toArray, List.map_cons, List.map_nil, Act.eval, Array.getD_eq_getD_getElem?, Option.getD_some, e48, e53, e47]; done) | (simp only [List.map_toArray, List.map_cons, List.map_nil, Act.eval, Array.getD_eq_getD_getElem?, Option.getD_some, e48, e53, e47]; rfl)) ?_
          with_reducible refine (num_Cmp.calls k t446 _ _ t447 t458 _ _ t459 t462 _ ?side1 ?side2 ?side3 ?side4 A22.out).mono ?_
          (case side1 => repeat (first | exact (Kd.V_reads' d4.out).2.2 | apply Kd.C_alloc | apply Kd.C_drewN | apply Kd.C_drew))
          (case side2 => exact (Kd.V_reads' d4.out).2.1)
          (case side3 => repeat (first | exact (Kd.V_reads' g3.out).2.2 | apply Kd.C_alloc | apply Kd.C_drewN | apply Kd.C_drew))
          (case side4 => exact (Kd.V_reads' g3.out).2.1)
          rintro e w95 ⟨rfl, hb⟩
          refine ⟨_, rfl, ?_⟩
          replace a3 := aK (Kd.V_below (gV a3.out) hb)
          replace a4 := aK (Kd.V_below (gV a4.out) hb)
          replace a5 := aK (Kd.V_below (gV a5.out) hb)
          replace b6 := aK (Kd.V_below (gV b6.out) hb)
          replace b7 := aK (Kd.V_below (gV b7.out) hb)
          replace c0 := aK (Kd.V_below (gV c0.out) hb)
          replace c4 := aK (Kd.V_below (gV c4.out) hb)
          replace c8 := aK (Kd.V_below (gV c8.out) hb)
          replace d4 := aK (Kd.V_below (gV d4.out) hb)
          replace g0 := aK (Kd.V_below (gV g0.out) hb)
          replace g3 := aK (Kd.V_below (gV g3.out) hb)
          replace a0 := aK (blk_below (gK a0.out) hb)
          replace a1 := aK (blk_below (gK a1.out) hb)
          replace a2 := aK (blk_below (gK a2.out) hb)
          replace b8 := aK (blk_below (gK b8.out) hb)
          replace b9 := aK (blk_below (gK b9.out) hb)
          replace c6 := aK (blk_below (gK c6.out) hb)
          replace HB := aK (below_step (gB HB.out) hb)
          (try clear hb)
          (try clear hb2)
          (try clear hk)
          (try clear hi)
          refine hK.out _ _ ⟨v456, .slice Ao94 t459.length co94, v465, v468, v472, v477, d6, d7, d8, d9, e0, (by rw [ha.out]; exact putSel_upk 19 hb_ rfl rfl rfl), (gV a3.out), (gV a4.out), (gV a5.out), (gV b6.out), fun h0_ => absurd ((hon 2 (by kernel_rfl)).symm.trans h0_) (by decide), (gV c0.out), (gV c4.out), fun h0_ => absurd ((hon 2 (by kernel_rfl)).symm.trans h0_) (by decide), (gV d4.out), (gK a0.out), (gK a1.out), (gK a2.out), fun h0_ => absurd ((hon 2 (by kernel_rfl)).symm.trans h0_) (by decide), fun h0_ => absurd ((hon 2 (by kernel_rfl)).symm.trans h0_) (by decide), (gK c6.out), (gB HB.out), fun _ => (gV b7.out), fun _ => (gV c8.out), fun _ => (gK b8.out), fun _ => (gK b9.out), fun _ => (gV g0.out), fun _ => (gV g3.out), fun h0_ => absurd ((hoff 25 (by kernel_rfl)).symm.trans h0_) (by decide), fun h0_ => absurd ((hoff 28 (by kernel_rfl)).symm.trans h0_) (by decide), fun h0_ => absurd ((hoff 29 (by kernel_rfl)).symm.trans h0_) (by decide), fun h0_ => absurd ((hoff 34 (by kernel_rfl)).symm.trans h0_) (by decide), f4, f5, fun h0_ => absurd ((hoff 25 (by kernel_rfl)).symm.trans h0_) (by decide), fun h0_ => absurd ((hoff 29 (by kernel_rfl)).symm.trans h0_) (by decide), fun h0_ => absurd ((hoff 34 (by kernel_rfl)).symm.trans h0_) (by decide)⟩
         refine steps_cons ?_ ?_
         ·rintro b a w' ⟨v456, v460, v465, v468, v472, v477, d6, d7, d8, d9, e0, ha, a6, a7, a8, b3, e6, b4, b5, f3, c1, a9, b0, b1, e2, e1, c3, b2, c9, d0, d1, d2, f0, f2, f6, f7, f8, g2, f4, f5, f9, g1, g5⟩ hb_ hon hoff
          refine ⟨_, rfl, fun K hK => ?_⟩
          have e54 : a.tmps[54]? = some (.int .i64 t462) := by rw [ha]; exact putSel_on (e := (19, 54, .int .i64 t462)) 19 rfl rfl (hon 19 (by kernel_rfl)) rfl
          have e47 : a.tmps[47]? = some (.bool true) := by rw [ha]; exact putSel_on (e := (12, 47, .bool true)) 12 rfl rfl (hon 12 (by kernel_rfl)) rfl
          replace ha := aK ha
          have a3 := aK a6
          have a4 := aK a7
          have a5 := aK a8
          have b6 := aK b3
          have c0 := aK b4
          have c4 := aK b5
          have d4 := aK c1
          have a0 := aK a9
          have a1 := aK b0
          have a2 := aK b1
          have c6 := aK c3
          have HB := aK b2
          have b7 := aK (c9 (hon 2 (by kernel_rfl)))
          have c8 := aK (d0 (hon 2 (by kernel_rfl)))
          have b8 := aK (d1 (hon 2 (by kernel_rfl)))
          have b9 := aK (d2 (hon 2 (by kernel_rfl)))
          have g0 := aK (f0 (hon 17 (by kernel_rfl)))
          have g3 := aK (f2 (hon 18 (by kernel_rfl)))
          refine value_ (w1 := w') (v := .bool (t462 == 0)) (wanted_on rfl rfl rfl (e47.trans (by first | rfl | (simp [*]; done)))) rfl ?_ ?_
          ·go_simp
           (try simp only [i64_w])
           try rfl
          refine hK.out _ _ ⟨v456, v460, v465, v468, v472, v477, d6, d7, d8, d9, e0, (by rw [ha.out]; exact putSel_upk 20 hb_ rfl rfl rfl), a6, a7, a8, b3, fun h0_ => absurd ((hon 2 (by kernel_rfl)).symm.trans h0_) (by decide), b4, b5, fun h0_ => absurd ((hon 2 (by kernel_rfl)).symm.trans h0_) (by decide), c1, a9, b0, b1, fun h0_ => absurd ((hon 2 (by kernel_rfl)).symm.trans h0_) (by decide), fun h0_ => absurd ((hon 2 (by kernel_rfl)).symm.trans h0_) (by decide), c3, b2, c9, d0, d1, d2, f0, f2, fun h0_ => absurd ((hoff 25 (by kernel_rfl)).symm.trans h0_) (by decide), fun h0_ => absurd ((hoff 28 (by kernel_rfl)).symm.trans h0_) (by decide), fun h0_ => absurd ((hoff 29 (by kernel_rfl)).symm.trans h0_) (by decide), fun h0_ => absurd ((hoff 34 (by kernel_rfl)).symm.trans h0_) (by decide), f4, f5, fun h0_ => absurd ((hoff 25 (by kernel_rfl)).symm.trans h0_) (by decide), fun h0_ => absurd ((hoff 29 (by kernel_rfl)).symm.trans h0_) (by decide), fun h0_ => absurd ((hoff 34 (by kernel_rfl)).symm.trans h0_) (by decide)⟩
         refine steps_cons ?_ ?_
         ·rintro b a w' ⟨v456, v460, v465, v468, v472, v477, d6, d7, d8, d9, e0, ha, a6, a7, a8, b3, e6, b4, b5, f3, c1, a9, b0, b1, e2, e1, c3, b2, c9, d0, d1, d2, f0, f2, f6, f7, f8, g2, f4, f5, f9, g1, g5⟩ hb_ hon hoff
          refine ⟨_, rfl, fun K hK => ?_⟩
          have e47 : a.tmps[47]? = some (.bool true) := by rw [ha]; exact putSel_on (e := (12, 47, .bool true)) 12 rfl rfl (hon 12 (by kernel_rfl)) rfl
          have e55 : a.tmps[55]? = some (.bool (t462 == 0)) := by rw [ha]; exact putSel_on (e := (20, 55, .bool (t462 == 0))) 20 rfl rfl (hon 20 (by kernel_rfl)) rfl
          replace ha := aK ha
          have a3 := aK a6
          have a4 := aK a7
          have a5 := aK a8
          have b6 := aK b3
          have c0 := aK b4
          have c4 := aK b5
          have d4 := aK c1
          have a0 := aK a9
          have a1 := aK b0
          have a2 := aK b1
          have c6 := aK c3
          have HB := aK b2
          have b7 := aK (c9 (hon 2 (by kernel_rfl)))
          have c8 := aK (d0 (hon 2 (by kernel_rfl)))
          have b8 := aK (d1 (hon 2 (by kernel_rfl)))
          have b9 := aK (d2 (hon 2 (by kernel_rfl)))
          have g0 := aK (f0 (hon 17 (by kernel_rfl)))
          have g3 := aK (f2 (hon 18 (by kernel_rfl)))
          refine value_ (w1 := w') (v := .bool (t462 == 0)) (by rfl) rfl ?_ ?_
          ·go_simp
           (try simp only [i64_w])
           try rfl
          refine hK.out _ _ ⟨v456, v460, v465, v468, v472, v477, d6, d7, d8, d9, e0, (by rw [ha.out]; exact putSel_upk 21 hb_ rfl rfl rfl), a6, a7, a8, b3, fun h0_ => absurd ((hon 2 (by kernel_rfl)).symm.trans h0_) (by decide), b4, b5, fun h0_ => absurd ((hon 2 (by kernel_rfl)).symm.trans h0_) (by decide), c1, a9, b0, b1, fun h0_ => absurd ((hon 2 (by kernel_rfl)).symm.trans h0_) (by decide), fun h0_ => absurd ((hon 2 (by kernel_rfl)).symm.trans h0_) (by decide), c3, b2, c9, d0, d1, d2, f0, f2, fun h0_ => absurd ((hoff 25 (by kernel_rfl)).symm.trans h0_) (by decide), fun h0_ => absurd ((hoff 28 (by kernel_rfl)).symm.trans h0_) (by decide), fun h0_ => absurd ((hoff 29 (by kernel_rfl)).symm.trans h0_) (by decide), fun h0_ => absurd ((hoff 34 (by kernel_rfl)).symm.trans h0_) (by decide), f4, f5, fun h0_ => absurd ((hoff 25 (by kernel_rfl)).symm.trans h0_) (by decide), fun h0_ => absurd ((hoff 29 (by kernel_rfl)).symm.trans h0_) (by decide), fun h0_ => absurd ((hoff 34 (by kernel_rfl)).symm.trans h0_) (by decide)⟩
         refine steps_cons ?_ ?_
         ·rintro b a w' ⟨v456, v460, v465, v468, v472, v477, d6, d7, d8, d9, e0, ha, a6, a7, a8, b3, e6, b4, b5, f3, c1, a9, b0, b1, e2, e1, c3, b2, c9, d0, d1, d2, f0, f2, f6, f7, f8, g2, f4, f5, f9, g1, g5⟩ hb_ hon hoff
          refine ⟨_, rfl, fun K hK => ?_⟩
          have e56 : a.tmps[56]? = some (.bool (t462 == 0)) := by rw [ha]; exact putSel_on (e := (21, 56, .bool (t462 == 0))) 21 rfl rfl (hon 21 (by kernel_rfl)) rfl
          replace ha := aK ha
          have a3 := aK a6
          have a4 := aK a7
          have a5 := aK a8
          have b6 := aK b3
          have c0 := aK b4
          have c4 := aK b5
          have d4 := aK c1
          have a0 := aK a9
          have a1 := aK b0
          have a2 := aK b1
          have c6 := aK c3
          have HB := aK b2
          have b7 := aK (c9 (hon 2 (by kernel_rfl)))
          have c8 := aK (d0 (hon 2 (by kernel_rfl)))
          have b8 := aK (d1 (hon 2 (by kernel_rfl)))
          have b9 := aK (d2 (hon 2 (by kernel_rfl)))
          have g0 := aK (f0 (hon 17 (by kernel_rfl)))
          have g3 := aK (f2 (hon 18 (by kernel_rfl)))
          refine value_ (w1 := w') (v := .bool (t462 == 0)) (by rfl) rfl ?_ ?_
          ·go_simp
           (try simp only [i64_w])
           try rfl
          refine hK.out _ _ ⟨v456, v460, v465, v468, v472, v477, d6, d7, d8, d9, e0, (by rw [ha.out]; exact putSel_upk 22 hb_ rfl rfl rfl), a6, a7, a8, b3, fun h0_ => absurd ((hon 2 (by kernel_rfl)).symm.trans h0_) (by decide), b4, b5, fun h0_ => absurd ((hon 2 (by kernel_rfl)).symm.trans h0_) (by decide), c1, a9, b0, b1, fun h0_ => absurd ((hon 2 (by kernel_rfl)).symm.trans h0_) (by decide), fun h0_ => absurd ((hon 2 (by kernel_rfl)).symm.trans h0_) (by decide), c3, b2, c9, d0, d1, d2, f0, f2, fun h0_ => absurd ((hoff 25 (by kernel_rfl)).symm.trans h0_) (by decide), fun h0_ => absurd ((hoff 28 (by kernel_rfl)).symm.trans h0_) (by decide), fun h0_ => absurd ((hoff 29 (by kernel_rfl)).symm.trans h0_) (by decide), fun h0_ => absurd ((hoff 34 (by kernel_rfl)).symm.trans h0_) (by decide), f4, f5, fun h0_ => absurd ((hoff 25 (by kernel_rfl)).symm.trans h0_) (by decide), fun h0_ => absurd ((hoff 29 (by kernel_rfl)).symm.trans h0_) (by decide), fun h0_ => absurd ((hoff 34 (by kernel_rfl)).symm.trans h0_) (by decide)⟩
         refine steps_cons ?_ ?_
         ·rintro b a w' ⟨v456, v460, v465, v468, v472, v477, d6, d7, d8, d9, e0, ha, a6, a7, a8, b3, e6, b4, b5, f3, c1, a9, b0, b1, e2, e1, c3, b2, c9, d0, d1, d2, f0, f2, f6, f7, f8, g2, f4, f5, f9, g1, g5⟩ hb_ hon hoff
          refine ⟨_, rfl, fun K hK => ?_⟩
          have e9 : a.tmps[9]? = some (.pointer (some ⟨f1, 0, none⟩)) := by rw [ha]; exact (putSel_off rfl).trans rfl
          have e57 : a.tmps[57]? = some (.bool (t462 == 0)) := by rw [ha]; exact putSel_on (e := (22, 57, .bool (t462 == 0))) 22 rfl rfl (hon 22 (by kernel_rfl)) rfl
          replace ha := aK ha
          have a3 := aK a6
          have a4 := aK a7
          have a5 := aK a8
          have b6 := aK b3
          have c0 := aK b4
          have c4 := aK b5
          have d4 := aK c1
          have a0 := aK a9
          have a1 := aK b0
          have a2 := aK b1
          have c6 := aK c3
          have HB := aK b2
          have b7 := aK (c9 (hon 2 (by kernel_rfl)))
          have c8 := aK (d0 (hon 2 (by kernel_rfl)))
          have b8 := aK (d1 (hon 2 (by kernel_rfl)))
          have b9 := aK (d2 (hon 2 (by kernel_rfl)))
          have g0 := aK (f0 (hon 17 (by kernel_rfl)))
          have g3 := aK (f2 (hon 18 (by kernel_rfl)))
          have hc0_ : w'.cell? ⟨f1, 0, none⟩ = some (.bool t446) := (blk_cell c6.out 0).trans rfl
          have hc1_ : w'.cell? ⟨f1, 1, none⟩ = some (.slice Ao82 t447.length co82) := (blk_cell c6.out 1).trans rfl
          refine value_ (w1 := w') (v := .agg #[.bool t446, .slice Ao82 t447.length co82]) (wanted_on rfl rfl rfl (e57.trans (by first | rfl | (simp [*]; done)))) rfl ?_ ?_
          ·go_simp
           (try simp only [i64_w])
           try rfl
          refine hK.out _ _ ⟨v456, v460, v465, v468, v472, v477, d6, d7, d8, d9, e0, (by rw [ha.out]; exact putSel_upk 23 hb_ rfl rfl rfl), a6, a7, a8, b3, fun h0_ => absurd ((hon 2 (by kernel_rfl)).symm.trans h0_) (by decide), b4, b5, fun h0_ => absurd ((hon 2 (by kernel_rfl)).symm.trans h0_) (by decide), c1, a9, b0, b1, fun h0_ => absurd ((hon 2 (by kernel_rfl)).symm.trans h0_) (by decide), fun h0_ => absurd ((hon 2 (by kernel_rfl)).symm.trans h0_) (by decide), c3, b2, c9, d0, d1, d2, f0, f2, fun h0_ => absurd ((hoff 25 (by kernel_rfl)).symm.trans h0_) (by decide), f7, fun h0_ => absurd ((hoff 29 (by kernel_rfl)).symm.trans h0_) (by decide), fun h0_ => absurd ((hoff 34 (by kernel_rfl)).symm.trans h0_) (by decide), f4, f5, fun h0_ => absurd ((hoff 25 (by kernel_rfl)).symm.trans h0_) (by decide), fun h0_ => absurd ((hoff 29 (by kernel_rfl)).symm.trans h0_) (by decide), fun h0_ => absurd ((hoff 34 (by kernel_rfl)).symm.trans h0_) (by decide)⟩
         refine steps_cons ?_ ?_
         ·rintro b a w' ⟨v456, v460, v465, v468, v472, v477, d6, d7, d8, d9, e0, ha, a6, a7, a8, b3, e6, b4, b5, f3, c1, a9, b0, b1, e2, e1, c3, b2, c9, d0, d1, d2, f0, f2, f6, f7, f8, g2, f4, f5, f9, g1, g5⟩ hb_ hon hoff
          refine ⟨_, rfl, fun K hK => ?_⟩
          have e5 : a.tmps[5]? = some (.pointer (some ⟨g7, 0, none⟩)) := by rw [ha]; exact (putSel_off rfl).trans rfl
          have e57 : a.tmps[57]? = some (.bool (t462 == 0)) := by rw [ha]; exact putSel_on (e := (22, 57, .bool (t462 == 0))) 22 rfl rfl (hon 22 (by kernel_rfl)) rfl
          replace ha := aK ha
          have a3 := aK a6
          have a4 := aK a7
          have a5 := aK a8
          have b6 := aK b3
          have c0 := aK b4
          have c4 := aK b5
          have d4 := aK c1
          have a0 := aK a9
          have a1 := aK b0
          have a2 := aK b1
          have c6 := aK c3
          have HB := aK b2
          have b7 := aK (c9 (hon 2 (by kernel_rfl)))
          have c8 := aK (d0 (hon 2 (by kernel_rfl)))
          have b8 := aK (d1 (hon 2 (by kernel_rfl)))
          have b9 := aK (d2 (hon 2 (by kernel_rfl)))
          have g0 := aK (f0 (hon 17 (by kernel_rfl)))
          have g3 := aK (f2 (hon 18 (by kernel_rfl)))
          have hc0_ : w'.cell? ⟨g7, 0, none⟩ = some (.bool a2_0) := (blk_cell a2.out 0).trans rfl
          have hc1_ : w'.cell? ⟨g7, 1, none⟩ = some (.slice A2_1 l2_1.length c2_1) := (blk_cell a2.out 1).trans rfl
          refine value_ (w1 := w') (v := .agg #[.bool a2_0, .slice A2_1 l2_1.length c2_1]) (wanted_on rfl rfl rfl (e57.trans (by first | rfl | (simp [*]; done)))) rfl ?_ ?_
          ·go_simp
           (try simp only [i64_w])
           try rfl
          refine hK.out _ _ ⟨v456, v460, v465, v468, v472, v477, d6, d7, d8, d9, e0, (by rw [ha.out]; exact putSel_upk 24 hb_ rfl rfl rfl), a6, a7, a8, b3, fun h0_ => absurd ((hon 2 (by kernel_rfl)).symm.trans h0_) (by decide), b4, b5, fun h0_ => absurd ((hon 2 (by kernel_rfl)).symm.trans h0_) (by decide), c1, a9, b0, b1, fun h0_ => absurd ((hon 2 (by kernel_rfl)).symm.trans h0_) (by decide), fun h0_ => absurd ((hon 2 (by kernel_rfl)).symm.trans h0_) (by decide), c3, b2, c9, d0, d1, d2, f0, f2, fun h0_ => absurd ((hoff 25 (by kernel_rfl)).symm.trans h0_) (by decide), f7, fun h0_ => absurd ((hoff 29 (by kernel_rfl)).symm.trans h0_) (by decide), fun h0_ => absurd ((hoff 34 (by kernel_rfl)).symm.trans h0_) (by decide), f4, f5, fun h0_ => absurd ((hoff 25 (by kernel_rfl)).symm.trans h0_) (by decide), fun h0_ => absurd ((hoff 29 (by kernel_rfl)).symm.trans h0_) (by decide), fun h0_ => absurd ((hoff 34 (by kernel_rfl)).symm.trans h0_) (by decide)⟩
         refine steps_cons ?_ ?_
         ·rintro b a w' ⟨v456, v460, v465, v468, v472, v477, d6, d7, d8, d9, e0, ha, a6, a7, a8, b3, e6, b4, b5, f3, c1, a9, b0, b1, e2, e1, c3, b2, c9, d0, d1, d2, f0, f2, f6, f7, f8, g2, f4, f5, f9, g1, g5⟩ hb_ hon hoff
          refine ⟨_, rfl, fun K hK => ?_⟩
          have e58 : a.tmps[58]? = some (.agg #[.bool t446, .slice Ao82 t447.length co82]) := by rw [ha]; exact putSel_on (e := (23, 58, .agg #[.bool t446, .slice Ao82 t447.length co82])) 23 rfl rfl (hon 23 (by kernel_rfl)) rfl
          have e59 : a.tmps[59]? = some (.agg #[.bool a2_0, .slice A2_1 l2_1.length c2_1]) := by rw [ha]; exact putSel_on (e := (24, 59, .agg #[.bool a2_0, .slice A2_1 l2_1.length c2_1])) 24 rfl rfl (hon 24 (by kernel_rfl)) rfl
          have e57 : a.tmps[57]? = some (.bool (t462 == 0)) := by rw [ha]; exact putSel_on (e := (22, 57, .bool (t462 == 0))) 22 rfl rfl (hon 22 (by kernel_rfl)) rfl
          replace ha := aK ha
          have a3 := aK a6
          have a4 := aK a7
          have a5 := aK a8
          have b6 := aK b3
          have c0 := aK b4
          have c4 := aK b5
          have d4 := aK c1
          have a0 := aK a9
          have a1 := aK b0
          have a2 := aK b1
          have c6 := aK c3
          have HB := aK b2
          have b7 := aK (c9 (hon 2 (by kernel_rfl)))
          have c8 := aK (d0 (hon 2 (by kernel_rfl)))
          have b8 := aK (d1 (hon 2 (by kernel_rfl)))
          have b9 := aK (d2 (hon 2 (by kernel_rfl)))
          have g0 := aK (f0 (hon 17 (by kernel_rfl)))
          have g3 := aK (f2 (hon 18 (by kernel_rfl)))
          refine goes_ Try.func16 (by kernel_rfl) rfl #[.agg #[.bool t446, .slice Ao82 t447.length co82], .agg #[.bool a2_0, .slice A2_1 l2_1.length c2_1]] (by first | rfl | exact wanted_on rfl rfl rfl (e57.trans (by first | rfl | (simp [*]; done)))) rfl rfl (by first | (simp only [List.map_toArray, List.map_cons, List.map_nil, Act.eval, Array.getD_eq_getD_getElem?, Option.getD_some, e58, e59, e57]; done) | (simp only [List.map_toArray, List.map_cons, List.map_nil, Act.eval, Array.getD_eq_getD_getElem?, Option.getD_some, e58, e59, e57]; rfl)) ?_
          with_reducible refine (num_Sub.calls k t446 (fun k_ => ((P0_1_ k_ ∨ P1_1_ k_ ∨ P2_1_ k_) ∨ w.heap.size ≤ k_)) _ _ t447 a2_0 (fun k_ => ((P0_1_ k_ ∨ P1_1_ k_ ∨ P2_1_ k_) ∨ w.heap.size ≤ k_)) _ _ l2_1 t463 t464 _ ?side1 ?side2 A24.out).mono ?_
          (case side1 => exact d4.out)
          (case side2 => exact a5.out)
          rintro e w96 ⟨v465, rfl, ho0, hb⟩
          refine ⟨_, rfl, ?_⟩
          have n0_ := aK (Kd.V_below (gV a3.out) hb)
          have n1_ := aK (Kd.V_below (gV a4.out) hb)
          have n2_ := aK (Kd.V_below (gV a5.out) hb)
          have n3_ := aK (Kd.V_below (gV b6.out) hb)
          have n4_ := aK (Kd.V_below (gV b7.out) hb)
          have n5_ := aK (Kd.V_below (gV c0.out) hb)
          have n6_ := aK (Kd.V_below (gV c4.out) hb)
          have n7_ := aK (Kd.V_below (gV c8.out) hb)
          have n8_ := aK (Kd.V_below (gV d4.out) hb)
          have n9_ := aK (Kd.V_below (gV g0.out) hb)
          have n10_ := aK (Kd.V_below (gV g3.out) hb)
          have n11_ := aK (Kd.V_lower (Kd.V_mono (ok' := fun k_ => ((P0_1_ k_ ∨ P1_1_ k_ ∨ P2_1_ k_) ∨ w.heap.size ≤ k_)) ho0 (fun k_ hk_ => Or.elim hk_ (fun hs_ => Or.elim hs_ (fun hs_ => hs_) (fun hs_ => hs_)) (fun hn_ => (.inr (Nat.le_trans (below_size (gB HB.out)) hn_))))) (below_size (gB HB.out)))
          have n12_ := aK (blk_below (gK a0.out) hb)
          have n13_ := aK (blk_below (gK a1.out) hb)
          have n14_ := aK (blk_below (gK a2.out) hb)
          have n15_ := aK (blk_below (gK b8.out) hb)
          have n16_ := aK (blk_below (gK b9.out) hb)
          have n17_ := aK (blk_below (gK c6.out) hb)
          have n18_ := aK (below_step (gB HB.out) hb)
          have y0 := fun (h0_ : b 28 = true) => (show Kd.N k25 25 w96 w.heap.size (fun k_ => ((P0_1_ k_ ∨ P1_1_ k_ ∨ P2_1_ k_) ∨ w.heap.size ≤ k_)) v468 y467 from by first | exact (Kd.N_below (gN (f7 h0_)) hb) | exact Kd.N_mono (Kd.N_below (gN (f7 h0_)) hb) (fun _ h_ => by first | trivial | exact h_ | exact h_.1))
          clear a3
          clear a4
          clear a5
          clear b6
          clear b7
          clear c0
          clear c4
          clear c8
          clear d4
          clear g0
          clear g3
          clear a0
          clear a1
          clear a2
          clear b8
          clear b9
          clear c6
          clear HB
          have a3 := n0_
          have a4 := n1_
          have a5 := n2_
          have b6 := n3_
          have b7 := n4_
          have c0 := n5_
          have c4 := n6_
          have c8 := n7_
          have d4 := n8_
          have g0 := n9_
          have g3 := n10_
          have l5 := n11_
          have a0 := n12_
          have a1 := n13_
          have a2 := n14_
          have b8 := n15_
          have b9 := n16_
          have c6 := n17_
          have HB := n18_
          clear n0_ n1_ n2_ n3_ n4_ n5_ n6_ n7_ n8_ n9_ n10_ n11_ n12_ n13_ n14_ n15_ n16_ n17_ n18_
          (try clear hb)
          (try clear hb2)
          (try clear hk)
          (try clear hi)
          (try clear ho0)
          refine hK.out _ _ ⟨v456, v460, v465, v468, v472, v477, d6, d7, (.agg #[.bool t463, v465]), d9, e0, (by rw [ha.out]; exact putSel_upk 25 hb_ rfl rfl rfl), (gV a3.out), (gV a4.out), (gV a5.out), (gV b6.out), fun h0_ => absurd ((hon 2 (by kernel_rfl)).symm.trans h0_) (by decide), (gV c0.out), (gV c4.out), fun h0_ => absurd ((hon 2 (by kernel_rfl)).symm.trans h0_) (by decide), (gV d4.out), (gK a0.out), (gK a1.out), (gK a2.out), fun h0_ => absurd ((hon 2 (by kernel_rfl)).symm.trans h0_) (by decide), fun h0_ => absurd ((hon 2 (by kernel_rfl)).symm.trans h0_) (by decide), (gK c6.out), (gB HB.out), fun _ => (gV b7.out), fun _ => (gV c8.out), fun _ => (gK b8.out), fun _ => (gK b9.out), fun _ => (gV g0.out), fun _ => (gV g3.out), fun _ => (gV l5.out), y0, fun h0_ => absurd ((hoff 29 (by kernel_rfl)).symm.trans h0_) (by decide), fun h0_ => absurd ((hoff 34 (by kernel_rfl)).symm.trans h0_) (by decide), f4, f5, fun _ => rfl, fun h0_ => absurd ((hoff 29 (by kernel_rfl)).symm.trans h0_) (by decide), fun h0_ => absurd ((hoff 34 (by kernel_rfl)).symm.trans h0_) (by decide)⟩
         refine steps_cons ?_ ?_
         ·rintro b a w' ⟨v456, v460, v465, v468, v472, v477, d6, d7, d8, d9, e0, ha, a6, a7, a8, b3, e6, b4, b5, f3, c1, a9, b0, b1, e2, e1, c3, b2, c9, d0, d1, d2, f0, f2, f6, f7, f8, g2, f4, f5, f9, g1, g5⟩ hb_ hon hoff
          refine ⟨_, rfl, fun K hK => ?_⟩
          have e4 : a.tmps[4]? = some (.pointer (some ⟨g6, 0, none⟩)) := by rw [ha]; exact (putSel_off rfl).trans rfl
          have e57 : a.tmps[57]? = some (.bool (t462 == 0)) := by rw [ha]; exact putSel_on (e := (22, 57, .bool (t462 == 0))) 22 rfl rfl (hon 22 (by kernel_rfl)) rfl
          replace ha := aK ha
          have a3 := aK a6
          have a4 := aK a7
          have a5 := aK a8
          have b6 := aK b3
          have c0 := aK b4
          have c4 := aK b5
          have d4 := aK c1
          have a0 := aK a9
          have a1 := aK b0
          have a2 := aK b1
          have c6 := aK c3
          have HB := aK b2
          have b7 := aK (c9 (hon 2 (by kernel_rfl)))
          have c8 := aK (d0 (hon 2 (by kernel_rfl)))
          have b8 := aK (d1 (hon 2 (by kernel_rfl)))
          have b9 := aK (d2 (hon 2 (by kernel_rfl)))
          have g0 := aK (f0 (hon 17 (by kernel_rfl)))
          have g3 := aK (f2 (hon 18 (by kernel_rfl)))
          have hc0_ : w'.cell? ⟨g6, 0, none⟩ = some (.bool a1_0) := (blk_cell a1.out 0).trans rfl
          have hc1_ : w'.cell? ⟨g6, 1, none⟩ = some (.slice A1_1 l1_1.length c1_1) := (blk_cell a1.out 1).trans rfl
          refine value_ (w1 := w') (v := .agg #[.bool a1_0, .slice A1_1 l1_1.length c1_1]) (wanted_on rfl rfl rfl (e57.trans (by first | rfl | (simp [*]; done)))) rfl ?_ ?_
          ·go_simp
           (try simp only [i64_w])
           try rfl
          refine hK.out _ _ ⟨v456, v460, v465, v468, v472, v477, d6, d7, d8, d9, e0, (by rw [ha.out]; exact putSel_upk 26 hb_ rfl rfl rfl), a6, a7, a8, b3, fun h0_ => absurd ((hon 2 (by kernel_rfl)).symm.trans h0_) (by decide), b4, b5, fun h0_ => absurd ((hon 2 (by kernel_rfl)).symm.trans h0_) (by decide), c1, a9, b0, b1, fun h0_ => absurd ((hon 2 (by kernel_rfl)).symm.trans h0_) (by decide), fun h0_ => absurd ((hon 2 (by kernel_rfl)).symm.trans h0_) (by decide), c3, b2, c9, d0, d1, d2, f0, f2, f6, fun h0_ => absurd ((hoff 28 (by kernel_rfl)).symm.trans h0_) (by decide), fun h0_ => absurd ((hoff 29 (by kernel_rfl)).symm.trans h0_) (by decide), fun h0_ => absurd ((hoff 34 (by kernel_rfl)).symm.trans h0_) (by decide), f4, f5, f9, fun h0_ => absurd ((hoff 29 (by kernel_rfl)).symm.trans h0_) (by decide), fun h0_ => absurd ((hoff 34 (by kernel_rfl)).symm.trans h0_) (by decide)⟩
         refine steps_cons ?_ ?_
         ·rintro b a w' ⟨v456, v460, v465, v468, v472, v477, d6, d7, d8, d9, e0, ha, a6, a7, a8, b3, e6, b4, b5, f3, c1, a9, b0, b1, e2, e1, c3, b2, c9, d0, d1, d2, f0, f2, f6, f7, f8, g2, f4, f5, f9, g1, g5⟩ hb_ hon hoff
          refine ⟨_, rfl, fun K hK => ?_⟩
          have e3 : a.tmps[3]? = some (.pointer (some ⟨g4, 0, none⟩)) := by rw [ha]; exact (putSel_off rfl).trans rfl
          have e57 : a.tmps[57]? = some (.bool (t462 == 0)) := by rw [ha]; exact putSel_on (e := (22, 57, .bool (t462 == 0))) 22 rfl rfl (hon 22 (by kernel_rfl)) rfl
          replace ha := aK ha
          have a3 := aK a6
          have a4 := aK a7
          have a5 := aK a8
          have b6 := aK b3
          have c0 := aK b4
          have c4 := aK b5
          have d4 := aK c1
          have a0 := aK a9
          have a1 := aK b0
          have a2 := aK b1
          have c6 := aK c3
          have HB := aK b2
          have b7 := aK (c9 (hon 2 (by kernel_rfl)))
          have c8 := aK (d0 (hon 2 (by kernel_rfl)))
          have b8 := aK (d1 (hon 2 (by kernel_rfl)))
          have b9 := aK (d2 (hon 2 (by kernel_rfl)))
          have g0 := aK (f0 (hon 17 (by kernel_rfl)))
          have g3 := aK (f2 (hon 18 (by kernel_rfl)))
          have hc0_ : w'.cell? ⟨g4, 0, none⟩ = some (.bool a0_0) := (blk_cell a0.out 0).trans rfl
          have hc1_ : w'.cell? ⟨g4, 1, none⟩ = some (.slice A0_1 l0_1.length c0_1) := (blk_cell a0.out 1).trans rfl
          refine value_ (w1 := w') (v := .agg #[.bool a0_0, .slice A0_1 l0_1.length c0_1]) (wanted_on rfl rfl rfl (e57.trans (by first | rfl | (simp [*]; done)))) rfl ?_ ?_
          ·go_simp
           (try simp only [i64_w])
           try rfl
          refine hK.out _ _ ⟨v456, v460, v465, v468, v472, v477, d6, d7, d8, d9, e0, (by rw [ha.out]; exact putSel_upk 27 hb_ rfl rfl rfl), a6, a7, a8, b3, fun h0_ => absurd ((hon 2 (by kernel_rfl)).symm.trans h0_) (by decide), b4, b5, fun h0_ => absurd ((hon 2 (by kernel_rfl)).symm.trans h0_) (by decide), c1, a9, b0, b1, fun h0_ => absurd ((hon 2 (by kernel_rfl)).symm.trans h0_) (by decide), fun h0_ => absurd ((hon 2 (by kernel_rfl)).symm.trans h0_) (by decide), c3, b2, c9, d0, d1, d2, f0, f2, f6, fun h0_ => absurd ((hoff 28 (by kernel_rfl)).symm.trans h0_) (by decide), fun h0_ => absurd ((hoff 29 (by kernel_rfl)).symm.trans h0_) (by decide), fun h0_ => absurd ((hoff 34 (by kernel_rfl)).symm.trans h0_) (by decide), f4, f5, f9, fun h0_ => absurd ((hoff 29 (by kernel_rfl)).symm.trans h0_) (by decide), fun h0_ => absurd ((hoff 34 (by kernel_rfl)).symm.trans h0_) (by decide)⟩
         refine steps_cons ?_ ?_
         ·rintro b a w' ⟨v456, v460, v465, v468, v472, v477, d6, d7, d8, d9, e0, ha, a6, a7, a8, b3, e6, b4, b5, f3, c1, a9, b0, b1, e2, e1, c3, b2, c9, d0, d1, d2, f0, f2, f6, f7, f8, g2, f4, f5, f9, g1, g5⟩ hb_ hon hoff
          refine ⟨_, rfl, fun K hK => ?_⟩
          have e61 : a.tmps[61]? = some (.agg #[.bool a1_0, .slice A1_1 l1_1.length c1_1]) := by rw [ha]; exact putSel_on (e := (26, 61, .agg #[.bool a1_0, .slice A1_1 l1_1.length c1_1])) 26 rfl rfl (hon 26 (by kernel_rfl)) rfl
          have e62 : a.tmps[62]? = some (.agg #[.bool a0_0, .slice A0_1 l0_1.length c0_1]) := by rw [ha]; exact putSel_on (e := (27, 62, .agg #[.bool a0_0, .slice A0_1 l0_1.length c0_1])) 27 rfl rfl (hon 27 (by kernel_rfl)) rfl
          have e57 : a.tmps[57]? = some (.bool (t462 == 0)) := by rw [ha]; exact putSel_on (e := (22, 57, .bool (t462 == 0))) 22 rfl rfl (hon 22 (by kernel_rfl)) rfl
          replace ha := aK ha
          have a3 := aK a6
          have a4 := aK a7
          have a5 := aK a8
          have b6 := aK b3
          have c0 := aK b4
          have c4 := aK b5
          have d4 := aK c1
          have a0 := aK a9
          have a1 := aK b0
          have a2 := aK b1
          have c6 := aK c3
          have HB := aK b2
          have b7 := aK (c9 (hon 2 (by kernel_rfl)))
          have c8 := aK (d0 (hon 2 (by kernel_rfl)))
          have b8 := aK (d1 (hon 2 (by kernel_rfl)))
          have b9 := aK (d2 (hon 2 (by kernel_rfl)))
          have g0 := aK (f0 (hon 17 (by kernel_rfl)))
          have g3 := aK (f2 (hon 18 (by kernel_rfl)))
          refine Kd.N_lit_step k25 _ 25 ?hg (N' := 63) ?hd (xs := ([(⟨a1_0, l1_1⟩ : S25), (⟨a0_0, l0_1⟩ : S25)] : List (S25))) (inner := [.bool a1_0, .slice A1_1 l1_1.length c1_1, .bool a0_0, .slice A0_1 l0_1.length c0_1]) (ok := (fun k_ => ((P0_1_ k_ ∨ P1_1_ k_ ∨ P2_1_ k_) ∨ w.heap.size ≤ k_))) (okp := (fun k_ => ((P0_1_ k_ ∨ P1_1_ k_ ∨ P2_1_ k_) ∨ w.heap.size ≤ k_))) ?hr ?hp (fun _ hk => hk) ((show ∀ k_, w'.heap.size ≤ k_ → (fun k_ => ((P0_1_ k_ ∨ P1_1_ k_ ∨ P2_1_ k_) ∨ w.heap.size ≤ k_)) k_ from fun k_ hk => (.inr (Nat.le_trans (below_size (gB HB.out)) hk))) _ (Nat.le_refl _)) (Below.refl _ _) (Nat.le_refl _) (by simp) ?_; (case hd => rfl); (case hg => first | rfl | exact wanted_on rfl rfl rfl (e57.trans (by first | rfl | (simp [*]; done)))); (case hr => first | (go_simp; done) | (go_simp; rfl)); (case hp => exact (Reps.c2 (show Kd.FK k25 _ _ (⟨a1_0, l1_1⟩ : S25) [.bool a1_0, .slice A1_1 l1_1.length c1_1] from (k25_mkF _ _ (⟨a1_0, l1_1⟩ : S25) (Kd.V_reads' (Kd.V_mono (ok' := (fun k_ => ((P0_1_ k_ ∨ P1_1_ k_ ∨ P2_1_ k_) ∨ w.heap.size ≤ k_))) (a4.out) (fun k_ hk => hk))).2.1 (Kd.V_F (Kd.V_mono (ok' := (fun k_ => ((P0_1_ k_ ∨ P1_1_ k_ ∨ P2_1_ k_) ∨ w.heap.size ≤ k_))) (a4.out) (fun k_ hk => hk))))) (Reps.c2 (show Kd.FK k25 _ _ (⟨a0_0, l0_1⟩ : S25) [.bool a0_0, .slice A0_1 l0_1.length c0_1] from (k25_mkF _ _ (⟨a0_0, l0_1⟩ : S25) (Kd.V_reads' (Kd.V_mono (ok' := (fun k_ => ((P0_1_ k_ ∨ P1_1_ k_ ∨ P2_1_ k_) ∨ w.heap.size ≤ k_))) (a3.out) (fun k_ hk => hk))).2.1 (Kd.V_F (Kd.V_mono (ok' := (fun k_ => ((P0_1_ k_ ∨ P1_1_ k_ ∨ P2_1_ k_) ∨ w.heap.size ≤ k_))) (a3.out) (fun k_ hk => hk))))) (Reps.none _ _))))
          intro v468 w96 ho97 hb hg_ hnew_
          clear hg_ hnew_
          (first | rw [← Ny467.out] at ho97 | (simp only [Int.reduceToNat] at ho97; rw [← Ny467.out] at ho97))
          have n0_ := aK (Kd.V_below (gV a3.out) hb)
          have n1_ := aK (Kd.V_below (gV a4.out) hb)
          have n2_ := aK (Kd.V_below (gV a5.out) hb)
          have n3_ := aK (Kd.V_below (gV b6.out) hb)
          have n4_ := aK (Kd.V_below (gV b7.out) hb)
          have n5_ := aK (Kd.V_below (gV c0.out) hb)
          have n6_ := aK (Kd.V_below (gV c4.out) hb)
          have n7_ := aK (Kd.V_below (gV c8.out) hb)
          have n8_ := aK (Kd.V_below (gV d4.out) hb)
          have n9_ := aK (Kd.V_below (gV g0.out) hb)
          have n10_ := aK (Kd.V_below (gV g3.out) hb)
          have n11_ := aK (Kd.N_lower ho97 (below_size (gB HB.out)))
          have n12_ := aK (blk_below (gK a0.out) hb)
          have n13_ := aK (blk_below (gK a1.out) hb)
          have n14_ := aK (blk_below (gK a2.out) hb)
          have n15_ := aK (blk_below (gK b8.out) hb)
          have n16_ := aK (blk_below (gK b9.out) hb)
          have n17_ := aK (blk_below (gK c6.out) hb)
          have n18_ := aK (below_step (gB HB.out) hb)
          have y1 := fun (h0_ : b 25 = true) => (show Kd.V (Kd.int .u64) 54 w96 w.heap.size (fun k_ => ((P0_1_ k_ ∨ P1_1_ k_ ∨ P2_1_ k_) ∨ w.heap.size ≤ k_)) v465 t464 from by first | exact (Kd.V_below (gV (f6 h0_)) hb) | exact Kd.V_mono (Kd.V_below (gV (f6 h0_)) hb) (fun _ h_ => by first | trivial | exact h_ | exact h_.1))
          clear a3
          clear a4
          clear a5
          clear b6
          clear b7
          clear c0
          clear c4
          clear c8
          clear d4
          clear g0
          clear g3
          clear a0
          clear a1
          clear a2
          clear b8
          clear b9
          clear c6
          clear HB
          have a3 := n0_
          have a4 := n1_
          have a5 := n2_
          have b6 := n3_
          have b7 := n4_
          have c0 := n5_
          have c4 := n6_
          have c8 := n7_
          have d4 := n8_
          have g0 := n9_
          have g3 := n10_
          have l7 := n11_
          have a0 := n12_
          have a1 := n13_
          have a2 := n14_
          have b8 := n15_
          have b9 := n16_
          have c6 := n17_
          have HB := n18_
          clear n0_ n1_ n2_ n3_ n4_ n5_ n6_ n7_ n8_ n9_ n10_ n11_ n12_ n13_ n14_ n15_ n16_ n17_ n18_
          clear hb ho97
          refine hK.out _ _ ⟨v456, v460, v465, v468, v472, v477, d6, d7, d8, d9, e0, (by rw [ha.out]; exact putSel_upk 28 hb_ rfl rfl rfl), (gV a3.out), (gV a4.out), (gV a5.out), (gV b6.out), fun h0_ => absurd ((hon 2 (by kernel_rfl)).symm.trans h0_) (by decide), (gV c0.out), (gV c4.out), fun h0_ => absurd ((hon 2 (by kernel_rfl)).symm.trans h0_) (by decide), (gV d4.out), (gK a0.out), (gK a1.out), (gK a2.out), fun h0_ => absurd ((hon 2 (by kernel_rfl)).symm.trans h0_) (by decide), fun h0_ => absurd ((hon 2 (by kernel_rfl)).symm.trans h0_) (by decide), (gK c6.out), (gB HB.out), fun _ => (gV b7.out), fun _ => (gV c8.out), fun _ => (gK b8.out), fun _ => (gK b9.out), fun _ => (gV g0.out), fun _ => (gV g3.out), y1, fun _ => (gN l7.out), fun h0_ => absurd ((hoff 29 (by kernel_rfl)).symm.trans h0_) (by decide), fun h0_ => absurd ((hoff 34 (by kernel_rfl)).symm.trans h0_) (by decide), f4, f5, f9, fun h0_ => absurd ((hoff 29 (by kernel_rfl)).symm.trans h0_) (by decide), fun h0_ => absurd ((hoff 34 (by kernel_rfl)).symm.trans h0_) (by decide)⟩
         refine steps_cons ?_ ?_
         ·rintro b a w' ⟨v456, v460, v465, v468, v472, v477, d6, d7, d8, d9, e0, ha, a6, a7, a8, b3, e6, b4, b5, f3, c1, a9, b0, b1, e2, e1, c3, b2, c9, d0, d1, d2, f0, f2, f6, f7, f8, g2, f4, f5, f9, g1, g5⟩ hb_ hon hoff
          refine ⟨_, rfl, fun K hK => ?_⟩
          have e63 : a.tmps[63]? = some (v468) := by rw [ha]; exact putSel_on (e := (28, 63, v468)) 28 rfl rfl (hon 28 (by kernel_rfl)) rfl
          have e57 : a.tmps[57]? = some (.bool (t462 == 0)) := by rw [ha]; exact putSel_on (e := (22, 57, .bool (t462 == 0))) 22 rfl rfl (hon 22 (by kernel_rfl)) rfl
          replace ha := aK ha
          have a3 := aK a6
          have a4 := aK a7
          have a5 := aK a8
          have b6 := aK b3
          have c0 := aK b4
          have c4 := aK b5
          have d4 := aK c1
          have a0 := aK a9
          have a1 := aK b0
          have a2 := aK b1
          have c6 := aK c3
          have HB := aK b2
          have b7 := aK (c9 (hon 2 (by kernel_rfl)))
          have c8 := aK (d0 (hon 2 (by kernel_rfl)))
          have b8 := aK (d1 (hon 2 (by kernel_rfl)))
          have b9 := aK (d2 (hon 2 (by kernel_rfl)))
          have g0 := aK (f0 (hon 17 (by kernel_rfl)))
          have g3 := aK (f2 (hon 18 (by kernel_rfl)))
          have l5 := aK (f6 (hon 25 (by kernel_rfl)))
          have l7 := aK (f7 (hon 28 (by kernel_rfl)))
          obtain ⟨Ao99, co99, eo99⟩ := Kd.N_slice l7.out
          (first | subst eo99 | (injection eo99 with f1_ f2_ f3_; have f4_ := f1_.symm; have f5_ := f3_.symm; clear f1_ f2_ f3_; subst f4_; subst f5_))
          refine goes_ Try.func30 (by kernel_rfl) rfl #[.slice Ao99 y467.length co99] (by first | rfl | exact wanted_on rfl rfl rfl (e57.trans (by first | rfl | (simp [*]; done)))) rfl rfl (by first | (simp only [List.map_toArray, List.map_cons, List.map_nil, Act.eval, Array.getD_eq_getD_getElem?, Option.getD_some, e63, e57]; done) | (simp only [List.map_toArray, List.map_cons, List.map_nil, Act.eval, Array.getD_eq_getD_getElem?, Option.getD_some, e63, e57]; rfl)) ?_
          with_reducible refine (num_Sum.calls k (fun k_ => ((P0_1_ k_ ∨ P1_1_ k_ ∨ P2_1_ k_) ∨ w.heap.size ≤ k_)) _ _ y467 t470 t471 _ ?side1 A25.out).mono ?_
          (case side1 => exact Kd.N_V (l7.out))
          rintro e w100 ⟨v472, rfl, ho0, hb⟩
          refine ⟨_, rfl, ?_⟩
          replace a3 := aK (Kd.V_below (gV a3.out) hb)
          replace a4 := aK (Kd.V_below (gV a4.out) hb)
          replace a5 := aK (Kd.V_below (gV a5.out) hb)
          replace b6 := aK (Kd.V_below (gV b6.out) hb)
          replace b7 := aK (Kd.V_below (gV b7.out) hb)
          replace c0 := aK (Kd.V_below (gV c0.out) hb)
          replace c4 := aK (Kd.V_below (gV c4.out) hb)
          replace c8 := aK (Kd.V_below (gV c8.out) hb)
          replace d4 := aK (Kd.V_below (gV d4.out) hb)
          replace g0 := aK (Kd.V_below (gV g0.out) hb)
          replace g3 := aK (Kd.V_below (gV g3.out) hb)
          replace l5 := aK (Kd.V_below (gV l5.out) hb)
          replace l7 := aK (Kd.N_below (gN l7.out) hb)
          have l9 := aK (Kd.V_lower (Kd.V_mono (ok' := fun k_ => ((P0_1_ k_ ∨ P1_1_ k_ ∨ P2_1_ k_) ∨ w.heap.size ≤ k_)) ho0 (fun k_ hk_ => Or.elim hk_ (fun hs_ => hs_) (fun hn_ => (.inr (Nat.le_trans (below_size (gB HB.out)) hn_))))) (below_size (gB HB.out)))
          replace a0 := aK (blk_below (gK a0.out) hb)
          replace a1 := aK (blk_below (gK a1.out) hb)
          replace a2 := aK (blk_below (gK a2.out) hb)
          replace b8 := aK (blk_below (gK b8.out) hb)
          replace b9 := aK (blk_below (gK b9.out) hb)
          replace c6 := aK (blk_below (gK c6.out) hb)
          have n20_ := aK (below_step (gB HB.out) hb)
          clear HB
          have HB := n20_
          clear n20_
          (try clear hb)
          (try clear hb2)
          (try clear hk)
          (try clear hi)
          (try clear ho0)
          refine hK.out _ _ ⟨v456, v460, v465, .slice Ao99 y467.length co99, v472, v477, d6, d7, d8, (.agg #[.bool t470, v472]), e0, (by rw [ha.out]; exact putSel_upk 29 hb_ rfl rfl rfl), (gV a3.out), (gV a4.out), (gV a5.out), (gV b6.out), fun h0_ => absurd ((hon 2 (by kernel_rfl)).symm.trans h0_) (by decide), (gV c0.out), (gV c4.out), fun h0_ => absurd ((hon 2 (by kernel_rfl)).symm.trans h0_) (by decide), (gV d4.out), (gK a0.out), (gK a1.out), (gK a2.out), fun h0_ => absurd ((hon 2 (by kernel_rfl)).symm.trans h0_) (by decide), fun h0_ => absurd ((hon 2 (by kernel_rfl)).symm.trans h0_) (by decide), (gK c6.out), (gB HB.out), fun _ => (gV b7.out), fun _ => (gV c8.out), fun _ => (gK b8.out), fun _ => (gK b9.out), fun _ => (gV g0.out), fun _ => (gV g3.out), fun _ => (gV l5.out), fun _ => (gN l7.out), fun _ => (gV l9.out), fun h0_ => absurd ((hoff 34 (by kernel_rfl)).symm.trans h0_) (by decide), f4, f5, f9, fun _ => rfl, fun h0_ => absurd ((hoff 34 (by kernel_rfl)).symm.trans h0_) (by decide)⟩
         refine steps_cons ?_ ?_
         ·rintro b a w' ⟨v456, v460, v465, v468, v472, v477, d6, d7, d8, d9, e0, ha, a6, a7, a8, b3, e6, b4, b5, f3, c1, a9, b0, b1, e2, e1, c3, b2, c9, d0, d1, d2, f0, f2, f6, f7, f8, g2, f4, f5, f9, g1, g5⟩ hb_ hon hoff
          refine ⟨_, rfl, fun K hK => ?_⟩
          have e60 : a.tmps[60]? = some (d8) := by rw [ha]; exact putSel_on (e := (25, 60, d8)) 25 rfl rfl (hon 25 (by kernel_rfl)) rfl
          rw [f9 (hon 25 (by kernel_rfl))] at e60
          have e64 : a.tmps[64]? = some (d9) := by rw [ha]; exact putSel_on (e := (29, 64, d9)) 29 rfl rfl (hon 29 (by kernel_rfl)) rfl
          rw [g1 (hon 29 (by kernel_rfl))] at e64
          have e57 : a.tmps[57]? = some (.bool (t462 == 0)) := by rw [ha]; exact putSel_on (e := (22, 57, .bool (t462 == 0))) 22 rfl rfl (hon 22 (by kernel_rfl)) rfl
          replace ha := aK ha
          have a3 := aK a6
          have a4 := aK a7
          have a5 := aK a8
          have b6 := aK b3
          have c0 := aK b4
          have c4 := aK b5
          have d4 := aK c1
          have a0 := aK a9
          have a1 := aK b0
          have a2 := aK b1
          have c6 := aK c3
          have HB := aK b2
          have b7 := aK (c9 (hon 2 (by kernel_rfl)))
          have c8 := aK (d0 (hon 2 (by kernel_rfl)))
          have b8 := aK (d1 (hon 2 (by kernel_rfl)))
          have b9 := aK (d2 (hon 2 (by kernel_rfl)))
          have g0 := aK (f0 (hon 17 (by kernel_rfl)))
          have g3 := aK (f2 (hon 18 (by kernel_rfl)))
          have l5 := aK (f6 (hon 25 (by kernel_rfl)))
          have l7 := aK (f7 (hon 28 (by kernel_rfl)))
          have l9 := aK (f8 (hon 29 (by kernel_rfl)))
          obtain ⟨Ao101, co101, eo101⟩ := Kd.V_slice l5.out
          (first | subst eo101 | (injection eo101 with f1_ f2_ f3_; have f4_ := f1_.symm; have f5_ := f3_.symm; clear f1_ f2_ f3_; subst f4_; subst f5_))
          obtain ⟨Ao102, co102, eo102⟩ := Kd.V_slice l9.out
          (first | subst eo102 | (injection eo102 with f1_ f2_ f3_; have f4_ := f1_.symm; have f5_ := f3_.symm; clear f1_ f2_ f3_; subst f4_; subst f5_))
          refine goes_ Try.func14 (by kernel_rfl) rfl #[.agg #[.bool t463, .slice Ao101 t464.length co101], .agg #[.bool t470, .slice Ao102 t471.length co102]] (by first | rfl | exact wanted_on rfl rfl rfl (e57.trans (by first | rfl | (simp [*]; done)))) rfl rfl (by first | (simp only [List.map_toArray, List.map_cons, List.map_nil, Act.eval, Array.getD_eq_getD_getElem?, Option.getD_some, e60, e64, e57]; done) | (simp only [List.map_toArray, List.map_cons, List.map_nil, Act.eval, Array.getD_eq_getD_getElem?, Option.getD_some, e60, e64, e57]; rfl)) ?_
          with_reducible refine (num_Cmp.calls k t463 _ _ t464 t470 _ _ t471 t474 _ ?side1 ?side2 ?side3 ?side4 A26.out).mono ?_
          (case side1 => repeat (first | exact (Kd.V_reads' l5.out).2.2 | apply Kd.C_alloc | apply Kd.C_drewN | apply Kd.C_drew))
          (case side2 => exact (Kd.V_reads' l5.out).2.1)
          (case side3 => repeat (first | exact (Kd.V_reads' l9.out).2.2 | apply Kd.C_alloc | apply Kd.C_drewN | apply Kd.C_drew))
          (case side4 => exact (Kd.V_reads' l9.out).2.1)
          rintro e w103 ⟨rfl, hb⟩
          refine ⟨_, rfl, ?_⟩
          replace a3 := aK (Kd.V_below (gV a3.out) hb)
          replace a4 := aK (Kd.V_below (gV a4.out) hb)
          replace a5 := aK (Kd.V_below (gV a5.out) hb)
          replace b6 := aK (Kd.V_below (gV b6.out) hb)
          replace b7 := aK (Kd.V_below (gV b7.out) hb)
          replace c0 := aK (Kd.V_below (gV c0.out) hb)
          replace c4 := aK (Kd.V_below (gV c4.out) hb)
          replace c8 := aK (Kd.V_below (gV c8.out) hb)
          replace d4 := aK (Kd.V_below (gV d4.out) hb)
          replace g0 := aK (Kd.V_below (gV g0.out) hb)
          replace g3 := aK (Kd.V_below (gV g3.out) hb)
          replace l5 := aK (Kd.V_below (gV l5.out) hb)
          replace l7 := aK (Kd.N_below (gN l7.out) hb)
          replace l9 := aK (Kd.V_below (gV l9.out) hb)
          replace a0 := aK (blk_below (gK a0.out) hb)
          replace a1 := aK (blk_below (gK a1.out) hb)
          replace a2 := aK (blk_below (gK a2.out) hb)
          replace b8 := aK (blk_below (gK b8.out) hb)
          replace b9 := aK (blk_below (gK b9.out) hb)
          replace c6 := aK (blk_below (gK c6.out) hb)
          replace HB := aK (below_step (gB HB.out) hb)
          (try clear hb)
          (try clear hb2)
          (try clear hk)
          (try clear hi)
          refine hK.out _ _ ⟨v456, v460, .slice Ao101 t464.length co101, v468, .slice Ao102 t471.length co102, v477, d6, d7, d8, d9, e0, (by rw [ha.out]; exact putSel_upk 30 hb_ rfl rfl rfl), (gV a3.out), (gV a4.out), (gV a5.out), (gV b6.out), fun h0_ => absurd ((hon 2 (by kernel_rfl)).symm.trans h0_) (by decide), (gV c0.out), (gV c4.out), fun h0_ => absurd ((hon 2 (by kernel_rfl)).symm.trans h0_) (by decide), (gV d4.out), (gK a0.out), (gK a1.out), (gK a2.out), fun h0_ => absurd ((hon 2 (by kernel_rfl)).symm.trans h0_) (by decide), fun h0_ => absurd ((hon 2 (by kernel_rfl)).symm.trans h0_) (by decide), (gK c6.out), (gB HB.out), fun _ => (gV b7.out), fun _ => (gV c8.out), fun _ => (gK b8.out), fun _ => (gK b9.out), fun _ => (gV g0.out), fun _ => (gV g3.out), fun _ => (gV l5.out), fun _ => (gN l7.out), fun _ => (gV l9.out), fun h0_ => absurd ((hoff 34 (by kernel_rfl)).symm.trans h0_) (by decide), f4, f5, f9, g1, fun h0_ => absurd ((hoff 34 (by kernel_rfl)).symm.trans h0_) (by decide)⟩
         refine steps_cons ?_ ?_
         ·rintro b a w' ⟨v456, v460, v465, v468, v472, v477, d6, d7, d8, d9, e0, ha, a6, a7, a8, b3, e6, b4, b5, f3, c1, a9, b0, b1, e2, e1, c3, b2, c9, d0, d1, d2, f0, f2, f6, f7, f8, g2, f4, f5, f9, g1, g5⟩ hb_ hon hoff
          refine ⟨_, rfl, fun K hK => ?_⟩
          have e65 : a.tmps[65]? = some (.int .i64 t474) := by rw [ha]; exact putSel_on (e := (30, 65, .int .i64 t474)) 30 rfl rfl (hon 30 (by kernel_rfl)) rfl
          have e57 : a.tmps[57]? = some (.bool (t462 == 0)) := by rw [ha]; exact putSel_on (e := (22, 57, .bool (t462 == 0))) 22 rfl rfl (hon 22 (by kernel_rfl)) rfl
          replace ha := aK ha
          have a3 := aK a6
          have a4 := aK a7
          have a5 := aK a8
          have b6 := aK b3
          have c0 := aK b4
          have c4 := aK b5
          have d4 := aK c1
          have a0 := aK a9
          have a1 := aK b0
          have a2 := aK b1
          have c6 := aK c3
          have HB := aK b2
          have b7 := aK (c9 (hon 2 (by kernel_rfl)))
          have c8 := aK (d0 (hon 2 (by kernel_rfl)))
          have b8 := aK (d1 (hon 2 (by kernel_rfl)))
          have b9 := aK (d2 (hon 2 (by kernel_rfl)))
          have g0 := aK (f0 (hon 17 (by kernel_rfl)))
          have g3 := aK (f2 (hon 18 (by kernel_rfl)))
          have l5 := aK (f6 (hon 25 (by kernel_rfl)))
          have l7 := aK (f7 (hon 28 (by kernel_rfl)))
          have l9 := aK (f8 (hon 29 (by kernel_rfl)))
          refine value_ (w1 := w') (v := .bool (t474 == 0)) (wanted_on rfl rfl rfl (e57.trans (by first | rfl | (simp [*]; done)))) rfl ?_ ?_
          ·go_simp
           (try simp only [i64_w])
           try rfl
          refine hK.out _ _ ⟨v456, v460, v465, v468, v472, v477, d6, d7, d8, d9, e0, (by rw [ha.out]; exact putSel_upk 31 hb_ rfl rfl rfl), a6, a7, a8, b3, fun h0_ => absurd ((hon 2 (by kernel_rfl)).symm.trans h0_) (by decide), b4, b5, fun h0_ => absurd ((hon 2 (by kernel_rfl)).symm.trans h0_) (by decide), c1, a9, b0, b1, fun h0_ => absurd ((hon 2 (by kernel_rfl)).symm.trans h0_) (by decide), fun h0_ => absurd ((hon 2 (by kernel_rfl)).symm.trans h0_) (by decide), c3, b2, c9, d0, d1, d2, f0, f2, f6, f7, f8, fun h0_ => absurd ((hoff 34 (by kernel_rfl)).symm.trans h0_) (by decide), f4, f5, f9, g1, fun h0_ => absurd ((hoff 34 (by kernel_rfl)).symm.trans h0_) (by decide)⟩
         refine steps_cons ?_ ?_
         ·rintro b a w' ⟨v456, v460, v465, v468, v472, v477, d6, d7, d8, d9, e0, ha, a6, a7, a8, b3, e6, b4, b5, f3, c1, a9, b0, b1, e2, e1, c3, b2, c9, d0, d1, d2, f0, f2, f6, f7, f8, g2, f4, f5, f9, g1, g5⟩ hb_ hon hoff
          refine ⟨_, rfl, fun K hK => ?_⟩
          have e57 : a.tmps[57]? = some (.bool (t462 == 0)) := by rw [ha]; exact putSel_on (e := (22, 57, .bool (t462 == 0))) 22 rfl rfl (hon 22 (by kernel_rfl)) rfl
          have e66 : a.tmps[66]? = some (.bool (t474 == 0)) := by rw [ha]; exact putSel_on (e := (31, 66, .bool (t474 == 0))) 31 rfl rfl (hon 31 (by kernel_rfl)) rfl
          replace ha := aK ha
          have a3 := aK a6
          have a4 := aK a7
          have a5 := aK a8
          have b6 := aK b3
          have c0 := aK b4
          have c4 := aK b5
          have d4 := aK c1
          have a0 := aK a9
          have a1 := aK b0
          have a2 := aK b1
          have c6 := aK c3
          have HB := aK b2
          have b7 := aK (c9 (hon 2 (by kernel_rfl)))
          have c8 := aK (d0 (hon 2 (by kernel_rfl)))
          have b8 := aK (d1 (hon 2 (by kernel_rfl)))
          have b9 := aK (d2 (hon 2 (by kernel_rfl)))
          have g0 := aK (f0 (hon 17 (by kernel_rfl)))
          have g3 := aK (f2 (hon 18 (by kernel_rfl)))
          have l5 := aK (f6 (hon 25 (by kernel_rfl)))
          have l7 := aK (f7 (hon 28 (by kernel_rfl)))
          have l9 := aK (f8 (hon 29 (by kernel_rfl)))
          refine value_ (w1 := w') (v := .bool (t474 == 0)) (by rfl) rfl ?_ ?_
          ·go_simp
           (try simp only [i64_w])
           try rfl
          refine hK.out _ _ ⟨v456, v460, v465, v468, v472, v477, d6, d7, d8, d9, e0, (by rw [ha.out]; exact putSel_upk 32 hb_ rfl rfl rfl), a6, a7, a8, b3, fun h0_ => absurd ((hon 2 (by kernel_rfl)).symm.trans h0_) (by decide), b4, b5, fun h0_ => absurd ((hon 2 (by kernel_rfl)).symm.trans h0_) (by decide), c1, a9, b0, b1, fun h0_ => absurd ((hon 2 (by kernel_rfl)).symm.trans h0_) (by decide), fun h0_ => absurd ((hon 2 (by kernel_rfl)).symm.trans h0_) (by decide), c3, b2, c9, d0, d1, d2, f0, f2, f6, f7, f8, fun h0_ => absurd ((hoff 34 (by kernel_rfl)).symm.trans h0_) (by decide), f4, f5, f9, g1, fun h0_ => absurd ((hoff 34 (by kernel_rfl)).symm.trans h0_) (by decide)⟩
         refine steps_cons ?_ ?_
         ·rintro b a w' ⟨v456, v460, v465, v468, v472, v477, d6, d7, d8, d9, e0, ha, a6, a7, a8, b3, e6, b4, b5, f3, c1, a9, b0, b1, e2, e1, c3, b2, c9, d0, d1, d2, f0, f2, f6, f7, f8, g2, f4, f5, f9, g1, g5⟩ hb_ hon hoff
          refine ⟨_, rfl, fun K hK => ?_⟩
          have e67 : a.tmps[67]? = some (.bool (t474 == 0)) := by rw [ha]; exact putSel_on (e := (32, 67, .bool (t474 == 0))) 32 rfl rfl (hon 32 (by kernel_rfl)) rfl
          replace ha := aK ha
          have a3 := aK a6
          have a4 := aK a7
          have a5 := aK a8
          have b6 := aK b3
          have c0 := aK b4
          have c4 := aK b5
          have d4 := aK c1
          have a0 := aK a9
          have a1 := aK b0
          have a2 := aK b1
          have c6 := aK c3
          have HB := aK b2
          have b7 := aK (c9 (hon 2 (by kernel_rfl)))
          have c8 := aK (d0 (hon 2 (by kernel_rfl)))
          have b8 := aK (d1 (hon 2 (by kernel_rfl)))
          have b9 := aK (d2 (hon 2 (by kernel_rfl)))
          have g0 := aK (f0 (hon 17 (by kernel_rfl)))
          have g3 := aK (f2 (hon 18 (by kernel_rfl)))
          have l5 := aK (f6 (hon 25 (by kernel_rfl)))
          have l7 := aK (f7 (hon 28 (by kernel_rfl)))
          have l9 := aK (f8 (hon 29 (by kernel_rfl)))
          refine value_ (w1 := w') (v := .bool (t474 == 0)) (by rfl) rfl ?_ ?_
          ·go_simp
           (try simp only [i64_w])
           try rfl
          refine hK.out _ _ ⟨v456, v460, v465, v468, v472, v477, d6, d7, d8, d9, e0, (by rw [ha.out]; exact putSel_upk 33 hb_ rfl rfl rfl), a6, a7, a8, b3, fun h0_ => absurd ((hon 2 (by kernel_rfl)).symm.trans h0_) (by decide), b4, b5, fun h0_ => absurd ((hon 2 (by kernel_rfl)).symm.trans h0_) (by decide), c1, a9, b0, b1, fun h0_ => absurd ((hon 2 (by kernel_rfl)).symm.trans h0_) (by decide), fun h0_ => absurd ((hon 2 (by kernel_rfl)).symm.trans h0_) (by decide), c3, b2, c9, d0, d1, d2, f0, f2, f6, f7, f8, fun h0_ => absurd ((hoff 34 (by kernel_rfl)).symm.trans h0_) (by decide), f4, f5, f9, g1, fun h0_ => absurd ((hoff 34 (by kernel_rfl)).symm.trans h0_) (by decide)⟩
         refine steps_cons ?_ ?_
         ·rintro b a w' ⟨v456, v460, v465, v468, v472, v477, d6, d7, d8, d9, e0, ha, a6, a7, a8, b3, e6, b4, b5, f3, c1, a9, b0, b1, e2, e1, c3, b2, c9, d0, d1, d2, f0, f2, f6, f7, f8, g2, f4, f5, f9, g1, g5⟩ hb_ hon hoff
          refine ⟨_, rfl, fun K hK => ?_⟩
          have e68 : a.tmps[68]? = some (.bool (t474 == 0)) := by rw [ha]; exact putSel_on (e := (33, 68, .bool (t474 == 0))) 33 rfl rfl (hon 33 (by kernel_rfl)) rfl
          replace ha := aK ha
          have a3 := aK a6
          have a4 := aK a7
          have a5 := aK a8
          have b6 := aK b3
          have c0 := aK b4
          have c4 := aK b5
          have d4 := aK c1
          have a0 := aK a9
          have a1 := aK b0
          have a2 := aK b1
          have c6 := aK c3
          have HB := aK b2
          have b7 := aK (c9 (hon 2 (by kernel_rfl)))
          have c8 := aK (d0 (hon 2 (by kernel_rfl)))
          have b8 := aK (d1 (hon 2 (by kernel_rfl)))
          have b9 := aK (d2 (hon 2 (by kernel_rfl)))
          have g0 := aK (f0 (hon 17 (by kernel_rfl)))
          have g3 := aK (f2 (hon 18 (by kernel_rfl)))
          have l5 := aK (f6 (hon 25 (by kernel_rfl)))
          have l7 := aK (f7 (hon 28 (by kernel_rfl)))
          have l9 := aK (f8 (hon 29 (by kernel_rfl)))
          refine goes_ Try.func30 (by kernel_rfl) rfl #[.slice none 0 0] (by first | rfl | exact wanted_on rfl rfl rfl (e68.trans (by first | rfl | (simp [*]; done)))) rfl rfl (by first | (simp only [List.map_toArray, List.map_cons, List.map_nil, Act.eval, Array.getD_eq_getD_getElem?, Option.getD_some, e68]; done) | (simp only [List.map_toArray, List.map_cons, List.map_nil, Act.eval, Array.getD_eq_getD_getElem?, Option.getD_some, e68]; rfl)) ?_
          refine (num_Sum.calls k (fun k_ => False) _ _ ([] : List (S25)) t475 t476 _ ?side1 A28.out).mono ?_
          (case side1 => exact Kd.V_nil _ _ _ _ _)
          rintro e w104 ⟨v477, rfl, ho0, hb⟩
          refine ⟨_, rfl, ?_⟩
          replace a3 := aK (Kd.V_below (gV a3.out) hb)
          replace a4 := aK (Kd.V_below (gV a4.out) hb)
          replace a5 := aK (Kd.V_below (gV a5.out) hb)
          replace b6 := aK (Kd.V_below (gV b6.out) hb)
          replace b7 := aK (Kd.V_below (gV b7.out) hb)
          replace c0 := aK (Kd.V_below (gV c0.out) hb)
          replace c4 := aK (Kd.V_below (gV c4.out) hb)
          replace c8 := aK (Kd.V_below (gV c8.out) hb)
          replace d4 := aK (Kd.V_below (gV d4.out) hb)
          replace g0 := aK (Kd.V_below (gV g0.out) hb)
          replace g3 := aK (Kd.V_below (gV g3.out) hb)
          replace l5 := aK (Kd.V_below (gV l5.out) hb)
          replace l7 := aK (Kd.N_below (gN l7.out) hb)
          replace l9 := aK (Kd.V_below (gV l9.out) hb)
          have o0 := aK (Kd.V_lower (Kd.V_mono (ok' := fun k_ => ((P0_1_ k_ ∨ P1_1_ k_ ∨ P2_1_ k_) ∨ w.heap.size ≤ k_)) ho0 (fun k_ hk_ => Or.elim hk_ (fun hs_ => (hs_).elim) (fun hn_ => (.inr (Nat.le_trans (below_size (gB HB.out)) hn_))))) (below_size (gB HB.out)))
          replace a0 := aK (blk_below (gK a0.out) hb)
          replace a1 := aK (blk_below (gK a1.out) hb)
          replace a2 := aK (blk_below (gK a2.out) hb)
          replace b8 := aK (blk_below (gK b8.out) hb)
          replace b9 := aK (blk_below (gK b9.out) hb)
          replace c6 := aK (blk_below (gK c6.out) hb)
          have n21_ := aK (below_step (gB HB.out) hb)
          clear HB
          have HB := n21_
          clear n21_
          (try clear hb)
          (try clear hb2)
          (try clear hk)
          (try clear hi)
          (try clear ho0)
          refine hK.out _ _ ⟨v456, v460, v465, v468, v472, v477, d6, d7, d8, d9, (.agg #[.bool t475, v477]), (by rw [ha.out]; exact putSel_upk 34 hb_ rfl rfl rfl), (gV a3.out), (gV a4.out), (gV a5.out), (gV b6.out), fun h0_ => absurd ((hon 2 (by kernel_rfl)).symm.trans h0_) (by decide), (gV c0.out), (gV c4.out), fun h0_ => absurd ((hon 2 (by kernel_rfl)).symm.trans h0_) (by decide), (gV d4.out), (gK a0.out), (gK a1.out), (gK a2.out), fun h0_ => absurd ((hon 2 (by kernel_rfl)).symm.trans h0_) (by decide), fun h0_ => absurd ((hon 2 (by kernel_rfl)).symm.trans h0_) (by decide), (gK c6.out), (gB HB.out), fun _ => (gV b7.out), fun _ => (gV c8.out), fun _ => (gK b8.out), fun _ => (gK b9.out), fun _ => (gV g0.out), fun _ => (gV g3.out), fun _ => (gV l5.out), fun _ => (gN l7.out), fun _ => (gV l9.out), fun _ => (gV o0.out), f4, f5, f9, g1, fun _ => rfl⟩
         refine steps_cons ?_ ?_
         ·rintro b a w' ⟨v456, v460, v465, v468, v472, v477, d6, d7, d8, d9, e0, ha, a6, a7, a8, b3, e6, b4, b5, f3, c1, a9, b0, b1, e2, e1, c3, b2, c9, d0, d1, d2, f0, f2, f6, f7, f8, g2, f4, f5, f9, g1, g5⟩ hb_ hon hoff
          refine ⟨_, rfl, fun K hK => ?_⟩
          have e69 : a.tmps[69]? = some (e0) := by rw [ha]; exact putSel_on (e := (34, 69, e0)) 34 rfl rfl (hon 34 (by kernel_rfl)) rfl
          rw [g5 (hon 34 (by kernel_rfl))] at e69
          have e68 : a.tmps[68]? = some (.bool (t474 == 0)) := by rw [ha]; exact putSel_on (e := (33, 68, .bool (t474 == 0))) 33 rfl rfl (hon 33 (by kernel_rfl)) rfl
          replace ha := aK ha
          have a3 := aK a6
          have a4 := aK a7
          have a5 := aK a8
          have b6 := aK b3
          have c0 := aK b4
          have c4 := aK b5
          have d4 := aK c1
          have a0 := aK a9
          have a1 := aK b0
          have a2 := aK b1
          have c6 := aK c3
          have HB := aK b2
          have b7 := aK (c9 (hon 2 (by kernel_rfl)))
          have c8 := aK (d0 (hon 2 (by kernel_rfl)))
          have b8 := aK (d1 (hon 2 (by kernel_rfl)))
          have b9 := aK (d2 (hon 2 (by kernel_rfl)))
          have g0 := aK (f0 (hon 17 (by kernel_rfl)))
          have g3 := aK (f2 (hon 18 (by kernel_rfl)))
          have l5 := aK (f6 (hon 25 (by kernel_rfl)))
          have l7 := aK (f7 (hon 28 (by kernel_rfl)))
          have l9 := aK (f8 (hon 29 (by kernel_rfl)))
          have o0 := aK (g2 (hon 34 (by kernel_rfl)))
          obtain ⟨Ao105, co105, eo105⟩ := Kd.V_slice o0.out
          (first | subst eo105 | (injection eo105 with f1_ f2_ f3_; have f4_ := f1_.symm; have f5_ := f3_.symm; clear f1_ f2_ f3_; subst f4_; subst f5_))
          refine goes_ Try.func15 (by kernel_rfl) rfl #[.agg #[.bool t475, .slice Ao105 t476.length co105]] (by first | rfl | exact wanted_on rfl rfl rfl (e68.trans (by first | rfl | (simp [*]; done)))) rfl rfl (by first | (simp only [List.map_toArray, List.map_cons, List.map_nil, Act.eval, Array.getD_eq_getD_getElem?, Option.getD_some, e69, e68]; done) | (simp only [List.map_toArray, List.map_cons, List.map_nil, Act.eval, Array.getD_eq_getD_getElem?, Option.getD_some, e69, e68]; rfl)) ?_
          with_reducible refine (num_Sign.calls k t475 _ _ t476 t479 _ ?side1 ?side2 A29.out).mono ?_
          (case side1 => repeat (first | exact (Kd.V_reads' o0.out).2.2 | apply Kd.C_alloc | apply Kd.C_drewN | apply Kd.C_drew))
          (case side2 => exact (Kd.V_reads' o0.out).2.1)
          rintro e w106 ⟨rfl, hb⟩
          refine ⟨_, rfl, ?_⟩
          replace a3 := aK (Kd.V_below (gV a3.out) hb)
          replace a4 := aK (Kd.V_below (gV a4.out) hb)
          replace a5 := aK (Kd.V_below (gV a5.out) hb)
          replace b6 := aK (Kd.V_below (gV b6.out) hb)
          replace b7 := aK (Kd.V_below (gV b7.out) hb)
          replace c0 := aK (Kd.V_below (gV c0.out) hb)
          replace c4 := aK (Kd.V_below (gV c4.out) hb)
          replace c8 := aK (Kd.V_below (gV c8.out) hb)
          replace d4 := aK (Kd.V_below (gV d4.out) hb)
          replace g0 := aK (Kd.V_below (gV g0.out) hb)
          replace g3 := aK (Kd.V_below (gV g3.out) hb)
          replace l5 := aK (Kd.V_below (gV l5.out) hb)
          replace l7 := aK (Kd.N_below (gN l7.out) hb)
          replace l9 := aK (Kd.V_below (gV l9.out) hb)
          replace o0 := aK (Kd.V_below (gV o0.out) hb)
          replace a0 := aK (blk_below (gK a0.out) hb)
          replace a1 := aK (blk_below (gK a1.out) hb)
          replace a2 := aK (blk_below (gK a2.out) hb)
          replace b8 := aK (blk_below (gK b8.out) hb)
          replace b9 := aK (blk_below (gK b9.out) hb)
          replace c6 := aK (blk_below (gK c6.out) hb)
          replace HB := aK (below_step (gB HB.out) hb)
          (try clear hb)
          (try clear hb2)
          (try clear hk)
          (try clear hi)
          refine hK.out _ _ ⟨v456, v460, v465, v468, v472, .slice Ao105 t476.length co105, d6, d7, d8, d9, e0, (by rw [ha.out]; exact putSel_upk 35 hb_ rfl rfl rfl), (gV a3.out), (gV a4.out), (gV a5.out), (gV b6.out), fun h0_ => absurd ((hon 2 (by kernel_rfl)).symm.trans h0_) (by decide), (gV c0.out), (gV c4.out), fun h0_ => absurd ((hon 2 (by kernel_rfl)).symm.trans h0_) (by decide), (gV d4.out), (gK a0.out), (gK a1.out), (gK a2.out), fun h0_ => absurd ((hon 2 (by kernel_rfl)).symm.trans h0_) (by decide), fun h0_ => absurd ((hon 2 (by kernel_rfl)).symm.trans h0_) (by decide), (gK c6.out), (gB HB.out), fun _ => (gV b7.out), fun _ => (gV c8.out), fun _ => (gK b8.out), fun _ => (gK b9.out), fun _ => (gV g0.out), fun _ => (gV g3.out), fun _ => (gV l5.out), fun _ => (gN l7.out), fun _ => (gV l9.out), fun _ => (gV o0.out), f4, f5, f9, g1, g5⟩
         refine steps_cons ?_ ?_
         ·rintro b a w' ⟨v456, v460, v465, v468, v472, v477, d6, d7, d8, d9, e0, ha, a6, a7, a8, b3, e6, b4, b5, f3, c1, a9, b0, b1, e2, e1, c3, b2, c9, d0, d1, d2, f0, f2, f6, f7, f8, g2, f4, f5, f9, g1, g5⟩ hb_ hon hoff
          refine ⟨_, rfl, fun K hK => ?_⟩
          have e70 : a.tmps[70]? = some (.int .i64 t479) := by rw [ha]; exact putSel_on (e := (35, 70, .int .i64 t479)) 35 rfl rfl (hon 35 (by kernel_rfl)) rfl
          have e68 : a.tmps[68]? = some (.bool (t474 == 0)) := by rw [ha]; exact putSel_on (e := (33, 68, .bool (t474 == 0))) 33 rfl rfl (hon 33 (by kernel_rfl)) rfl
          replace ha := aK ha
          have a3 := aK a6
          have a4 := aK a7
          have a5 := aK a8
          have b6 := aK b3
          have c0 := aK b4
          have c4 := aK b5
          have d4 := aK c1
          have a0 := aK a9
          have a1 := aK b0
          have a2 := aK b1
          have c6 := aK c3
          have HB := aK b2
          have b7 := aK (c9 (hon 2 (by kernel_rfl)))
          have c8 := aK (d0 (hon 2 (by kernel_rfl)))
          have b8 := aK (d1 (hon 2 (by kernel_rfl)))
          have b9 := aK (d2 (hon 2 (by kernel_rfl)))
          have g0 := aK (f0 (hon 17 (by kernel_rfl)))
          have g3 := aK (f2 (hon 18 (by kernel_rfl)))
          have l5 := aK (f6 (hon 25 (by kernel_rfl)))
          have l7 := aK (f7 (hon 28 (by kernel_rfl)))
          have l9 := aK (f8 (hon 29 (by kernel_rfl)))
          have o0 := aK (g2 (hon 34 (by kernel_rfl)))
          refine value_ (w1 := w') (v := .bool (t479 == 0)) (wanted_on rfl rfl rfl (e68.trans (by first | rfl | (simp [*]; done)))) rfl ?_ ?_
          ·go_simp
           (try simp only [i64_w])
           try rfl
          refine hK.out _ _ ⟨v456, v460, v465, v468, v472, v477, d6, d7, d8, d9, e0, (by rw [ha.out]; exact putSel_upk 36 hb_ rfl rfl rfl), a6, a7, a8, b3, fun h0_ => absurd ((hon 2 (by kernel_rfl)).symm.trans h0_) (by decide), b4, b5, fun h0_ => absurd ((hon 2 (by kernel_rfl)).symm.trans h0_) (by decide), c1, a9, b0, b1, fun h0_ => absurd ((hon 2 (by kernel_rfl)).symm.trans h0_) (by decide), fun h0_ => absurd ((hon 2 (by kernel_rfl)).symm.trans h0_) (by decide), c3, b2, c9, d0, d1, d2, f0, f2, f6, f7, f8, g2, f4, f5, f9, g1, g5⟩
         refine steps_cons ?_ ?_
         ·rintro b a w' ⟨v456, v460, v465, v468, v472, v477, d6, d7, d8, d9, e0, ha, a6, a7, a8, b3, e6, b4, b5, f3, c1, a9, b0, b1, e2, e1, c3, b2, c9, d0, d1, d2, f0, f2, f6, f7, f8, g2, f4, f5, f9, g1, g5⟩ hb_ hon hoff
          refine ⟨_, rfl, fun K hK => ?_⟩
          have e68 : a.tmps[68]? = some (.bool (t474 == 0)) := by rw [ha]; exact putSel_on (e := (33, 68, .bool (t474 == 0))) 33 rfl rfl (hon 33 (by kernel_rfl)) rfl
          have e71 : a.tmps[71]? = some (.bool (t479 == 0)) := by rw [ha]; exact putSel_on (e := (36, 71, .bool (t479 == 0))) 36 rfl rfl (hon 36 (by kernel_rfl)) rfl
          replace ha := aK ha
          have a3 := aK a6
          have a4 := aK a7
          have a5 := aK a8
          have b6 := aK b3
          have c0 := aK b4
          have c4 := aK b5
          have d4 := aK c1
          have a0 := aK a9
          have a1 := aK b0
          have a2 := aK b1
          have c6 := aK c3
          have HB := aK b2
          have b7 := aK (c9 (hon 2 (by kernel_rfl)))
          have c8 := aK (d0 (hon 2 (by kernel_rfl)))
          have b8 := aK (d1 (hon 2 (by kernel_rfl)))
          have b9 := aK (d2 (hon 2 (by kernel_rfl)))
          have g0 := aK (f0 (hon 17 (by kernel_rfl)))
          have g3 := aK (f2 (hon 18 (by kernel_rfl)))
          have l5 := aK (f6 (hon 25 (by kernel_rfl)))
          have l7 := aK (f7 (hon 28 (by kernel_rfl)))
          have l9 := aK (f8 (hon 29 (by kernel_rfl)))
          have o0 := aK (g2 (hon 34 (by kernel_rfl)))
          refine value_ (w1 := w') (v := .bool (t479 == 0)) (by rfl) rfl ?_ ?_
          ·go_simp
           (try simp only [i64_w])
           try rfl
          refine hK.out _ _ ⟨v456, v460, v465, v468, v472, v477, d6, d7, d8, d9, e0, (by rw [ha.out]; exact putSel_upk 37 hb_ rfl rfl rfl), a6, a7, a8, b3, fun h0_ => absurd ((hon 2 (by kernel_rfl)).symm.trans h0_) (by decide), b4, b5, fun h0_ => absurd ((hon 2 (by kernel_rfl)).symm.trans h0_) (by decide), c1, a9, b0, b1, fun h0_ => absurd ((hon 2 (by kernel_rfl)).symm.trans h0_) (by decide), fun h0_ => absurd ((hon 2 (by kernel_rfl)).symm.trans h0_) (by decide), c3, b2, c9, d0, d1, d2, f0, f2, f6, f7, f8, g2, f4, f5, f9, g1, g5⟩
         refine steps_cons ?_ ?_
         ·rintro b a w' ⟨v456, v460, v465, v468, v472, v477, d6, d7, d8, d9, e0, ha, a6, a7, a8, b3, e6, b4, b5, f3, c1, a9, b0, b1, e2, e1, c3, b2, c9, d0, d1, d2, f0, f2, f6, f7, f8, g2, f4, f5, f9, g1, g5⟩ hb_ hon hoff
          refine ⟨_, rfl, fun K hK => ?_⟩
          have e72 : a.tmps[72]? = some (.bool (t479 == 0)) := by rw [ha]; exact putSel_on (e := (37, 72, .bool (t479 == 0))) 37 rfl rfl (hon 37 (by kernel_rfl)) rfl
          replace ha := aK ha
          have a3 := aK a6
          have a4 := aK a7
          have a5 := aK a8
          have b6 := aK b3
          have c0 := aK b4
          have c4 := aK b5
          have d4 := aK c1
          have a0 := aK a9
          have a1 := aK b0
          have a2 := aK b1
          have c6 := aK c3
          have HB := aK b2
          have b7 := aK (c9 (hon 2 (by kernel_rfl)))
          have c8 := aK (d0 (hon 2 (by kernel_rfl)))
          have b8 := aK (d1 (hon 2 (by kernel_rfl)))
          have b9 := aK (d2 (hon 2 (by kernel_rfl)))
          have g0 := aK (f0 (hon 17 (by kernel_rfl)))
          have g3 := aK (f2 (hon 18 (by kernel_rfl)))
          have l5 := aK (f6 (hon 25 (by kernel_rfl)))
          have l7 := aK (f7 (hon 28 (by kernel_rfl)))
          have l9 := aK (f8 (hon 29 (by kernel_rfl)))
          have o0 := aK (g2 (hon 34 (by kernel_rfl)))
          refine value_ (w1 := w') (v := .bool (t479 == 0)) (by rfl) rfl ?_ ?_
          ·go_simp
           (try simp only [i64_w])
           try rfl
          refine hK.out _ _ ⟨v456, v460, v465, v468, v472, v477, d6, d7, d8, d9, e0, (by rw [ha.out]; exact putSel_upk 38 hb_ rfl rfl rfl), a6, a7, a8, b3, fun h0_ => absurd ((hon 2 (by kernel_rfl)).symm.trans h0_) (by decide), b4, b5, fun h0_ => absurd ((hon 2 (by kernel_rfl)).symm.trans h0_) (by decide), c1, a9, b0, b1, fun h0_ => absurd ((hon 2 (by kernel_rfl)).symm.trans h0_) (by decide), fun h0_ => absurd ((hon 2 (by kernel_rfl)).symm.trans h0_) (by decide), c3, b2, c9, d0, d1, d2, f0, f2, f6, f7, f8, g2, f4, f5, f9, g1, g5⟩
         exact steps_nil
        rintro b a w106 hall ⟨v456, v460, v465, v468, v472, v477, d6, d7, d8, d9, e0, ha, a6, a7, a8, b3, e6, b4, b5, f3, c1, a9, b0, b1, e2, e1, c3, b2, c9, d0, d1, d2, f0, f2, f6, f7, f8, g2, f4, f5, f9, g1, g5⟩
        clear a0 a1 a2 b8 b9 c6 HB a3 a4 a5 b6 b7 c0 c4 c8 d4
        have q7 := hall 0 (by kernel_rfl)
        have q8 := hall 1 (by kernel_rfl)
        have p8 := hall 2 (by kernel_rfl)
        have p9 := hall 3 (by kernel_rfl)
        have q0 := hall 4 (by kernel_rfl)
        have q9 := hall 5 (by kernel_rfl)
        have s0 := hall 6 (by kernel_rfl)
        have q1 := hall 7 (by kernel_rfl)
        have s1 := hall 8 (by kernel_rfl)
        have s2 := hall 9 (by kernel_rfl)
        have q2 := hall 10 (by kernel_rfl)
        have q3 := hall 11 (by kernel_rfl)
        have m5 := hall 12 (by kernel_rfl)
        have m6 := hall 13 (by kernel_rfl)
        have q4 := hall 14 (by kernel_rfl)
        have q5 := hall 15 (by kernel_rfl)
        have u7 := hall 16 (by kernel_rfl)
        have s3 := hall 17 (by kernel_rfl)
        have s4 := hall 18 (by kernel_rfl)
        have u8 := hall 19 (by kernel_rfl)
        have u9 := hall 20 (by kernel_rfl)
        have v0 := hall 21 (by kernel_rfl)
        have v1 := hall 22 (by kernel_rfl)
        have v2 := hall 23 (by kernel_rfl)
        have v3 := hall 24 (by kernel_rfl)
        have s5 := hall 25 (by kernel_rfl)
        have v4 := hall 26 (by kernel_rfl)
        have v5 := hall 27 (by kernel_rfl)
        have u6 := hall 28 (by kernel_rfl)
        have s6 := hall 29 (by kernel_rfl)
        have v6 := hall 30 (by kernel_rfl)
        have v7 := hall 31 (by kernel_rfl)
        have v8 := hall 32 (by kernel_rfl)
        have v9 := hall 33 (by kernel_rfl)
        have s7 := hall 34 (by kernel_rfl)
        have x0 := hall 35 (by kernel_rfl)
        have x1 := hall 36 (by kernel_rfl)
        have x2 := hall 37 (by kernel_rfl)
        have x3 := hall 38 (by kernel_rfl)
        subst ha
        obtain rfl := f4 s3
        obtain rfl := f5 s4
        obtain rfl := f9 s5
        obtain rfl := g1 s6
        obtain rfl := g5 s7
        simp only [putSel, q7, q8, p8, p9, q0, q9, s0, q1, s1, s2, q2, q3, m5, m6, q4, q5, u7, s3, s4, u8, u9, v0, v1, v2, v3, s5, v4, v5, u6, s6, v6, v7, v8, v9, s7, x0, x1, x2, x3, if_true, Act.put, List.setIfInBounds_toArray, List.set_cons_zero, List.set_cons_succ]
        have a3 := aK a6
        clear a6
        have a4 := aK a7
        clear a7
        have a5 := aK a8
        clear a8
        have b6 := aK b3
        clear b3
        clear e6
        have c0 := aK b4
        clear b4
        have c4 := aK b5
        clear b5
        clear f3
        have d4 := aK c1
        clear c1
        have a0 := aK a9
        clear a9
        have a1 := aK b0
        clear b0
        have a2 := aK b1
        clear b1
        clear e2
        clear e1
        have c6 := aK c3
        clear c3
        have HB := aK b2
        clear b2
        have b7 := aK (c9 p8)
        clear c9
        have c8 := aK (d0 p8)
        clear d0
        have b8 := aK (d1 p8)
        clear d1
        have b9 := aK (d2 p8)
        clear d2
        have g0 := aK (f0 s3)
        clear f0
        have g3 := aK (f2 s4)
        clear f2
        have l5 := aK (f6 s5)
        clear f6
        have l7 := aK (f7 u6)
        clear f7
        have l9 := aK (f8 s6)
        clear f8
        have o0 := aK (g2 s7)
        clear g2
        clear hall q7 q8 p8 p9 q0 q9 s0 q1 s1 s2 q2 q3 m5 m6 q4 q5 u7 s3 s4 u8 u9 v0 v1 v2 v3 s5 v4 v5 u6 s6 v6 v7 v8 v9 s7 x0 x1 x2 x3
        try go_wp2
        go_ret
        exact ⟨by first | rfl | (simp [errW_none, errW_some] <;> rfl) | (simp [*, errW_none, errW_some] <;> rfl), gB HB.out⟩
       ·rw [if_neg c27] at H
        have c27b0 : (t474 == 0) = false := beq_eq_false_iff_ne.mpr c27
        have c27b1 : (t474 != 0) = true := bne_iff_ne.mpr c27
        exact absurd ((Option.some.inj H).trans HTRUE) (by decide)
      ·rw [if_neg c23] at H
       have c23b0 : (t462 == 0) = false := beq_eq_false_iff_ne.mpr c23
       have c23b1 : (t462 != 0) = true := bne_iff_ne.mpr c23
       exact absurd ((Option.some.inj H).trans HTRUE) (by decide)
     ·replace c19 := Bool.eq_false_iff.mpr c19
      subst c19
      replace H : (some false) = some r := by rw [if_neg (show ¬ (false = true) by decide)] at H; exact H
      exact absurd ((Option.some.inj H).trans HTRUE) (by decide)
    ·replace c17 := Bool.eq_false_iff.mpr c17
     subst c17
     replace H : (some false) = some r := by rw [if_neg (show ¬ (false = true) by decide)] at H; exact H
     exact absurd ((Option.some.inj H).trans HTRUE) (by decide)
   ·rw [if_neg c15] at H
    have c15b0 : (t451 == 0) = false := beq_eq_false_iff_ne.mpr c15
    have c15b1 : (t451 != 0) = true := bne_iff_ne.mpr c15
    exact absurd ((Option.some.inj H).trans HTRUE) (by decide)
  ·replace c7 := Bool.eq_false_iff.mpr c7
   subst c7
   replace H : (some true) = some r := by rw [if_neg (show ¬ (false = true) by decide)] at H; exact H
   obtain rfl := Option.some.inj H
   go_enter Try.func8, Try.ntmps8
   go_wp2_with (first | ((with_reducible refine gate_dst (N := 3) rfl ?_); (try (refine gate_guard (by rfl) ?_; dsimp only)); refine box_event ?hg (N := 3) ?hd (cs := #[.bool a0_0, .slice A0_1 l0_1.length c0_1]) (t := 25) ?hr ?_; (case hd => rfl); (case hg => first | rfl | exact wanted_on rfl rfl rfl (e72.trans (by first | rfl | (simp [*]; done)))); (case hr => first | (go_simp; done) | (go_simp; rfl)); intro g4 hg w107 hbox hb; replace a3 := aK (Kd.V_below (gV a3.out) hb); replace a4 := aK (Kd.V_below (gV a4.out) hb); replace a5 := aK (Kd.V_below (gV a5.out) hb); have n3_ := aK (below_step (gB HB.out) hb); have a0 := aK (hbox); have m7 := aK ((by rw [hg]; exact (below_size (gB HB.out)) : w.heap.size ≤ g4)); clear HB; have HB := n3_; clear n3_; clear hb hbox hg) | ((with_reducible refine gate_dst (N := 4) rfl ?_); (try (refine gate_guard (by rfl) ?_; dsimp only)); refine box_event ?hg (N := 4) ?hd (cs := #[.bool a1_0, .slice A1_1 l1_1.length c1_1]) (t := 25) ?hr ?_; (case hd => rfl); (case hg => rfl); (case hr => first | (go_simp; done) | (go_simp; rfl)); intro g6 hg w108 hbox hb; replace a3 := aK (Kd.V_below (gV a3.out) hb); replace a4 := aK (Kd.V_below (gV a4.out) hb); replace a5 := aK (Kd.V_below (gV a5.out) hb); have n3_ := aK (blk_below (gK a0.out) hb); have n4_ := aK (below_step (gB HB.out) hb); have a1 := aK (hbox); have m8 := aK ((by rw [hg]; exact (below_size (gB HB.out)) : w.heap.size ≤ g6)); have s8 := aK ((by rw [hg]; exact Nat.ne_of_lt (blk_lt (gK a0.out)) : g4 ≠ g6)); have s9 := aK ((by rw [hg]; exact Nat.ne_of_gt (blk_lt (gK a0.out)) : g6 ≠ g4)); clear a0 HB; have a0 := n3_; have HB := n4_; clear n3_ n4_; clear hb hbox hg) | ((with_reducible refine gate_dst (N := 5) rfl ?_); (try (refine gate_guard (by rfl) ?_; dsimp only)); refine box_event ?hg (N := 5) ?hd (cs := #[.bool a2_0, .slice A2_1 l2_1.length c2_1]) (t := 25) ?hr ?_; (case hd => rfl); (case hg => rfl); (case hr => first | (go_simp; done) | (go_simp; rfl)); intro g7 hg w109 hbox hb; replace a3 := aK (Kd.V_below (gV a3.out) hb); replace a4 := aK (Kd.V_below (gV a4.out) hb); replace a5 := aK (Kd.V_below (gV a5.out) hb); have n3_ := aK (blk_below (gK a0.out) hb); have n4_ := aK (blk_below (gK a1.out) hb); have n5_ := aK (below_step (gB HB.out) hb); have a2 := aK (hbox); have m9 := aK ((by rw [hg]; exact (below_size (gB HB.out)) : w.heap.size ≤ g7)); have t0 := aK ((by rw [hg]; exact Nat.ne_of_lt (blk_lt (gK a0.out)) : g4 ≠ g7)); have t1 := aK ((by rw [hg]; exact Nat.ne_of_gt (blk_lt (gK a0.out)) : g7 ≠ g4)); have t2 := aK ((by rw [hg]; exact Nat.ne_of_lt (blk_lt (gK a1.out)) : g6 ≠ g7)); have t3 := aK ((by rw [hg]; exact Nat.ne_of_gt (blk_lt (gK a1.out)) : g7 ≠ g6)); clear a0 a1 HB; have a0 := n3_; have a1 := n4_; have HB := n5_; clear n3_ n4_ n5_; clear hb hbox hg) | ((with_reducible refine gate_callee (f := 9) rfl ?_); refine goesL_ (some 10) rfl rfl Try.func9 (by kernel_rfl) rfl #[] rfl (by (try simp only [List.map_toArray, List.map_cons, List.map_nil]); first | done | rfl | (simp only [List.length_drop, List.length_take]; rfl)) ?_; (with_reducible refine (isohyetlaw02_fit.calls k  true _ rfl A4.out).mono ?_); (try clear A4); rintro e w110 ⟨rfl, hb⟩; refine ⟨_, rfl, ?_⟩; replace a3 := aK (Kd.V_below (gV a3.out) hb); replace a4 := aK (Kd.V_below (gV a4.out) hb); replace a5 := aK (Kd.V_below (gV a5.out) hb); replace a0 := aK (blk_below (gK a0.out) hb); replace a1 := aK (blk_below (gK a1.out) hb); replace a2 := aK (blk_below (gK a2.out) hb); replace HB := aK (below_step (gB HB.out) hb); (try clear hb); (try clear hb2); (try clear hk); (try clear hi); have hnb111 := s8.out; have hnc111 := s9.out; have hnb112 := t0.out; have hnc112 := t1.out; have hcz113_0 : w110.cell? ⟨g4, 0, none⟩ = some (.bool a0_0) := (blk_cell a0.out 0).trans rfl; have hcz113_1 : w110.cell? ⟨g4, 1, none⟩ = some (.slice A0_1 l0_1.length c0_1) := (blk_cell a0.out 1).trans rfl; have hfz113_0 := blk_frozen a0.out 0; have hfz113_1 := blk_frozen a0.out 1; have hnb114 := t2.out; have hnc114 := t3.out; have hcz115_0 : w110.cell? ⟨g6, 0, none⟩ = some (.bool a1_0) := (blk_cell a1.out 0).trans rfl; have hcz115_1 : w110.cell? ⟨g6, 1, none⟩ = some (.slice A1_1 l1_1.length c1_1) := (blk_cell a1.out 1).trans rfl; have hfz115_0 := blk_frozen a1.out 0; have hfz115_1 := blk_frozen a1.out 1; have hcz116_0 : w110.cell? ⟨g7, 0, none⟩ = some (.bool a2_0) := (blk_cell a2.out 0).trans rfl; have hcz116_1 : w110.cell? ⟨g7, 1, none⟩ = some (.slice A2_1 l2_1.length c2_1) := (blk_cell a2.out 1).trans rfl; have hfz116_0 := blk_frozen a2.out 0; have hfz116_1 := blk_frozen a2.out 1) | ((with_reducible refine gate_dst (N := 15) rfl ?_); (try (refine gate_guard (by rfl) ?_; dsimp only)); refine Kd.N_lit k25 _ 25 ?hg (N' := 15) ?hd (xs := ([(⟨a0_0, l0_1⟩ : S25), (⟨a1_0, l1_1⟩ : S25), (⟨a2_0, l2_1⟩ : S25)] : List (S25))) (inner := [.bool a0_0, .slice A0_1 l0_1.length c0_1, .bool a1_0, .slice A1_1 l1_1.length c1_1, .bool a2_0, .slice A2_1 l2_1.length c2_1]) (ok := (fun k_ => ((P0_1_ k_ ∨ P1_1_ k_ ∨ P2_1_ k_) ∨ w.heap.size ≤ k_))) (okp := (fun k_ => ((P0_1_ k_ ∨ P1_1_ k_ ∨ P2_1_ k_) ∨ w.heap.size ≤ k_))) ?hr ?hp (fun _ hk => hk) ((show ∀ k_, w110.heap.size ≤ k_ → (fun k_ => ((P0_1_ k_ ∨ P1_1_ k_ ∨ P2_1_ k_) ∨ w.heap.size ≤ k_)) k_ from fun k_ hk => (.inr (Nat.le_trans (below_size (gB HB.out)) hk))) _ (Nat.le_refl _)) (Below.refl _ _) (Nat.le_refl _) (by simp) ?_; (case hd => rfl); (case hg => rfl); (case hr => first | (go_simp; done) | (go_simp; rfl)); (case hp => exact (Reps.c2 (show Kd.FK k25 _ _ (⟨a0_0, l0_1⟩ : S25) [.bool a0_0, .slice A0_1 l0_1.length c0_1] from (k25_mkF _ _ (⟨a0_0, l0_1⟩ : S25) (Kd.V_reads' (Kd.V_mono (ok' := (fun k_ => ((P0_1_ k_ ∨ P1_1_ k_ ∨ P2_1_ k_) ∨ w.heap.size ≤ k_))) (a3.out) (fun k_ hk => hk))).2.1 (Kd.V_F (Kd.V_mono (ok' := (fun k_ => ((P0_1_ k_ ∨ P1_1_ k_ ∨ P2_1_ k_) ∨ w.heap.size ≤ k_))) (a3.out) (fun k_ hk => hk))))) (Reps.c2 (show Kd.FK k25 _ _ (⟨a1_0, l1_1⟩ : S25) [.bool a1_0, .slice A1_1 l1_1.length c1_1] from (k25_mkF _ _ (⟨a1_0, l1_1⟩ : S25) (Kd.V_reads' (Kd.V_mono (ok' := (fun k_ => ((P0_1_ k_ ∨ P1_1_ k_ ∨ P2_1_ k_) ∨ w.heap.size ≤ k_))) (a4.out) (fun k_ hk => hk))).2.1 (Kd.V_F (Kd.V_mono (ok' := (fun k_ => ((P0_1_ k_ ∨ P1_1_ k_ ∨ P2_1_ k_) ∨ w.heap.size ≤ k_))) (a4.out) (fun k_ hk => hk))))) (Reps.c2 (show Kd.FK k25 _ _ (⟨a2_0, l2_1⟩ : S25) [.bool a2_0, .slice A2_1 l2_1.length c2_1] from (k25_mkF _ _ (⟨a2_0, l2_1⟩ : S25) (Kd.V_reads' (Kd.V_mono (ok' := (fun k_ => ((P0_1_ k_ ∨ P1_1_ k_ ∨ P2_1_ k_) ∨ w.heap.size ≤ k_))) (a5.out) (fun k_ hk => hk))).2.1 (Kd.V_F (Kd.V_mono (ok' := (fun k_ => ((P0_1_ k_ ∨ P1_1_ k_ ∨ P2_1_ k_) ∨ w.heap.size ≤ k_))) (a5.out) (fun k_ hk => hk))))) (Reps.none _ _))))); intro v418 w117 ho118 hb hg_ hnew_; clear hg_ hnew_; (first | rw [← Ny417.out] at ho118 | (simp only [Int.reduceToNat] at ho118; rw [← Ny417.out] at ho118)); replace a3 := aK (Kd.V_below (gV a3.out) hb); replace a4 := aK (Kd.V_below (gV a4.out) hb); replace a5 := aK (Kd.V_below (gV a5.out) hb); have o1 := aK (Kd.N_lower ho118 (below_size (gB HB.out))); replace a0 := aK (blk_below (gK a0.out) hb); replace a1 := aK (blk_below (gK a1.out) hb); replace a2 := aK (blk_below (gK a2.out) hb); have n7_ := aK (below_step (gB HB.out) hb); clear HB; have HB := n7_; clear n7_; clear hb ho118; obtain ⟨Ao119, co119, eo119⟩ := Kd.N_slice o1.out; subst eo119) | ((with_reducible refine gate_callee (f := 10) rfl ?_); refine goesL_ (some 16) rfl rfl Try.func10 (by kernel_rfl) rfl #[.int .i64 20, .slice Ao119 y417.length co119] rfl (by (try simp only [List.map_toArray, List.map_cons, List.map_nil]); first | done | rfl | (simp only [List.length_drop, List.length_take]; rfl)) ?_; (with_reducible refine (isohyetlaw02_short.calls k 20 _ _ y417 false _ ?side1 ?side2 A6.out).mono ?_); (case side1 => repeat (first | exact (Kd.N_reads' o1.out).2.2 | apply Kd.C_alloc | apply Kd.C_drewN | apply Kd.C_drew)); (case side2 => exact (Kd.N_reads' o1.out).2.1); (try clear A6); rintro e w120 ⟨rfl, hb⟩; refine ⟨_, rfl, ?_⟩; replace a3 := aK (Kd.V_below (gV a3.out) hb); replace a4 := aK (Kd.V_below (gV a4.out) hb); replace a5 := aK (Kd.V_below (gV a5.out) hb); replace o1 := aK (Kd.N_below (gN o1.out) hb); replace a0 := aK (blk_below (gK a0.out) hb); replace a1 := aK (blk_below (gK a1.out) hb); replace a2 := aK (blk_below (gK a2.out) hb); replace HB := aK (below_step (gB HB.out) hb); (try clear hb); (try clear hb2); (try clear hk); (try clear hi)))
   go_ret
   exact ⟨by first | rfl | (simp [errW_none, errW_some] <;> rfl) | (simp [*, errW_none, errW_some] <;> rfl), gB HB.out⟩
 ·replace c5 := Bool.eq_false_iff.mpr c5
  subst c5
  replace H : (some false) = some r := by rw [if_neg (show ¬ (false = true) by decide)] at H; exact H
  exact absurd ((Option.some.inj H).trans HTRUE) (by decide)

end Go.Proofs.Ytpgmhhkkbjbpgaa.M
