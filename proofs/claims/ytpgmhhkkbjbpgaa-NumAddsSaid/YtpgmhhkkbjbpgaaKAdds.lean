-- By drive.py (this session's program), out of the translation. Lean checks it.
import Derived.Test.YtpgmhhkkbjbpgaaA0
import Derived.Test.YtpgmhhkkbjbpgaaA6
import Derived.Test.YtpgmhhkkbjbpgaaA8
import Derived.Test.YtpgmhhkkbjbpgaaC1
import Derived.Test.YtpgmhhkkbjbpgaaC3
import Derived.Test.YtpgmhhkkbjbpgaaC4
import Derived.Test.YtpgmhhkkbjbpgaaC5
import Derived.Test.YtpgmhhkkbjbpgaaC6
import Derived.Test.YtpgmhhkkbjbpgaaR4
import Derived.Test.YtpgmhhkkbjbpgaaE1
namespace Go.Proofs.Ytpgmhhkkbjbpgaa.M
open Go.Proofs.Ytpgmhhkkbjbpgaa.MB Go.Proofs.Ytpgmhhkkbjbpgaa
open Go.RowKit Go.Proofs.YtpgmhhkkbjbpgaaW.PrintWords Go.Proofs.YtpgmhhkkbjbpgaaW.PrintLast Go.Proofs.YtpgmhhkkbjbpgaaW.PrintMore
attribute [local go_sem] max2_int min2_int max_two min_two max_three min_three max_four min_four   -- for this text's walks alone
set_option linter.unusedVariables false
set_option linter.unusedSimpArgs false
attribute [local go_sem] add64_run sub64_run

set_option maxHeartbeats 8000000 in
set_option maxRecDepth 100000 in
theorem isohyetlaw02_NumAdds.calls (k : Nat) (a0_0 : Bool) (P0_1_ : Nat → Prop) (A0_1 : Option Addr) (c0_1 : Nat) (l0_1 : List Int) (a1_0 : Bool) (P1_1_ : Nat → Prop) (A1_1 : Option Addr) (c1_1 : Nat) (l1_1 : List Int) (r : Bool) (w : World) (hs0_1 : Kd.V (Kd.int .u64) 54 w w.heap.size (fun k_ => P0_1_ k_) (.slice A0_1 l0_1.length c0_1) l0_1) (hs1_1 : Kd.V (Kd.int .u64) 54 w w.heap.size (fun k_ => P1_1_ k_) (.slice A1_1 l1_1.length c1_1) l1_1) (HTRUE : r = true) (h : isohyetlaw02_NumAdds.f k a0_0 l0_1 a1_0 l1_1 = some r) :
  Calls Try.prog 7 #[.agg #[.bool a0_0, .slice A0_1 l0_1.length c0_1], .agg #[.bool a1_0, .slice A1_1 l1_1.length c1_1]] w fun e w' => e = .returned (.bool r) ∧ Below w.heap.size w w' := by
 have hu25 := Try.underlying25
 have hu44 := Try.underlying44
 have HO0_1 := aK (show Kd.V (Kd.int .u64) 54 w w.heap.size (fun k_ => ((P0_1_ k_ ∨ P1_1_ k_) ∨ w.heap.size ≤ k_)) (.slice A0_1 l0_1.length c0_1) l0_1 from Kd.V_mono hs0_1 (fun k_ hk => .inl (.inl hk)))
 have HO1_1 := aK (show Kd.V (Kd.int .u64) 54 w w.heap.size (fun k_ => ((P0_1_ k_ ∨ P1_1_ k_) ∨ w.heap.size ≤ k_)) (.slice A1_1 l1_1.length c1_1) l1_1 from Kd.V_mono hs1_1 (fun k_ hk => .inl (.inr hk)))
 have HB := aK (Below.refl w.heap.size w)
 have H : ((isohyetlaw02_fit.f k).bind fun t545 => (if t545 = true then ((isohyetlaw02_short.f k 4 (([(⟨a0_0, l0_1⟩ : S25), (⟨a1_0, l1_1⟩ : S25)] : List (S25)))).bind fun t549 => (if t549 = true then ((isohyetlaw02_of.f k a0_0 l0_1).bind fun bt550 => ((isohyetlaw02_of.f k a1_0 l1_1).bind fun bt554 => ((isohyetref02_Neg.f bt554.1 bt554.2).bind fun bt560 => ((isohyetref02_Add.f k bt550.1 bt550.2 bt560.1 bt560.2).bind fun bt564 => ((num_Add.f k a0_0 l0_1 a1_0 l1_1).bind fun bt569 => ((isohyetref02_Add.f k bt550.1 bt550.2 bt554.1 bt554.2).bind fun bt573 => ((isohyetlaw02_is.f k bt569.1 bt569.2 bt573.1 bt573.2).bind fun t577 => (if t577 = true then ((num_Sub.f k a0_0 l0_1 a1_0 l1_1).bind fun bt578 => ((isohyetlaw02_is.f k bt578.1 bt578.2 bt564.1 bt564.2).bind fun t582 => (if t582 = true then ((num_Mul.f k a0_0 l0_1 a1_0 l1_1).bind fun bt583 => ((isohyetref02_Mul.f k bt550.1 bt550.2 bt554.1 bt554.2).bind fun bt587 => ((isohyetlaw02_is.f k bt583.1 bt583.2 bt587.1 bt587.2).bind fun t591 => (isohyetlaw02_NumAdds.j0 k (!t591) a0_0 l0_1 a1_0 l1_1 bt550.1 bt550.2 bt564.1 bt564.2)))) else (isohyetlaw02_NumAdds.j0 k true a0_0 l0_1 a1_0 l1_1 bt550.1 bt550.2 bt564.1 bt564.2)))) else (isohyetlaw02_NumAdds.j0 k true a0_0 l0_1 a1_0 l1_1 bt550.1 bt550.2 bt564.1 bt564.2))))))))) else (some true))) else (some false))) = some r := h
 clear h
 obtain ⟨t545, A30, H⟩ := Option.bind_eq_some_iff.mp H
 replace H : (if t545 = true then ((isohyetlaw02_short.f k 4 (([(⟨a0_0, l0_1⟩ : S25), (⟨a1_0, l1_1⟩ : S25)] : List (S25)))).bind fun t549 => (if t549 = true then ((isohyetlaw02_of.f k a0_0 l0_1).bind fun bt550 => ((isohyetlaw02_of.f k a1_0 l1_1).bind fun bt554 => ((isohyetref02_Neg.f bt554.1 bt554.2).bind fun bt560 => ((isohyetref02_Add.f k bt550.1 bt550.2 bt560.1 bt560.2).bind fun bt564 => ((num_Add.f k a0_0 l0_1 a1_0 l1_1).bind fun bt569 => ((isohyetref02_Add.f k bt550.1 bt550.2 bt554.1 bt554.2).bind fun bt573 => ((isohyetlaw02_is.f k bt569.1 bt569.2 bt573.1 bt573.2).bind fun t577 => (if t577 = true then ((num_Sub.f k a0_0 l0_1 a1_0 l1_1).bind fun bt578 => ((isohyetlaw02_is.f k bt578.1 bt578.2 bt564.1 bt564.2).bind fun t582 => (if t582 = true then ((num_Mul.f k a0_0 l0_1 a1_0 l1_1).bind fun bt583 => ((isohyetref02_Mul.f k bt550.1 bt550.2 bt554.1 bt554.2).bind fun bt587 => ((isohyetlaw02_is.f k bt583.1 bt583.2 bt587.1 bt587.2).bind fun t591 => (isohyetlaw02_NumAdds.j0 k (!t591) a0_0 l0_1 a1_0 l1_1 bt550.1 bt550.2 bt564.1 bt564.2)))) else (isohyetlaw02_NumAdds.j0 k true a0_0 l0_1 a1_0 l1_1 bt550.1 bt550.2 bt564.1 bt564.2)))) else (isohyetlaw02_NumAdds.j0 k true a0_0 l0_1 a1_0 l1_1 bt550.1 bt550.2 bt564.1 bt564.2))))))))) else (some true))) else (some false)) = some r := H
 have A3 := aK A30
 clear A30
 by_cases c4 : t545 = true
 ·subst c4
  replace H : ((isohyetlaw02_short.f k 4 (([(⟨a0_0, l0_1⟩ : S25), (⟨a1_0, l1_1⟩ : S25)] : List (S25)))).bind fun t549 => (if t549 = true then ((isohyetlaw02_of.f k a0_0 l0_1).bind fun bt550 => ((isohyetlaw02_of.f k a1_0 l1_1).bind fun bt554 => ((isohyetref02_Neg.f bt554.1 bt554.2).bind fun bt560 => ((isohyetref02_Add.f k bt550.1 bt550.2 bt560.1 bt560.2).bind fun bt564 => ((num_Add.f k a0_0 l0_1 a1_0 l1_1).bind fun bt569 => ((isohyetref02_Add.f k bt550.1 bt550.2 bt554.1 bt554.2).bind fun bt573 => ((isohyetlaw02_is.f k bt569.1 bt569.2 bt573.1 bt573.2).bind fun t577 => (if t577 = true then ((num_Sub.f k a0_0 l0_1 a1_0 l1_1).bind fun bt578 => ((isohyetlaw02_is.f k bt578.1 bt578.2 bt564.1 bt564.2).bind fun t582 => (if t582 = true then ((num_Mul.f k a0_0 l0_1 a1_0 l1_1).bind fun bt583 => ((isohyetref02_Mul.f k bt550.1 bt550.2 bt554.1 bt554.2).bind fun bt587 => ((isohyetlaw02_is.f k bt583.1 bt583.2 bt587.1 bt587.2).bind fun t591 => (isohyetlaw02_NumAdds.j0 k (!t591) a0_0 l0_1 a1_0 l1_1 bt550.1 bt550.2 bt564.1 bt564.2)))) else (isohyetlaw02_NumAdds.j0 k true a0_0 l0_1 a1_0 l1_1 bt550.1 bt550.2 bt564.1 bt564.2)))) else (isohyetlaw02_NumAdds.j0 k true a0_0 l0_1 a1_0 l1_1 bt550.1 bt550.2 bt564.1 bt564.2))))))))) else (some true))) = some r := by rw [if_pos rfl] at H; exact H
  obtain ⟨y546, hy546⟩ : ∃ y_ : List (S25), y_ = (([(⟨a0_0, l0_1⟩ : S25), (⟨a1_0, l1_1⟩ : S25)] : List (S25))) := ⟨_, rfl⟩
  replace H : ((isohyetlaw02_short.f k 4 y546).bind fun t549 => (if t549 = true then ((isohyetlaw02_of.f k a0_0 l0_1).bind fun bt550 => ((isohyetlaw02_of.f k a1_0 l1_1).bind fun bt554 => ((isohyetref02_Neg.f bt554.1 bt554.2).bind fun bt560 => ((isohyetref02_Add.f k bt550.1 bt550.2 bt560.1 bt560.2).bind fun bt564 => ((num_Add.f k a0_0 l0_1 a1_0 l1_1).bind fun bt569 => ((isohyetref02_Add.f k bt550.1 bt550.2 bt554.1 bt554.2).bind fun bt573 => ((isohyetlaw02_is.f k bt569.1 bt569.2 bt573.1 bt573.2).bind fun t577 => (if t577 = true then ((num_Sub.f k a0_0 l0_1 a1_0 l1_1).bind fun bt578 => ((isohyetlaw02_is.f k bt578.1 bt578.2 bt564.1 bt564.2).bind fun t582 => (if t582 = true then ((num_Mul.f k a0_0 l0_1 a1_0 l1_1).bind fun bt583 => ((isohyetref02_Mul.f k bt550.1 bt550.2 bt554.1 bt554.2).bind fun bt587 => ((isohyetlaw02_is.f k bt583.1 bt583.2 bt587.1 bt587.2).bind fun t591 => (isohyetlaw02_NumAdds.j0 k (!t591) a0_0 l0_1 a1_0 l1_1 bt550.1 bt550.2 bt564.1 bt564.2)))) else (isohyetlaw02_NumAdds.j0 k true a0_0 l0_1 a1_0 l1_1 bt550.1 bt550.2 bt564.1 bt564.2)))) else (isohyetlaw02_NumAdds.j0 k true a0_0 l0_1 a1_0 l1_1 bt550.1 bt550.2 bt564.1 bt564.2))))))))) else (some true))) = some r := by first | (rw [hy546]; with_reducible exact H) | (have H2_ := (Option.bind_some _ _).symm.trans H; rw [hy546]; with_reducible exact H2_) | (have H2_ := (Option.bind_some _ _).symm.trans H; with_reducible exact H2_) | with_reducible exact H | (rw [hy546]; exact H) | exact H
  have Ny546 := aK hy546
  clear hy546
  obtain ⟨t549, A50, H⟩ := Option.bind_eq_some_iff.mp H
  replace H : (if t549 = true then ((isohyetlaw02_of.f k a0_0 l0_1).bind fun bt550 => ((isohyetlaw02_of.f k a1_0 l1_1).bind fun bt554 => ((isohyetref02_Neg.f bt554.1 bt554.2).bind fun bt560 => ((isohyetref02_Add.f k bt550.1 bt550.2 bt560.1 bt560.2).bind fun bt564 => ((num_Add.f k a0_0 l0_1 a1_0 l1_1).bind fun bt569 => ((isohyetref02_Add.f k bt550.1 bt550.2 bt554.1 bt554.2).bind fun bt573 => ((isohyetlaw02_is.f k bt569.1 bt569.2 bt573.1 bt573.2).bind fun t577 => (if t577 = true then ((num_Sub.f k a0_0 l0_1 a1_0 l1_1).bind fun bt578 => ((isohyetlaw02_is.f k bt578.1 bt578.2 bt564.1 bt564.2).bind fun t582 => (if t582 = true then ((num_Mul.f k a0_0 l0_1 a1_0 l1_1).bind fun bt583 => ((isohyetref02_Mul.f k bt550.1 bt550.2 bt554.1 bt554.2).bind fun bt587 => ((isohyetlaw02_is.f k bt583.1 bt583.2 bt587.1 bt587.2).bind fun t591 => (isohyetlaw02_NumAdds.j0 k (!t591) a0_0 l0_1 a1_0 l1_1 bt550.1 bt550.2 bt564.1 bt564.2)))) else (isohyetlaw02_NumAdds.j0 k true a0_0 l0_1 a1_0 l1_1 bt550.1 bt550.2 bt564.1 bt564.2)))) else (isohyetlaw02_NumAdds.j0 k true a0_0 l0_1 a1_0 l1_1 bt550.1 bt550.2 bt564.1 bt564.2))))))))) else (some true)) = some r := H
  have A5 := aK A50
  clear A50
  by_cases c6 : t549 = true
  ·subst c6
   replace H : ((isohyetlaw02_of.f k a0_0 l0_1).bind fun bt550 => ((isohyetlaw02_of.f k a1_0 l1_1).bind fun bt554 => ((isohyetref02_Neg.f bt554.1 bt554.2).bind fun bt560 => ((isohyetref02_Add.f k bt550.1 bt550.2 bt560.1 bt560.2).bind fun bt564 => ((num_Add.f k a0_0 l0_1 a1_0 l1_1).bind fun bt569 => ((isohyetref02_Add.f k bt550.1 bt550.2 bt554.1 bt554.2).bind fun bt573 => ((isohyetlaw02_is.f k bt569.1 bt569.2 bt573.1 bt573.2).bind fun t577 => (if t577 = true then ((num_Sub.f k a0_0 l0_1 a1_0 l1_1).bind fun bt578 => ((isohyetlaw02_is.f k bt578.1 bt578.2 bt564.1 bt564.2).bind fun t582 => (if t582 = true then ((num_Mul.f k a0_0 l0_1 a1_0 l1_1).bind fun bt583 => ((isohyetref02_Mul.f k bt550.1 bt550.2 bt554.1 bt554.2).bind fun bt587 => ((isohyetlaw02_is.f k bt583.1 bt583.2 bt587.1 bt587.2).bind fun t591 => (isohyetlaw02_NumAdds.j0 k (!t591) a0_0 l0_1 a1_0 l1_1 bt550.1 bt550.2 bt564.1 bt564.2)))) else (isohyetlaw02_NumAdds.j0 k true a0_0 l0_1 a1_0 l1_1 bt550.1 bt550.2 bt564.1 bt564.2)))) else (isohyetlaw02_NumAdds.j0 k true a0_0 l0_1 a1_0 l1_1 bt550.1 bt550.2 bt564.1 bt564.2))))))))) = some r := by rw [if_pos rfl] at H; exact H
   replace H := Option.bind_eq_some_iff.mp H
   obtain ⟨⟨t550, t551⟩, A70, H⟩ := H
   replace H : ((isohyetlaw02_of.f k a1_0 l1_1).bind fun bt554 => ((isohyetref02_Neg.f bt554.1 bt554.2).bind fun bt560 => ((isohyetref02_Add.f k t550 t551 bt560.1 bt560.2).bind fun bt564 => ((num_Add.f k a0_0 l0_1 a1_0 l1_1).bind fun bt569 => ((isohyetref02_Add.f k t550 t551 bt554.1 bt554.2).bind fun bt573 => ((isohyetlaw02_is.f k bt569.1 bt569.2 bt573.1 bt573.2).bind fun t577 => (if t577 = true then ((num_Sub.f k a0_0 l0_1 a1_0 l1_1).bind fun bt578 => ((isohyetlaw02_is.f k bt578.1 bt578.2 bt564.1 bt564.2).bind fun t582 => (if t582 = true then ((num_Mul.f k a0_0 l0_1 a1_0 l1_1).bind fun bt583 => ((isohyetref02_Mul.f k t550 t551 bt554.1 bt554.2).bind fun bt587 => ((isohyetlaw02_is.f k bt583.1 bt583.2 bt587.1 bt587.2).bind fun t591 => (isohyetlaw02_NumAdds.j0 k (!t591) a0_0 l0_1 a1_0 l1_1 t550 t551 bt564.1 bt564.2)))) else (isohyetlaw02_NumAdds.j0 k true a0_0 l0_1 a1_0 l1_1 t550 t551 bt564.1 bt564.2)))) else (isohyetlaw02_NumAdds.j0 k true a0_0 l0_1 a1_0 l1_1 t550 t551 bt564.1 bt564.2)))))))) = some r := H
   have A7 := aK A70
   clear A70
   replace H := Option.bind_eq_some_iff.mp H
   obtain ⟨⟨t554, t555⟩, A80, H⟩ := H
   replace H : ((isohyetref02_Neg.f t554 t555).bind fun bt560 => ((isohyetref02_Add.f k t550 t551 bt560.1 bt560.2).bind fun bt564 => ((num_Add.f k a0_0 l0_1 a1_0 l1_1).bind fun bt569 => ((isohyetref02_Add.f k t550 t551 t554 t555).bind fun bt573 => ((isohyetlaw02_is.f k bt569.1 bt569.2 bt573.1 bt573.2).bind fun t577 => (if t577 = true then ((num_Sub.f k a0_0 l0_1 a1_0 l1_1).bind fun bt578 => ((isohyetlaw02_is.f k bt578.1 bt578.2 bt564.1 bt564.2).bind fun t582 => (if t582 = true then ((num_Mul.f k a0_0 l0_1 a1_0 l1_1).bind fun bt583 => ((isohyetref02_Mul.f k t550 t551 t554 t555).bind fun bt587 => ((isohyetlaw02_is.f k bt583.1 bt583.2 bt587.1 bt587.2).bind fun t591 => (isohyetlaw02_NumAdds.j0 k (!t591) a0_0 l0_1 a1_0 l1_1 t550 t551 bt564.1 bt564.2)))) else (isohyetlaw02_NumAdds.j0 k true a0_0 l0_1 a1_0 l1_1 t550 t551 bt564.1 bt564.2)))) else (isohyetlaw02_NumAdds.j0 k true a0_0 l0_1 a1_0 l1_1 t550 t551 bt564.1 bt564.2))))))) = some r := H
   have A8 := aK A80
   clear A80
   replace H := Option.bind_eq_some_iff.mp H
   obtain ⟨⟨t560, t561⟩, A90, H⟩ := H
   replace H : ((isohyetref02_Add.f k t550 t551 t560 t561).bind fun bt564 => ((num_Add.f k a0_0 l0_1 a1_0 l1_1).bind fun bt569 => ((isohyetref02_Add.f k t550 t551 t554 t555).bind fun bt573 => ((isohyetlaw02_is.f k bt569.1 bt569.2 bt573.1 bt573.2).bind fun t577 => (if t577 = true then ((num_Sub.f k a0_0 l0_1 a1_0 l1_1).bind fun bt578 => ((isohyetlaw02_is.f k bt578.1 bt578.2 bt564.1 bt564.2).bind fun t582 => (if t582 = true then ((num_Mul.f k a0_0 l0_1 a1_0 l1_1).bind fun bt583 => ((isohyetref02_Mul.f k t550 t551 t554 t555).bind fun bt587 => ((isohyetlaw02_is.f k bt583.1 bt583.2 bt587.1 bt587.2).bind fun t591 => (isohyetlaw02_NumAdds.j0 k (!t591) a0_0 l0_1 a1_0 l1_1 t550 t551 bt564.1 bt564.2)))) else (isohyetlaw02_NumAdds.j0 k true a0_0 l0_1 a1_0 l1_1 t550 t551 bt564.1 bt564.2)))) else (isohyetlaw02_NumAdds.j0 k true a0_0 l0_1 a1_0 l1_1 t550 t551 bt564.1 bt564.2)))))) = some r := H
   have A9 := aK A90
   clear A90
   replace H := Option.bind_eq_some_iff.mp H
   obtain ⟨⟨t564, t565⟩, A100, H⟩ := H
   replace H : ((num_Add.f k a0_0 l0_1 a1_0 l1_1).bind fun bt569 => ((isohyetref02_Add.f k t550 t551 t554 t555).bind fun bt573 => ((isohyetlaw02_is.f k bt569.1 bt569.2 bt573.1 bt573.2).bind fun t577 => (if t577 = true then ((num_Sub.f k a0_0 l0_1 a1_0 l1_1).bind fun bt578 => ((isohyetlaw02_is.f k bt578.1 bt578.2 t564 t565).bind fun t582 => (if t582 = true then ((num_Mul.f k a0_0 l0_1 a1_0 l1_1).bind fun bt583 => ((isohyetref02_Mul.f k t550 t551 t554 t555).bind fun bt587 => ((isohyetlaw02_is.f k bt583.1 bt583.2 bt587.1 bt587.2).bind fun t591 => (isohyetlaw02_NumAdds.j0 k (!t591) a0_0 l0_1 a1_0 l1_1 t550 t551 t564 t565)))) else (isohyetlaw02_NumAdds.j0 k true a0_0 l0_1 a1_0 l1_1 t550 t551 t564 t565)))) else (isohyetlaw02_NumAdds.j0 k true a0_0 l0_1 a1_0 l1_1 t550 t551 t564 t565))))) = some r := H
   have A10 := aK A100
   clear A100
   have HC11 := aK H
   clear H
   go_enter Try.func7, Try.ntmps7
   try go_wp2_with (first | ((with_reducible refine gate_dst (N := 2) rfl ?_); refine box_event ?hg (N := 2) ?hd (cs := #[.bool a0_0, .slice A0_1 l0_1.length c0_1]) (t := 25) ?hr ?_; (case hd => rfl); (case hg => rfl); (case hr => first | (go_simp; done) | (go_simp; rfl)); intro gb543 hg w12 hbox hb; replace HO0_1 := aK (Kd.V_below (Kd.V_elderB (gV HO0_1.out) gb543 (Nat.le_of_eq hg.symm)) hb); replace HO1_1 := aK (Kd.V_below (Kd.V_elderB (gV HO1_1.out) gb543 (Nat.le_of_eq hg.symm)) hb); have n2_ := aK (below_step (gB HB.out) hb); have BK543 := aK (hbox); have GE543 := aK ((by rw [hg]; exact (below_size (gB HB.out)) : w.heap.size ≤ gb543)); clear HB; have HB := n2_; clear n2_; clear hb hbox hg) | ((with_reducible refine gate_dst (N := 3) rfl ?_); refine box_event ?hg (N := 3) ?hd (cs := #[.bool a1_0, .slice A1_1 l1_1.length c1_1]) (t := 25) ?hr ?_; (case hd => rfl); (case hg => rfl); (case hr => first | (go_simp; done) | (go_simp; rfl)); intro gb544 hg w13 hbox hb; replace HO0_1 := aK (Kd.V_below (Kd.V_elderB (gV HO0_1.out) gb544 (Nat.le_of_eq hg.symm)) hb); replace HO1_1 := aK (Kd.V_below (Kd.V_elderB (gV HO1_1.out) gb544 (Nat.le_of_eq hg.symm)) hb); have n2_ := aK (blk_below (gK BK543.out) hb); have n3_ := aK (below_step (gB HB.out) hb); have BK544 := aK (hbox); have GE544 := aK ((by rw [hg]; exact (below_size (gB HB.out)) : w.heap.size ≤ gb544)); have NB543_544 := aK ((by rw [hg]; exact Nat.ne_of_lt (blk_lt (gK BK543.out)) : gb543 ≠ gb544)); have NB544_543 := aK ((by rw [hg]; exact Nat.ne_of_gt (blk_lt (gK BK543.out)) : gb544 ≠ gb543)); clear BK543 HB; have BK543 := n2_; have HB := n3_; clear n2_ n3_; clear hb hbox hg) | ((with_reducible refine gate_callee (f := 9) rfl ?_); refine goesL_ (some 8) rfl rfl Try.func9 (by kernel_rfl) rfl #[] rfl (by (try simp only [List.map_toArray, List.map_cons, List.map_nil]); first | done | rfl | (simp only [List.length_drop, List.length_take]; rfl)) ?_; (with_reducible refine (isohyetlaw02_fit.calls k  true _ rfl A3.out).mono ?_); (try clear A3); rintro e w14 ⟨rfl, hb⟩; refine ⟨_, rfl, ?_⟩; replace HO0_1 := aK (Kd.V_below (gV HO0_1.out) hb); replace HO1_1 := aK (Kd.V_below (gV HO1_1.out) hb); replace BK543 := aK (blk_below (gK BK543.out) hb); replace BK544 := aK (blk_below (gK BK544.out) hb); replace HB := aK (below_step (gB HB.out) hb); (try clear hb); (try clear hb2); (try clear hk); (try clear hi); have hnb15 := NB543_544.out; have hnc15 := NB544_543.out; have hcz16_0 : w14.cell? ⟨gb543, 0, none⟩ = some (.bool a0_0) := (blk_cell BK543.out 0).trans rfl; have hcz16_1 : w14.cell? ⟨gb543, 1, none⟩ = some (.slice A0_1 l0_1.length c0_1) := (blk_cell BK543.out 1).trans rfl; have hfz16_0 := blk_frozen BK543.out 0; have hfz16_1 := blk_frozen BK543.out 1; have hcz17_0 : w14.cell? ⟨gb544, 0, none⟩ = some (.bool a1_0) := (blk_cell BK544.out 0).trans rfl; have hcz17_1 : w14.cell? ⟨gb544, 1, none⟩ = some (.slice A1_1 l1_1.length c1_1) := (blk_cell BK544.out 1).trans rfl; have hfz17_0 := blk_frozen BK544.out 0; have hfz17_1 := blk_frozen BK544.out 1) | ((with_reducible refine gate_dst (N := 12) rfl ?_); refine Kd.N_lit k25 _ 25 ?hg (N' := 12) ?hd (xs := ([(⟨a0_0, l0_1⟩ : S25), (⟨a1_0, l1_1⟩ : S25)] : List (S25))) (inner := [.bool a0_0, .slice A0_1 l0_1.length c0_1, .bool a1_0, .slice A1_1 l1_1.length c1_1]) (ok := (fun k_ => ((P0_1_ k_ ∨ P1_1_ k_) ∨ w.heap.size ≤ k_) ∧ k_ ≠ gb543 ∧ k_ ≠ gb544)) (okp := (fun k_ => ((P0_1_ k_ ∨ P1_1_ k_) ∨ w.heap.size ≤ k_) ∧ k_ ≠ gb543 ∧ k_ ≠ gb544)) ?hr ?hp (fun _ hk => hk) ((show ∀ k_, w14.heap.size ≤ k_ → (fun k_ => ((P0_1_ k_ ∨ P1_1_ k_) ∨ w.heap.size ≤ k_) ∧ k_ ≠ gb543 ∧ k_ ≠ gb544) k_ from fun k_ hk => ⟨(.inr (Nat.le_trans (below_size (gB HB.out)) hk)), Kd.freshB (g := gb543) (o := .cells #[.bool a0_0, .slice A0_1 l0_1.length c0_1] 25 (0, 0)) (gK BK543.out) k_ hk, Kd.freshB (g := gb544) (o := .cells #[.bool a1_0, .slice A1_1 l1_1.length c1_1] 25 (0, 0)) (gK BK544.out) k_ hk⟩) _ (Nat.le_refl _)) (Below.refl _ _) (Nat.le_refl _) (by simp) ?_; (case hd => rfl); (case hg => rfl); (case hr => first | (go_simp; done) | (go_simp; rfl)); (case hp => exact (Reps.c2 (show Kd.FK k25 _ _ (⟨a0_0, l0_1⟩ : S25) [.bool a0_0, .slice A0_1 l0_1.length c0_1] from (k25_mkF _ _ (⟨a0_0, l0_1⟩ : S25) (Kd.V_reads' (Kd.V_mono (ok' := (fun k_ => ((P0_1_ k_ ∨ P1_1_ k_) ∨ w.heap.size ≤ k_) ∧ k_ ≠ gb543 ∧ k_ ≠ gb544)) (HO0_1.out) (fun k_ hk => ⟨hk.1.1, ⟨hk.1.2, hk.2⟩⟩))).2.1 (Kd.V_F (Kd.V_mono (ok' := (fun k_ => ((P0_1_ k_ ∨ P1_1_ k_) ∨ w.heap.size ≤ k_) ∧ k_ ≠ gb543 ∧ k_ ≠ gb544)) (HO0_1.out) (fun k_ hk => ⟨hk.1.1, ⟨hk.1.2, hk.2⟩⟩))))) (Reps.c2 (show Kd.FK k25 _ _ (⟨a1_0, l1_1⟩ : S25) [.bool a1_0, .slice A1_1 l1_1.length c1_1] from (k25_mkF _ _ (⟨a1_0, l1_1⟩ : S25) (Kd.V_reads' (Kd.V_mono (ok' := (fun k_ => ((P0_1_ k_ ∨ P1_1_ k_) ∨ w.heap.size ≤ k_) ∧ k_ ≠ gb543 ∧ k_ ≠ gb544)) (HO1_1.out) (fun k_ hk => ⟨hk.1.1, ⟨hk.1.2, hk.2⟩⟩))).2.1 (Kd.V_F (Kd.V_mono (ok' := (fun k_ => ((P0_1_ k_ ∨ P1_1_ k_) ∨ w.heap.size ≤ k_) ∧ k_ ≠ gb543 ∧ k_ ≠ gb544)) (HO1_1.out) (fun k_ hk => ⟨hk.1.1, ⟨hk.1.2, hk.2⟩⟩))))) (Reps.none _ _)))); intro v547 w18 ho19 hb hg_ hnew_; clear hg_ hnew_; (first | rw [← Ny546.out] at ho19 | (simp only [Int.reduceToNat] at ho19; rw [← Ny546.out] at ho19)); replace HO0_1 := aK (Kd.V_elder' (gV HO0_1.out) (Kd.N_base ho19) hb); replace HO1_1 := aK (Kd.V_elder' (gV HO1_1.out) (Kd.N_base ho19) hb); have HO548 := aK (Kd.N_lower ho19 (below_size (gB HB.out))); replace BK543 := aK (blk_below (gK BK543.out) hb); replace BK544 := aK (blk_below (gK BK544.out) hb); have n5_ := aK (below_step (gB HB.out) hb); clear HB; have HB := n5_; clear n5_; clear hb ho19; obtain ⟨Ao20, co20, eo20⟩ := Kd.N_slice HO548.out; subst eo20) | ((with_reducible refine gate_callee (f := 10) rfl ?_); refine goesL_ (some 13) rfl rfl Try.func10 (by kernel_rfl) rfl #[.int .i64 4, .slice Ao20 y546.length co20] rfl (by (try simp only [List.map_toArray, List.map_cons, List.map_nil]); first | done | rfl | (simp only [List.length_drop, List.length_take]; rfl)) ?_; (with_reducible refine (isohyetlaw02_short.calls k 4 _ _ y546 true _ ?side1 ?side2 A5.out).mono ?_); (case side1 => repeat (first | exact (Kd.N_reads' HO548.out).2.2 | apply Kd.C_alloc | apply Kd.C_drewN | apply Kd.C_drew)); (case side2 => exact (Kd.N_reads' HO548.out).2.1); (try clear A5); rintro e w21 ⟨rfl, hb⟩; refine ⟨_, rfl, ?_⟩; replace HO0_1 := aK (Kd.V_below (gV HO0_1.out) hb); replace HO1_1 := aK (Kd.V_below (gV HO1_1.out) hb); replace HO548 := aK (Kd.N_below (gN HO548.out) hb); replace BK543 := aK (blk_below (gK BK543.out) hb); replace BK544 := aK (blk_below (gK BK544.out) hb); replace HB := aK (below_step (gB HB.out) hb); (try clear hb); (try clear hb2); (try clear hk); (try clear hi)))
   replace HO0_1 := aK (Kd.V_drew HO0_1.out)
   replace HO1_1 := aK (Kd.V_drew HO1_1.out)
   replace BK543 := aK (blk_drew BK543.out)
   replace BK544 := aK (blk_drew BK544.out)
   replace HB := aK (bD HB.out)
   refine start_ (n := 8) (S := fun w' => w'.cell? ⟨gb543, 0, none⟩ = some (.bool a0_0) ∧ w'.cell? ⟨gb543, 1, none⟩ = some (.slice A0_1 l0_1.length c0_1) ∧ w'.cell? ⟨gb544, 0, none⟩ = some (.bool a1_0) ∧ w'.cell? ⟨gb544, 1, none⟩ = some (.slice A1_1 l1_1.length c1_1)) (ds := []) #[false, false, false, false, false, false, false, false] (by kernel_rfl) rfl rfl ⟨(blk_cell BK543.out 0).trans rfl, (blk_cell BK543.out 1).trans rfl, (blk_cell BK544.out 0).trans rfl, (blk_cell BK544.out 1).trans rfl⟩ (fun hHeld => ?_); refine with_tabW isohyetlaw02_NumAdds.tab5 isohyetlaw02_NumAdds.bits5 (fun HT_ HW_ => ?_)
   generalize w21.drew = w22 at HO0_1 HO1_1 BK543 BK544 HB hHeld ⊢
   refine take_ (i := 0) (N := some 15) (v := ?_) (a' := ?_) #[true, false, false, false, false, false, false, false] rfl rfl (take_ofW HT_.out HW_.out (by kernel_rfl)) (fun _ _ _ h => h) (Or.inl ⟨by rfl, ?_⟩) hHeld ?_ ?_
   rotate_left
   ·rintro w' ⟨s0, s1, s2, s3⟩
    go_simp
    with_reducible rfl
   rotate_left
   ·simp only [Act.put, List.setIfInBounds_toArray, List.set_cons_zero, List.set_cons_succ]
    rfl
   refine take_ (i := 2) (N := some 17) (v := ?_) (a' := ?_) #[true, false, true, false, false, false, false, false] rfl rfl (take_ofW HT_.out HW_.out (by kernel_rfl)) (fun _ _ _ h => h) (Or.inl ⟨by rfl, ?_⟩) hHeld ?_ ?_
   rotate_left
   ·rintro w' ⟨s0, s1, s2, s3⟩
    go_simp
    with_reducible rfl
   rotate_left
   ·simp only [Act.put, List.setIfInBounds_toArray, List.set_cons_zero, List.set_cons_succ]
    rfl
   refine join_ (σ := Value × Value × Nat × Nat) 2 #[true, true, true, true, true, true, false, false] (fun s_ => [(16, .agg #[.bool t550, s_.1]), (18, .agg #[.bool t554, s_.2.1]), (5, .pointer (some ⟨s_.2.2.1, 0, none⟩)), (6, .pointer (some ⟨s_.2.2.2, 0, none⟩))]) (fun s_ w' => (w'.cell? ⟨gb543, 0, none⟩ = some (.bool a0_0) ∧ w'.cell? ⟨gb543, 1, none⟩ = some (.slice A0_1 l0_1.length c0_1) ∧ w'.cell? ⟨gb544, 0, none⟩ = some (.bool a1_0) ∧ w'.cell? ⟨gb544, 1, none⟩ = some (.slice A1_1 l1_1.length c1_1)) ∧ (Kd.V (Kd.int .u64) 54 w' w.heap.size (fun k_ => ((P0_1_ k_ ∨ P1_1_ k_) ∨ w.heap.size ≤ k_) ∧ k_ ≠ gb543 ∧ k_ ≠ gb544 ∧ k_ ≠ s_.2.2.1 ∧ k_ ≠ s_.2.2.2) (.slice A0_1 l0_1.length c0_1) l0_1) ∧ (Kd.V (Kd.int .u64) 54 w' w.heap.size (fun k_ => ((P0_1_ k_ ∨ P1_1_ k_) ∨ w.heap.size ≤ k_) ∧ k_ ≠ gb543 ∧ k_ ≠ gb544 ∧ k_ ≠ s_.2.2.1 ∧ k_ ≠ s_.2.2.2) (.slice A1_1 l1_1.length c1_1) l1_1) ∧ (Kd.V (Kd.int .i64) 3 w' w.heap.size (fun k_ => ((P0_1_ k_ ∨ P1_1_ k_) ∨ w.heap.size ≤ k_) ∧ k_ ≠ gb543 ∧ k_ ≠ gb544 ∧ k_ ≠ s_.2.2.1 ∧ k_ ≠ s_.2.2.2) s_.1 t551) ∧ (Kd.V (Kd.int .i64) 3 w' w.heap.size (fun k_ => ((P0_1_ k_ ∨ P1_1_ k_) ∨ w.heap.size ≤ k_) ∧ k_ ≠ gb543 ∧ k_ ≠ gb544 ∧ k_ ≠ s_.2.2.1 ∧ k_ ≠ s_.2.2.2) s_.2.1 t555) ∧ (w'.heap[gb543]? = some (.cells #[.bool a0_0, .slice A0_1 l0_1.length c0_1] 25 (0, 0))) ∧ (w'.heap[gb544]? = some (.cells #[.bool a1_0, .slice A1_1 l1_1.length c1_1] 25 (0, 0))) ∧ (w'.heap[s_.2.2.1]? = some (.cells #[.bool false, .slice none 0 0] 44 (0, 0))) ∧ (w'.heap[s_.2.2.2]? = some (.cells #[.bool false, .slice none 0 0] 44 (0, 0))) ∧ (w.heap.size ≤ s_.2.2.1) ∧ (gb543 ≠ s_.2.2.1) ∧ (s_.2.2.1 ≠ gb543) ∧ (gb544 ≠ s_.2.2.1) ∧ (s_.2.2.1 ≠ gb544) ∧ (s_.2.2.2 ≠ s_.2.2.1) ∧ (s_.2.2.1 ≠ s_.2.2.2) ∧ (w.heap.size ≤ s_.2.2.2) ∧ (gb543 ≠ s_.2.2.2) ∧ (s_.2.2.2 ≠ gb543) ∧ (gb544 ≠ s_.2.2.2) ∧ (s_.2.2.2 ≠ gb544) ∧ (Below w.heap.size w w')) ?_ ?_
   rotate_left
   ·intro hJ1_3_4_5
    refine join_ (σ := Value × Value × Nat) 3 #[true, true, true, true, true, false, false, false] (fun s_ => [(16, .agg #[.bool t550, s_.1]), (18, .agg #[.bool t554, s_.2.1]), (5, .pointer (some ⟨s_.2.2, 0, none⟩))]) (fun s_ w' => (w'.cell? ⟨gb543, 0, none⟩ = some (.bool a0_0) ∧ w'.cell? ⟨gb543, 1, none⟩ = some (.slice A0_1 l0_1.length c0_1) ∧ w'.cell? ⟨gb544, 0, none⟩ = some (.bool a1_0) ∧ w'.cell? ⟨gb544, 1, none⟩ = some (.slice A1_1 l1_1.length c1_1)) ∧ (Kd.V (Kd.int .u64) 54 w' w.heap.size (fun k_ => ((P0_1_ k_ ∨ P1_1_ k_) ∨ w.heap.size ≤ k_) ∧ k_ ≠ gb543 ∧ k_ ≠ gb544 ∧ k_ ≠ s_.2.2) (.slice A0_1 l0_1.length c0_1) l0_1) ∧ (Kd.V (Kd.int .u64) 54 w' w.heap.size (fun k_ => ((P0_1_ k_ ∨ P1_1_ k_) ∨ w.heap.size ≤ k_) ∧ k_ ≠ gb543 ∧ k_ ≠ gb544 ∧ k_ ≠ s_.2.2) (.slice A1_1 l1_1.length c1_1) l1_1) ∧ (Kd.V (Kd.int .i64) 3 w' w.heap.size (fun k_ => ((P0_1_ k_ ∨ P1_1_ k_) ∨ w.heap.size ≤ k_) ∧ k_ ≠ gb543 ∧ k_ ≠ gb544 ∧ k_ ≠ s_.2.2) s_.1 t551) ∧ (Kd.V (Kd.int .i64) 3 w' w.heap.size (fun k_ => ((P0_1_ k_ ∨ P1_1_ k_) ∨ w.heap.size ≤ k_) ∧ k_ ≠ gb543 ∧ k_ ≠ gb544 ∧ k_ ≠ s_.2.2) s_.2.1 t555) ∧ (w'.heap[gb543]? = some (.cells #[.bool a0_0, .slice A0_1 l0_1.length c0_1] 25 (0, 0))) ∧ (w'.heap[gb544]? = some (.cells #[.bool a1_0, .slice A1_1 l1_1.length c1_1] 25 (0, 0))) ∧ (w'.heap[s_.2.2]? = some (.cells #[.bool false, .slice none 0 0] 44 (0, 0))) ∧ (w.heap.size ≤ s_.2.2) ∧ (gb543 ≠ s_.2.2) ∧ (s_.2.2 ≠ gb543) ∧ (gb544 ≠ s_.2.2) ∧ (s_.2.2 ≠ gb544) ∧ (Below w.heap.size w w')) ?_ ?_
    rotate_left
    ·intro hJ1_3_4
     refine join_ (σ := Value × Value × Nat) 3 #[true, true, true, true, false, true, false, false] (fun s_ => [(16, .agg #[.bool t550, s_.1]), (18, .agg #[.bool t554, s_.2.1]), (6, .pointer (some ⟨s_.2.2, 0, none⟩))]) (fun s_ w' => (w'.cell? ⟨gb543, 0, none⟩ = some (.bool a0_0) ∧ w'.cell? ⟨gb543, 1, none⟩ = some (.slice A0_1 l0_1.length c0_1) ∧ w'.cell? ⟨gb544, 0, none⟩ = some (.bool a1_0) ∧ w'.cell? ⟨gb544, 1, none⟩ = some (.slice A1_1 l1_1.length c1_1)) ∧ (Kd.V (Kd.int .u64) 54 w' w.heap.size (fun k_ => ((P0_1_ k_ ∨ P1_1_ k_) ∨ w.heap.size ≤ k_) ∧ k_ ≠ gb543 ∧ k_ ≠ gb544 ∧ k_ ≠ s_.2.2) (.slice A0_1 l0_1.length c0_1) l0_1) ∧ (Kd.V (Kd.int .u64) 54 w' w.heap.size (fun k_ => ((P0_1_ k_ ∨ P1_1_ k_) ∨ w.heap.size ≤ k_) ∧ k_ ≠ gb543 ∧ k_ ≠ gb544 ∧ k_ ≠ s_.2.2) (.slice A1_1 l1_1.length c1_1) l1_1) ∧ (Kd.V (Kd.int .i64) 3 w' w.heap.size (fun k_ => ((P0_1_ k_ ∨ P1_1_ k_) ∨ w.heap.size ≤ k_) ∧ k_ ≠ gb543 ∧ k_ ≠ gb544 ∧ k_ ≠ s_.2.2) s_.1 t551) ∧ (Kd.V (Kd.int .i64) 3 w' w.heap.size (fun k_ => ((P0_1_ k_ ∨ P1_1_ k_) ∨ w.heap.size ≤ k_) ∧ k_ ≠ gb543 ∧ k_ ≠ gb544 ∧ k_ ≠ s_.2.2) s_.2.1 t555) ∧ (w'.heap[gb543]? = some (.cells #[.bool a0_0, .slice A0_1 l0_1.length c0_1] 25 (0, 0))) ∧ (w'.heap[gb544]? = some (.cells #[.bool a1_0, .slice A1_1 l1_1.length c1_1] 25 (0, 0))) ∧ (w'.heap[s_.2.2]? = some (.cells #[.bool false, .slice none 0 0] 44 (0, 0))) ∧ (w.heap.size ≤ s_.2.2) ∧ (gb543 ≠ s_.2.2) ∧ (s_.2.2 ≠ gb543) ∧ (gb544 ≠ s_.2.2) ∧ (s_.2.2 ≠ gb544) ∧ (Below w.heap.size w w')) ?_ ?_
     rotate_left
     ·intro hJ1_3_5
      refine join_ (σ := Value × Nat × Nat) 3 #[true, true, true, false, true, true, false, false] (fun s_ => [(16, .agg #[.bool t550, s_.1]), (5, .pointer (some ⟨s_.2.1, 0, none⟩)), (6, .pointer (some ⟨s_.2.2, 0, none⟩))]) (fun s_ w' => (w'.cell? ⟨gb543, 0, none⟩ = some (.bool a0_0) ∧ w'.cell? ⟨gb543, 1, none⟩ = some (.slice A0_1 l0_1.length c0_1) ∧ w'.cell? ⟨gb544, 0, none⟩ = some (.bool a1_0) ∧ w'.cell? ⟨gb544, 1, none⟩ = some (.slice A1_1 l1_1.length c1_1)) ∧ (Kd.V (Kd.int .u64) 54 w' w.heap.size (fun k_ => ((P0_1_ k_ ∨ P1_1_ k_) ∨ w.heap.size ≤ k_) ∧ k_ ≠ gb543 ∧ k_ ≠ gb544 ∧ k_ ≠ s_.2.1 ∧ k_ ≠ s_.2.2) (.slice A0_1 l0_1.length c0_1) l0_1) ∧ (Kd.V (Kd.int .u64) 54 w' w.heap.size (fun k_ => ((P0_1_ k_ ∨ P1_1_ k_) ∨ w.heap.size ≤ k_) ∧ k_ ≠ gb543 ∧ k_ ≠ gb544 ∧ k_ ≠ s_.2.1 ∧ k_ ≠ s_.2.2) (.slice A1_1 l1_1.length c1_1) l1_1) ∧ (Kd.V (Kd.int .i64) 3 w' w.heap.size (fun k_ => ((P0_1_ k_ ∨ P1_1_ k_) ∨ w.heap.size ≤ k_) ∧ k_ ≠ gb543 ∧ k_ ≠ gb544 ∧ k_ ≠ s_.2.1 ∧ k_ ≠ s_.2.2) s_.1 t551) ∧ (w'.heap[gb543]? = some (.cells #[.bool a0_0, .slice A0_1 l0_1.length c0_1] 25 (0, 0))) ∧ (w'.heap[gb544]? = some (.cells #[.bool a1_0, .slice A1_1 l1_1.length c1_1] 25 (0, 0))) ∧ (w'.heap[s_.2.1]? = some (.cells #[.bool false, .slice none 0 0] 44 (0, 0))) ∧ (w'.heap[s_.2.2]? = some (.cells #[.bool false, .slice none 0 0] 44 (0, 0))) ∧ (w.heap.size ≤ s_.2.1) ∧ (gb543 ≠ s_.2.1) ∧ (s_.2.1 ≠ gb543) ∧ (gb544 ≠ s_.2.1) ∧ (s_.2.1 ≠ gb544) ∧ (s_.2.2 ≠ s_.2.1) ∧ (s_.2.1 ≠ s_.2.2) ∧ (w.heap.size ≤ s_.2.2) ∧ (gb543 ≠ s_.2.2) ∧ (s_.2.2 ≠ gb543) ∧ (gb544 ≠ s_.2.2) ∧ (s_.2.2 ≠ gb544) ∧ (Below w.heap.size w w')) ?_ ?_
      rotate_left
      ·intro hJ1_4_5
       refine join_ (σ := Value × Value) 4 #[true, true, true, true, false, false, false, false] (fun s_ => [(16, .agg #[.bool t550, s_.1]), (18, .agg #[.bool t554, s_.2])]) (fun s_ w' => (w'.cell? ⟨gb543, 0, none⟩ = some (.bool a0_0) ∧ w'.cell? ⟨gb543, 1, none⟩ = some (.slice A0_1 l0_1.length c0_1) ∧ w'.cell? ⟨gb544, 0, none⟩ = some (.bool a1_0) ∧ w'.cell? ⟨gb544, 1, none⟩ = some (.slice A1_1 l1_1.length c1_1)) ∧ (Kd.V (Kd.int .u64) 54 w' w.heap.size (fun k_ => ((P0_1_ k_ ∨ P1_1_ k_) ∨ w.heap.size ≤ k_) ∧ k_ ≠ gb543 ∧ k_ ≠ gb544) (.slice A0_1 l0_1.length c0_1) l0_1) ∧ (Kd.V (Kd.int .u64) 54 w' w.heap.size (fun k_ => ((P0_1_ k_ ∨ P1_1_ k_) ∨ w.heap.size ≤ k_) ∧ k_ ≠ gb543 ∧ k_ ≠ gb544) (.slice A1_1 l1_1.length c1_1) l1_1) ∧ (Kd.V (Kd.int .i64) 3 w' w.heap.size (fun k_ => ((P0_1_ k_ ∨ P1_1_ k_) ∨ w.heap.size ≤ k_) ∧ k_ ≠ gb543 ∧ k_ ≠ gb544) s_.1 t551) ∧ (Kd.V (Kd.int .i64) 3 w' w.heap.size (fun k_ => ((P0_1_ k_ ∨ P1_1_ k_) ∨ w.heap.size ≤ k_) ∧ k_ ≠ gb543 ∧ k_ ≠ gb544) s_.2 t555) ∧ (w'.heap[gb543]? = some (.cells #[.bool a0_0, .slice A0_1 l0_1.length c0_1] 25 (0, 0))) ∧ (w'.heap[gb544]? = some (.cells #[.bool a1_0, .slice A1_1 l1_1.length c1_1] 25 (0, 0))) ∧ (Below w.heap.size w w')) ?_ ?_
       rotate_left
       ·intro hJ1_3
        refine join_ (σ := Value × Nat) 4 #[true, true, true, false, true, false, false, false] (fun s_ => [(16, .agg #[.bool t550, s_.1]), (5, .pointer (some ⟨s_.2, 0, none⟩))]) (fun s_ w' => (w'.cell? ⟨gb543, 0, none⟩ = some (.bool a0_0) ∧ w'.cell? ⟨gb543, 1, none⟩ = some (.slice A0_1 l0_1.length c0_1) ∧ w'.cell? ⟨gb544, 0, none⟩ = some (.bool a1_0) ∧ w'.cell? ⟨gb544, 1, none⟩ = some (.slice A1_1 l1_1.length c1_1)) ∧ (Kd.V (Kd.int .u64) 54 w' w.heap.size (fun k_ => ((P0_1_ k_ ∨ P1_1_ k_) ∨ w.heap.size ≤ k_) ∧ k_ ≠ gb543 ∧ k_ ≠ gb544 ∧ k_ ≠ s_.2) (.slice A0_1 l0_1.length c0_1) l0_1) ∧ (Kd.V (Kd.int .u64) 54 w' w.heap.size (fun k_ => ((P0_1_ k_ ∨ P1_1_ k_) ∨ w.heap.size ≤ k_) ∧ k_ ≠ gb543 ∧ k_ ≠ gb544 ∧ k_ ≠ s_.2) (.slice A1_1 l1_1.length c1_1) l1_1) ∧ (Kd.V (Kd.int .i64) 3 w' w.heap.size (fun k_ => ((P0_1_ k_ ∨ P1_1_ k_) ∨ w.heap.size ≤ k_) ∧ k_ ≠ gb543 ∧ k_ ≠ gb544 ∧ k_ ≠ s_.2) s_.1 t551) ∧ (w'.heap[gb543]? = some (.cells #[.bool a0_0, .slice A0_1 l0_1.length c0_1] 25 (0, 0))) ∧ (w'.heap[gb544]? = some (.cells #[.bool a1_0, .slice A1_1 l1_1.length c1_1] 25 (0, 0))) ∧ (w'.heap[s_.2]? = some (.cells #[.bool false, .slice none 0 0] 44 (0, 0))) ∧ (w.heap.size ≤ s_.2) ∧ (gb543 ≠ s_.2) ∧ (s_.2 ≠ gb543) ∧ (gb544 ≠ s_.2) ∧ (s_.2 ≠ gb544) ∧ (Below w.heap.size w w')) ?_ ?_
        rotate_left
        ·intro hJ1_4
         refine join_ (σ := Value × Nat) 4 #[true, true, true, false, false, true, false, false] (fun s_ => [(16, .agg #[.bool t550, s_.1]), (6, .pointer (some ⟨s_.2, 0, none⟩))]) (fun s_ w' => (w'.cell? ⟨gb543, 0, none⟩ = some (.bool a0_0) ∧ w'.cell? ⟨gb543, 1, none⟩ = some (.slice A0_1 l0_1.length c0_1) ∧ w'.cell? ⟨gb544, 0, none⟩ = some (.bool a1_0) ∧ w'.cell? ⟨gb544, 1, none⟩ = some (.slice A1_1 l1_1.length c1_1)) ∧ (Kd.V (Kd.int .u64) 54 w' w.heap.size (fun k_ => ((P0_1_ k_ ∨ P1_1_ k_) ∨ w.heap.size ≤ k_) ∧ k_ ≠ gb543 ∧ k_ ≠ gb544 ∧ k_ ≠ s_.2) (.slice A0_1 l0_1.length c0_1) l0_1) ∧ (Kd.V (Kd.int .u64) 54 w' w.heap.size (fun k_ => ((P0_1_ k_ ∨ P1_1_ k_) ∨ w.heap.size ≤ k_) ∧ k_ ≠ gb543 ∧ k_ ≠ gb544 ∧ k_ ≠ s_.2) (.slice A1_1 l1_1.length c1_1) l1_1) ∧ (Kd.V (Kd.int .i64) 3 w' w.heap.size (fun k_ => ((P0_1_ k_ ∨ P1_1_ k_) ∨ w.heap.size ≤ k_) ∧ k_ ≠ gb543 ∧ k_ ≠ gb544 ∧ k_ ≠ s_.2) s_.1 t551) ∧ (w'.heap[gb543]? = some (.cells #[.bool a0_0, .slice A0_1 l0_1.length c0_1] 25 (0, 0))) ∧ (w'.heap[gb544]? = some (.cells #[.bool a1_0, .slice A1_1 l1_1.length c1_1] 25 (0, 0))) ∧ (w'.heap[s_.2]? = some (.cells #[.bool false, .slice none 0 0] 44 (0, 0))) ∧ (w.heap.size ≤ s_.2) ∧ (gb543 ≠ s_.2) ∧ (s_.2 ≠ gb543) ∧ (gb544 ≠ s_.2) ∧ (s_.2 ≠ gb544) ∧ (Below w.heap.size w w')) ?_ ?_
         rotate_left
         ·intro hJ1_5
          refine join_ (σ := Nat × Nat) 4 #[true, false, true, false, true, true, false, false] (fun s_ => [(5, .pointer (some ⟨s_.1, 0, none⟩)), (6, .pointer (some ⟨s_.2, 0, none⟩))]) (fun s_ w' => (w'.cell? ⟨gb543, 0, none⟩ = some (.bool a0_0) ∧ w'.cell? ⟨gb543, 1, none⟩ = some (.slice A0_1 l0_1.length c0_1) ∧ w'.cell? ⟨gb544, 0, none⟩ = some (.bool a1_0) ∧ w'.cell? ⟨gb544, 1, none⟩ = some (.slice A1_1 l1_1.length c1_1)) ∧ (Kd.V (Kd.int .u64) 54 w' w.heap.size (fun k_ => ((P0_1_ k_ ∨ P1_1_ k_) ∨ w.heap.size ≤ k_) ∧ k_ ≠ gb543 ∧ k_ ≠ gb544 ∧ k_ ≠ s_.1 ∧ k_ ≠ s_.2) (.slice A0_1 l0_1.length c0_1) l0_1) ∧ (Kd.V (Kd.int .u64) 54 w' w.heap.size (fun k_ => ((P0_1_ k_ ∨ P1_1_ k_) ∨ w.heap.size ≤ k_) ∧ k_ ≠ gb543 ∧ k_ ≠ gb544 ∧ k_ ≠ s_.1 ∧ k_ ≠ s_.2) (.slice A1_1 l1_1.length c1_1) l1_1) ∧ (w'.heap[gb543]? = some (.cells #[.bool a0_0, .slice A0_1 l0_1.length c0_1] 25 (0, 0))) ∧ (w'.heap[gb544]? = some (.cells #[.bool a1_0, .slice A1_1 l1_1.length c1_1] 25 (0, 0))) ∧ (w'.heap[s_.1]? = some (.cells #[.bool false, .slice none 0 0] 44 (0, 0))) ∧ (w'.heap[s_.2]? = some (.cells #[.bool false, .slice none 0 0] 44 (0, 0))) ∧ (w.heap.size ≤ s_.1) ∧ (gb543 ≠ s_.1) ∧ (s_.1 ≠ gb543) ∧ (gb544 ≠ s_.1) ∧ (s_.1 ≠ gb544) ∧ (s_.2 ≠ s_.1) ∧ (s_.1 ≠ s_.2) ∧ (w.heap.size ≤ s_.2) ∧ (gb543 ≠ s_.2) ∧ (s_.2 ≠ gb543) ∧ (gb544 ≠ s_.2) ∧ (s_.2 ≠ gb544) ∧ (Below w.heap.size w w')) ?_ ?_
          rotate_left
          ·intro hJ4_5
           refine join_ (σ := Value) 5 #[true, true, true, false, false, false, false, false] (fun s_ => [(16, .agg #[.bool t550, s_])]) (fun s_ w' => (w'.cell? ⟨gb543, 0, none⟩ = some (.bool a0_0) ∧ w'.cell? ⟨gb543, 1, none⟩ = some (.slice A0_1 l0_1.length c0_1) ∧ w'.cell? ⟨gb544, 0, none⟩ = some (.bool a1_0) ∧ w'.cell? ⟨gb544, 1, none⟩ = some (.slice A1_1 l1_1.length c1_1)) ∧ (Kd.V (Kd.int .u64) 54 w' w.heap.size (fun k_ => ((P0_1_ k_ ∨ P1_1_ k_) ∨ w.heap.size ≤ k_) ∧ k_ ≠ gb543 ∧ k_ ≠ gb544) (.slice A0_1 l0_1.length c0_1) l0_1) ∧ (Kd.V (Kd.int .u64) 54 w' w.heap.size (fun k_ => ((P0_1_ k_ ∨ P1_1_ k_) ∨ w.heap.size ≤ k_) ∧ k_ ≠ gb543 ∧ k_ ≠ gb544) (.slice A1_1 l1_1.length c1_1) l1_1) ∧ (Kd.V (Kd.int .i64) 3 w' w.heap.size (fun k_ => ((P0_1_ k_ ∨ P1_1_ k_) ∨ w.heap.size ≤ k_) ∧ k_ ≠ gb543 ∧ k_ ≠ gb544) s_ t551) ∧ (w'.heap[gb543]? = some (.cells #[.bool a0_0, .slice A0_1 l0_1.length c0_1] 25 (0, 0))) ∧ (w'.heap[gb544]? = some (.cells #[.bool a1_0, .slice A1_1 l1_1.length c1_1] 25 (0, 0))) ∧ (Below w.heap.size w w')) ?_ ?_
           rotate_left
           ·intro hJ1
            refine join_ (σ := Nat) 5 #[true, false, true, false, true, false, false, false] (fun s_ => [(5, .pointer (some ⟨s_, 0, none⟩))]) (fun s_ w' => (w'.cell? ⟨gb543, 0, none⟩ = some (.bool a0_0) ∧ w'.cell? ⟨gb543, 1, none⟩ = some (.slice A0_1 l0_1.length c0_1) ∧ w'.cell? ⟨gb544, 0, none⟩ = some (.bool a1_0) ∧ w'.cell? ⟨gb544, 1, none⟩ = some (.slice A1_1 l1_1.length c1_1)) ∧ (Kd.V (Kd.int .u64) 54 w' w.heap.size (fun k_ => ((P0_1_ k_ ∨ P1_1_ k_) ∨ w.heap.size ≤ k_) ∧ k_ ≠ gb543 ∧ k_ ≠ gb544 ∧ k_ ≠ s_) (.slice A0_1 l0_1.length c0_1) l0_1) ∧ (Kd.V (Kd.int .u64) 54 w' w.heap.size (fun k_ => ((P0_1_ k_ ∨ P1_1_ k_) ∨ w.heap.size ≤ k_) ∧ k_ ≠ gb543 ∧ k_ ≠ gb544 ∧ k_ ≠ s_) (.slice A1_1 l1_1.length c1_1) l1_1) ∧ (w'.heap[gb543]? = some (.cells #[.bool a0_0, .slice A0_1 l0_1.length c0_1] 25 (0, 0))) ∧ (w'.heap[gb544]? = some (.cells #[.bool a1_0, .slice A1_1 l1_1.length c1_1] 25 (0, 0))) ∧ (w'.heap[s_]? = some (.cells #[.bool false, .slice none 0 0] 44 (0, 0))) ∧ (w.heap.size ≤ s_) ∧ (gb543 ≠ s_) ∧ (s_ ≠ gb543) ∧ (gb544 ≠ s_) ∧ (s_ ≠ gb544) ∧ (Below w.heap.size w w')) ?_ ?_
            rotate_left
            ·intro hJ4
             refine join_ (σ := Nat) 5 #[true, false, true, false, false, true, false, false] (fun s_ => [(6, .pointer (some ⟨s_, 0, none⟩))]) (fun s_ w' => (w'.cell? ⟨gb543, 0, none⟩ = some (.bool a0_0) ∧ w'.cell? ⟨gb543, 1, none⟩ = some (.slice A0_1 l0_1.length c0_1) ∧ w'.cell? ⟨gb544, 0, none⟩ = some (.bool a1_0) ∧ w'.cell? ⟨gb544, 1, none⟩ = some (.slice A1_1 l1_1.length c1_1)) ∧ (Kd.V (Kd.int .u64) 54 w' w.heap.size (fun k_ => ((P0_1_ k_ ∨ P1_1_ k_) ∨ w.heap.size ≤ k_) ∧ k_ ≠ gb543 ∧ k_ ≠ gb544 ∧ k_ ≠ s_) (.slice A0_1 l0_1.length c0_1) l0_1) ∧ (Kd.V (Kd.int .u64) 54 w' w.heap.size (fun k_ => ((P0_1_ k_ ∨ P1_1_ k_) ∨ w.heap.size ≤ k_) ∧ k_ ≠ gb543 ∧ k_ ≠ gb544 ∧ k_ ≠ s_) (.slice A1_1 l1_1.length c1_1) l1_1) ∧ (w'.heap[gb543]? = some (.cells #[.bool a0_0, .slice A0_1 l0_1.length c0_1] 25 (0, 0))) ∧ (w'.heap[gb544]? = some (.cells #[.bool a1_0, .slice A1_1 l1_1.length c1_1] 25 (0, 0))) ∧ (w'.heap[s_]? = some (.cells #[.bool false, .slice none 0 0] 44 (0, 0))) ∧ (w.heap.size ≤ s_) ∧ (gb543 ≠ s_) ∧ (s_ ≠ gb543) ∧ (gb544 ≠ s_) ∧ (s_ ≠ gb544) ∧ (Below w.heap.size w w')) ?_ ?_
             rotate_left
             ·intro hJ5
              refine three_ (i := 1) (j := 4) (k := 5) (Ni := some 16) (Nj := some 5) (Nk := some 6) #[true, true, true, false, false, false, false, false] #[true, false, true, false, true, false, false, false] #[true, false, true, false, false, true, false, false] rfl rfl rfl rfl rfl rfl (three_of HT_.out (by kernel_rfl)) (by decide) (by decide) (by decide) (fun K hK => ?_) (fun K hK => ?_) (fun K hK => ?_)
              ·skip
               refine goes_ Try.func23 (by kernel_rfl) rfl #[.agg #[.bool a0_0, .slice A0_1 l0_1.length c0_1]] (by rfl) rfl rfl (by (try simp only [List.map_toArray, List.map_cons, List.map_nil]); first | done | rfl | (simp only [List.length_drop, List.length_take]; rfl)) ?_
               with_reducible refine (isohyetlaw02_of.calls k a0_0 _ _ l0_1 t550 t551 _ ?side1 ?side2 A7.out).mono ?_
               (case side1 => repeat (first | exact (Kd.V_reads' HO0_1.out).2.2 | apply Kd.C_alloc | apply Kd.C_drewN | apply Kd.C_drew))
               (case side2 => exact (Kd.V_reads' HO0_1.out).2.1)
               rintro e w23 ⟨v552, rfl, ho0, hb⟩
               refine ⟨_, rfl, ?_⟩
               replace HO0_1 := aK (Kd.V_below (gV HO0_1.out) hb)
               replace HO1_1 := aK (Kd.V_below (gV HO1_1.out) hb)
               have HO553 := aK (Kd.V_lower (Kd.V_mono (ok' := fun k_ => ((P0_1_ k_ ∨ P1_1_ k_) ∨ w.heap.size ≤ k_) ∧ k_ ≠ gb543 ∧ k_ ≠ gb544) ho0 (fun k_ hk_ => ⟨(.inr (Nat.le_trans (below_size (gB HB.out)) hk_)), (Kd.freshB (g := gb543) (o := .cells #[.bool a0_0, .slice A0_1 l0_1.length c0_1] 25 (0, 0)) (gK BK543.out) k_ hk_), (Kd.freshB (g := gb544) (o := .cells #[.bool a1_0, .slice A1_1 l1_1.length c1_1] 25 (0, 0)) (gK BK544.out) k_ hk_)⟩)) (below_size (gB HB.out)))
               have n3_ := aK (blk_below (gK BK543.out) hb)
               have n4_ := aK (blk_below (gK BK544.out) hb)
               have n5_ := aK (below_step (gB HB.out) hb)
               clear BK543 BK544 HB
               have BK543 := n3_
               have BK544 := n4_
               have HB := n5_
               clear n3_ n4_ n5_
               (try clear hb)
               (try clear hb2)
               (try clear hk)
               (try clear hi)
               (try clear ho0)
               refine hK.out _ _ ⟨(blk_cell BK543.out 0).trans rfl, (blk_cell BK543.out 1).trans rfl, (blk_cell BK544.out 0).trans rfl, (blk_cell BK544.out 1).trans rfl⟩ (fun hHeld => ?_)
               clear hK K
               refine norm_ (a' := ?_) ?_ ?_
               rotate_left
               ·show Act.put _ (some 16) _ = _
                simp only [Act.put, List.setIfInBounds_toArray, List.set_cons_zero, List.set_cons_succ]
                rfl
               exact norm_ (by simp only [putAll, Act.put, List.setIfInBounds_toArray, List.set_cons_zero, List.set_cons_succ] <;> rfl) (hJ1 (v552) _ ⟨hHeld, (gV (Kd.V_mono HO0_1.out (fun _ hk => ⟨hk.1.1.1, ⟨hk.1.1.2, hk.1.2⟩⟩))), (gV (Kd.V_mono HO1_1.out (fun _ hk => ⟨hk.1.1.1, ⟨hk.1.1.2, hk.1.2⟩⟩))), (gV HO553.out), (gK BK543.out), (gK BK544.out), (gB HB.out)⟩)
              ·skip
               refine box_step ?hg (N := 5) ?hd (cs := #[.bool false, .slice none 0 0]) (t := 44) ?hr ?_; (case hd => rfl); (case hg => rfl); (case hr => first | (go_simp; done) | (go_simp; rfl))
               intro gb558 hg w23 hbox hb
               replace HO0_1 := aK (Kd.V_below (Kd.V_elderB (gV HO0_1.out) gb558 (Nat.le_of_eq hg.symm)) hb)
               replace HO1_1 := aK (Kd.V_below (Kd.V_elderB (gV HO1_1.out) gb558 (Nat.le_of_eq hg.symm)) hb)
               have n2_ := aK (blk_below (gK BK543.out) hb)
               have n3_ := aK (blk_below (gK BK544.out) hb)
               have n4_ := aK (below_step (gB HB.out) hb)
               have BK558 := aK (hbox)
               have GE558 := aK ((by rw [hg]; exact (below_size (gB HB.out)) : w.heap.size ≤ gb558))
               have NB543_558 := aK ((by rw [hg]; exact Nat.ne_of_lt (blk_lt (gK BK543.out)) : gb543 ≠ gb558))
               have NB558_543 := aK ((by rw [hg]; exact Nat.ne_of_gt (blk_lt (gK BK543.out)) : gb558 ≠ gb543))
               have NB544_558 := aK ((by rw [hg]; exact Nat.ne_of_lt (blk_lt (gK BK544.out)) : gb544 ≠ gb558))
               have NB558_544 := aK ((by rw [hg]; exact Nat.ne_of_gt (blk_lt (gK BK544.out)) : gb558 ≠ gb544))
               clear BK543 BK544 HB
               have BK543 := n2_
               have BK544 := n3_
               have HB := n4_
               clear n2_ n3_ n4_
               clear hb hbox hg
               refine hK.out _ _ ⟨(blk_cell BK543.out 0).trans rfl, (blk_cell BK543.out 1).trans rfl, (blk_cell BK544.out 0).trans rfl, (blk_cell BK544.out 1).trans rfl⟩ (fun hHeld => ?_)
               clear hK K
               refine norm_ (a' := ?_) ?_ ?_
               rotate_left
               ·show Act.put _ (some 5) _ = _
                simp only [Act.put, List.setIfInBounds_toArray, List.set_cons_zero, List.set_cons_succ]
                rfl
               exact norm_ (by simp only [putAll, Act.put, List.setIfInBounds_toArray, List.set_cons_zero, List.set_cons_succ] <;> rfl) (hJ4 (gb558) _ ⟨hHeld, (gV (Kd.V_mono HO0_1.out (fun _ hk => ⟨hk.1.1.1.1, ⟨hk.1.1.1.2, ⟨hk.1.1.2, hk.2⟩⟩⟩))), (gV (Kd.V_mono HO1_1.out (fun _ hk => ⟨hk.1.1.1.1, ⟨hk.1.1.1.2, ⟨hk.1.1.2, hk.2⟩⟩⟩))), (gK BK543.out), (gK BK544.out), (gK BK558.out), GE558.out, NB543_558.out, NB558_543.out, NB544_558.out, NB558_544.out, (gB HB.out)⟩)
              ·skip
               refine box_step ?hg (N := 6) ?hd (cs := #[.bool false, .slice none 0 0]) (t := 44) ?hr ?_; (case hd => rfl); (case hg => rfl); (case hr => first | (go_simp; done) | (go_simp; rfl))
               intro gb559 hg w23 hbox hb
               replace HO0_1 := aK (Kd.V_below (Kd.V_elderB (gV HO0_1.out) gb559 (Nat.le_of_eq hg.symm)) hb)
               replace HO1_1 := aK (Kd.V_below (Kd.V_elderB (gV HO1_1.out) gb559 (Nat.le_of_eq hg.symm)) hb)
               have n2_ := aK (blk_below (gK BK543.out) hb)
               have n3_ := aK (blk_below (gK BK544.out) hb)
               have n4_ := aK (below_step (gB HB.out) hb)
               have BK559 := aK (hbox)
               have GE559 := aK ((by rw [hg]; exact (below_size (gB HB.out)) : w.heap.size ≤ gb559))
               have NB543_559 := aK ((by rw [hg]; exact Nat.ne_of_lt (blk_lt (gK BK543.out)) : gb543 ≠ gb559))
               have NB559_543 := aK ((by rw [hg]; exact Nat.ne_of_gt (blk_lt (gK BK543.out)) : gb559 ≠ gb543))
               have NB544_559 := aK ((by rw [hg]; exact Nat.ne_of_lt (blk_lt (gK BK544.out)) : gb544 ≠ gb559))
               have NB559_544 := aK ((by rw [hg]; exact Nat.ne_of_gt (blk_lt (gK BK544.out)) : gb559 ≠ gb544))
               clear BK543 BK544 HB
               have BK543 := n2_
               have BK544 := n3_
               have HB := n4_
               clear n2_ n3_ n4_
               clear hb hbox hg
               refine hK.out _ _ ⟨(blk_cell BK543.out 0).trans rfl, (blk_cell BK543.out 1).trans rfl, (blk_cell BK544.out 0).trans rfl, (blk_cell BK544.out 1).trans rfl⟩ (fun hHeld => ?_)
               clear hK K
               refine norm_ (a' := ?_) ?_ ?_
               rotate_left
               ·show Act.put _ (some 6) _ = _
                simp only [Act.put, List.setIfInBounds_toArray, List.set_cons_zero, List.set_cons_succ]
                rfl
               exact norm_ (by simp only [putAll, Act.put, List.setIfInBounds_toArray, List.set_cons_zero, List.set_cons_succ] <;> rfl) (hJ5 (gb559) _ ⟨hHeld, (gV (Kd.V_mono HO0_1.out (fun _ hk => ⟨hk.1.1.1.1, ⟨hk.1.1.1.2, ⟨hk.1.1.2, hk.2⟩⟩⟩))), (gV (Kd.V_mono HO1_1.out (fun _ hk => ⟨hk.1.1.1.1, ⟨hk.1.1.1.2, ⟨hk.1.1.2, hk.2⟩⟩⟩))), (gK BK543.out), (gK BK544.out), (gK BK559.out), GE559.out, NB543_559.out, NB559_543.out, NB544_559.out, NB559_544.out, (gB HB.out)⟩)
             ·skip
              rintro gb559 w24 ⟨hS_, h0_, h1_, h2_, h3_, h4_, h5_, h6_, h7_, h8_, h9_, h10_⟩
              replace HO0_1 : Aside0 (Kd.V (Kd.int .u64) 54 w24 w.heap.size (fun k_ => ((P0_1_ k_ ∨ P1_1_ k_) ∨ w.heap.size ≤ k_) ∧ k_ ≠ gb543 ∧ k_ ≠ gb544 ∧ k_ ≠ gb559) (.slice A0_1 l0_1.length c0_1) l0_1) := ⟨h0_⟩
              replace HO1_1 : Aside0 (Kd.V (Kd.int .u64) 54 w24 w.heap.size (fun k_ => ((P0_1_ k_ ∨ P1_1_ k_) ∨ w.heap.size ≤ k_) ∧ k_ ≠ gb543 ∧ k_ ≠ gb544 ∧ k_ ≠ gb559) (.slice A1_1 l1_1.length c1_1) l1_1) := ⟨h1_⟩
              replace BK543 : Aside0 (w24.heap[gb543]? = some (.cells #[.bool a0_0, .slice A0_1 l0_1.length c0_1] 25 (0, 0))) := ⟨h2_⟩
              replace BK544 : Aside0 (w24.heap[gb544]? = some (.cells #[.bool a1_0, .slice A1_1 l1_1.length c1_1] 25 (0, 0))) := ⟨h3_⟩
              have BK559 : Aside0 (w24.heap[gb559]? = some (.cells #[.bool false, .slice none 0 0] 44 (0, 0))) := ⟨h4_⟩
              have GE559 : Aside0 (w.heap.size ≤ gb559) := ⟨h5_⟩
              have NB543_559 : Aside0 (gb543 ≠ gb559) := ⟨h6_⟩
              have NB559_543 : Aside0 (gb559 ≠ gb543) := ⟨h7_⟩
              have NB544_559 : Aside0 (gb544 ≠ gb559) := ⟨h8_⟩
              have NB559_544 : Aside0 (gb559 ≠ gb544) := ⟨h9_⟩
              replace HB : Aside0 (Below w.heap.size w w24) := ⟨h10_⟩
              clear h0_ h1_ h2_ h3_ h4_ h5_ h6_ h7_ h8_ h9_ h10_
              have hHeld : w24.cell? ⟨gb543, 0, none⟩ = some (.bool a0_0) ∧ w24.cell? ⟨gb543, 1, none⟩ = some (.slice A0_1 l0_1.length c0_1) ∧ w24.cell? ⟨gb544, 0, none⟩ = some (.bool a1_0) ∧ w24.cell? ⟨gb544, 1, none⟩ = some (.slice A1_1 l1_1.length c1_1) := hS_
              refine norm_ (a' := ?_) ?_ ?_
              rotate_left
              ·simp only [putAll, Act.put, List.setIfInBounds_toArray, List.set_cons_zero, List.set_cons_succ]
               rfl
              refine two_ (i := 1) (j := 4) (Ni := some 16) (Nj := some 5) #[true, true, true, false, false, true, false, false] #[true, false, true, false, true, true, false, false] rfl rfl rfl rfl (two_of HT_.out (by kernel_rfl)) (by decide) (by decide) (fun K hK => ?_) (fun K hK => ?_)
              ·skip
               refine goes_ Try.func23 (by kernel_rfl) rfl #[.agg #[.bool a0_0, .slice A0_1 l0_1.length c0_1]] (by rfl) rfl rfl (by (try simp only [List.map_toArray, List.map_cons, List.map_nil]); first | done | rfl | (simp only [List.length_drop, List.length_take]; rfl)) ?_
               with_reducible refine (isohyetlaw02_of.calls k a0_0 _ _ l0_1 t550 t551 _ ?side1 ?side2 A7.out).mono ?_
               (case side1 => repeat (first | exact (Kd.V_reads' HO0_1.out).2.2 | apply Kd.C_alloc | apply Kd.C_drewN | apply Kd.C_drew))
               (case side2 => exact (Kd.V_reads' HO0_1.out).2.1)
               rintro e w25 ⟨v552, rfl, ho0, hb⟩
               refine ⟨_, rfl, ?_⟩
               replace HO0_1 := aK (Kd.V_below (gV HO0_1.out) hb)
               replace HO1_1 := aK (Kd.V_below (gV HO1_1.out) hb)
               have HO553 := aK (Kd.V_lower (Kd.V_mono (ok' := fun k_ => ((P0_1_ k_ ∨ P1_1_ k_) ∨ w.heap.size ≤ k_) ∧ k_ ≠ gb543 ∧ k_ ≠ gb544 ∧ k_ ≠ gb559) ho0 (fun k_ hk_ => ⟨(.inr (Nat.le_trans (below_size (gB HB.out)) hk_)), (Kd.freshB (g := gb543) (o := .cells #[.bool a0_0, .slice A0_1 l0_1.length c0_1] 25 (0, 0)) (gK BK543.out) k_ hk_), (Kd.freshB (g := gb544) (o := .cells #[.bool a1_0, .slice A1_1 l1_1.length c1_1] 25 (0, 0)) (gK BK544.out) k_ hk_), (Kd.freshB (g := gb559) (o := .cells #[.bool false, .slice none 0 0] 44 (0, 0)) (gK BK559.out) k_ hk_)⟩)) (below_size (gB HB.out)))
               have n3_ := aK (blk_below (gK BK543.out) hb)
               have n4_ := aK (blk_below (gK BK544.out) hb)
               have n5_ := aK (blk_below (gK BK559.out) hb)
               have n6_ := aK (below_step (gB HB.out) hb)
               clear BK543 BK544 BK559 HB
               have BK543 := n3_
               have BK544 := n4_
               have BK559 := n5_
               have HB := n6_
               clear n3_ n4_ n5_ n6_
               (try clear hb)
               (try clear hb2)
               (try clear hk)
               (try clear hi)
               (try clear ho0)
               refine hK.out _ _ ⟨(blk_cell BK543.out 0).trans rfl, (blk_cell BK543.out 1).trans rfl, (blk_cell BK544.out 0).trans rfl, (blk_cell BK544.out 1).trans rfl⟩ (fun hHeld => ?_)
               clear hK K
               refine norm_ (a' := ?_) ?_ ?_
               rotate_left
               ·show Act.put _ (some 16) _ = _
                simp only [Act.put, List.setIfInBounds_toArray, List.set_cons_zero, List.set_cons_succ]
                rfl
               exact norm_ (by simp only [putAll, Act.put, List.setIfInBounds_toArray, List.set_cons_zero, List.set_cons_succ] <;> rfl) (hJ1_5 (v552, gb559) _ ⟨hHeld, (gV HO0_1.out), (gV HO1_1.out), (gV HO553.out), (gK BK543.out), (gK BK544.out), (gK BK559.out), GE559.out, NB543_559.out, NB559_543.out, NB544_559.out, NB559_544.out, (gB HB.out)⟩)
              ·skip
               refine box_step ?hg (N := 5) ?hd (cs := #[.bool false, .slice none 0 0]) (t := 44) ?hr ?_; (case hd => rfl); (case hg => rfl); (case hr => first | (go_simp; done) | (go_simp; rfl))
               intro gb558 hg w25 hbox hb
               replace HO0_1 := aK (Kd.V_below (Kd.V_elderB (gV HO0_1.out) gb558 (Nat.le_of_eq hg.symm)) hb)
               replace HO1_1 := aK (Kd.V_below (Kd.V_elderB (gV HO1_1.out) gb558 (Nat.le_of_eq hg.symm)) hb)
               have n2_ := aK (blk_below (gK BK543.out) hb)
               have n3_ := aK (blk_below (gK BK544.out) hb)
               have n4_ := aK (blk_below (gK BK559.out) hb)
               have n5_ := aK (below_step (gB HB.out) hb)
               have BK558 := aK (hbox)
               have GE558 := aK ((by rw [hg]; exact (below_size (gB HB.out)) : w.heap.size ≤ gb558))
               have NB543_558 := aK ((by rw [hg]; exact Nat.ne_of_lt (blk_lt (gK BK543.out)) : gb543 ≠ gb558))
               have NB558_543 := aK ((by rw [hg]; exact Nat.ne_of_gt (blk_lt (gK BK543.out)) : gb558 ≠ gb543))
               have NB544_558 := aK ((by rw [hg]; exact Nat.ne_of_lt (blk_lt (gK BK544.out)) : gb544 ≠ gb558))
               have NB558_544 := aK ((by rw [hg]; exact Nat.ne_of_gt (blk_lt (gK BK544.out)) : gb558 ≠ gb544))
               have NB559_558 := aK ((by rw [hg]; exact Nat.ne_of_lt (blk_lt (gK BK559.out)) : gb559 ≠ gb558))
               have NB558_559 := aK ((by rw [hg]; exact Nat.ne_of_gt (blk_lt (gK BK559.out)) : gb558 ≠ gb559))
               clear BK543 BK544 BK559 HB
               have BK543 := n2_
               have BK544 := n3_
               have BK559 := n4_
               have HB := n5_
               clear n2_ n3_ n4_ n5_
               clear hb hbox hg
               refine hK.out _ _ ⟨(blk_cell BK543.out 0).trans rfl, (blk_cell BK543.out 1).trans rfl, (blk_cell BK544.out 0).trans rfl, (blk_cell BK544.out 1).trans rfl⟩ (fun hHeld => ?_)
               clear hK K
               refine norm_ (a' := ?_) ?_ ?_
               rotate_left
               ·show Act.put _ (some 5) _ = _
                simp only [Act.put, List.setIfInBounds_toArray, List.set_cons_zero, List.set_cons_succ]
                rfl
               exact norm_ (by simp only [putAll, Act.put, List.setIfInBounds_toArray, List.set_cons_zero, List.set_cons_succ] <;> rfl) (hJ4_5 (gb558, gb559) _ ⟨hHeld, (gV (Kd.V_mono HO0_1.out (fun _ hk => ⟨hk.1.1, ⟨hk.1.2.1, ⟨hk.1.2.2.1, ⟨hk.2, hk.1.2.2.2⟩⟩⟩⟩))), (gV (Kd.V_mono HO1_1.out (fun _ hk => ⟨hk.1.1, ⟨hk.1.2.1, ⟨hk.1.2.2.1, ⟨hk.2, hk.1.2.2.2⟩⟩⟩⟩))), (gK BK543.out), (gK BK544.out), (gK BK558.out), (gK BK559.out), GE558.out, NB543_558.out, NB558_543.out, NB544_558.out, NB558_544.out, NB559_558.out, NB558_559.out, GE559.out, NB543_559.out, NB559_543.out, NB544_559.out, NB559_544.out, (gB HB.out)⟩)
            ·skip
             rintro gb558 w24 ⟨hS_, h0_, h1_, h2_, h3_, h4_, h5_, h6_, h7_, h8_, h9_, h10_⟩
             replace HO0_1 : Aside0 (Kd.V (Kd.int .u64) 54 w24 w.heap.size (fun k_ => ((P0_1_ k_ ∨ P1_1_ k_) ∨ w.heap.size ≤ k_) ∧ k_ ≠ gb543 ∧ k_ ≠ gb544 ∧ k_ ≠ gb558) (.slice A0_1 l0_1.length c0_1) l0_1) := ⟨h0_⟩
             replace HO1_1 : Aside0 (Kd.V (Kd.int .u64) 54 w24 w.heap.size (fun k_ => ((P0_1_ k_ ∨ P1_1_ k_) ∨ w.heap.size ≤ k_) ∧ k_ ≠ gb543 ∧ k_ ≠ gb544 ∧ k_ ≠ gb558) (.slice A1_1 l1_1.length c1_1) l1_1) := ⟨h1_⟩
             replace BK543 : Aside0 (w24.heap[gb543]? = some (.cells #[.bool a0_0, .slice A0_1 l0_1.length c0_1] 25 (0, 0))) := ⟨h2_⟩
             replace BK544 : Aside0 (w24.heap[gb544]? = some (.cells #[.bool a1_0, .slice A1_1 l1_1.length c1_1] 25 (0, 0))) := ⟨h3_⟩
             have BK558 : Aside0 (w24.heap[gb558]? = some (.cells #[.bool false, .slice none 0 0] 44 (0, 0))) := ⟨h4_⟩
             have GE558 : Aside0 (w.heap.size ≤ gb558) := ⟨h5_⟩
             have NB543_558 : Aside0 (gb543 ≠ gb558) := ⟨h6_⟩
             have NB558_543 : Aside0 (gb558 ≠ gb543) := ⟨h7_⟩
             have NB544_558 : Aside0 (gb544 ≠ gb558) := ⟨h8_⟩
             have NB558_544 : Aside0 (gb558 ≠ gb544) := ⟨h9_⟩
             replace HB : Aside0 (Below w.heap.size w w24) := ⟨h10_⟩
             clear h0_ h1_ h2_ h3_ h4_ h5_ h6_ h7_ h8_ h9_ h10_
             have hHeld : w24.cell? ⟨gb543, 0, none⟩ = some (.bool a0_0) ∧ w24.cell? ⟨gb543, 1, none⟩ = some (.slice A0_1 l0_1.length c0_1) ∧ w24.cell? ⟨gb544, 0, none⟩ = some (.bool a1_0) ∧ w24.cell? ⟨gb544, 1, none⟩ = some (.slice A1_1 l1_1.length c1_1) := hS_
             refine norm_ (a' := ?_) ?_ ?_
             rotate_left
             ·simp only [putAll, Act.put, List.setIfInBounds_toArray, List.set_cons_zero, List.set_cons_succ]
              rfl
             refine two_ (i := 1) (j := 5) (Ni := some 16) (Nj := some 6) #[true, true, true, false, true, false, false, false] #[true, false, true, false, true, true, false, false] rfl rfl rfl rfl (two_of HT_.out (by kernel_rfl)) (by decide) (by decide) (fun K hK => ?_) (fun K hK => ?_)
             ·skip
              refine goes_ Try.func23 (by kernel_rfl) rfl #[.agg #[.bool a0_0, .slice A0_1 l0_1.length c0_1]] (by rfl) rfl rfl (by (try simp only [List.map_toArray, List.map_cons, List.map_nil]); first | done | rfl | (simp only [List.length_drop, List.length_take]; rfl)) ?_
              with_reducible refine (isohyetlaw02_of.calls k a0_0 _ _ l0_1 t550 t551 _ ?side1 ?side2 A7.out).mono ?_
              (case side1 => repeat (first | exact (Kd.V_reads' HO0_1.out).2.2 | apply Kd.C_alloc | apply Kd.C_drewN | apply Kd.C_drew))
              (case side2 => exact (Kd.V_reads' HO0_1.out).2.1)
              rintro e w25 ⟨v552, rfl, ho0, hb⟩
              refine ⟨_, rfl, ?_⟩
              replace HO0_1 := aK (Kd.V_below (gV HO0_1.out) hb)
              replace HO1_1 := aK (Kd.V_below (gV HO1_1.out) hb)
              have HO553 := aK (Kd.V_lower (Kd.V_mono (ok' := fun k_ => ((P0_1_ k_ ∨ P1_1_ k_) ∨ w.heap.size ≤ k_) ∧ k_ ≠ gb543 ∧ k_ ≠ gb544 ∧ k_ ≠ gb558) ho0 (fun k_ hk_ => ⟨(.inr (Nat.le_trans (below_size (gB HB.out)) hk_)), (Kd.freshB (g := gb543) (o := .cells #[.bool a0_0, .slice A0_1 l0_1.length c0_1] 25 (0, 0)) (gK BK543.out) k_ hk_), (Kd.freshB (g := gb544) (o := .cells #[.bool a1_0, .slice A1_1 l1_1.length c1_1] 25 (0, 0)) (gK BK544.out) k_ hk_), (Kd.freshB (g := gb558) (o := .cells #[.bool false, .slice none 0 0] 44 (0, 0)) (gK BK558.out) k_ hk_)⟩)) (below_size (gB HB.out)))
              have n3_ := aK (blk_below (gK BK543.out) hb)
              have n4_ := aK (blk_below (gK BK544.out) hb)
              have n5_ := aK (blk_below (gK BK558.out) hb)
              have n6_ := aK (below_step (gB HB.out) hb)
              clear BK543 BK544 BK558 HB
              have BK543 := n3_
              have BK544 := n4_
              have BK558 := n5_
              have HB := n6_
              clear n3_ n4_ n5_ n6_
              (try clear hb)
              (try clear hb2)
              (try clear hk)
              (try clear hi)
              (try clear ho0)
              refine hK.out _ _ ⟨(blk_cell BK543.out 0).trans rfl, (blk_cell BK543.out 1).trans rfl, (blk_cell BK544.out 0).trans rfl, (blk_cell BK544.out 1).trans rfl⟩ (fun hHeld => ?_)
              clear hK K
              refine norm_ (a' := ?_) ?_ ?_
              rotate_left
              ·show Act.put _ (some 16) _ = _
               simp only [Act.put, List.setIfInBounds_toArray, List.set_cons_zero, List.set_cons_succ]
               rfl
              exact norm_ (by simp only [putAll, Act.put, List.setIfInBounds_toArray, List.set_cons_zero, List.set_cons_succ] <;> rfl) (hJ1_4 (v552, gb558) _ ⟨hHeld, (gV HO0_1.out), (gV HO1_1.out), (gV HO553.out), (gK BK543.out), (gK BK544.out), (gK BK558.out), GE558.out, NB543_558.out, NB558_543.out, NB544_558.out, NB558_544.out, (gB HB.out)⟩)
             ·skip
              refine box_step ?hg (N := 6) ?hd (cs := #[.bool false, .slice none 0 0]) (t := 44) ?hr ?_; (case hd => rfl); (case hg => rfl); (case hr => first | (go_simp; done) | (go_simp; rfl))
              intro gb559 hg w25 hbox hb
              replace HO0_1 := aK (Kd.V_below (Kd.V_elderB (gV HO0_1.out) gb559 (Nat.le_of_eq hg.symm)) hb)
              replace HO1_1 := aK (Kd.V_below (Kd.V_elderB (gV HO1_1.out) gb559 (Nat.le_of_eq hg.symm)) hb)
              have n2_ := aK (blk_below (gK BK543.out) hb)
              have n3_ := aK (blk_below (gK BK544.out) hb)
              have n4_ := aK (blk_below (gK BK558.out) hb)
              have n5_ := aK (below_step (gB HB.out) hb)
              have BK559 := aK (hbox)
              have GE559 := aK ((by rw [hg]; exact (below_size (gB HB.out)) : w.heap.size ≤ gb559))
              have NB543_559 := aK ((by rw [hg]; exact Nat.ne_of_lt (blk_lt (gK BK543.out)) : gb543 ≠ gb559))
              have NB559_543 := aK ((by rw [hg]; exact Nat.ne_of_gt (blk_lt (gK BK543.out)) : gb559 ≠ gb543))
              have NB544_559 := aK ((by rw [hg]; exact Nat.ne_of_lt (blk_lt (gK BK544.out)) : gb544 ≠ gb559))
              have NB559_544 := aK ((by rw [hg]; exact Nat.ne_of_gt (blk_lt (gK BK544.out)) : gb559 ≠ gb544))
              have NB558_559 := aK ((by rw [hg]; exact Nat.ne_of_lt (blk_lt (gK BK558.out)) : gb558 ≠ gb559))
              have NB559_558 := aK ((by rw [hg]; exact Nat.ne_of_gt (blk_lt (gK BK558.out)) : gb559 ≠ gb558))
              clear BK543 BK544 BK558 HB
              have BK543 := n2_
              have BK544 := n3_
              have BK558 := n4_
              have HB := n5_
              clear n2_ n3_ n4_ n5_
              clear hb hbox hg
              refine hK.out _ _ ⟨(blk_cell BK543.out 0).trans rfl, (blk_cell BK543.out 1).trans rfl, (blk_cell BK544.out 0).trans rfl, (blk_cell BK544.out 1).trans rfl⟩ (fun hHeld => ?_)
              clear hK K
              refine norm_ (a' := ?_) ?_ ?_
              rotate_left
              ·show Act.put _ (some 6) _ = _
               simp only [Act.put, List.setIfInBounds_toArray, List.set_cons_zero, List.set_cons_succ]
               rfl
              exact norm_ (by simp only [putAll, Act.put, List.setIfInBounds_toArray, List.set_cons_zero, List.set_cons_succ] <;> rfl) (hJ4_5 (gb558, gb559) _ ⟨hHeld, (gV (Kd.V_mono HO0_1.out (fun _ hk => ⟨hk.1.1, ⟨hk.1.2.1, ⟨hk.1.2.2.1, ⟨hk.1.2.2.2, hk.2⟩⟩⟩⟩))), (gV (Kd.V_mono HO1_1.out (fun _ hk => ⟨hk.1.1, ⟨hk.1.2.1, ⟨hk.1.2.2.1, ⟨hk.1.2.2.2, hk.2⟩⟩⟩⟩))), (gK BK543.out), (gK BK544.out), (gK BK558.out), (gK BK559.out), GE558.out, NB543_558.out, NB558_543.out, NB544_558.out, NB558_544.out, NB559_558.out, NB558_559.out, GE559.out, NB543_559.out, NB559_543.out, NB544_559.out, NB559_544.out, (gB HB.out)⟩)
           ·skip
            rintro v552 w24 ⟨hS_, h0_, h1_, h2_, h3_, h4_, h5_⟩
            replace HO0_1 : Aside0 (Kd.V (Kd.int .u64) 54 w24 w.heap.size (fun k_ => ((P0_1_ k_ ∨ P1_1_ k_) ∨ w.heap.size ≤ k_) ∧ k_ ≠ gb543 ∧ k_ ≠ gb544) (.slice A0_1 l0_1.length c0_1) l0_1) := ⟨h0_⟩
            replace HO1_1 : Aside0 (Kd.V (Kd.int .u64) 54 w24 w.heap.size (fun k_ => ((P0_1_ k_ ∨ P1_1_ k_) ∨ w.heap.size ≤ k_) ∧ k_ ≠ gb543 ∧ k_ ≠ gb544) (.slice A1_1 l1_1.length c1_1) l1_1) := ⟨h1_⟩
            have HO553 : Aside0 (Kd.V (Kd.int .i64) 3 w24 w.heap.size (fun k_ => ((P0_1_ k_ ∨ P1_1_ k_) ∨ w.heap.size ≤ k_) ∧ k_ ≠ gb543 ∧ k_ ≠ gb544) v552 t551) := ⟨h2_⟩
            replace BK543 : Aside0 (w24.heap[gb543]? = some (.cells #[.bool a0_0, .slice A0_1 l0_1.length c0_1] 25 (0, 0))) := ⟨h3_⟩
            replace BK544 : Aside0 (w24.heap[gb544]? = some (.cells #[.bool a1_0, .slice A1_1 l1_1.length c1_1] 25 (0, 0))) := ⟨h4_⟩
            replace HB : Aside0 (Below w.heap.size w w24) := ⟨h5_⟩
            clear h0_ h1_ h2_ h3_ h4_ h5_
            have hHeld : w24.cell? ⟨gb543, 0, none⟩ = some (.bool a0_0) ∧ w24.cell? ⟨gb543, 1, none⟩ = some (.slice A0_1 l0_1.length c0_1) ∧ w24.cell? ⟨gb544, 0, none⟩ = some (.bool a1_0) ∧ w24.cell? ⟨gb544, 1, none⟩ = some (.slice A1_1 l1_1.length c1_1) := hS_
            refine norm_ (a' := ?_) ?_ ?_
            rotate_left
            ·simp only [putAll, Act.put, List.setIfInBounds_toArray, List.set_cons_zero, List.set_cons_succ]
             rfl
            refine three_ (i := 3) (j := 4) (k := 5) (Ni := some 18) (Nj := some 5) (Nk := some 6) #[true, true, true, true, false, false, false, false] #[true, true, true, false, true, false, false, false] #[true, true, true, false, false, true, false, false] rfl rfl rfl rfl rfl rfl (three_of HT_.out (by kernel_rfl)) (by decide) (by decide) (by decide) (fun K hK => ?_) (fun K hK => ?_) (fun K hK => ?_)
            ·skip
             refine goes_ Try.func23 (by kernel_rfl) rfl #[.agg #[.bool a1_0, .slice A1_1 l1_1.length c1_1]] (by rfl) rfl rfl (by (try simp only [List.map_toArray, List.map_cons, List.map_nil]); first | done | rfl | (simp only [List.length_drop, List.length_take]; rfl)) ?_
             with_reducible refine (isohyetlaw02_of.calls k a1_0 _ _ l1_1 t554 t555 _ ?side1 ?side2 A8.out).mono ?_
             (case side1 => repeat (first | exact (Kd.V_reads' HO1_1.out).2.2 | apply Kd.C_alloc | apply Kd.C_drewN | apply Kd.C_drew))
             (case side2 => exact (Kd.V_reads' HO1_1.out).2.1)
             rintro e w25 ⟨v556, rfl, ho0, hb⟩
             refine ⟨_, rfl, ?_⟩
             replace HO0_1 := aK (Kd.V_below (gV HO0_1.out) hb)
             replace HO1_1 := aK (Kd.V_below (gV HO1_1.out) hb)
             replace HO553 := aK (Kd.V_below (gV HO553.out) hb)
             have HO557 := aK (Kd.V_lower (Kd.V_mono (ok' := fun k_ => ((P0_1_ k_ ∨ P1_1_ k_) ∨ w.heap.size ≤ k_) ∧ k_ ≠ gb543 ∧ k_ ≠ gb544) ho0 (fun k_ hk_ => ⟨(.inr (Nat.le_trans (below_size (gB HB.out)) hk_)), (Kd.freshB (g := gb543) (o := .cells #[.bool a0_0, .slice A0_1 l0_1.length c0_1] 25 (0, 0)) (gK BK543.out) k_ hk_), (Kd.freshB (g := gb544) (o := .cells #[.bool a1_0, .slice A1_1 l1_1.length c1_1] 25 (0, 0)) (gK BK544.out) k_ hk_)⟩)) (below_size (gB HB.out)))
             have n4_ := aK (blk_below (gK BK543.out) hb)
             have n5_ := aK (blk_below (gK BK544.out) hb)
             have n6_ := aK (below_step (gB HB.out) hb)
             clear BK543 BK544 HB
             have BK543 := n4_
             have BK544 := n5_
             have HB := n6_
             clear n4_ n5_ n6_
             (try clear hb)
             (try clear hb2)
             (try clear hk)
             (try clear hi)
             (try clear ho0)
             refine hK.out _ _ ⟨(blk_cell BK543.out 0).trans rfl, (blk_cell BK543.out 1).trans rfl, (blk_cell BK544.out 0).trans rfl, (blk_cell BK544.out 1).trans rfl⟩ (fun hHeld => ?_)
             clear hK K
             refine norm_ (a' := ?_) ?_ ?_
             rotate_left
             ·show Act.put _ (some 18) _ = _
              simp only [Act.put, List.setIfInBounds_toArray, List.set_cons_zero, List.set_cons_succ]
              rfl
             exact norm_ (by simp only [putAll, Act.put, List.setIfInBounds_toArray, List.set_cons_zero, List.set_cons_succ] <;> rfl) (hJ1_3 (v552, v556) _ ⟨hHeld, (gV HO0_1.out), (gV HO1_1.out), (gV HO553.out), (gV HO557.out), (gK BK543.out), (gK BK544.out), (gB HB.out)⟩)
            ·skip
             refine box_step ?hg (N := 5) ?hd (cs := #[.bool false, .slice none 0 0]) (t := 44) ?hr ?_; (case hd => rfl); (case hg => rfl); (case hr => first | (go_simp; done) | (go_simp; rfl))
             intro gb558 hg w25 hbox hb
             replace HO0_1 := aK (Kd.V_below (Kd.V_elderB (gV HO0_1.out) gb558 (Nat.le_of_eq hg.symm)) hb)
             replace HO1_1 := aK (Kd.V_below (Kd.V_elderB (gV HO1_1.out) gb558 (Nat.le_of_eq hg.symm)) hb)
             replace HO553 := aK (Kd.V_below (Kd.V_elderB (gV HO553.out) gb558 (Nat.le_of_eq hg.symm)) hb)
             have n3_ := aK (blk_below (gK BK543.out) hb)
             have n4_ := aK (blk_below (gK BK544.out) hb)
             have n5_ := aK (below_step (gB HB.out) hb)
             have BK558 := aK (hbox)
             have GE558 := aK ((by rw [hg]; exact (below_size (gB HB.out)) : w.heap.size ≤ gb558))
             have NB543_558 := aK ((by rw [hg]; exact Nat.ne_of_lt (blk_lt (gK BK543.out)) : gb543 ≠ gb558))
             have NB558_543 := aK ((by rw [hg]; exact Nat.ne_of_gt (blk_lt (gK BK543.out)) : gb558 ≠ gb543))
             have NB544_558 := aK ((by rw [hg]; exact Nat.ne_of_lt (blk_lt (gK BK544.out)) : gb544 ≠ gb558))
             have NB558_544 := aK ((by rw [hg]; exact Nat.ne_of_gt (blk_lt (gK BK544.out)) : gb558 ≠ gb544))
             clear BK543 BK544 HB
             have BK543 := n3_
             have BK544 := n4_
             have HB := n5_
             clear n3_ n4_ n5_
             clear hb hbox hg
             refine hK.out _ _ ⟨(blk_cell BK543.out 0).trans rfl, (blk_cell BK543.out 1).trans rfl, (blk_cell BK544.out 0).trans rfl, (blk_cell BK544.out 1).trans rfl⟩ (fun hHeld => ?_)
             clear hK K
             refine norm_ (a' := ?_) ?_ ?_
             rotate_left
             ·show Act.put _ (some 5) _ = _
              simp only [Act.put, List.setIfInBounds_toArray, List.set_cons_zero, List.set_cons_succ]
              rfl
             exact norm_ (by simp only [putAll, Act.put, List.setIfInBounds_toArray, List.set_cons_zero, List.set_cons_succ] <;> rfl) (hJ1_4 (v552, gb558) _ ⟨hHeld, (gV (Kd.V_mono HO0_1.out (fun _ hk => ⟨hk.1.1, ⟨hk.1.2.1, ⟨hk.1.2.2, hk.2⟩⟩⟩))), (gV (Kd.V_mono HO1_1.out (fun _ hk => ⟨hk.1.1, ⟨hk.1.2.1, ⟨hk.1.2.2, hk.2⟩⟩⟩))), (gV (Kd.V_mono HO553.out (fun _ hk => ⟨hk.1.1, ⟨hk.1.2.1, ⟨hk.1.2.2, hk.2⟩⟩⟩))), (gK BK543.out), (gK BK544.out), (gK BK558.out), GE558.out, NB543_558.out, NB558_543.out, NB544_558.out, NB558_544.out, (gB HB.out)⟩)
            ·skip
             refine box_step ?hg (N := 6) ?hd (cs := #[.bool false, .slice none 0 0]) (t := 44) ?hr ?_; (case hd => rfl); (case hg => rfl); (case hr => first | (go_simp; done) | (go_simp; rfl))
             intro gb559 hg w25 hbox hb
             replace HO0_1 := aK (Kd.V_below (Kd.V_elderB (gV HO0_1.out) gb559 (Nat.le_of_eq hg.symm)) hb)
             replace HO1_1 := aK (Kd.V_below (Kd.V_elderB (gV HO1_1.out) gb559 (Nat.le_of_eq hg.symm)) hb)
             replace HO553 := aK (Kd.V_below (Kd.V_elderB (gV HO553.out) gb559 (Nat.le_of_eq hg.symm)) hb)
             have n3_ := aK (blk_below (gK BK543.out) hb)
             have n4_ := aK (blk_below (gK BK544.out) hb)
             have n5_ := aK (below_step (gB HB.out) hb)
             have BK559 := aK (hbox)
             have GE559 := aK ((by rw [hg]; exact (below_size (gB HB.out)) : w.heap.size ≤ gb559))
             have NB543_559 := aK ((by rw [hg]; exact Nat.ne_of_lt (blk_lt (gK BK543.out)) : gb543 ≠ gb559))
             have NB559_543 := aK ((by rw [hg]; exact Nat.ne_of_gt (blk_lt (gK BK543.out)) : gb559 ≠ gb543))
             have NB544_559 := aK ((by rw [hg]; exact Nat.ne_of_lt (blk_lt (gK BK544.out)) : gb544 ≠ gb559))
             have NB559_544 := aK ((by rw [hg]; exact Nat.ne_of_gt (blk_lt (gK BK544.out)) : gb559 ≠ gb544))
             clear BK543 BK544 HB
             have BK543 := n3_
             have BK544 := n4_
             have HB := n5_
             clear n3_ n4_ n5_
             clear hb hbox hg
             refine hK.out _ _ ⟨(blk_cell BK543.out 0).trans rfl, (blk_cell BK543.out 1).trans rfl, (blk_cell BK544.out 0).trans rfl, (blk_cell BK544.out 1).trans rfl⟩ (fun hHeld => ?_)
             clear hK K
             refine norm_ (a' := ?_) ?_ ?_
             rotate_left
             ·show Act.put _ (some 6) _ = _
              simp only [Act.put, List.setIfInBounds_toArray, List.set_cons_zero, List.set_cons_succ]
              rfl
             exact norm_ (by simp only [putAll, Act.put, List.setIfInBounds_toArray, List.set_cons_zero, List.set_cons_succ] <;> rfl) (hJ1_5 (v552, gb559) _ ⟨hHeld, (gV (Kd.V_mono HO0_1.out (fun _ hk => ⟨hk.1.1, ⟨hk.1.2.1, ⟨hk.1.2.2, hk.2⟩⟩⟩))), (gV (Kd.V_mono HO1_1.out (fun _ hk => ⟨hk.1.1, ⟨hk.1.2.1, ⟨hk.1.2.2, hk.2⟩⟩⟩))), (gV (Kd.V_mono HO553.out (fun _ hk => ⟨hk.1.1, ⟨hk.1.2.1, ⟨hk.1.2.2, hk.2⟩⟩⟩))), (gK BK543.out), (gK BK544.out), (gK BK559.out), GE559.out, NB543_559.out, NB559_543.out, NB544_559.out, NB559_544.out, (gB HB.out)⟩)
          ·skip
           rintro ⟨gb558, gb559⟩ w25 ⟨hS_, h0_, h1_, h2_, h3_, h4_, h5_, h6_, h7_, h8_, h9_, h10_, h11_, h12_, h13_, h14_, h15_, h16_, h17_, h18_⟩
           replace HO0_1 : Aside0 (Kd.V (Kd.int .u64) 54 w25 w.heap.size (fun k_ => ((P0_1_ k_ ∨ P1_1_ k_) ∨ w.heap.size ≤ k_) ∧ k_ ≠ gb543 ∧ k_ ≠ gb544 ∧ k_ ≠ gb558 ∧ k_ ≠ gb559) (.slice A0_1 l0_1.length c0_1) l0_1) := ⟨h0_⟩
           replace HO1_1 : Aside0 (Kd.V (Kd.int .u64) 54 w25 w.heap.size (fun k_ => ((P0_1_ k_ ∨ P1_1_ k_) ∨ w.heap.size ≤ k_) ∧ k_ ≠ gb543 ∧ k_ ≠ gb544 ∧ k_ ≠ gb558 ∧ k_ ≠ gb559) (.slice A1_1 l1_1.length c1_1) l1_1) := ⟨h1_⟩
           replace BK543 : Aside0 (w25.heap[gb543]? = some (.cells #[.bool a0_0, .slice A0_1 l0_1.length c0_1] 25 (0, 0))) := ⟨h2_⟩
           replace BK544 : Aside0 (w25.heap[gb544]? = some (.cells #[.bool a1_0, .slice A1_1 l1_1.length c1_1] 25 (0, 0))) := ⟨h3_⟩
           have BK558 : Aside0 (w25.heap[gb558]? = some (.cells #[.bool false, .slice none 0 0] 44 (0, 0))) := ⟨h4_⟩
           have BK559 : Aside0 (w25.heap[gb559]? = some (.cells #[.bool false, .slice none 0 0] 44 (0, 0))) := ⟨h5_⟩
           have GE558 : Aside0 (w.heap.size ≤ gb558) := ⟨h6_⟩
           have NB543_558 : Aside0 (gb543 ≠ gb558) := ⟨h7_⟩
           have NB558_543 : Aside0 (gb558 ≠ gb543) := ⟨h8_⟩
           have NB544_558 : Aside0 (gb544 ≠ gb558) := ⟨h9_⟩
           have NB558_544 : Aside0 (gb558 ≠ gb544) := ⟨h10_⟩
           have NB559_558 : Aside0 (gb559 ≠ gb558) := ⟨h11_⟩
           have NB558_559 : Aside0 (gb558 ≠ gb559) := ⟨h12_⟩
           have GE559 : Aside0 (w.heap.size ≤ gb559) := ⟨h13_⟩
           have NB543_559 : Aside0 (gb543 ≠ gb559) := ⟨h14_⟩
           have NB559_543 : Aside0 (gb559 ≠ gb543) := ⟨h15_⟩
           have NB544_559 : Aside0 (gb544 ≠ gb559) := ⟨h16_⟩
           have NB559_544 : Aside0 (gb559 ≠ gb544) := ⟨h17_⟩
           replace HB : Aside0 (Below w.heap.size w w25) := ⟨h18_⟩
           clear h0_ h1_ h2_ h3_ h4_ h5_ h6_ h7_ h8_ h9_ h10_ h11_ h12_ h13_ h14_ h15_ h16_ h17_ h18_
           have hHeld : w25.cell? ⟨gb543, 0, none⟩ = some (.bool a0_0) ∧ w25.cell? ⟨gb543, 1, none⟩ = some (.slice A0_1 l0_1.length c0_1) ∧ w25.cell? ⟨gb544, 0, none⟩ = some (.bool a1_0) ∧ w25.cell? ⟨gb544, 1, none⟩ = some (.slice A1_1 l1_1.length c1_1) := hS_
           refine norm_ (a' := ?_) ?_ ?_
           rotate_left
           ·simp only [putAll, Act.put, List.setIfInBounds_toArray, List.set_cons_zero, List.set_cons_succ]
            rfl
           refine one_ (i := 1) (N := some 16) #[true, true, true, false, true, true, false, false] rfl rfl (one_of HT_.out (by kernel_rfl)) (by decide) (fun K hK => ?_)
           refine goes_ Try.func23 (by kernel_rfl) rfl #[.agg #[.bool a0_0, .slice A0_1 l0_1.length c0_1]] (by rfl) rfl rfl (by (try simp only [List.map_toArray, List.map_cons, List.map_nil]); first | done | rfl | (simp only [List.length_drop, List.length_take]; rfl)) ?_
           with_reducible refine (isohyetlaw02_of.calls k a0_0 _ _ l0_1 t550 t551 _ ?side1 ?side2 A7.out).mono ?_
           (case side1 => repeat (first | exact (Kd.V_reads' HO0_1.out).2.2 | apply Kd.C_alloc | apply Kd.C_drewN | apply Kd.C_drew))
           (case side2 => exact (Kd.V_reads' HO0_1.out).2.1)
           rintro e w26 ⟨v552, rfl, ho0, hb⟩
           refine ⟨_, rfl, ?_⟩
           replace HO0_1 := aK (Kd.V_below (gV HO0_1.out) hb)
           replace HO1_1 := aK (Kd.V_below (gV HO1_1.out) hb)
           have HO553 := aK (Kd.V_lower (Kd.V_mono (ok' := fun k_ => ((P0_1_ k_ ∨ P1_1_ k_) ∨ w.heap.size ≤ k_) ∧ k_ ≠ gb543 ∧ k_ ≠ gb544 ∧ k_ ≠ gb558 ∧ k_ ≠ gb559) ho0 (fun k_ hk_ => ⟨(.inr (Nat.le_trans (below_size (gB HB.out)) hk_)), (Kd.freshB (g := gb543) (o := .cells #[.bool a0_0, .slice A0_1 l0_1.length c0_1] 25 (0, 0)) (gK BK543.out) k_ hk_), (Kd.freshB (g := gb544) (o := .cells #[.bool a1_0, .slice A1_1 l1_1.length c1_1] 25 (0, 0)) (gK BK544.out) k_ hk_), (Kd.freshB (g := gb558) (o := .cells #[.bool false, .slice none 0 0] 44 (0, 0)) (gK BK558.out) k_ hk_), (Kd.freshB (g := gb559) (o := .cells #[.bool false, .slice none 0 0] 44 (0, 0)) (gK BK559.out) k_ hk_)⟩)) (below_size (gB HB.out)))
           have n3_ := aK (blk_below (gK BK543.out) hb)
           have n4_ := aK (blk_below (gK BK544.out) hb)
           have n5_ := aK (blk_below (gK BK558.out) hb)
           have n6_ := aK (blk_below (gK BK559.out) hb)
           have n7_ := aK (below_step (gB HB.out) hb)
           clear BK543 BK544 BK558 BK559 HB
           have BK543 := n3_
           have BK544 := n4_
           have BK558 := n5_
           have BK559 := n6_
           have HB := n7_
           clear n3_ n4_ n5_ n6_ n7_
           (try clear hb)
           (try clear hb2)
           (try clear hk)
           (try clear hi)
           (try clear ho0)
           refine hK.out _ _ ⟨(blk_cell BK543.out 0).trans rfl, (blk_cell BK543.out 1).trans rfl, (blk_cell BK544.out 0).trans rfl, (blk_cell BK544.out 1).trans rfl⟩ (fun hHeld => ?_)
           clear hK K
           refine norm_ (a' := ?_) ?_ ?_
           rotate_left
           ·show Act.put _ (some 16) _ = _
            simp only [Act.put, List.setIfInBounds_toArray, List.set_cons_zero, List.set_cons_succ]
            rfl
           exact norm_ (by simp only [putAll, Act.put, List.setIfInBounds_toArray, List.set_cons_zero, List.set_cons_succ] <;> rfl) (hJ1_4_5 (v552, gb558, gb559) _ ⟨hHeld, (gV HO0_1.out), (gV HO1_1.out), (gV HO553.out), (gK BK543.out), (gK BK544.out), (gK BK558.out), (gK BK559.out), GE558.out, NB543_558.out, NB558_543.out, NB544_558.out, NB558_544.out, NB559_558.out, NB558_559.out, GE559.out, NB543_559.out, NB559_543.out, NB544_559.out, NB559_544.out, (gB HB.out)⟩)
         ·skip
          rintro ⟨v552, gb559⟩ w25 ⟨hS_, h0_, h1_, h2_, h3_, h4_, h5_, h6_, h7_, h8_, h9_, h10_, h11_⟩
          replace HO0_1 : Aside0 (Kd.V (Kd.int .u64) 54 w25 w.heap.size (fun k_ => ((P0_1_ k_ ∨ P1_1_ k_) ∨ w.heap.size ≤ k_) ∧ k_ ≠ gb543 ∧ k_ ≠ gb544 ∧ k_ ≠ gb559) (.slice A0_1 l0_1.length c0_1) l0_1) := ⟨h0_⟩
          replace HO1_1 : Aside0 (Kd.V (Kd.int .u64) 54 w25 w.heap.size (fun k_ => ((P0_1_ k_ ∨ P1_1_ k_) ∨ w.heap.size ≤ k_) ∧ k_ ≠ gb543 ∧ k_ ≠ gb544 ∧ k_ ≠ gb559) (.slice A1_1 l1_1.length c1_1) l1_1) := ⟨h1_⟩
          have HO553 : Aside0 (Kd.V (Kd.int .i64) 3 w25 w.heap.size (fun k_ => ((P0_1_ k_ ∨ P1_1_ k_) ∨ w.heap.size ≤ k_) ∧ k_ ≠ gb543 ∧ k_ ≠ gb544 ∧ k_ ≠ gb559) v552 t551) := ⟨h2_⟩
          replace BK543 : Aside0 (w25.heap[gb543]? = some (.cells #[.bool a0_0, .slice A0_1 l0_1.length c0_1] 25 (0, 0))) := ⟨h3_⟩
          replace BK544 : Aside0 (w25.heap[gb544]? = some (.cells #[.bool a1_0, .slice A1_1 l1_1.length c1_1] 25 (0, 0))) := ⟨h4_⟩
          have BK559 : Aside0 (w25.heap[gb559]? = some (.cells #[.bool false, .slice none 0 0] 44 (0, 0))) := ⟨h5_⟩
          have GE559 : Aside0 (w.heap.size ≤ gb559) := ⟨h6_⟩
          have NB543_559 : Aside0 (gb543 ≠ gb559) := ⟨h7_⟩
          have NB559_543 : Aside0 (gb559 ≠ gb543) := ⟨h8_⟩
          have NB544_559 : Aside0 (gb544 ≠ gb559) := ⟨h9_⟩
          have NB559_544 : Aside0 (gb559 ≠ gb544) := ⟨h10_⟩
          replace HB : Aside0 (Below w.heap.size w w25) := ⟨h11_⟩
          clear h0_ h1_ h2_ h3_ h4_ h5_ h6_ h7_ h8_ h9_ h10_ h11_
          have hHeld : w25.cell? ⟨gb543, 0, none⟩ = some (.bool a0_0) ∧ w25.cell? ⟨gb543, 1, none⟩ = some (.slice A0_1 l0_1.length c0_1) ∧ w25.cell? ⟨gb544, 0, none⟩ = some (.bool a1_0) ∧ w25.cell? ⟨gb544, 1, none⟩ = some (.slice A1_1 l1_1.length c1_1) := hS_
          refine norm_ (a' := ?_) ?_ ?_
          rotate_left
          ·simp only [putAll, Act.put, List.setIfInBounds_toArray, List.set_cons_zero, List.set_cons_succ]
           rfl
          refine two_ (i := 3) (j := 4) (Ni := some 18) (Nj := some 5) #[true, true, true, true, false, true, false, false] #[true, true, true, false, true, true, false, false] rfl rfl rfl rfl (two_of HT_.out (by kernel_rfl)) (by decide) (by decide) (fun K hK => ?_) (fun K hK => ?_)
          ·skip
           refine goes_ Try.func23 (by kernel_rfl) rfl #[.agg #[.bool a1_0, .slice A1_1 l1_1.length c1_1]] (by rfl) rfl rfl (by (try simp only [List.map_toArray, List.map_cons, List.map_nil]); first | done | rfl | (simp only [List.length_drop, List.length_take]; rfl)) ?_
           with_reducible refine (isohyetlaw02_of.calls k a1_0 _ _ l1_1 t554 t555 _ ?side1 ?side2 A8.out).mono ?_
           (case side1 => repeat (first | exact (Kd.V_reads' HO1_1.out).2.2 | apply Kd.C_alloc | apply Kd.C_drewN | apply Kd.C_drew))
           (case side2 => exact (Kd.V_reads' HO1_1.out).2.1)
           rintro e w26 ⟨v556, rfl, ho0, hb⟩
           refine ⟨_, rfl, ?_⟩
           replace HO0_1 := aK (Kd.V_below (gV HO0_1.out) hb)
           replace HO1_1 := aK (Kd.V_below (gV HO1_1.out) hb)
           replace HO553 := aK (Kd.V_below (gV HO553.out) hb)
           have HO557 := aK (Kd.V_lower (Kd.V_mono (ok' := fun k_ => ((P0_1_ k_ ∨ P1_1_ k_) ∨ w.heap.size ≤ k_) ∧ k_ ≠ gb543 ∧ k_ ≠ gb544 ∧ k_ ≠ gb559) ho0 (fun k_ hk_ => ⟨(.inr (Nat.le_trans (below_size (gB HB.out)) hk_)), (Kd.freshB (g := gb543) (o := .cells #[.bool a0_0, .slice A0_1 l0_1.length c0_1] 25 (0, 0)) (gK BK543.out) k_ hk_), (Kd.freshB (g := gb544) (o := .cells #[.bool a1_0, .slice A1_1 l1_1.length c1_1] 25 (0, 0)) (gK BK544.out) k_ hk_), (Kd.freshB (g := gb559) (o := .cells #[.bool false, .slice none 0 0] 44 (0, 0)) (gK BK559.out) k_ hk_)⟩)) (below_size (gB HB.out)))
           have n4_ := aK (blk_below (gK BK543.out) hb)
           have n5_ := aK (blk_below (gK BK544.out) hb)
           have n6_ := aK (blk_below (gK BK559.out) hb)
           have n7_ := aK (below_step (gB HB.out) hb)
           clear BK543 BK544 BK559 HB
           have BK543 := n4_
           have BK544 := n5_
           have BK559 := n6_
           have HB := n7_
           clear n4_ n5_ n6_ n7_
           (try clear hb)
           (try clear hb2)
           (try clear hk)
           (try clear hi)
           (try clear ho0)
           refine hK.out _ _ ⟨(blk_cell BK543.out 0).trans rfl, (blk_cell BK543.out 1).trans rfl, (blk_cell BK544.out 0).trans rfl, (blk_cell BK544.out 1).trans rfl⟩ (fun hHeld => ?_)
           clear hK K
           refine norm_ (a' := ?_) ?_ ?_
           rotate_left
           ·show Act.put _ (some 18) _ = _
            simp only [Act.put, List.setIfInBounds_toArray, List.set_cons_zero, List.set_cons_succ]
            rfl
           exact norm_ (by simp only [putAll, Act.put, List.setIfInBounds_toArray, List.set_cons_zero, List.set_cons_succ] <;> rfl) (hJ1_3_5 (v552, v556, gb559) _ ⟨hHeld, (gV HO0_1.out), (gV HO1_1.out), (gV HO553.out), (gV HO557.out), (gK BK543.out), (gK BK544.out), (gK BK559.out), GE559.out, NB543_559.out, NB559_543.out, NB544_559.out, NB559_544.out, (gB HB.out)⟩)
          ·skip
           refine box_step ?hg (N := 5) ?hd (cs := #[.bool false, .slice none 0 0]) (t := 44) ?hr ?_; (case hd => rfl); (case hg => rfl); (case hr => first | (go_simp; done) | (go_simp; rfl))
           intro gb558 hg w26 hbox hb
           replace HO0_1 := aK (Kd.V_below (Kd.V_elderB (gV HO0_1.out) gb558 (Nat.le_of_eq hg.symm)) hb)
           replace HO1_1 := aK (Kd.V_below (Kd.V_elderB (gV HO1_1.out) gb558 (Nat.le_of_eq hg.symm)) hb)
           replace HO553 := aK (Kd.V_below (Kd.V_elderB (gV HO553.out) gb558 (Nat.le_of_eq hg.symm)) hb)
           have n3_ := aK (blk_below (gK BK543.out) hb)
           have n4_ := aK (blk_below (gK BK544.out) hb)
           have n5_ := aK (blk_below (gK BK559.out) hb)
           have n6_ := aK (below_step (gB HB.out) hb)
           have BK558 := aK (hbox)
           have GE558 := aK ((by rw [hg]; exact (below_size (gB HB.out)) : w.heap.size ≤ gb558))
           have NB543_558 := aK ((by rw [hg]; exact Nat.ne_of_lt (blk_lt (gK BK543.out)) : gb543 ≠ gb558))
           have NB558_543 := aK ((by rw [hg]; exact Nat.ne_of_gt (blk_lt (gK BK543.out)) : gb558 ≠ gb543))
           have NB544_558 := aK ((by rw [hg]; exact Nat.ne_of_lt (blk_lt (gK BK544.out)) : gb544 ≠ gb558))
           have NB558_544 := aK ((by rw [hg]; exact Nat.ne_of_gt (blk_lt (gK BK544.out)) : gb558 ≠ gb544))
           have NB559_558 := aK ((by rw [hg]; exact Nat.ne_of_lt (blk_lt (gK BK559.out)) : gb559 ≠ gb558))
           have NB558_559 := aK ((by rw [hg]; exact Nat.ne_of_gt (blk_lt (gK BK559.out)) : gb558 ≠ gb559))
           clear BK543 BK544 BK559 HB
           have BK543 := n3_
           have BK544 := n4_
           have BK559 := n5_
           have HB := n6_
           clear n3_ n4_ n5_ n6_
           clear hb hbox hg
           refine hK.out _ _ ⟨(blk_cell BK543.out 0).trans rfl, (blk_cell BK543.out 1).trans rfl, (blk_cell BK544.out 0).trans rfl, (blk_cell BK544.out 1).trans rfl⟩ (fun hHeld => ?_)
           clear hK K
           refine norm_ (a' := ?_) ?_ ?_
           rotate_left
           ·show Act.put _ (some 5) _ = _
            simp only [Act.put, List.setIfInBounds_toArray, List.set_cons_zero, List.set_cons_succ]
            rfl
           exact norm_ (by simp only [putAll, Act.put, List.setIfInBounds_toArray, List.set_cons_zero, List.set_cons_succ] <;> rfl) (hJ1_4_5 (v552, gb558, gb559) _ ⟨hHeld, (gV (Kd.V_mono HO0_1.out (fun _ hk => ⟨hk.1.1, ⟨hk.1.2.1, ⟨hk.1.2.2.1, ⟨hk.2, hk.1.2.2.2⟩⟩⟩⟩))), (gV (Kd.V_mono HO1_1.out (fun _ hk => ⟨hk.1.1, ⟨hk.1.2.1, ⟨hk.1.2.2.1, ⟨hk.2, hk.1.2.2.2⟩⟩⟩⟩))), (gV (Kd.V_mono HO553.out (fun _ hk => ⟨hk.1.1, ⟨hk.1.2.1, ⟨hk.1.2.2.1, ⟨hk.2, hk.1.2.2.2⟩⟩⟩⟩))), (gK BK543.out), (gK BK544.out), (gK BK558.out), (gK BK559.out), GE558.out, NB543_558.out, NB558_543.out, NB544_558.out, NB558_544.out, NB559_558.out, NB558_559.out, GE559.out, NB543_559.out, NB559_543.out, NB544_559.out, NB559_544.out, (gB HB.out)⟩)
        ·skip
         rintro ⟨v552, gb558⟩ w25 ⟨hS_, h0_, h1_, h2_, h3_, h4_, h5_, h6_, h7_, h8_, h9_, h10_, h11_⟩
         replace HO0_1 : Aside0 (Kd.V (Kd.int .u64) 54 w25 w.heap.size (fun k_ => ((P0_1_ k_ ∨ P1_1_ k_) ∨ w.heap.size ≤ k_) ∧ k_ ≠ gb543 ∧ k_ ≠ gb544 ∧ k_ ≠ gb558) (.slice A0_1 l0_1.length c0_1) l0_1) := ⟨h0_⟩
         replace HO1_1 : Aside0 (Kd.V (Kd.int .u64) 54 w25 w.heap.size (fun k_ => ((P0_1_ k_ ∨ P1_1_ k_) ∨ w.heap.size ≤ k_) ∧ k_ ≠ gb543 ∧ k_ ≠ gb544 ∧ k_ ≠ gb558) (.slice A1_1 l1_1.length c1_1) l1_1) := ⟨h1_⟩
         have HO553 : Aside0 (Kd.V (Kd.int .i64) 3 w25 w.heap.size (fun k_ => ((P0_1_ k_ ∨ P1_1_ k_) ∨ w.heap.size ≤ k_) ∧ k_ ≠ gb543 ∧ k_ ≠ gb544 ∧ k_ ≠ gb558) v552 t551) := ⟨h2_⟩
         replace BK543 : Aside0 (w25.heap[gb543]? = some (.cells #[.bool a0_0, .slice A0_1 l0_1.length c0_1] 25 (0, 0))) := ⟨h3_⟩
         replace BK544 : Aside0 (w25.heap[gb544]? = some (.cells #[.bool a1_0, .slice A1_1 l1_1.length c1_1] 25 (0, 0))) := ⟨h4_⟩
         have BK558 : Aside0 (w25.heap[gb558]? = some (.cells #[.bool false, .slice none 0 0] 44 (0, 0))) := ⟨h5_⟩
         have GE558 : Aside0 (w.heap.size ≤ gb558) := ⟨h6_⟩
         have NB543_558 : Aside0 (gb543 ≠ gb558) := ⟨h7_⟩
         have NB558_543 : Aside0 (gb558 ≠ gb543) := ⟨h8_⟩
         have NB544_558 : Aside0 (gb544 ≠ gb558) := ⟨h9_⟩
         have NB558_544 : Aside0 (gb558 ≠ gb544) := ⟨h10_⟩
         replace HB : Aside0 (Below w.heap.size w w25) := ⟨h11_⟩
         clear h0_ h1_ h2_ h3_ h4_ h5_ h6_ h7_ h8_ h9_ h10_ h11_
         have hHeld : w25.cell? ⟨gb543, 0, none⟩ = some (.bool a0_0) ∧ w25.cell? ⟨gb543, 1, none⟩ = some (.slice A0_1 l0_1.length c0_1) ∧ w25.cell? ⟨gb544, 0, none⟩ = some (.bool a1_0) ∧ w25.cell? ⟨gb544, 1, none⟩ = some (.slice A1_1 l1_1.length c1_1) := hS_
         refine norm_ (a' := ?_) ?_ ?_
         rotate_left
         ·simp only [putAll, Act.put, List.setIfInBounds_toArray, List.set_cons_zero, List.set_cons_succ]
          rfl
         refine two_ (i := 3) (j := 5) (Ni := some 18) (Nj := some 6) #[true, true, true, true, true, false, false, false] #[true, true, true, false, true, true, false, false] rfl rfl rfl rfl (two_of HT_.out (by kernel_rfl)) (by decide) (by decide) (fun K hK => ?_) (fun K hK => ?_)
         ·skip
          refine goes_ Try.func23 (by kernel_rfl) rfl #[.agg #[.bool a1_0, .slice A1_1 l1_1.length c1_1]] (by rfl) rfl rfl (by (try simp only [List.map_toArray, List.map_cons, List.map_nil]); first | done | rfl | (simp only [List.length_drop, List.length_take]; rfl)) ?_
          with_reducible refine (isohyetlaw02_of.calls k a1_0 _ _ l1_1 t554 t555 _ ?side1 ?side2 A8.out).mono ?_
          (case side1 => repeat (first | exact (Kd.V_reads' HO1_1.out).2.2 | apply Kd.C_alloc | apply Kd.C_drewN | apply Kd.C_drew))
          (case side2 => exact (Kd.V_reads' HO1_1.out).2.1)
          rintro e w26 ⟨v556, rfl, ho0, hb⟩
          refine ⟨_, rfl, ?_⟩
          replace HO0_1 := aK (Kd.V_below (gV HO0_1.out) hb)
          replace HO1_1 := aK (Kd.V_below (gV HO1_1.out) hb)
          replace HO553 := aK (Kd.V_below (gV HO553.out) hb)
          have HO557 := aK (Kd.V_lower (Kd.V_mono (ok' := fun k_ => ((P0_1_ k_ ∨ P1_1_ k_) ∨ w.heap.size ≤ k_) ∧ k_ ≠ gb543 ∧ k_ ≠ gb544 ∧ k_ ≠ gb558) ho0 (fun k_ hk_ => ⟨(.inr (Nat.le_trans (below_size (gB HB.out)) hk_)), (Kd.freshB (g := gb543) (o := .cells #[.bool a0_0, .slice A0_1 l0_1.length c0_1] 25 (0, 0)) (gK BK543.out) k_ hk_), (Kd.freshB (g := gb544) (o := .cells #[.bool a1_0, .slice A1_1 l1_1.length c1_1] 25 (0, 0)) (gK BK544.out) k_ hk_), (Kd.freshB (g := gb558) (o := .cells #[.bool false, .slice none 0 0] 44 (0, 0)) (gK BK558.out) k_ hk_)⟩)) (below_size (gB HB.out)))
          have n4_ := aK (blk_below (gK BK543.out) hb)
          have n5_ := aK (blk_below (gK BK544.out) hb)
          have n6_ := aK (blk_below (gK BK558.out) hb)
          have n7_ := aK (below_step (gB HB.out) hb)
          clear BK543 BK544 BK558 HB
          have BK543 := n4_
          have BK544 := n5_
          have BK558 := n6_
          have HB := n7_
          clear n4_ n5_ n6_ n7_
          (try clear hb)
          (try clear hb2)
          (try clear hk)
          (try clear hi)
          (try clear ho0)
          refine hK.out _ _ ⟨(blk_cell BK543.out 0).trans rfl, (blk_cell BK543.out 1).trans rfl, (blk_cell BK544.out 0).trans rfl, (blk_cell BK544.out 1).trans rfl⟩ (fun hHeld => ?_)
          clear hK K
          refine norm_ (a' := ?_) ?_ ?_
          rotate_left
          ·show Act.put _ (some 18) _ = _
           simp only [Act.put, List.setIfInBounds_toArray, List.set_cons_zero, List.set_cons_succ]
           rfl
          exact norm_ (by simp only [putAll, Act.put, List.setIfInBounds_toArray, List.set_cons_zero, List.set_cons_succ] <;> rfl) (hJ1_3_4 (v552, v556, gb558) _ ⟨hHeld, (gV HO0_1.out), (gV HO1_1.out), (gV HO553.out), (gV HO557.out), (gK BK543.out), (gK BK544.out), (gK BK558.out), GE558.out, NB543_558.out, NB558_543.out, NB544_558.out, NB558_544.out, (gB HB.out)⟩)
         ·skip
          refine box_step ?hg (N := 6) ?hd (cs := #[.bool false, .slice none 0 0]) (t := 44) ?hr ?_; (case hd => rfl); (case hg => rfl); (case hr => first | (go_simp; done) | (go_simp; rfl))
          intro gb559 hg w26 hbox hb
          replace HO0_1 := aK (Kd.V_below (Kd.V_elderB (gV HO0_1.out) gb559 (Nat.le_of_eq hg.symm)) hb)
          replace HO1_1 := aK (Kd.V_below (Kd.V_elderB (gV HO1_1.out) gb559 (Nat.le_of_eq hg.symm)) hb)
          replace HO553 := aK (Kd.V_below (Kd.V_elderB (gV HO553.out) gb559 (Nat.le_of_eq hg.symm)) hb)
          have n3_ := aK (blk_below (gK BK543.out) hb)
          have n4_ := aK (blk_below (gK BK544.out) hb)
          have n5_ := aK (blk_below (gK BK558.out) hb)
          have n6_ := aK (below_step (gB HB.out) hb)
          have BK559 := aK (hbox)
          have GE559 := aK ((by rw [hg]; exact (below_size (gB HB.out)) : w.heap.size ≤ gb559))
          have NB543_559 := aK ((by rw [hg]; exact Nat.ne_of_lt (blk_lt (gK BK543.out)) : gb543 ≠ gb559))
          have NB559_543 := aK ((by rw [hg]; exact Nat.ne_of_gt (blk_lt (gK BK543.out)) : gb559 ≠ gb543))
          have NB544_559 := aK ((by rw [hg]; exact Nat.ne_of_lt (blk_lt (gK BK544.out)) : gb544 ≠ gb559))
          have NB559_544 := aK ((by rw [hg]; exact Nat.ne_of_gt (blk_lt (gK BK544.out)) : gb559 ≠ gb544))
          have NB558_559 := aK ((by rw [hg]; exact Nat.ne_of_lt (blk_lt (gK BK558.out)) : gb558 ≠ gb559))
          have NB559_558 := aK ((by rw [hg]; exact Nat.ne_of_gt (blk_lt (gK BK558.out)) : gb559 ≠ gb558))
          clear BK543 BK544 BK558 HB
          have BK543 := n3_
          have BK544 := n4_
          have BK558 := n5_
          have HB := n6_
          clear n3_ n4_ n5_ n6_
          clear hb hbox hg
          refine hK.out _ _ ⟨(blk_cell BK543.out 0).trans rfl, (blk_cell BK543.out 1).trans rfl, (blk_cell BK544.out 0).trans rfl, (blk_cell BK544.out 1).trans rfl⟩ (fun hHeld => ?_)
          clear hK K
          refine norm_ (a' := ?_) ?_ ?_
          rotate_left
          ·show Act.put _ (some 6) _ = _
           simp only [Act.put, List.setIfInBounds_toArray, List.set_cons_zero, List.set_cons_succ]
           rfl
          exact norm_ (by simp only [putAll, Act.put, List.setIfInBounds_toArray, List.set_cons_zero, List.set_cons_succ] <;> rfl) (hJ1_4_5 (v552, gb558, gb559) _ ⟨hHeld, (gV (Kd.V_mono HO0_1.out (fun _ hk => ⟨hk.1.1, ⟨hk.1.2.1, ⟨hk.1.2.2.1, ⟨hk.1.2.2.2, hk.2⟩⟩⟩⟩))), (gV (Kd.V_mono HO1_1.out (fun _ hk => ⟨hk.1.1, ⟨hk.1.2.1, ⟨hk.1.2.2.1, ⟨hk.1.2.2.2, hk.2⟩⟩⟩⟩))), (gV (Kd.V_mono HO553.out (fun _ hk => ⟨hk.1.1, ⟨hk.1.2.1, ⟨hk.1.2.2.1, ⟨hk.1.2.2.2, hk.2⟩⟩⟩⟩))), (gK BK543.out), (gK BK544.out), (gK BK558.out), (gK BK559.out), GE558.out, NB543_558.out, NB558_543.out, NB544_558.out, NB558_544.out, NB559_558.out, NB558_559.out, GE559.out, NB543_559.out, NB559_543.out, NB544_559.out, NB559_544.out, (gB HB.out)⟩)
       ·skip
        rintro ⟨v552, v556⟩ w25 ⟨hS_, h0_, h1_, h2_, h3_, h4_, h5_, h6_⟩
        replace HO0_1 : Aside0 (Kd.V (Kd.int .u64) 54 w25 w.heap.size (fun k_ => ((P0_1_ k_ ∨ P1_1_ k_) ∨ w.heap.size ≤ k_) ∧ k_ ≠ gb543 ∧ k_ ≠ gb544) (.slice A0_1 l0_1.length c0_1) l0_1) := ⟨h0_⟩
        replace HO1_1 : Aside0 (Kd.V (Kd.int .u64) 54 w25 w.heap.size (fun k_ => ((P0_1_ k_ ∨ P1_1_ k_) ∨ w.heap.size ≤ k_) ∧ k_ ≠ gb543 ∧ k_ ≠ gb544) (.slice A1_1 l1_1.length c1_1) l1_1) := ⟨h1_⟩
        have HO553 : Aside0 (Kd.V (Kd.int .i64) 3 w25 w.heap.size (fun k_ => ((P0_1_ k_ ∨ P1_1_ k_) ∨ w.heap.size ≤ k_) ∧ k_ ≠ gb543 ∧ k_ ≠ gb544) v552 t551) := ⟨h2_⟩
        have HO557 : Aside0 (Kd.V (Kd.int .i64) 3 w25 w.heap.size (fun k_ => ((P0_1_ k_ ∨ P1_1_ k_) ∨ w.heap.size ≤ k_) ∧ k_ ≠ gb543 ∧ k_ ≠ gb544) v556 t555) := ⟨h3_⟩
        replace BK543 : Aside0 (w25.heap[gb543]? = some (.cells #[.bool a0_0, .slice A0_1 l0_1.length c0_1] 25 (0, 0))) := ⟨h4_⟩
        replace BK544 : Aside0 (w25.heap[gb544]? = some (.cells #[.bool a1_0, .slice A1_1 l1_1.length c1_1] 25 (0, 0))) := ⟨h5_⟩
        replace HB : Aside0 (Below w.heap.size w w25) := ⟨h6_⟩
        clear h0_ h1_ h2_ h3_ h4_ h5_ h6_
        have hHeld : w25.cell? ⟨gb543, 0, none⟩ = some (.bool a0_0) ∧ w25.cell? ⟨gb543, 1, none⟩ = some (.slice A0_1 l0_1.length c0_1) ∧ w25.cell? ⟨gb544, 0, none⟩ = some (.bool a1_0) ∧ w25.cell? ⟨gb544, 1, none⟩ = some (.slice A1_1 l1_1.length c1_1) := hS_
        refine norm_ (a' := ?_) ?_ ?_
        rotate_left
        ·simp only [putAll, Act.put, List.setIfInBounds_toArray, List.set_cons_zero, List.set_cons_succ]
         rfl
        refine two_ (i := 4) (j := 5) (Ni := some 5) (Nj := some 6) #[true, true, true, true, true, false, false, false] #[true, true, true, true, false, true, false, false] rfl rfl rfl rfl (two_of HT_.out (by kernel_rfl)) (by decide) (by decide) (fun K hK => ?_) (fun K hK => ?_)
        ·skip
         refine box_step ?hg (N := 5) ?hd (cs := #[.bool false, .slice none 0 0]) (t := 44) ?hr ?_; (case hd => rfl); (case hg => rfl); (case hr => first | (go_simp; done) | (go_simp; rfl))
         intro gb558 hg w26 hbox hb
         replace HO0_1 := aK (Kd.V_below (Kd.V_elderB (gV HO0_1.out) gb558 (Nat.le_of_eq hg.symm)) hb)
         replace HO1_1 := aK (Kd.V_below (Kd.V_elderB (gV HO1_1.out) gb558 (Nat.le_of_eq hg.symm)) hb)
         replace HO553 := aK (Kd.V_below (Kd.V_elderB (gV HO553.out) gb558 (Nat.le_of_eq hg.symm)) hb)
         replace HO557 := aK (Kd.V_below (Kd.V_elderB (gV HO557.out) gb558 (Nat.le_of_eq hg.symm)) hb)
         have n4_ := aK (blk_below (gK BK543.out) hb)
         have n5_ := aK (blk_below (gK BK544.out) hb)
         have n6_ := aK (below_step (gB HB.out) hb)
         have BK558 := aK (hbox)
         have GE558 := aK ((by rw [hg]; exact (below_size (gB HB.out)) : w.heap.size ≤ gb558))
         have NB543_558 := aK ((by rw [hg]; exact Nat.ne_of_lt (blk_lt (gK BK543.out)) : gb543 ≠ gb558))
         have NB558_543 := aK ((by rw [hg]; exact Nat.ne_of_gt (blk_lt (gK BK543.out)) : gb558 ≠ gb543))
         have NB544_558 := aK ((by rw [hg]; exact Nat.ne_of_lt (blk_lt (gK BK544.out)) : gb544 ≠ gb558))
         have NB558_544 := aK ((by rw [hg]; exact Nat.ne_of_gt (blk_lt (gK BK544.out)) : gb558 ≠ gb544))
         clear BK543 BK544 HB
         have BK543 := n4_
         have BK544 := n5_
         have HB := n6_
         clear n4_ n5_ n6_
         clear hb hbox hg
         refine hK.out _ _ ⟨(blk_cell BK543.out 0).trans rfl, (blk_cell BK543.out 1).trans rfl, (blk_cell BK544.out 0).trans rfl, (blk_cell BK544.out 1).trans rfl⟩ (fun hHeld => ?_)
         clear hK K
         refine norm_ (a' := ?_) ?_ ?_
         rotate_left
         ·show Act.put _ (some 5) _ = _
          simp only [Act.put, List.setIfInBounds_toArray, List.set_cons_zero, List.set_cons_succ]
          rfl
         exact norm_ (by simp only [putAll, Act.put, List.setIfInBounds_toArray, List.set_cons_zero, List.set_cons_succ] <;> rfl) (hJ1_3_4 (v552, v556, gb558) _ ⟨hHeld, (gV (Kd.V_mono HO0_1.out (fun _ hk => ⟨hk.1.1, ⟨hk.1.2.1, ⟨hk.1.2.2, hk.2⟩⟩⟩))), (gV (Kd.V_mono HO1_1.out (fun _ hk => ⟨hk.1.1, ⟨hk.1.2.1, ⟨hk.1.2.2, hk.2⟩⟩⟩))), (gV (Kd.V_mono HO553.out (fun _ hk => ⟨hk.1.1, ⟨hk.1.2.1, ⟨hk.1.2.2, hk.2⟩⟩⟩))), (gV (Kd.V_mono HO557.out (fun _ hk => ⟨hk.1.1, ⟨hk.1.2.1, ⟨hk.1.2.2, hk.2⟩⟩⟩))), (gK BK543.out), (gK BK544.out), (gK BK558.out), GE558.out, NB543_558.out, NB558_543.out, NB544_558.out, NB558_544.out, (gB HB.out)⟩)
        ·skip
         refine box_step ?hg (N := 6) ?hd (cs := #[.bool false, .slice none 0 0]) (t := 44) ?hr ?_; (case hd => rfl); (case hg => rfl); (case hr => first | (go_simp; done) | (go_simp; rfl))
         intro gb559 hg w26 hbox hb
         replace HO0_1 := aK (Kd.V_below (Kd.V_elderB (gV HO0_1.out) gb559 (Nat.le_of_eq hg.symm)) hb)
         replace HO1_1 := aK (Kd.V_below (Kd.V_elderB (gV HO1_1.out) gb559 (Nat.le_of_eq hg.symm)) hb)
         replace HO553 := aK (Kd.V_below (Kd.V_elderB (gV HO553.out) gb559 (Nat.le_of_eq hg.symm)) hb)
         replace HO557 := aK (Kd.V_below (Kd.V_elderB (gV HO557.out) gb559 (Nat.le_of_eq hg.symm)) hb)
         have n4_ := aK (blk_below (gK BK543.out) hb)
         have n5_ := aK (blk_below (gK BK544.out) hb)
         have n6_ := aK (below_step (gB HB.out) hb)
         have BK559 := aK (hbox)
         have GE559 := aK ((by rw [hg]; exact (below_size (gB HB.out)) : w.heap.size ≤ gb559))
         have NB543_559 := aK ((by rw [hg]; exact Nat.ne_of_lt (blk_lt (gK BK543.out)) : gb543 ≠ gb559))
         have NB559_543 := aK ((by rw [hg]; exact Nat.ne_of_gt (blk_lt (gK BK543.out)) : gb559 ≠ gb543))
         have NB544_559 := aK ((by rw [hg]; exact Nat.ne_of_lt (blk_lt (gK BK544.out)) : gb544 ≠ gb559))
         have NB559_544 := aK ((by rw [hg]; exact Nat.ne_of_gt (blk_lt (gK BK544.out)) : gb559 ≠ gb544))
         clear BK543 BK544 HB
         have BK543 := n4_
         have BK544 := n5_
         have HB := n6_
         clear n4_ n5_ n6_
         clear hb hbox hg
         refine hK.out _ _ ⟨(blk_cell BK543.out 0).trans rfl, (blk_cell BK543.out 1).trans rfl, (blk_cell BK544.out 0).trans rfl, (blk_cell BK544.out 1).trans rfl⟩ (fun hHeld => ?_)
         clear hK K
         refine norm_ (a' := ?_) ?_ ?_
         rotate_left
         ·show Act.put _ (some 6) _ = _
          simp only [Act.put, List.setIfInBounds_toArray, List.set_cons_zero, List.set_cons_succ]
          rfl
         exact norm_ (by simp only [putAll, Act.put, List.setIfInBounds_toArray, List.set_cons_zero, List.set_cons_succ] <;> rfl) (hJ1_3_5 (v552, v556, gb559) _ ⟨hHeld, (gV (Kd.V_mono HO0_1.out (fun _ hk => ⟨hk.1.1, ⟨hk.1.2.1, ⟨hk.1.2.2, hk.2⟩⟩⟩))), (gV (Kd.V_mono HO1_1.out (fun _ hk => ⟨hk.1.1, ⟨hk.1.2.1, ⟨hk.1.2.2, hk.2⟩⟩⟩))), (gV (Kd.V_mono HO553.out (fun _ hk => ⟨hk.1.1, ⟨hk.1.2.1, ⟨hk.1.2.2, hk.2⟩⟩⟩))), (gV (Kd.V_mono HO557.out (fun _ hk => ⟨hk.1.1, ⟨hk.1.2.1, ⟨hk.1.2.2, hk.2⟩⟩⟩))), (gK BK543.out), (gK BK544.out), (gK BK559.out), GE559.out, NB543_559.out, NB559_543.out, NB544_559.out, NB559_544.out, (gB HB.out)⟩)
      ·skip
       rintro ⟨v552, gb558, gb559⟩ w26 ⟨hS_, h0_, h1_, h2_, h3_, h4_, h5_, h6_, h7_, h8_, h9_, h10_, h11_, h12_, h13_, h14_, h15_, h16_, h17_, h18_, h19_⟩
       replace HO0_1 : Aside0 (Kd.V (Kd.int .u64) 54 w26 w.heap.size (fun k_ => ((P0_1_ k_ ∨ P1_1_ k_) ∨ w.heap.size ≤ k_) ∧ k_ ≠ gb543 ∧ k_ ≠ gb544 ∧ k_ ≠ gb558 ∧ k_ ≠ gb559) (.slice A0_1 l0_1.length c0_1) l0_1) := ⟨h0_⟩
       replace HO1_1 : Aside0 (Kd.V (Kd.int .u64) 54 w26 w.heap.size (fun k_ => ((P0_1_ k_ ∨ P1_1_ k_) ∨ w.heap.size ≤ k_) ∧ k_ ≠ gb543 ∧ k_ ≠ gb544 ∧ k_ ≠ gb558 ∧ k_ ≠ gb559) (.slice A1_1 l1_1.length c1_1) l1_1) := ⟨h1_⟩
       have HO553 : Aside0 (Kd.V (Kd.int .i64) 3 w26 w.heap.size (fun k_ => ((P0_1_ k_ ∨ P1_1_ k_) ∨ w.heap.size ≤ k_) ∧ k_ ≠ gb543 ∧ k_ ≠ gb544 ∧ k_ ≠ gb558 ∧ k_ ≠ gb559) v552 t551) := ⟨h2_⟩
       replace BK543 : Aside0 (w26.heap[gb543]? = some (.cells #[.bool a0_0, .slice A0_1 l0_1.length c0_1] 25 (0, 0))) := ⟨h3_⟩
       replace BK544 : Aside0 (w26.heap[gb544]? = some (.cells #[.bool a1_0, .slice A1_1 l1_1.length c1_1] 25 (0, 0))) := ⟨h4_⟩
       have BK558 : Aside0 (w26.heap[gb558]? = some (.cells #[.bool false, .slice none 0 0] 44 (0, 0))) := ⟨h5_⟩
       have BK559 : Aside0 (w26.heap[gb559]? = some (.cells #[.bool false, .slice none 0 0] 44 (0, 0))) := ⟨h6_⟩
       have GE558 : Aside0 (w.heap.size ≤ gb558) := ⟨h7_⟩
       have NB543_558 : Aside0 (gb543 ≠ gb558) := ⟨h8_⟩
       have NB558_543 : Aside0 (gb558 ≠ gb543) := ⟨h9_⟩
       have NB544_558 : Aside0 (gb544 ≠ gb558) := ⟨h10_⟩
       have NB558_544 : Aside0 (gb558 ≠ gb544) := ⟨h11_⟩
       have NB559_558 : Aside0 (gb559 ≠ gb558) := ⟨h12_⟩
       have NB558_559 : Aside0 (gb558 ≠ gb559) := ⟨h13_⟩
       have GE559 : Aside0 (w.heap.size ≤ gb559) := ⟨h14_⟩
       have NB543_559 : Aside0 (gb543 ≠ gb559) := ⟨h15_⟩
       have NB559_543 : Aside0 (gb559 ≠ gb543) := ⟨h16_⟩
       have NB544_559 : Aside0 (gb544 ≠ gb559) := ⟨h17_⟩
       have NB559_544 : Aside0 (gb559 ≠ gb544) := ⟨h18_⟩
       replace HB : Aside0 (Below w.heap.size w w26) := ⟨h19_⟩
       clear h0_ h1_ h2_ h3_ h4_ h5_ h6_ h7_ h8_ h9_ h10_ h11_ h12_ h13_ h14_ h15_ h16_ h17_ h18_ h19_
       have hHeld : w26.cell? ⟨gb543, 0, none⟩ = some (.bool a0_0) ∧ w26.cell? ⟨gb543, 1, none⟩ = some (.slice A0_1 l0_1.length c0_1) ∧ w26.cell? ⟨gb544, 0, none⟩ = some (.bool a1_0) ∧ w26.cell? ⟨gb544, 1, none⟩ = some (.slice A1_1 l1_1.length c1_1) := hS_
       refine norm_ (a' := ?_) ?_ ?_
       rotate_left
       ·simp only [putAll, Act.put, List.setIfInBounds_toArray, List.set_cons_zero, List.set_cons_succ]
        rfl
       refine one_ (i := 3) (N := some 18) #[true, true, true, true, true, true, false, false] rfl rfl (one_of HT_.out (by kernel_rfl)) (by decide) (fun K hK => ?_)
       refine goes_ Try.func23 (by kernel_rfl) rfl #[.agg #[.bool a1_0, .slice A1_1 l1_1.length c1_1]] (by rfl) rfl rfl (by (try simp only [List.map_toArray, List.map_cons, List.map_nil]); first | done | rfl | (simp only [List.length_drop, List.length_take]; rfl)) ?_
       with_reducible refine (isohyetlaw02_of.calls k a1_0 _ _ l1_1 t554 t555 _ ?side1 ?side2 A8.out).mono ?_
       (case side1 => repeat (first | exact (Kd.V_reads' HO1_1.out).2.2 | apply Kd.C_alloc | apply Kd.C_drewN | apply Kd.C_drew))
       (case side2 => exact (Kd.V_reads' HO1_1.out).2.1)
       rintro e w27 ⟨v556, rfl, ho0, hb⟩
       refine ⟨_, rfl, ?_⟩
       replace HO0_1 := aK (Kd.V_below (gV HO0_1.out) hb)
       replace HO1_1 := aK (Kd.V_below (gV HO1_1.out) hb)
       replace HO553 := aK (Kd.V_below (gV HO553.out) hb)
       have HO557 := aK (Kd.V_lower (Kd.V_mono (ok' := fun k_ => ((P0_1_ k_ ∨ P1_1_ k_) ∨ w.heap.size ≤ k_) ∧ k_ ≠ gb543 ∧ k_ ≠ gb544 ∧ k_ ≠ gb558 ∧ k_ ≠ gb559) ho0 (fun k_ hk_ => ⟨(.inr (Nat.le_trans (below_size (gB HB.out)) hk_)), (Kd.freshB (g := gb543) (o := .cells #[.bool a0_0, .slice A0_1 l0_1.length c0_1] 25 (0, 0)) (gK BK543.out) k_ hk_), (Kd.freshB (g := gb544) (o := .cells #[.bool a1_0, .slice A1_1 l1_1.length c1_1] 25 (0, 0)) (gK BK544.out) k_ hk_), (Kd.freshB (g := gb558) (o := .cells #[.bool false, .slice none 0 0] 44 (0, 0)) (gK BK558.out) k_ hk_), (Kd.freshB (g := gb559) (o := .cells #[.bool false, .slice none 0 0] 44 (0, 0)) (gK BK559.out) k_ hk_)⟩)) (below_size (gB HB.out)))
       have n4_ := aK (blk_below (gK BK543.out) hb)
       have n5_ := aK (blk_below (gK BK544.out) hb)
       have n6_ := aK (blk_below (gK BK558.out) hb)
       have n7_ := aK (blk_below (gK BK559.out) hb)
       have n8_ := aK (below_step (gB HB.out) hb)
       clear BK543 BK544 BK558 BK559 HB
       have BK543 := n4_
       have BK544 := n5_
       have BK558 := n6_
       have BK559 := n7_
       have HB := n8_
       clear n4_ n5_ n6_ n7_ n8_
       (try clear hb)
       (try clear hb2)
       (try clear hk)
       (try clear hi)
       (try clear ho0)
       refine hK.out _ _ ⟨(blk_cell BK543.out 0).trans rfl, (blk_cell BK543.out 1).trans rfl, (blk_cell BK544.out 0).trans rfl, (blk_cell BK544.out 1).trans rfl⟩ (fun hHeld => ?_)
       clear hK K
       refine norm_ (a' := ?_) ?_ ?_
       rotate_left
       ·show Act.put _ (some 18) _ = _
        simp only [Act.put, List.setIfInBounds_toArray, List.set_cons_zero, List.set_cons_succ]
        rfl
       exact norm_ (by simp only [putAll, Act.put, List.setIfInBounds_toArray, List.set_cons_zero, List.set_cons_succ] <;> rfl) (hJ1_3_4_5 (v552, v556, gb558, gb559) _ ⟨hHeld, (gV HO0_1.out), (gV HO1_1.out), (gV HO553.out), (gV HO557.out), (gK BK543.out), (gK BK544.out), (gK BK558.out), (gK BK559.out), GE558.out, NB543_558.out, NB558_543.out, NB544_558.out, NB558_544.out, NB559_558.out, NB558_559.out, GE559.out, NB543_559.out, NB559_543.out, NB544_559.out, NB559_544.out, (gB HB.out)⟩)
     ·skip
      rintro ⟨v552, v556, gb559⟩ w26 ⟨hS_, h0_, h1_, h2_, h3_, h4_, h5_, h6_, h7_, h8_, h9_, h10_, h11_, h12_⟩
      replace HO0_1 : Aside0 (Kd.V (Kd.int .u64) 54 w26 w.heap.size (fun k_ => ((P0_1_ k_ ∨ P1_1_ k_) ∨ w.heap.size ≤ k_) ∧ k_ ≠ gb543 ∧ k_ ≠ gb544 ∧ k_ ≠ gb559) (.slice A0_1 l0_1.length c0_1) l0_1) := ⟨h0_⟩
      replace HO1_1 : Aside0 (Kd.V (Kd.int .u64) 54 w26 w.heap.size (fun k_ => ((P0_1_ k_ ∨ P1_1_ k_) ∨ w.heap.size ≤ k_) ∧ k_ ≠ gb543 ∧ k_ ≠ gb544 ∧ k_ ≠ gb559) (.slice A1_1 l1_1.length c1_1) l1_1) := ⟨h1_⟩
      have HO553 : Aside0 (Kd.V (Kd.int .i64) 3 w26 w.heap.size (fun k_ => ((P0_1_ k_ ∨ P1_1_ k_) ∨ w.heap.size ≤ k_) ∧ k_ ≠ gb543 ∧ k_ ≠ gb544 ∧ k_ ≠ gb559) v552 t551) := ⟨h2_⟩
      have HO557 : Aside0 (Kd.V (Kd.int .i64) 3 w26 w.heap.size (fun k_ => ((P0_1_ k_ ∨ P1_1_ k_) ∨ w.heap.size ≤ k_) ∧ k_ ≠ gb543 ∧ k_ ≠ gb544 ∧ k_ ≠ gb559) v556 t555) := ⟨h3_⟩
      replace BK543 : Aside0 (w26.heap[gb543]? = some (.cells #[.bool a0_0, .slice A0_1 l0_1.length c0_1] 25 (0, 0))) := ⟨h4_⟩
      replace BK544 : Aside0 (w26.heap[gb544]? = some (.cells #[.bool a1_0, .slice A1_1 l1_1.length c1_1] 25 (0, 0))) := ⟨h5_⟩
      have BK559 : Aside0 (w26.heap[gb559]? = some (.cells #[.bool false, .slice none 0 0] 44 (0, 0))) := ⟨h6_⟩
      have GE559 : Aside0 (w.heap.size ≤ gb559) := ⟨h7_⟩
      have NB543_559 : Aside0 (gb543 ≠ gb559) := ⟨h8_⟩
      have NB559_543 : Aside0 (gb559 ≠ gb543) := ⟨h9_⟩
      have NB544_559 : Aside0 (gb544 ≠ gb559) := ⟨h10_⟩
      have NB559_544 : Aside0 (gb559 ≠ gb544) := ⟨h11_⟩
      replace HB : Aside0 (Below w.heap.size w w26) := ⟨h12_⟩
      clear h0_ h1_ h2_ h3_ h4_ h5_ h6_ h7_ h8_ h9_ h10_ h11_ h12_
      have hHeld : w26.cell? ⟨gb543, 0, none⟩ = some (.bool a0_0) ∧ w26.cell? ⟨gb543, 1, none⟩ = some (.slice A0_1 l0_1.length c0_1) ∧ w26.cell? ⟨gb544, 0, none⟩ = some (.bool a1_0) ∧ w26.cell? ⟨gb544, 1, none⟩ = some (.slice A1_1 l1_1.length c1_1) := hS_
      refine norm_ (a' := ?_) ?_ ?_
      rotate_left
      ·simp only [putAll, Act.put, List.setIfInBounds_toArray, List.set_cons_zero, List.set_cons_succ]
       rfl
      refine one_ (i := 4) (N := some 5) #[true, true, true, true, true, true, false, false] rfl rfl (one_of HT_.out (by kernel_rfl)) (by decide) (fun K hK => ?_)
      refine box_step ?hg (N := 5) ?hd (cs := #[.bool false, .slice none 0 0]) (t := 44) ?hr ?_; (case hd => rfl); (case hg => rfl); (case hr => first | (go_simp; done) | (go_simp; rfl))
      intro gb558 hg w27 hbox hb
      replace HO0_1 := aK (Kd.V_below (Kd.V_elderB (gV HO0_1.out) gb558 (Nat.le_of_eq hg.symm)) hb)
      replace HO1_1 := aK (Kd.V_below (Kd.V_elderB (gV HO1_1.out) gb558 (Nat.le_of_eq hg.symm)) hb)
      replace HO553 := aK (Kd.V_below (Kd.V_elderB (gV HO553.out) gb558 (Nat.le_of_eq hg.symm)) hb)
      replace HO557 := aK (Kd.V_below (Kd.V_elderB (gV HO557.out) gb558 (Nat.le_of_eq hg.symm)) hb)
      have n4_ := aK (blk_below (gK BK543.out) hb)
      have n5_ := aK (blk_below (gK BK544.out) hb)
      have n6_ := aK (blk_below (gK BK559.out) hb)
      have n7_ := aK (below_step (gB HB.out) hb)
      have BK558 := aK (hbox)
      have GE558 := aK ((by rw [hg]; exact (below_size (gB HB.out)) : w.heap.size ≤ gb558))
      have NB543_558 := aK ((by rw [hg]; exact Nat.ne_of_lt (blk_lt (gK BK543.out)) : gb543 ≠ gb558))
      have NB558_543 := aK ((by rw [hg]; exact Nat.ne_of_gt (blk_lt (gK BK543.out)) : gb558 ≠ gb543))
      have NB544_558 := aK ((by rw [hg]; exact Nat.ne_of_lt (blk_lt (gK BK544.out)) : gb544 ≠ gb558))
      have NB558_544 := aK ((by rw [hg]; exact Nat.ne_of_gt (blk_lt (gK BK544.out)) : gb558 ≠ gb544))
      have NB559_558 := aK ((by rw [hg]; exact Nat.ne_of_lt (blk_lt (gK BK559.out)) : gb559 ≠ gb558))
      have NB558_559 := aK ((by rw [hg]; exact Nat.ne_of_gt (blk_lt (gK BK559.out)) : gb558 ≠ gb559))
      clear BK543 BK544 BK559 HB
      have BK543 := n4_
      have BK544 := n5_
      have BK559 := n6_
      have HB := n7_
      clear n4_ n5_ n6_ n7_
      clear hb hbox hg
      refine hK.out _ _ ⟨(blk_cell BK543.out 0).trans rfl, (blk_cell BK543.out 1).trans rfl, (blk_cell BK544.out 0).trans rfl, (blk_cell BK544.out 1).trans rfl⟩ (fun hHeld => ?_)
      clear hK K
      refine norm_ (a' := ?_) ?_ ?_
      rotate_left
      ·show Act.put _ (some 5) _ = _
       simp only [Act.put, List.setIfInBounds_toArray, List.set_cons_zero, List.set_cons_succ]
       rfl
      exact norm_ (by simp only [putAll, Act.put, List.setIfInBounds_toArray, List.set_cons_zero, List.set_cons_succ] <;> rfl) (hJ1_3_4_5 (v552, v556, gb558, gb559) _ ⟨hHeld, (gV (Kd.V_mono HO0_1.out (fun _ hk => ⟨hk.1.1, ⟨hk.1.2.1, ⟨hk.1.2.2.1, ⟨hk.2, hk.1.2.2.2⟩⟩⟩⟩))), (gV (Kd.V_mono HO1_1.out (fun _ hk => ⟨hk.1.1, ⟨hk.1.2.1, ⟨hk.1.2.2.1, ⟨hk.2, hk.1.2.2.2⟩⟩⟩⟩))), (gV (Kd.V_mono HO553.out (fun _ hk => ⟨hk.1.1, ⟨hk.1.2.1, ⟨hk.1.2.2.1, ⟨hk.2, hk.1.2.2.2⟩⟩⟩⟩))), (gV (Kd.V_mono HO557.out (fun _ hk => ⟨hk.1.1, ⟨hk.1.2.1, ⟨hk.1.2.2.1, ⟨hk.2, hk.1.2.2.2⟩⟩⟩⟩))), (gK BK543.out), (gK BK544.out), (gK BK558.out), (gK BK559.out), GE558.out, NB543_558.out, NB558_543.out, NB544_558.out, NB558_544.out, NB559_558.out, NB558_559.out, GE559.out, NB543_559.out, NB559_543.out, NB544_559.out, NB559_544.out, (gB HB.out)⟩)
    ·skip
     rintro ⟨v552, v556, gb558⟩ w26 ⟨hS_, h0_, h1_, h2_, h3_, h4_, h5_, h6_, h7_, h8_, h9_, h10_, h11_, h12_⟩
     replace HO0_1 : Aside0 (Kd.V (Kd.int .u64) 54 w26 w.heap.size (fun k_ => ((P0_1_ k_ ∨ P1_1_ k_) ∨ w.heap.size ≤ k_) ∧ k_ ≠ gb543 ∧ k_ ≠ gb544 ∧ k_ ≠ gb558) (.slice A0_1 l0_1.length c0_1) l0_1) := ⟨h0_⟩
     replace HO1_1 : Aside0 (Kd.V (Kd.int .u64) 54 w26 w.heap.size (fun k_ => ((P0_1_ k_ ∨ P1_1_ k_) ∨ w.heap.size ≤ k_) ∧ k_ ≠ gb543 ∧ k_ ≠ gb544 ∧ k_ ≠ gb558) (.slice A1_1 l1_1.length c1_1) l1_1) := ⟨h1_⟩
     have HO553 : Aside0 (Kd.V (Kd.int .i64) 3 w26 w.heap.size (fun k_ => ((P0_1_ k_ ∨ P1_1_ k_) ∨ w.heap.size ≤ k_) ∧ k_ ≠ gb543 ∧ k_ ≠ gb544 ∧ k_ ≠ gb558) v552 t551) := ⟨h2_⟩
     have HO557 : Aside0 (Kd.V (Kd.int .i64) 3 w26 w.heap.size (fun k_ => ((P0_1_ k_ ∨ P1_1_ k_) ∨ w.heap.size ≤ k_) ∧ k_ ≠ gb543 ∧ k_ ≠ gb544 ∧ k_ ≠ gb558) v556 t555) := ⟨h3_⟩
     replace BK543 : Aside0 (w26.heap[gb543]? = some (.cells #[.bool a0_0, .slice A0_1 l0_1.length c0_1] 25 (0, 0))) := ⟨h4_⟩
     replace BK544 : Aside0 (w26.heap[gb544]? = some (.cells #[.bool a1_0, .slice A1_1 l1_1.length c1_1] 25 (0, 0))) := ⟨h5_⟩
     have BK558 : Aside0 (w26.heap[gb558]? = some (.cells #[.bool false, .slice none 0 0] 44 (0, 0))) := ⟨h6_⟩
     have GE558 : Aside0 (w.heap.size ≤ gb558) := ⟨h7_⟩
     have NB543_558 : Aside0 (gb543 ≠ gb558) := ⟨h8_⟩
     have NB558_543 : Aside0 (gb558 ≠ gb543) := ⟨h9_⟩
     have NB544_558 : Aside0 (gb544 ≠ gb558) := ⟨h10_⟩
     have NB558_544 : Aside0 (gb558 ≠ gb544) := ⟨h11_⟩
     replace HB : Aside0 (Below w.heap.size w w26) := ⟨h12_⟩
     clear h0_ h1_ h2_ h3_ h4_ h5_ h6_ h7_ h8_ h9_ h10_ h11_ h12_
     have hHeld : w26.cell? ⟨gb543, 0, none⟩ = some (.bool a0_0) ∧ w26.cell? ⟨gb543, 1, none⟩ = some (.slice A0_1 l0_1.length c0_1) ∧ w26.cell? ⟨gb544, 0, none⟩ = some (.bool a1_0) ∧ w26.cell? ⟨gb544, 1, none⟩ = some (.slice A1_1 l1_1.length c1_1) := hS_
     refine norm_ (a' := ?_) ?_ ?_
     rotate_left
     ·simp only [putAll, Act.put, List.setIfInBounds_toArray, List.set_cons_zero, List.set_cons_succ]
      rfl
     refine one_ (i := 5) (N := some 6) #[true, true, true, true, true, true, false, false] rfl rfl (one_of HT_.out (by kernel_rfl)) (by decide) (fun K hK => ?_)
     refine box_step ?hg (N := 6) ?hd (cs := #[.bool false, .slice none 0 0]) (t := 44) ?hr ?_; (case hd => rfl); (case hg => rfl); (case hr => first | (go_simp; done) | (go_simp; rfl))
     intro gb559 hg w27 hbox hb
     replace HO0_1 := aK (Kd.V_below (Kd.V_elderB (gV HO0_1.out) gb559 (Nat.le_of_eq hg.symm)) hb)
     replace HO1_1 := aK (Kd.V_below (Kd.V_elderB (gV HO1_1.out) gb559 (Nat.le_of_eq hg.symm)) hb)
     replace HO553 := aK (Kd.V_below (Kd.V_elderB (gV HO553.out) gb559 (Nat.le_of_eq hg.symm)) hb)
     replace HO557 := aK (Kd.V_below (Kd.V_elderB (gV HO557.out) gb559 (Nat.le_of_eq hg.symm)) hb)
     have n4_ := aK (blk_below (gK BK543.out) hb)
     have n5_ := aK (blk_below (gK BK544.out) hb)
     have n6_ := aK (blk_below (gK BK558.out) hb)
     have n7_ := aK (below_step (gB HB.out) hb)
     have BK559 := aK (hbox)
     have GE559 := aK ((by rw [hg]; exact (below_size (gB HB.out)) : w.heap.size ≤ gb559))
     have NB543_559 := aK ((by rw [hg]; exact Nat.ne_of_lt (blk_lt (gK BK543.out)) : gb543 ≠ gb559))
     have NB559_543 := aK ((by rw [hg]; exact Nat.ne_of_gt (blk_lt (gK BK543.out)) : gb559 ≠ gb543))
     have NB544_559 := aK ((by rw [hg]; exact Nat.ne_of_lt (blk_lt (gK BK544.out)) : gb544 ≠ gb559))
     have NB559_544 := aK ((by rw [hg]; exact Nat.ne_of_gt (blk_lt (gK BK544.out)) : gb559 ≠ gb544))
     have NB558_559 := aK ((by rw [hg]; exact Nat.ne_of_lt (blk_lt (gK BK558.out)) : gb558 ≠ gb559))
     have NB559_558 := aK ((by rw [hg]; exact Nat.ne_of_gt (blk_lt (gK BK558.out)) : gb559 ≠ gb558))
     clear BK543 BK544 BK558 HB
     have BK543 := n4_
     have BK544 := n5_
     have BK558 := n6_
     have HB := n7_
     clear n4_ n5_ n6_ n7_
     clear hb hbox hg
     refine hK.out _ _ ⟨(blk_cell BK543.out 0).trans rfl, (blk_cell BK543.out 1).trans rfl, (blk_cell BK544.out 0).trans rfl, (blk_cell BK544.out 1).trans rfl⟩ (fun hHeld => ?_)
     clear hK K
     refine norm_ (a' := ?_) ?_ ?_
     rotate_left
     ·show Act.put _ (some 6) _ = _
      simp only [Act.put, List.setIfInBounds_toArray, List.set_cons_zero, List.set_cons_succ]
      rfl
     exact norm_ (by simp only [putAll, Act.put, List.setIfInBounds_toArray, List.set_cons_zero, List.set_cons_succ] <;> rfl) (hJ1_3_4_5 (v552, v556, gb558, gb559) _ ⟨hHeld, (gV (Kd.V_mono HO0_1.out (fun _ hk => ⟨hk.1.1, ⟨hk.1.2.1, ⟨hk.1.2.2.1, ⟨hk.1.2.2.2, hk.2⟩⟩⟩⟩))), (gV (Kd.V_mono HO1_1.out (fun _ hk => ⟨hk.1.1, ⟨hk.1.2.1, ⟨hk.1.2.2.1, ⟨hk.1.2.2.2, hk.2⟩⟩⟩⟩))), (gV (Kd.V_mono HO553.out (fun _ hk => ⟨hk.1.1, ⟨hk.1.2.1, ⟨hk.1.2.2.1, ⟨hk.1.2.2.2, hk.2⟩⟩⟩⟩))), (gV (Kd.V_mono HO557.out (fun _ hk => ⟨hk.1.1, ⟨hk.1.2.1, ⟨hk.1.2.2.1, ⟨hk.1.2.2.2, hk.2⟩⟩⟩⟩))), (gK BK543.out), (gK BK544.out), (gK BK558.out), (gK BK559.out), GE558.out, NB543_558.out, NB558_543.out, NB544_558.out, NB558_544.out, NB559_558.out, NB558_559.out, GE559.out, NB543_559.out, NB559_543.out, NB544_559.out, NB559_544.out, (gB HB.out)⟩)
   rintro ⟨v552, v556, gb558, gb559⟩ w27 ⟨hS_, h0_, h1_, h2_, h3_, h4_, h5_, h6_, h7_, h8_, h9_, h10_, h11_, h12_, h13_, h14_, h15_, h16_, h17_, h18_, h19_, h20_⟩
   replace HO0_1 : Aside0 (Kd.V (Kd.int .u64) 54 w27 w.heap.size (fun k_ => ((P0_1_ k_ ∨ P1_1_ k_) ∨ w.heap.size ≤ k_) ∧ k_ ≠ gb543 ∧ k_ ≠ gb544 ∧ k_ ≠ gb558 ∧ k_ ≠ gb559) (.slice A0_1 l0_1.length c0_1) l0_1) := ⟨h0_⟩
   replace HO1_1 : Aside0 (Kd.V (Kd.int .u64) 54 w27 w.heap.size (fun k_ => ((P0_1_ k_ ∨ P1_1_ k_) ∨ w.heap.size ≤ k_) ∧ k_ ≠ gb543 ∧ k_ ≠ gb544 ∧ k_ ≠ gb558 ∧ k_ ≠ gb559) (.slice A1_1 l1_1.length c1_1) l1_1) := ⟨h1_⟩
   have HO553 : Aside0 (Kd.V (Kd.int .i64) 3 w27 w.heap.size (fun k_ => ((P0_1_ k_ ∨ P1_1_ k_) ∨ w.heap.size ≤ k_) ∧ k_ ≠ gb543 ∧ k_ ≠ gb544 ∧ k_ ≠ gb558 ∧ k_ ≠ gb559) v552 t551) := ⟨h2_⟩
   have HO557 : Aside0 (Kd.V (Kd.int .i64) 3 w27 w.heap.size (fun k_ => ((P0_1_ k_ ∨ P1_1_ k_) ∨ w.heap.size ≤ k_) ∧ k_ ≠ gb543 ∧ k_ ≠ gb544 ∧ k_ ≠ gb558 ∧ k_ ≠ gb559) v556 t555) := ⟨h3_⟩
   replace BK543 : Aside0 (w27.heap[gb543]? = some (.cells #[.bool a0_0, .slice A0_1 l0_1.length c0_1] 25 (0, 0))) := ⟨h4_⟩
   replace BK544 : Aside0 (w27.heap[gb544]? = some (.cells #[.bool a1_0, .slice A1_1 l1_1.length c1_1] 25 (0, 0))) := ⟨h5_⟩
   have BK558 : Aside0 (w27.heap[gb558]? = some (.cells #[.bool false, .slice none 0 0] 44 (0, 0))) := ⟨h6_⟩
   have BK559 : Aside0 (w27.heap[gb559]? = some (.cells #[.bool false, .slice none 0 0] 44 (0, 0))) := ⟨h7_⟩
   have GE558 : Aside0 (w.heap.size ≤ gb558) := ⟨h8_⟩
   have NB543_558 : Aside0 (gb543 ≠ gb558) := ⟨h9_⟩
   have NB558_543 : Aside0 (gb558 ≠ gb543) := ⟨h10_⟩
   have NB544_558 : Aside0 (gb544 ≠ gb558) := ⟨h11_⟩
   have NB558_544 : Aside0 (gb558 ≠ gb544) := ⟨h12_⟩
   have NB559_558 : Aside0 (gb559 ≠ gb558) := ⟨h13_⟩
   have NB558_559 : Aside0 (gb558 ≠ gb559) := ⟨h14_⟩
   have GE559 : Aside0 (w.heap.size ≤ gb559) := ⟨h15_⟩
   have NB543_559 : Aside0 (gb543 ≠ gb559) := ⟨h16_⟩
   have NB559_543 : Aside0 (gb559 ≠ gb543) := ⟨h17_⟩
   have NB544_559 : Aside0 (gb544 ≠ gb559) := ⟨h18_⟩
   have NB559_544 : Aside0 (gb559 ≠ gb544) := ⟨h19_⟩
   replace HB : Aside0 (Below w.heap.size w w27) := ⟨h20_⟩
   clear h0_ h1_ h2_ h3_ h4_ h5_ h6_ h7_ h8_ h9_ h10_ h11_ h12_ h13_ h14_ h15_ h16_ h17_ h18_ h19_ h20_
   have hHeld : w27.cell? ⟨gb543, 0, none⟩ = some (.bool a0_0) ∧ w27.cell? ⟨gb543, 1, none⟩ = some (.slice A0_1 l0_1.length c0_1) ∧ w27.cell? ⟨gb544, 0, none⟩ = some (.bool a1_0) ∧ w27.cell? ⟨gb544, 1, none⟩ = some (.slice A1_1 l1_1.length c1_1) := hS_
   obtain ⟨Ao29, co29, eo29⟩ := Kd.V_slice HO553.out
   (first | subst eo29 | (injection eo29 with f1_ f2_ f3_; have f4_ := f1_.symm; have f5_ := f3_.symm; clear f1_ f2_ f3_; subst f4_; subst f5_))
   obtain ⟨Ao32, co32, eo32⟩ := Kd.V_slice HO557.out
   (first | subst eo32 | (injection eo32 with f1_ f2_ f3_; have f4_ := f1_.symm; have f5_ := f3_.symm; clear f1_ f2_ f3_; subst f4_; subst f5_))
   refine norm_ (a' := ?_) ?_ ?_
   rotate_left
   ·simp only [putAll, Act.put, List.setIfInBounds_toArray, List.set_cons_zero, List.set_cons_succ]
    rfl
   refine one_ (i := 6) (N := none) #[true, true, true, true, true, true, true, false] rfl rfl (one_of HT_.out (by kernel_rfl)) (by decide) (fun K hK => ?_)
   have hs28 : w27.cell? ⟨gb558, 0, none⟩ = some (.bool false) := (blk_cell BK558.out 0).trans rfl
   have hfs28 := blk_frozen BK558.out 0
   have hns28_0 := NB543_558.out
   have hns28_1 := NB544_558.out
   have hns28_3 := NB559_558.out
   have hms28_0 := NB558_543.out
   have hms28_1 := NB558_544.out
   have hms28_3 := NB558_559.out
   have hs30 : w27.cell? ⟨gb558, 1, none⟩ = some (.slice none 0 0) := (blk_cell BK558.out 1).trans rfl
   have hfs30 := blk_frozen BK558.out 1
   have hns30_0 := NB543_558.out
   have hns30_1 := NB544_558.out
   have hns30_3 := NB559_558.out
   have hms30_0 := NB558_543.out
   have hms30_1 := NB558_544.out
   have hms30_3 := NB558_559.out
   refine skip_ (w1 := ?_) (by rfl) rfl ?_ ?_
   rotate_left
   ·go_simp
    rfl
   refine hK.out _ _ ⟨((cell_far (p := ⟨gb558, _, none⟩) NB543_558.out _).trans (((cell_far (p := ⟨gb558, _, none⟩) NB543_558.out _).trans (hHeld.1)))), ((cell_far (p := ⟨gb558, _, none⟩) NB543_558.out _).trans (((cell_far (p := ⟨gb558, _, none⟩) NB543_558.out _).trans (hHeld.2.1)))), ((cell_far (p := ⟨gb558, _, none⟩) NB544_558.out _).trans (((cell_far (p := ⟨gb558, _, none⟩) NB544_558.out _).trans (hHeld.2.2.1)))), ((cell_far (p := ⟨gb558, _, none⟩) NB544_558.out _).trans (((cell_far (p := ⟨gb558, _, none⟩) NB544_558.out _).trans (hHeld.2.2.2))))⟩ (fun hHeld => ?_)
   clear hK K
   refine one_ (i := 7) (N := none) #[true, true, true, true, true, true, true, true] rfl rfl (one_of HT_.out (by kernel_rfl)) (by decide) (fun K hK => ?_)
   have hs31 : w27.cell? ⟨gb559, 0, none⟩ = some (.bool false) := (blk_cell BK559.out 0).trans rfl
   have hfs31 := blk_frozen BK559.out 0
   have hns31_0 := NB543_559.out
   have hns31_1 := NB544_559.out
   have hns31_2 := NB558_559.out
   have hms31_0 := NB559_543.out
   have hms31_1 := NB559_544.out
   have hms31_2 := NB559_558.out
   have hs33 : w27.cell? ⟨gb559, 1, none⟩ = some (.slice none 0 0) := (blk_cell BK559.out 1).trans rfl
   have hfs33 := blk_frozen BK559.out 1
   have hns33_0 := NB543_559.out
   have hns33_1 := NB544_559.out
   have hns33_2 := NB558_559.out
   have hms33_0 := NB559_543.out
   have hms33_1 := NB559_544.out
   have hms33_2 := NB559_558.out
   refine skip_ (w1 := ?_) (by rfl) rfl ?_ ?_
   rotate_left
   ·go_simp
    rfl
   refine hK.out _ _ ⟨((cell_far (p := ⟨gb559, _, none⟩) NB543_559.out _).trans (((cell_far (p := ⟨gb559, _, none⟩) NB543_559.out _).trans (hHeld.1)))), ((cell_far (p := ⟨gb559, _, none⟩) NB543_559.out _).trans (((cell_far (p := ⟨gb559, _, none⟩) NB543_559.out _).trans (hHeld.2.1)))), ((cell_far (p := ⟨gb559, _, none⟩) NB544_559.out _).trans (((cell_far (p := ⟨gb559, _, none⟩) NB544_559.out _).trans (hHeld.2.2.1)))), ((cell_far (p := ⟨gb559, _, none⟩) NB544_559.out _).trans (((cell_far (p := ⟨gb559, _, none⟩) NB544_559.out _).trans (hHeld.2.2.2))))⟩ (fun hHeld => ?_)
   clear hK K
   refine done_ (done_of HT_.out (by kernel_rfl)) ?_
   try go_wp2
   have n0_ : Aside0 (Kd.V (Kd.int .u64) 54 ((((w27.setCell ⟨gb558, 0, none⟩ (.bool t550)).setCell ⟨gb558, 1, none⟩ (.slice Ao29 t551.length co29)).setCell ⟨gb559, 0, none⟩ (.bool t554)).setCell ⟨gb559, 1, none⟩ (.slice Ao32 t555.length co32)) w.heap.size (fun k_ => ((P0_1_ k_ ∨ P1_1_ k_) ∨ w.heap.size ≤ k_) ∧ k_ ≠ gb543 ∧ k_ ≠ gb544 ∧ k_ ≠ gb558 ∧ k_ ≠ gb559) (.slice A0_1 l0_1.length c0_1) l0_1) := ⟨by (with_reducible repeat (first | apply Kd.V_alloc | apply Kd.V_drewN | apply Kd.V_drew)); exact Kd.V_mono (Kd.V_far (p := ⟨gb559, 1, none⟩) (Kd.V_far (p := ⟨gb559, 0, none⟩) (Kd.V_far (p := ⟨gb558, 1, none⟩) (Kd.V_far (p := ⟨gb558, 0, none⟩) (Kd.V_mono (Kd.V_mono HO0_1.out (fun k_ hk => (⟨hk, hk.2.2.2.1⟩ : _ ∧ k_ ≠ gb558))) (fun k_ hk => (⟨hk, hk.1.2.2.2.2⟩ : _ ∧ k_ ≠ gb559))) (fun _ hk => hk.1.2) (.bool t550)) (fun _ hk => hk.1.2) (.slice Ao29 t551.length co29)) (fun _ hk => hk.2) (.bool t554)) (fun _ hk => hk.2) (.slice Ao32 t555.length co32)) (fun _ hk => ⟨hk.1.1.1, ⟨hk.1.1.2.1, ⟨hk.1.1.2.2.1, ⟨hk.1.1.2.2.2.1, hk.1.1.2.2.2.2⟩⟩⟩⟩)⟩
   have n1_ : Aside0 (Kd.V (Kd.int .u64) 54 ((((w27.setCell ⟨gb558, 0, none⟩ (.bool t550)).setCell ⟨gb558, 1, none⟩ (.slice Ao29 t551.length co29)).setCell ⟨gb559, 0, none⟩ (.bool t554)).setCell ⟨gb559, 1, none⟩ (.slice Ao32 t555.length co32)) w.heap.size (fun k_ => ((P0_1_ k_ ∨ P1_1_ k_) ∨ w.heap.size ≤ k_) ∧ k_ ≠ gb543 ∧ k_ ≠ gb544 ∧ k_ ≠ gb558 ∧ k_ ≠ gb559) (.slice A1_1 l1_1.length c1_1) l1_1) := ⟨by (with_reducible repeat (first | apply Kd.V_alloc | apply Kd.V_drewN | apply Kd.V_drew)); exact Kd.V_mono (Kd.V_far (p := ⟨gb559, 1, none⟩) (Kd.V_far (p := ⟨gb559, 0, none⟩) (Kd.V_far (p := ⟨gb558, 1, none⟩) (Kd.V_far (p := ⟨gb558, 0, none⟩) (Kd.V_mono (Kd.V_mono HO1_1.out (fun k_ hk => (⟨hk, hk.2.2.2.1⟩ : _ ∧ k_ ≠ gb558))) (fun k_ hk => (⟨hk, hk.1.2.2.2.2⟩ : _ ∧ k_ ≠ gb559))) (fun _ hk => hk.1.2) (.bool t550)) (fun _ hk => hk.1.2) (.slice Ao29 t551.length co29)) (fun _ hk => hk.2) (.bool t554)) (fun _ hk => hk.2) (.slice Ao32 t555.length co32)) (fun _ hk => ⟨hk.1.1.1, ⟨hk.1.1.2.1, ⟨hk.1.1.2.2.1, ⟨hk.1.1.2.2.2.1, hk.1.1.2.2.2.2⟩⟩⟩⟩)⟩
   have n2_ : Aside0 (Kd.V (Kd.int .i64) 3 ((((w27.setCell ⟨gb558, 0, none⟩ (.bool t550)).setCell ⟨gb558, 1, none⟩ (.slice Ao29 t551.length co29)).setCell ⟨gb559, 0, none⟩ (.bool t554)).setCell ⟨gb559, 1, none⟩ (.slice Ao32 t555.length co32)) w.heap.size (fun k_ => ((P0_1_ k_ ∨ P1_1_ k_) ∨ w.heap.size ≤ k_) ∧ k_ ≠ gb543 ∧ k_ ≠ gb544 ∧ k_ ≠ gb558 ∧ k_ ≠ gb559) (.slice Ao29 t551.length co29) t551) := ⟨by (with_reducible repeat (first | apply Kd.V_alloc | apply Kd.V_drewN | apply Kd.V_drew)); exact Kd.V_mono (Kd.V_far (p := ⟨gb559, 1, none⟩) (Kd.V_far (p := ⟨gb559, 0, none⟩) (Kd.V_far (p := ⟨gb558, 1, none⟩) (Kd.V_far (p := ⟨gb558, 0, none⟩) (Kd.V_mono (Kd.V_mono HO553.out (fun k_ hk => (⟨hk, hk.2.2.2.1⟩ : _ ∧ k_ ≠ gb558))) (fun k_ hk => (⟨hk, hk.1.2.2.2.2⟩ : _ ∧ k_ ≠ gb559))) (fun _ hk => hk.1.2) (.bool t550)) (fun _ hk => hk.1.2) (.slice Ao29 t551.length co29)) (fun _ hk => hk.2) (.bool t554)) (fun _ hk => hk.2) (.slice Ao32 t555.length co32)) (fun _ hk => ⟨hk.1.1.1, ⟨hk.1.1.2.1, ⟨hk.1.1.2.2.1, ⟨hk.1.1.2.2.2.1, hk.1.1.2.2.2.2⟩⟩⟩⟩)⟩
   have n3_ : Aside0 (Kd.V (Kd.int .i64) 3 ((((w27.setCell ⟨gb558, 0, none⟩ (.bool t550)).setCell ⟨gb558, 1, none⟩ (.slice Ao29 t551.length co29)).setCell ⟨gb559, 0, none⟩ (.bool t554)).setCell ⟨gb559, 1, none⟩ (.slice Ao32 t555.length co32)) w.heap.size (fun k_ => ((P0_1_ k_ ∨ P1_1_ k_) ∨ w.heap.size ≤ k_) ∧ k_ ≠ gb543 ∧ k_ ≠ gb544 ∧ k_ ≠ gb558 ∧ k_ ≠ gb559) (.slice Ao32 t555.length co32) t555) := ⟨by (with_reducible repeat (first | apply Kd.V_alloc | apply Kd.V_drewN | apply Kd.V_drew)); exact Kd.V_mono (Kd.V_far (p := ⟨gb559, 1, none⟩) (Kd.V_far (p := ⟨gb559, 0, none⟩) (Kd.V_far (p := ⟨gb558, 1, none⟩) (Kd.V_far (p := ⟨gb558, 0, none⟩) (Kd.V_mono (Kd.V_mono HO557.out (fun k_ hk => (⟨hk, hk.2.2.2.1⟩ : _ ∧ k_ ≠ gb558))) (fun k_ hk => (⟨hk, hk.1.2.2.2.2⟩ : _ ∧ k_ ≠ gb559))) (fun _ hk => hk.1.2) (.bool t550)) (fun _ hk => hk.1.2) (.slice Ao29 t551.length co29)) (fun _ hk => hk.2) (.bool t554)) (fun _ hk => hk.2) (.slice Ao32 t555.length co32)) (fun _ hk => ⟨hk.1.1.1, ⟨hk.1.1.2.1, ⟨hk.1.1.2.2.1, ⟨hk.1.1.2.2.2.1, hk.1.1.2.2.2.2⟩⟩⟩⟩)⟩
   have n4_ : Aside0 (((((w27.setCell ⟨gb558, 0, none⟩ (.bool t550)).setCell ⟨gb558, 1, none⟩ (.slice Ao29 t551.length co29)).setCell ⟨gb559, 0, none⟩ (.bool t554)).setCell ⟨gb559, 1, none⟩ (.slice Ao32 t555.length co32)).heap[gb543]? = some (.cells #[.bool a0_0, .slice A0_1 l0_1.length c0_1] 25 (0, 0))) := ⟨by (with_reducible repeat (first | refine blk_drewN ?_ _ | refine blk_drew ?_ | refine blk_alloc ?_ _)); refine blk_far ?_ NB543_559.out _; (with_reducible repeat (first | refine blk_drewN ?_ _ | refine blk_drew ?_ | refine blk_alloc ?_ _)); refine blk_far ?_ NB543_559.out _; (with_reducible repeat (first | refine blk_drewN ?_ _ | refine blk_drew ?_ | refine blk_alloc ?_ _)); refine blk_far ?_ NB543_558.out _; (with_reducible repeat (first | refine blk_drewN ?_ _ | refine blk_drew ?_ | refine blk_alloc ?_ _)); refine blk_far ?_ NB543_558.out _; (with_reducible repeat (first | refine blk_drewN ?_ _ | refine blk_drew ?_ | refine blk_alloc ?_ _)); exact BK543.out⟩
   have n5_ : Aside0 (((((w27.setCell ⟨gb558, 0, none⟩ (.bool t550)).setCell ⟨gb558, 1, none⟩ (.slice Ao29 t551.length co29)).setCell ⟨gb559, 0, none⟩ (.bool t554)).setCell ⟨gb559, 1, none⟩ (.slice Ao32 t555.length co32)).heap[gb544]? = some (.cells #[.bool a1_0, .slice A1_1 l1_1.length c1_1] 25 (0, 0))) := ⟨by (with_reducible repeat (first | refine blk_drewN ?_ _ | refine blk_drew ?_ | refine blk_alloc ?_ _)); refine blk_far ?_ NB544_559.out _; (with_reducible repeat (first | refine blk_drewN ?_ _ | refine blk_drew ?_ | refine blk_alloc ?_ _)); refine blk_far ?_ NB544_559.out _; (with_reducible repeat (first | refine blk_drewN ?_ _ | refine blk_drew ?_ | refine blk_alloc ?_ _)); refine blk_far ?_ NB544_558.out _; (with_reducible repeat (first | refine blk_drewN ?_ _ | refine blk_drew ?_ | refine blk_alloc ?_ _)); refine blk_far ?_ NB544_558.out _; (with_reducible repeat (first | refine blk_drewN ?_ _ | refine blk_drew ?_ | refine blk_alloc ?_ _)); exact BK544.out⟩
   have n6_ : Aside0 (((((w27.setCell ⟨gb558, 0, none⟩ (.bool t550)).setCell ⟨gb558, 1, none⟩ (.slice Ao29 t551.length co29)).setCell ⟨gb559, 0, none⟩ (.bool t554)).setCell ⟨gb559, 1, none⟩ (.slice Ao32 t555.length co32)).heap[gb558]? = some (.cells #[.bool t550, .slice Ao29 t551.length co29] 44 (0, 0))) := ⟨by (with_reducible repeat (first | refine blk_drewN ?_ _ | refine blk_drew ?_ | refine blk_alloc ?_ _)); refine blk_far ?_ NB558_559.out _; (with_reducible repeat (first | refine blk_drewN ?_ _ | refine blk_drew ?_ | refine blk_alloc ?_ _)); refine blk_far ?_ NB558_559.out _; (with_reducible repeat (first | refine blk_drewN ?_ _ | refine blk_drew ?_ | refine blk_alloc ?_ _)); refine blk_put (cs := #[.bool t550, .slice none 0 0]) ?_ 1 _ rfl; (with_reducible repeat (first | refine blk_drewN ?_ _ | refine blk_drew ?_ | refine blk_alloc ?_ _)); refine blk_put (cs := #[.bool false, .slice none 0 0]) ?_ 0 _ rfl; (with_reducible repeat (first | refine blk_drewN ?_ _ | refine blk_drew ?_ | refine blk_alloc ?_ _)); exact BK558.out⟩
   have n7_ : Aside0 (((((w27.setCell ⟨gb558, 0, none⟩ (.bool t550)).setCell ⟨gb558, 1, none⟩ (.slice Ao29 t551.length co29)).setCell ⟨gb559, 0, none⟩ (.bool t554)).setCell ⟨gb559, 1, none⟩ (.slice Ao32 t555.length co32)).heap[gb559]? = some (.cells #[.bool t554, .slice Ao32 t555.length co32] 44 (0, 0))) := ⟨by (with_reducible repeat (first | refine blk_drewN ?_ _ | refine blk_drew ?_ | refine blk_alloc ?_ _)); refine blk_put (cs := #[.bool t554, .slice none 0 0]) ?_ 1 _ rfl; (with_reducible repeat (first | refine blk_drewN ?_ _ | refine blk_drew ?_ | refine blk_alloc ?_ _)); refine blk_put (cs := #[.bool false, .slice none 0 0]) ?_ 0 _ rfl; (with_reducible repeat (first | refine blk_drewN ?_ _ | refine blk_drew ?_ | refine blk_alloc ?_ _)); refine blk_far ?_ NB559_558.out _; (with_reducible repeat (first | refine blk_drewN ?_ _ | refine blk_drew ?_ | refine blk_alloc ?_ _)); refine blk_far ?_ NB559_558.out _; (with_reducible repeat (first | refine blk_drewN ?_ _ | refine blk_drew ?_ | refine blk_alloc ?_ _)); exact BK559.out⟩
   have n8_ : Aside0 (Below w.heap.size w ((((w27.setCell ⟨gb558, 0, none⟩ (.bool t550)).setCell ⟨gb558, 1, none⟩ (.slice Ao29 t551.length co29)).setCell ⟨gb559, 0, none⟩ (.bool t554)).setCell ⟨gb559, 1, none⟩ (.slice Ao32 t555.length co32))) := ⟨by repeat (first | (with_reducible first | exact HB.out | apply bA | apply bN | apply bD | refine bS ?_ GE543.out | refine bS ?_ GE544.out | refine bS ?_ GE558.out | refine bS ?_ GE559.out) | exact HB.out)⟩
   (try clear HO0_1)
   (try clear HO1_1)
   (try clear HO553)
   (try clear HO557)
   (try clear BK543)
   (try clear BK544)
   (try clear BK558)
   (try clear BK559)
   (try clear HB)
   generalize ((((w27.setCell ⟨gb558, 0, none⟩ (.bool t550)).setCell ⟨gb558, 1, none⟩ (.slice Ao29 t551.length co29)).setCell ⟨gb559, 0, none⟩ (.bool t554)).setCell ⟨gb559, 1, none⟩ (.slice Ao32 t555.length co32)) = w34 at n0_ n1_ n2_ n3_ n4_ n5_ n6_ n7_ n8_ ⊢
   have HO0_1 := n0_
   have HO1_1 := n1_
   have HO553 := n2_
   have HO557 := n3_
   have BK543 := n4_
   have BK544 := n5_
   have BK558 := n6_
   have BK559 := n7_
   have HB := n8_
   clear n0_ n1_ n2_ n3_ n4_ n5_ n6_ n7_ n8_
   replace HO0_1 := aK (Kd.V_drew HO0_1.out)
   replace HO1_1 := aK (Kd.V_drew HO1_1.out)
   replace HO553 := aK (Kd.V_drew HO553.out)
   replace HO557 := aK (Kd.V_drew HO557.out)
   replace BK543 := aK (blk_drew BK543.out)
   replace BK544 := aK (blk_drew BK544.out)
   replace BK558 := aK (blk_drew BK558.out)
   replace BK559 := aK (blk_drew BK559.out)
   replace HB := aK (bD HB.out)
   refine start_ (n := 6) (S := fun w' => w'.cell? ⟨gb558, 0, none⟩ = some (.bool t550) ∧ w'.cell? ⟨gb558, 1, none⟩ = some (.slice Ao29 t551.length co29) ∧ w'.cell? ⟨gb559, 0, none⟩ = some (.bool t554) ∧ w'.cell? ⟨gb559, 1, none⟩ = some (.slice Ao32 t555.length co32)) (ds := []) #[false, false, false, false, false, false] (by kernel_rfl) rfl rfl ⟨(blk_cell BK558.out 0).trans rfl, (blk_cell BK558.out 1).trans rfl, (blk_cell BK559.out 0).trans rfl, (blk_cell BK559.out 1).trans rfl⟩ (fun hHeld => ?_)
   generalize w34.drew = w35 at HO0_1 HO1_1 HO553 HO557 BK543 BK544 BK558 BK559 HB hHeld ⊢
   refine take_ (i := 0) (N := some 19) (v := ?_) (a' := ?_) #[true, false, false, false, false, false] rfl rfl (by kernel_rfl) (fun _ _ _ h => h) (Or.inl ⟨by rfl, ?_⟩) hHeld ?_ ?_
   rotate_left
   ·rintro w' ⟨s0, s1, s2, s3⟩
    go_simp
    with_reducible rfl
   rotate_left
   ·simp only [Act.put, List.setIfInBounds_toArray, List.set_cons_zero, List.set_cons_succ]
    rfl
   refine take_ (i := 1) (N := some 20) (v := ?_) (a' := ?_) #[true, true, false, false, false, false] rfl rfl (by kernel_rfl) (fun _ _ _ h => h) (Or.inl ⟨by rfl, ?_⟩) hHeld ?_ ?_
   rotate_left
   ·rintro w' ⟨s0, s1, s2, s3⟩
    go_simp
    with_reducible rfl
   rotate_left
   ·simp only [Act.put, List.setIfInBounds_toArray, List.set_cons_zero, List.set_cons_succ]
    rfl
   refine join_ (σ := Value × Value × Nat) 1 #[true, true, true, true, true, false] (fun s_ => [(21, .agg #[.bool t560, s_.1]), (22, .agg #[.bool t564, s_.2.1]), (7, .pointer (some ⟨s_.2.2, 0, none⟩))]) (fun s_ w' => (w'.cell? ⟨gb558, 0, none⟩ = some (.bool t550) ∧ w'.cell? ⟨gb558, 1, none⟩ = some (.slice Ao29 t551.length co29) ∧ w'.cell? ⟨gb559, 0, none⟩ = some (.bool t554) ∧ w'.cell? ⟨gb559, 1, none⟩ = some (.slice Ao32 t555.length co32)) ∧ (Kd.V (Kd.int .u64) 54 w' w.heap.size (fun k_ => ((P0_1_ k_ ∨ P1_1_ k_) ∨ w.heap.size ≤ k_) ∧ k_ ≠ gb543 ∧ k_ ≠ gb544 ∧ k_ ≠ gb558 ∧ k_ ≠ gb559 ∧ k_ ≠ s_.2.2) (.slice A0_1 l0_1.length c0_1) l0_1) ∧ (Kd.V (Kd.int .u64) 54 w' w.heap.size (fun k_ => ((P0_1_ k_ ∨ P1_1_ k_) ∨ w.heap.size ≤ k_) ∧ k_ ≠ gb543 ∧ k_ ≠ gb544 ∧ k_ ≠ gb558 ∧ k_ ≠ gb559 ∧ k_ ≠ s_.2.2) (.slice A1_1 l1_1.length c1_1) l1_1) ∧ (Kd.V (Kd.int .i64) 3 w' w.heap.size (fun k_ => ((P0_1_ k_ ∨ P1_1_ k_) ∨ w.heap.size ≤ k_) ∧ k_ ≠ gb543 ∧ k_ ≠ gb544 ∧ k_ ≠ gb558 ∧ k_ ≠ gb559 ∧ k_ ≠ s_.2.2) (.slice Ao29 t551.length co29) t551) ∧ (Kd.V (Kd.int .i64) 3 w' w.heap.size (fun k_ => ((P0_1_ k_ ∨ P1_1_ k_) ∨ w.heap.size ≤ k_) ∧ k_ ≠ gb543 ∧ k_ ≠ gb544 ∧ k_ ≠ gb558 ∧ k_ ≠ gb559 ∧ k_ ≠ s_.2.2) (.slice Ao32 t555.length co32) t555) ∧ (Kd.V (Kd.int .i64) 3 w' w.heap.size (fun k_ => ((P0_1_ k_ ∨ P1_1_ k_) ∨ w.heap.size ≤ k_) ∧ k_ ≠ gb543 ∧ k_ ≠ gb544 ∧ k_ ≠ gb558 ∧ k_ ≠ gb559 ∧ k_ ≠ s_.2.2) s_.1 t561) ∧ (Kd.V (Kd.int .i64) 3 w' w.heap.size (fun k_ => ((P0_1_ k_ ∨ P1_1_ k_) ∨ w.heap.size ≤ k_) ∧ k_ ≠ gb543 ∧ k_ ≠ gb544 ∧ k_ ≠ gb558 ∧ k_ ≠ gb559 ∧ k_ ≠ s_.2.2) s_.2.1 t565) ∧ (w'.heap[gb543]? = some (.cells #[.bool a0_0, .slice A0_1 l0_1.length c0_1] 25 (0, 0))) ∧ (w'.heap[gb544]? = some (.cells #[.bool a1_0, .slice A1_1 l1_1.length c1_1] 25 (0, 0))) ∧ (w'.heap[gb558]? = some (.cells #[.bool t550, .slice Ao29 t551.length co29] 44 (0, 0))) ∧ (w'.heap[gb559]? = some (.cells #[.bool t554, .slice Ao32 t555.length co32] 44 (0, 0))) ∧ (w'.heap[s_.2.2]? = some (.cells #[.bool false, .slice none 0 0] 44 (0, 0))) ∧ (w.heap.size ≤ s_.2.2) ∧ (gb543 ≠ s_.2.2) ∧ (s_.2.2 ≠ gb543) ∧ (gb544 ≠ s_.2.2) ∧ (s_.2.2 ≠ gb544) ∧ (gb558 ≠ s_.2.2) ∧ (s_.2.2 ≠ gb558) ∧ (gb559 ≠ s_.2.2) ∧ (s_.2.2 ≠ gb559) ∧ (Below w.heap.size w w')) ?_ ?_
   rotate_left
   ·intro hCont
    refine two_ (i := 2) (j := 4) (Ni := some 21) (Nj := some 7) #[true, true, true, false, false, false] #[true, true, false, false, true, false] rfl rfl rfl rfl (by kernel_rfl) (by decide) (by decide) (fun K hK => ?_) (fun K hK => ?_)
    ·skip
     refine goes_ Try.func25 (by kernel_rfl) rfl #[.agg #[.bool t554, .slice Ao32 t555.length co32]] (by rfl) rfl rfl (by (try simp only [List.map_toArray, List.map_cons, List.map_nil]); first | done | rfl | (simp only [List.length_drop, List.length_take]; rfl)) ?_
     with_reducible refine (isohyetref02_Neg.calls t554 (fun k_ => (((P0_1_ k_ ∨ P1_1_ k_) ∨ w.heap.size ≤ k_) ∧ (k_ ≠ gb543 ∧ (k_ ≠ gb544 ∧ (k_ ≠ gb558 ∧ k_ ≠ gb559))))) _ _ t555 t560 t561 _ ?side1 A9.out).mono ?_
     (case side1 => exact HO557.out)
     rintro e w36 ⟨v562, rfl, ho0, hb⟩
     refine ⟨_, rfl, ?_⟩
     replace HO0_1 := aK (Kd.V_below (gV HO0_1.out) hb)
     replace HO1_1 := aK (Kd.V_below (gV HO1_1.out) hb)
     replace HO553 := aK (Kd.V_below (gV HO553.out) hb)
     replace HO557 := aK (Kd.V_below (gV HO557.out) hb)
     have HO563 := aK (Kd.V_lower (Kd.V_mono (ok' := fun k_ => ((P0_1_ k_ ∨ P1_1_ k_) ∨ w.heap.size ≤ k_) ∧ k_ ≠ gb543 ∧ k_ ≠ gb544 ∧ k_ ≠ gb558 ∧ k_ ≠ gb559) ho0 (fun k_ hk_ => ⟨Or.elim hk_ (fun hs_ => hs_.1) (fun hn_ => (.inr (Nat.le_trans (below_size (gB HB.out)) hn_))), Or.elim hk_ (fun hs_ => hs_.2.1) (fun hn_ => (Kd.freshB (g := gb543) (o := .cells #[.bool a0_0, .slice A0_1 l0_1.length c0_1] 25 (0, 0)) (gK BK543.out) k_ hn_)), Or.elim hk_ (fun hs_ => hs_.2.2.1) (fun hn_ => (Kd.freshB (g := gb544) (o := .cells #[.bool a1_0, .slice A1_1 l1_1.length c1_1] 25 (0, 0)) (gK BK544.out) k_ hn_)), Or.elim hk_ (fun hs_ => hs_.2.2.2.1) (fun hn_ => (Kd.freshB (g := gb558) (o := .cells #[.bool t550, .slice Ao29 t551.length co29] 44 (0, 0)) (gK BK558.out) k_ hn_)), Or.elim hk_ (fun hs_ => hs_.2.2.2.2) (fun hn_ => (Kd.freshB (g := gb559) (o := .cells #[.bool t554, .slice Ao32 t555.length co32] 44 (0, 0)) (gK BK559.out) k_ hn_))⟩)) (below_size (gB HB.out)))
     have n5_ := aK (blk_below (gK BK543.out) hb)
     have n6_ := aK (blk_below (gK BK544.out) hb)
     have n7_ := aK (blk_below (gK BK558.out) hb)
     have n8_ := aK (blk_below (gK BK559.out) hb)
     have n9_ := aK (below_step (gB HB.out) hb)
     clear BK543 BK544 BK558 BK559 HB
     have BK543 := n5_
     have BK544 := n6_
     have BK558 := n7_
     have BK559 := n8_
     have HB := n9_
     clear n5_ n6_ n7_ n8_ n9_
     (try clear hb)
     (try clear hb2)
     (try clear hk)
     (try clear hi)
     (try clear ho0)
     obtain ⟨Ao37, co37, eo37⟩ := Kd.V_slice HO563.out
     (first | subst eo37 | (injection eo37 with f1_ f2_ f3_; have f4_ := f1_.symm; have f5_ := f3_.symm; clear f1_ f2_ f3_; subst f4_; subst f5_))
     refine hK.out _ _ ⟨(blk_cell BK558.out 0).trans rfl, (blk_cell BK558.out 1).trans rfl, (blk_cell BK559.out 0).trans rfl, (blk_cell BK559.out 1).trans rfl⟩ (fun hHeld => ?_)
     clear hK K
     refine norm_ (a' := ?_) ?_ ?_
     rotate_left
     ·show Act.put _ (some 21) _ = _
      simp only [Act.put, List.setIfInBounds_toArray, List.set_cons_zero, List.set_cons_succ]
      rfl
     refine two_ (i := 3) (j := 4) (Ni := some 22) (Nj := some 7) #[true, true, true, true, false, false] #[true, true, true, false, true, false] rfl rfl rfl rfl (by kernel_rfl) (by decide) (by decide) (fun K hK => ?_) (fun K hK => ?_)
     ·skip
      refine goes_ Try.func24 (by kernel_rfl) rfl #[.agg #[.bool t550, .slice Ao29 t551.length co29], .agg #[.bool t560, .slice Ao37 t561.length co37]] (by rfl) rfl rfl (by (try simp only [List.map_toArray, List.map_cons, List.map_nil]); first | done | rfl | (simp only [List.length_drop, List.length_take]; rfl)) ?_
      with_reducible refine (isohyetref02_Add.calls k t550 _ _ t551 t560 _ _ t561 t564 t565 _ ?side1 ?side2 ?side3 ?side4 A10.out).mono ?_
      (case side1 => repeat (first | exact (Kd.V_reads' HO553.out).2.2 | apply Kd.C_alloc | apply Kd.C_drewN | apply Kd.C_drew))
      (case side2 => exact (Kd.V_reads' HO553.out).2.1)
      (case side3 => repeat (first | exact (Kd.V_reads' HO563.out).2.2 | apply Kd.C_alloc | apply Kd.C_drewN | apply Kd.C_drew))
      (case side4 => exact (Kd.V_reads' HO563.out).2.1)
      rintro e w38 ⟨v566, rfl, ho0, hb⟩
      refine ⟨_, rfl, ?_⟩
      replace HO0_1 := aK (Kd.V_below (gV HO0_1.out) hb)
      replace HO1_1 := aK (Kd.V_below (gV HO1_1.out) hb)
      replace HO553 := aK (Kd.V_below (gV HO553.out) hb)
      replace HO557 := aK (Kd.V_below (gV HO557.out) hb)
      replace HO563 := aK (Kd.V_below (gV HO563.out) hb)
      have HO567 := aK (Kd.V_lower (Kd.V_mono (ok' := fun k_ => ((P0_1_ k_ ∨ P1_1_ k_) ∨ w.heap.size ≤ k_) ∧ k_ ≠ gb543 ∧ k_ ≠ gb544 ∧ k_ ≠ gb558 ∧ k_ ≠ gb559) ho0 (fun k_ hk_ => ⟨(.inr (Nat.le_trans (below_size (gB HB.out)) hk_)), (Kd.freshB (g := gb543) (o := .cells #[.bool a0_0, .slice A0_1 l0_1.length c0_1] 25 (0, 0)) (gK BK543.out) k_ hk_), (Kd.freshB (g := gb544) (o := .cells #[.bool a1_0, .slice A1_1 l1_1.length c1_1] 25 (0, 0)) (gK BK544.out) k_ hk_), (Kd.freshB (g := gb558) (o := .cells #[.bool t550, .slice Ao29 t551.length co29] 44 (0, 0)) (gK BK558.out) k_ hk_), (Kd.freshB (g := gb559) (o := .cells #[.bool t554, .slice Ao32 t555.length co32] 44 (0, 0)) (gK BK559.out) k_ hk_)⟩)) (below_size (gB HB.out)))
      have n6_ := aK (blk_below (gK BK543.out) hb)
      have n7_ := aK (blk_below (gK BK544.out) hb)
      have n8_ := aK (blk_below (gK BK558.out) hb)
      have n9_ := aK (blk_below (gK BK559.out) hb)
      have n10_ := aK (below_step (gB HB.out) hb)
      clear BK543 BK544 BK558 BK559 HB
      have BK543 := n6_
      have BK544 := n7_
      have BK558 := n8_
      have BK559 := n9_
      have HB := n10_
      clear n6_ n7_ n8_ n9_ n10_
      (try clear hb)
      (try clear hb2)
      (try clear hk)
      (try clear hi)
      (try clear ho0)
      refine hK.out _ _ ⟨(blk_cell BK558.out 0).trans rfl, (blk_cell BK558.out 1).trans rfl, (blk_cell BK559.out 0).trans rfl, (blk_cell BK559.out 1).trans rfl⟩ (fun hHeld => ?_)
      clear hK K
      refine norm_ (a' := ?_) ?_ ?_
      rotate_left
      ·show Act.put _ (some 22) _ = _
       simp only [Act.put, List.setIfInBounds_toArray, List.set_cons_zero, List.set_cons_succ]
       rfl
      refine one_ (i := 4) (N := some 7) #[true, true, true, true, true, false] rfl rfl (by kernel_rfl) (by decide) (fun K hK => ?_)
      refine box_step ?hg (N := 7) ?hd (cs := #[.bool false, .slice none 0 0]) (t := 44) ?hr ?_; (case hd => rfl); (case hg => rfl); (case hr => first | (go_simp; done) | (go_simp; rfl))
      intro gb568 hg w39 hbox hb
      replace HO0_1 := aK (Kd.V_below (Kd.V_elderB (gV HO0_1.out) gb568 (Nat.le_of_eq hg.symm)) hb)
      replace HO1_1 := aK (Kd.V_below (Kd.V_elderB (gV HO1_1.out) gb568 (Nat.le_of_eq hg.symm)) hb)
      replace HO553 := aK (Kd.V_below (Kd.V_elderB (gV HO553.out) gb568 (Nat.le_of_eq hg.symm)) hb)
      replace HO557 := aK (Kd.V_below (Kd.V_elderB (gV HO557.out) gb568 (Nat.le_of_eq hg.symm)) hb)
      replace HO563 := aK (Kd.V_below (Kd.V_elderB (gV HO563.out) gb568 (Nat.le_of_eq hg.symm)) hb)
      replace HO567 := aK (Kd.V_below (Kd.V_elderB (gV HO567.out) gb568 (Nat.le_of_eq hg.symm)) hb)
      have n6_ := aK (blk_below (gK BK543.out) hb)
      have n7_ := aK (blk_below (gK BK544.out) hb)
      have n8_ := aK (blk_below (gK BK558.out) hb)
      have n9_ := aK (blk_below (gK BK559.out) hb)
      have n10_ := aK (below_step (gB HB.out) hb)
      have BK568 := aK (hbox)
      have GE568 := aK ((by rw [hg]; exact (below_size (gB HB.out)) : w.heap.size ≤ gb568))
      have NB543_568 := aK ((by rw [hg]; exact Nat.ne_of_lt (blk_lt (gK BK543.out)) : gb543 ≠ gb568))
      have NB568_543 := aK ((by rw [hg]; exact Nat.ne_of_gt (blk_lt (gK BK543.out)) : gb568 ≠ gb543))
      have NB544_568 := aK ((by rw [hg]; exact Nat.ne_of_lt (blk_lt (gK BK544.out)) : gb544 ≠ gb568))
      have NB568_544 := aK ((by rw [hg]; exact Nat.ne_of_gt (blk_lt (gK BK544.out)) : gb568 ≠ gb544))
      have NB558_568 := aK ((by rw [hg]; exact Nat.ne_of_lt (blk_lt (gK BK558.out)) : gb558 ≠ gb568))
      have NB568_558 := aK ((by rw [hg]; exact Nat.ne_of_gt (blk_lt (gK BK558.out)) : gb568 ≠ gb558))
      have NB559_568 := aK ((by rw [hg]; exact Nat.ne_of_lt (blk_lt (gK BK559.out)) : gb559 ≠ gb568))
      have NB568_559 := aK ((by rw [hg]; exact Nat.ne_of_gt (blk_lt (gK BK559.out)) : gb568 ≠ gb559))
      clear BK543 BK544 BK558 BK559 HB
      have BK543 := n6_
      have BK544 := n7_
      have BK558 := n8_
      have BK559 := n9_
      have HB := n10_
      clear n6_ n7_ n8_ n9_ n10_
      clear hb hbox hg
      refine hK.out _ _ ⟨(blk_cell BK558.out 0).trans rfl, (blk_cell BK558.out 1).trans rfl, (blk_cell BK559.out 0).trans rfl, (blk_cell BK559.out 1).trans rfl⟩ (fun hHeld => ?_)
      clear hK K
      refine norm_ (a' := ?_) ?_ ?_
      rotate_left
      ·show Act.put _ (some 7) _ = _
       simp only [Act.put, List.setIfInBounds_toArray, List.set_cons_zero, List.set_cons_succ]
       rfl
      exact norm_ (by simp only [putAll, Act.put, List.setIfInBounds_toArray, List.set_cons_zero, List.set_cons_succ]) (hCont (.slice Ao37 t561.length co37, v566, gb568) _ ⟨hHeld, (gV (Kd.V_mono HO0_1.out (fun _ hk => ⟨hk.1.1, ⟨hk.1.2.1, ⟨hk.1.2.2.1, ⟨hk.1.2.2.2.1, ⟨hk.1.2.2.2.2, hk.2⟩⟩⟩⟩⟩))), (gV (Kd.V_mono HO1_1.out (fun _ hk => ⟨hk.1.1, ⟨hk.1.2.1, ⟨hk.1.2.2.1, ⟨hk.1.2.2.2.1, ⟨hk.1.2.2.2.2, hk.2⟩⟩⟩⟩⟩))), (gV (Kd.V_mono HO553.out (fun _ hk => ⟨hk.1.1, ⟨hk.1.2.1, ⟨hk.1.2.2.1, ⟨hk.1.2.2.2.1, ⟨hk.1.2.2.2.2, hk.2⟩⟩⟩⟩⟩))), (gV (Kd.V_mono HO557.out (fun _ hk => ⟨hk.1.1, ⟨hk.1.2.1, ⟨hk.1.2.2.1, ⟨hk.1.2.2.2.1, ⟨hk.1.2.2.2.2, hk.2⟩⟩⟩⟩⟩))), (gV (Kd.V_mono HO563.out (fun _ hk => ⟨hk.1.1, ⟨hk.1.2.1, ⟨hk.1.2.2.1, ⟨hk.1.2.2.2.1, ⟨hk.1.2.2.2.2, hk.2⟩⟩⟩⟩⟩))), (gV (Kd.V_mono HO567.out (fun _ hk => ⟨hk.1.1, ⟨hk.1.2.1, ⟨hk.1.2.2.1, ⟨hk.1.2.2.2.1, ⟨hk.1.2.2.2.2, hk.2⟩⟩⟩⟩⟩))), (gK BK543.out), (gK BK544.out), (gK BK558.out), (gK BK559.out), (gK BK568.out), GE568.out, NB543_568.out, NB568_543.out, NB544_568.out, NB568_544.out, NB558_568.out, NB568_558.out, NB559_568.out, NB568_559.out, (gB HB.out)⟩)
     ·skip
      refine box_step ?hg (N := 7) ?hd (cs := #[.bool false, .slice none 0 0]) (t := 44) ?hr ?_; (case hd => rfl); (case hg => rfl); (case hr => first | (go_simp; done) | (go_simp; rfl))
      intro gb568 hg w37 hbox hb
      replace HO0_1 := aK (Kd.V_below (Kd.V_elderB (gV HO0_1.out) gb568 (Nat.le_of_eq hg.symm)) hb)
      replace HO1_1 := aK (Kd.V_below (Kd.V_elderB (gV HO1_1.out) gb568 (Nat.le_of_eq hg.symm)) hb)
      replace HO553 := aK (Kd.V_below (Kd.V_elderB (gV HO553.out) gb568 (Nat.le_of_eq hg.symm)) hb)
      replace HO557 := aK (Kd.V_below (Kd.V_elderB (gV HO557.out) gb568 (Nat.le_of_eq hg.symm)) hb)
      replace HO563 := aK (Kd.V_below (Kd.V_elderB (gV HO563.out) gb568 (Nat.le_of_eq hg.symm)) hb)
      have n5_ := aK (blk_below (gK BK543.out) hb)
      have n6_ := aK (blk_below (gK BK544.out) hb)
      have n7_ := aK (blk_below (gK BK558.out) hb)
      have n8_ := aK (blk_below (gK BK559.out) hb)
      have n9_ := aK (below_step (gB HB.out) hb)
      have BK568 := aK (hbox)
      have GE568 := aK ((by rw [hg]; exact (below_size (gB HB.out)) : w.heap.size ≤ gb568))
      have NB543_568 := aK ((by rw [hg]; exact Nat.ne_of_lt (blk_lt (gK BK543.out)) : gb543 ≠ gb568))
      have NB568_543 := aK ((by rw [hg]; exact Nat.ne_of_gt (blk_lt (gK BK543.out)) : gb568 ≠ gb543))
      have NB544_568 := aK ((by rw [hg]; exact Nat.ne_of_lt (blk_lt (gK BK544.out)) : gb544 ≠ gb568))
      have NB568_544 := aK ((by rw [hg]; exact Nat.ne_of_gt (blk_lt (gK BK544.out)) : gb568 ≠ gb544))
      have NB558_568 := aK ((by rw [hg]; exact Nat.ne_of_lt (blk_lt (gK BK558.out)) : gb558 ≠ gb568))
      have NB568_558 := aK ((by rw [hg]; exact Nat.ne_of_gt (blk_lt (gK BK558.out)) : gb568 ≠ gb558))
      have NB559_568 := aK ((by rw [hg]; exact Nat.ne_of_lt (blk_lt (gK BK559.out)) : gb559 ≠ gb568))
      have NB568_559 := aK ((by rw [hg]; exact Nat.ne_of_gt (blk_lt (gK BK559.out)) : gb568 ≠ gb559))
      clear BK543 BK544 BK558 BK559 HB
      have BK543 := n5_
      have BK544 := n6_
      have BK558 := n7_
      have BK559 := n8_
      have HB := n9_
      clear n5_ n6_ n7_ n8_ n9_
      clear hb hbox hg
      obtain ⟨Ao38, co38, eo38⟩ := Kd.V_slice HO563.out
      (first | subst eo38 | (injection eo38 with f1_ f2_ f3_; have f4_ := f1_.symm; have f5_ := f3_.symm; clear f1_ f2_ f3_; subst f4_; subst f5_))
      refine hK.out _ _ ⟨(blk_cell BK558.out 0).trans rfl, (blk_cell BK558.out 1).trans rfl, (blk_cell BK559.out 0).trans rfl, (blk_cell BK559.out 1).trans rfl⟩ (fun hHeld => ?_)
      clear hK K
      refine norm_ (a' := ?_) ?_ ?_
      rotate_left
      ·show Act.put _ (some 7) _ = _
       simp only [Act.put, List.setIfInBounds_toArray, List.set_cons_zero, List.set_cons_succ]
       rfl
      refine one_ (i := 3) (N := some 22) #[true, true, true, true, true, false] rfl rfl (by kernel_rfl) (by decide) (fun K hK => ?_)
      refine goes_ Try.func24 (by kernel_rfl) rfl #[.agg #[.bool t550, .slice Ao29 t551.length co29], .agg #[.bool t560, .slice Ao38 t561.length co38]] (by rfl) rfl rfl (by (try simp only [List.map_toArray, List.map_cons, List.map_nil]); first | done | rfl | (simp only [List.length_drop, List.length_take]; rfl)) ?_
      with_reducible refine (isohyetref02_Add.calls k t550 _ _ t551 t560 _ _ t561 t564 t565 _ ?side1 ?side2 ?side3 ?side4 A10.out).mono ?_
      (case side1 => repeat (first | exact (Kd.V_reads' HO553.out).2.2 | apply Kd.C_alloc | apply Kd.C_drewN | apply Kd.C_drew))
      (case side2 => exact (Kd.V_reads' HO553.out).2.1)
      (case side3 => repeat (first | exact (Kd.V_reads' HO563.out).2.2 | apply Kd.C_alloc | apply Kd.C_drewN | apply Kd.C_drew))
      (case side4 => exact (Kd.V_reads' HO563.out).2.1)
      rintro e w39 ⟨v566, rfl, ho0, hb⟩
      refine ⟨_, rfl, ?_⟩
      replace HO0_1 := aK (Kd.V_below (gV HO0_1.out) hb)
      replace HO1_1 := aK (Kd.V_below (gV HO1_1.out) hb)
      replace HO553 := aK (Kd.V_below (gV HO553.out) hb)
      replace HO557 := aK (Kd.V_below (gV HO557.out) hb)
      replace HO563 := aK (Kd.V_below (gV HO563.out) hb)
      have HO567 := aK (Kd.V_lower (Kd.V_mono (ok' := fun k_ => ((P0_1_ k_ ∨ P1_1_ k_) ∨ w.heap.size ≤ k_) ∧ k_ ≠ gb543 ∧ k_ ≠ gb544 ∧ k_ ≠ gb558 ∧ k_ ≠ gb559 ∧ k_ ≠ gb568) ho0 (fun k_ hk_ => ⟨(.inr (Nat.le_trans (below_size (gB HB.out)) hk_)), (Kd.freshB (g := gb543) (o := .cells #[.bool a0_0, .slice A0_1 l0_1.length c0_1] 25 (0, 0)) (gK BK543.out) k_ hk_), (Kd.freshB (g := gb544) (o := .cells #[.bool a1_0, .slice A1_1 l1_1.length c1_1] 25 (0, 0)) (gK BK544.out) k_ hk_), (Kd.freshB (g := gb558) (o := .cells #[.bool t550, .slice Ao29 t551.length co29] 44 (0, 0)) (gK BK558.out) k_ hk_), (Kd.freshB (g := gb559) (o := .cells #[.bool t554, .slice Ao32 t555.length co32] 44 (0, 0)) (gK BK559.out) k_ hk_), (Kd.freshB (g := gb568) (o := .cells #[.bool false, .slice none 0 0] 44 (0, 0)) (gK BK568.out) k_ hk_)⟩)) (below_size (gB HB.out)))
      have n6_ := aK (blk_below (gK BK543.out) hb)
      have n7_ := aK (blk_below (gK BK544.out) hb)
      have n8_ := aK (blk_below (gK BK558.out) hb)
      have n9_ := aK (blk_below (gK BK559.out) hb)
      have n10_ := aK (blk_below (gK BK568.out) hb)
      have n11_ := aK (below_step (gB HB.out) hb)
      clear BK543 BK544 BK558 BK559 BK568 HB
      have BK543 := n6_
      have BK544 := n7_
      have BK558 := n8_
      have BK559 := n9_
      have BK568 := n10_
      have HB := n11_
      clear n6_ n7_ n8_ n9_ n10_ n11_
      (try clear hb)
      (try clear hb2)
      (try clear hk)
      (try clear hi)
      (try clear ho0)
      refine hK.out _ _ ⟨(blk_cell BK558.out 0).trans rfl, (blk_cell BK558.out 1).trans rfl, (blk_cell BK559.out 0).trans rfl, (blk_cell BK559.out 1).trans rfl⟩ (fun hHeld => ?_)
      clear hK K
      refine norm_ (a' := ?_) ?_ ?_
      rotate_left
      ·show Act.put _ (some 22) _ = _
       simp only [Act.put, List.setIfInBounds_toArray, List.set_cons_zero, List.set_cons_succ]
       rfl
      exact norm_ (by simp only [putAll, Act.put, List.setIfInBounds_toArray, List.set_cons_zero, List.set_cons_succ]) (hCont (.slice Ao38 t561.length co38, v566, gb568) _ ⟨hHeld, (gV (Kd.V_mono HO0_1.out (fun _ hk => ⟨hk.1.1, ⟨hk.1.2.1, ⟨hk.1.2.2.1, ⟨hk.1.2.2.2.1, ⟨hk.1.2.2.2.2, hk.2⟩⟩⟩⟩⟩))), (gV (Kd.V_mono HO1_1.out (fun _ hk => ⟨hk.1.1, ⟨hk.1.2.1, ⟨hk.1.2.2.1, ⟨hk.1.2.2.2.1, ⟨hk.1.2.2.2.2, hk.2⟩⟩⟩⟩⟩))), (gV (Kd.V_mono HO553.out (fun _ hk => ⟨hk.1.1, ⟨hk.1.2.1, ⟨hk.1.2.2.1, ⟨hk.1.2.2.2.1, ⟨hk.1.2.2.2.2, hk.2⟩⟩⟩⟩⟩))), (gV (Kd.V_mono HO557.out (fun _ hk => ⟨hk.1.1, ⟨hk.1.2.1, ⟨hk.1.2.2.1, ⟨hk.1.2.2.2.1, ⟨hk.1.2.2.2.2, hk.2⟩⟩⟩⟩⟩))), (gV (Kd.V_mono HO563.out (fun _ hk => ⟨hk.1.1, ⟨hk.1.2.1, ⟨hk.1.2.2.1, ⟨hk.1.2.2.2.1, ⟨hk.1.2.2.2.2, hk.2⟩⟩⟩⟩⟩))), (gV HO567.out), (gK BK543.out), (gK BK544.out), (gK BK558.out), (gK BK559.out), (gK BK568.out), GE568.out, NB543_568.out, NB568_543.out, NB544_568.out, NB568_544.out, NB558_568.out, NB568_558.out, NB559_568.out, NB568_559.out, (gB HB.out)⟩)
    ·skip
     refine box_step ?hg (N := 7) ?hd (cs := #[.bool false, .slice none 0 0]) (t := 44) ?hr ?_; (case hd => rfl); (case hg => rfl); (case hr => first | (go_simp; done) | (go_simp; rfl))
     intro gb568 hg w36 hbox hb
     replace HO0_1 := aK (Kd.V_below (Kd.V_elderB (gV HO0_1.out) gb568 (Nat.le_of_eq hg.symm)) hb)
     replace HO1_1 := aK (Kd.V_below (Kd.V_elderB (gV HO1_1.out) gb568 (Nat.le_of_eq hg.symm)) hb)
     replace HO553 := aK (Kd.V_below (Kd.V_elderB (gV HO553.out) gb568 (Nat.le_of_eq hg.symm)) hb)
     replace HO557 := aK (Kd.V_below (Kd.V_elderB (gV HO557.out) gb568 (Nat.le_of_eq hg.symm)) hb)
     have n4_ := aK (blk_below (gK BK543.out) hb)
     have n5_ := aK (blk_below (gK BK544.out) hb)
     have n6_ := aK (blk_below (gK BK558.out) hb)
     have n7_ := aK (blk_below (gK BK559.out) hb)
     have n8_ := aK (below_step (gB HB.out) hb)
     have BK568 := aK (hbox)
     have GE568 := aK ((by rw [hg]; exact (below_size (gB HB.out)) : w.heap.size ≤ gb568))
     have NB543_568 := aK ((by rw [hg]; exact Nat.ne_of_lt (blk_lt (gK BK543.out)) : gb543 ≠ gb568))
     have NB568_543 := aK ((by rw [hg]; exact Nat.ne_of_gt (blk_lt (gK BK543.out)) : gb568 ≠ gb543))
     have NB544_568 := aK ((by rw [hg]; exact Nat.ne_of_lt (blk_lt (gK BK544.out)) : gb544 ≠ gb568))
     have NB568_544 := aK ((by rw [hg]; exact Nat.ne_of_gt (blk_lt (gK BK544.out)) : gb568 ≠ gb544))
     have NB558_568 := aK ((by rw [hg]; exact Nat.ne_of_lt (blk_lt (gK BK558.out)) : gb558 ≠ gb568))
     have NB568_558 := aK ((by rw [hg]; exact Nat.ne_of_gt (blk_lt (gK BK558.out)) : gb568 ≠ gb558))
     have NB559_568 := aK ((by rw [hg]; exact Nat.ne_of_lt (blk_lt (gK BK559.out)) : gb559 ≠ gb568))
     have NB568_559 := aK ((by rw [hg]; exact Nat.ne_of_gt (blk_lt (gK BK559.out)) : gb568 ≠ gb559))
     clear BK543 BK544 BK558 BK559 HB
     have BK543 := n4_
     have BK544 := n5_
     have BK558 := n6_
     have BK559 := n7_
     have HB := n8_
     clear n4_ n5_ n6_ n7_ n8_
     clear hb hbox hg
     refine hK.out _ _ ⟨(blk_cell BK558.out 0).trans rfl, (blk_cell BK558.out 1).trans rfl, (blk_cell BK559.out 0).trans rfl, (blk_cell BK559.out 1).trans rfl⟩ (fun hHeld => ?_)
     clear hK K
     refine norm_ (a' := ?_) ?_ ?_
     rotate_left
     ·show Act.put _ (some 7) _ = _
      simp only [Act.put, List.setIfInBounds_toArray, List.set_cons_zero, List.set_cons_succ]
      rfl
     refine one_ (i := 2) (N := some 21) #[true, true, true, false, true, false] rfl rfl (by kernel_rfl) (by decide) (fun K hK => ?_)
     refine goes_ Try.func25 (by kernel_rfl) rfl #[.agg #[.bool t554, .slice Ao32 t555.length co32]] (by rfl) rfl rfl (by (try simp only [List.map_toArray, List.map_cons, List.map_nil]); first | done | rfl | (simp only [List.length_drop, List.length_take]; rfl)) ?_
     with_reducible refine (isohyetref02_Neg.calls t554 (fun k_ => ((((P0_1_ k_ ∨ P1_1_ k_) ∨ w.heap.size ≤ k_) ∧ (k_ ≠ gb543 ∧ (k_ ≠ gb544 ∧ (k_ ≠ gb558 ∧ k_ ≠ gb559)))) ∧ k_ ≠ gb568)) _ _ t555 t560 t561 _ ?side1 A9.out).mono ?_
     (case side1 => exact HO557.out)
     rintro e w37 ⟨v562, rfl, ho0, hb⟩
     refine ⟨_, rfl, ?_⟩
     replace HO0_1 := aK (Kd.V_below (gV HO0_1.out) hb)
     replace HO1_1 := aK (Kd.V_below (gV HO1_1.out) hb)
     replace HO553 := aK (Kd.V_below (gV HO553.out) hb)
     replace HO557 := aK (Kd.V_below (gV HO557.out) hb)
     have HO563 := aK (Kd.V_lower (Kd.V_mono (ok' := fun k_ => ((P0_1_ k_ ∨ P1_1_ k_) ∨ w.heap.size ≤ k_) ∧ k_ ≠ gb543 ∧ k_ ≠ gb544 ∧ k_ ≠ gb558 ∧ k_ ≠ gb559 ∧ k_ ≠ gb568) ho0 (fun k_ hk_ => ⟨Or.elim hk_ (fun hs_ => hs_.1.1) (fun hn_ => (.inr (Nat.le_trans (below_size (gB HB.out)) hn_))), Or.elim hk_ (fun hs_ => hs_.1.2.1) (fun hn_ => (Kd.freshB (g := gb543) (o := .cells #[.bool a0_0, .slice A0_1 l0_1.length c0_1] 25 (0, 0)) (gK BK543.out) k_ hn_)), Or.elim hk_ (fun hs_ => hs_.1.2.2.1) (fun hn_ => (Kd.freshB (g := gb544) (o := .cells #[.bool a1_0, .slice A1_1 l1_1.length c1_1] 25 (0, 0)) (gK BK544.out) k_ hn_)), Or.elim hk_ (fun hs_ => hs_.1.2.2.2.1) (fun hn_ => (Kd.freshB (g := gb558) (o := .cells #[.bool t550, .slice Ao29 t551.length co29] 44 (0, 0)) (gK BK558.out) k_ hn_)), Or.elim hk_ (fun hs_ => hs_.1.2.2.2.2) (fun hn_ => (Kd.freshB (g := gb559) (o := .cells #[.bool t554, .slice Ao32 t555.length co32] 44 (0, 0)) (gK BK559.out) k_ hn_)), Or.elim hk_ (fun hs_ => hs_.2) (fun hn_ => (Kd.freshB (g := gb568) (o := .cells #[.bool false, .slice none 0 0] 44 (0, 0)) (gK BK568.out) k_ hn_))⟩)) (below_size (gB HB.out)))
     have n5_ := aK (blk_below (gK BK543.out) hb)
     have n6_ := aK (blk_below (gK BK544.out) hb)
     have n7_ := aK (blk_below (gK BK558.out) hb)
     have n8_ := aK (blk_below (gK BK559.out) hb)
     have n9_ := aK (blk_below (gK BK568.out) hb)
     have n10_ := aK (below_step (gB HB.out) hb)
     clear BK543 BK544 BK558 BK559 BK568 HB
     have BK543 := n5_
     have BK544 := n6_
     have BK558 := n7_
     have BK559 := n8_
     have BK568 := n9_
     have HB := n10_
     clear n5_ n6_ n7_ n8_ n9_ n10_
     (try clear hb)
     (try clear hb2)
     (try clear hk)
     (try clear hi)
     (try clear ho0)
     obtain ⟨Ao38, co38, eo38⟩ := Kd.V_slice HO563.out
     (first | subst eo38 | (injection eo38 with f1_ f2_ f3_; have f4_ := f1_.symm; have f5_ := f3_.symm; clear f1_ f2_ f3_; subst f4_; subst f5_))
     refine hK.out _ _ ⟨(blk_cell BK558.out 0).trans rfl, (blk_cell BK558.out 1).trans rfl, (blk_cell BK559.out 0).trans rfl, (blk_cell BK559.out 1).trans rfl⟩ (fun hHeld => ?_)
     clear hK K
     refine norm_ (a' := ?_) ?_ ?_
     rotate_left
     ·show Act.put _ (some 21) _ = _
      simp only [Act.put, List.setIfInBounds_toArray, List.set_cons_zero, List.set_cons_succ]
      rfl
     refine one_ (i := 3) (N := some 22) #[true, true, true, true, true, false] rfl rfl (by kernel_rfl) (by decide) (fun K hK => ?_)
     refine goes_ Try.func24 (by kernel_rfl) rfl #[.agg #[.bool t550, .slice Ao29 t551.length co29], .agg #[.bool t560, .slice Ao38 t561.length co38]] (by rfl) rfl rfl (by (try simp only [List.map_toArray, List.map_cons, List.map_nil]); first | done | rfl | (simp only [List.length_drop, List.length_take]; rfl)) ?_
     with_reducible refine (isohyetref02_Add.calls k t550 _ _ t551 t560 _ _ t561 t564 t565 _ ?side1 ?side2 ?side3 ?side4 A10.out).mono ?_
     (case side1 => repeat (first | exact (Kd.V_reads' HO553.out).2.2 | apply Kd.C_alloc | apply Kd.C_drewN | apply Kd.C_drew))
     (case side2 => exact (Kd.V_reads' HO553.out).2.1)
     (case side3 => repeat (first | exact (Kd.V_reads' HO563.out).2.2 | apply Kd.C_alloc | apply Kd.C_drewN | apply Kd.C_drew))
     (case side4 => exact (Kd.V_reads' HO563.out).2.1)
     rintro e w39 ⟨v566, rfl, ho0, hb⟩
     refine ⟨_, rfl, ?_⟩
     replace HO0_1 := aK (Kd.V_below (gV HO0_1.out) hb)
     replace HO1_1 := aK (Kd.V_below (gV HO1_1.out) hb)
     replace HO553 := aK (Kd.V_below (gV HO553.out) hb)
     replace HO557 := aK (Kd.V_below (gV HO557.out) hb)
     replace HO563 := aK (Kd.V_below (gV HO563.out) hb)
     have HO567 := aK (Kd.V_lower (Kd.V_mono (ok' := fun k_ => ((P0_1_ k_ ∨ P1_1_ k_) ∨ w.heap.size ≤ k_) ∧ k_ ≠ gb543 ∧ k_ ≠ gb544 ∧ k_ ≠ gb558 ∧ k_ ≠ gb559 ∧ k_ ≠ gb568) ho0 (fun k_ hk_ => ⟨(.inr (Nat.le_trans (below_size (gB HB.out)) hk_)), (Kd.freshB (g := gb543) (o := .cells #[.bool a0_0, .slice A0_1 l0_1.length c0_1] 25 (0, 0)) (gK BK543.out) k_ hk_), (Kd.freshB (g := gb544) (o := .cells #[.bool a1_0, .slice A1_1 l1_1.length c1_1] 25 (0, 0)) (gK BK544.out) k_ hk_), (Kd.freshB (g := gb558) (o := .cells #[.bool t550, .slice Ao29 t551.length co29] 44 (0, 0)) (gK BK558.out) k_ hk_), (Kd.freshB (g := gb559) (o := .cells #[.bool t554, .slice Ao32 t555.length co32] 44 (0, 0)) (gK BK559.out) k_ hk_), (Kd.freshB (g := gb568) (o := .cells #[.bool false, .slice none 0 0] 44 (0, 0)) (gK BK568.out) k_ hk_)⟩)) (below_size (gB HB.out)))
     have n6_ := aK (blk_below (gK BK543.out) hb)
     have n7_ := aK (blk_below (gK BK544.out) hb)
     have n8_ := aK (blk_below (gK BK558.out) hb)
     have n9_ := aK (blk_below (gK BK559.out) hb)
     have n10_ := aK (blk_below (gK BK568.out) hb)
     have n11_ := aK (below_step (gB HB.out) hb)
     clear BK543 BK544 BK558 BK559 BK568 HB
     have BK543 := n6_
     have BK544 := n7_
     have BK558 := n8_
     have BK559 := n9_
     have BK568 := n10_
     have HB := n11_
     clear n6_ n7_ n8_ n9_ n10_ n11_
     (try clear hb)
     (try clear hb2)
     (try clear hk)
     (try clear hi)
     (try clear ho0)
     refine hK.out _ _ ⟨(blk_cell BK558.out 0).trans rfl, (blk_cell BK558.out 1).trans rfl, (blk_cell BK559.out 0).trans rfl, (blk_cell BK559.out 1).trans rfl⟩ (fun hHeld => ?_)
     clear hK K
     refine norm_ (a' := ?_) ?_ ?_
     rotate_left
     ·show Act.put _ (some 22) _ = _
      simp only [Act.put, List.setIfInBounds_toArray, List.set_cons_zero, List.set_cons_succ]
      rfl
     exact norm_ (by simp only [putAll, Act.put, List.setIfInBounds_toArray, List.set_cons_zero, List.set_cons_succ]) (hCont (.slice Ao38 t561.length co38, v566, gb568) _ ⟨hHeld, (gV (Kd.V_mono HO0_1.out (fun _ hk => ⟨hk.1.1, ⟨hk.1.2.1, ⟨hk.1.2.2.1, ⟨hk.1.2.2.2.1, ⟨hk.1.2.2.2.2, hk.2⟩⟩⟩⟩⟩))), (gV (Kd.V_mono HO1_1.out (fun _ hk => ⟨hk.1.1, ⟨hk.1.2.1, ⟨hk.1.2.2.1, ⟨hk.1.2.2.2.1, ⟨hk.1.2.2.2.2, hk.2⟩⟩⟩⟩⟩))), (gV (Kd.V_mono HO553.out (fun _ hk => ⟨hk.1.1, ⟨hk.1.2.1, ⟨hk.1.2.2.1, ⟨hk.1.2.2.2.1, ⟨hk.1.2.2.2.2, hk.2⟩⟩⟩⟩⟩))), (gV (Kd.V_mono HO557.out (fun _ hk => ⟨hk.1.1, ⟨hk.1.2.1, ⟨hk.1.2.2.1, ⟨hk.1.2.2.2.1, ⟨hk.1.2.2.2.2, hk.2⟩⟩⟩⟩⟩))), (gV HO563.out), (gV HO567.out), (gK BK543.out), (gK BK544.out), (gK BK558.out), (gK BK559.out), (gK BK568.out), GE568.out, NB543_568.out, NB568_543.out, NB544_568.out, NB568_544.out, NB558_568.out, NB568_558.out, NB559_568.out, NB568_559.out, (gB HB.out)⟩)
   rintro ⟨v562, v566, gb568⟩ w40 ⟨hS_, h0_, h1_, h2_, h3_, h4_, h5_, h6_, h7_, h8_, h9_, h10_, h11_, h12_, h13_, h14_, h15_, h16_, h17_, h18_, h19_, h20_⟩
   replace HO0_1 : Aside0 (Kd.V (Kd.int .u64) 54 w40 w.heap.size (fun k_ => ((P0_1_ k_ ∨ P1_1_ k_) ∨ w.heap.size ≤ k_) ∧ k_ ≠ gb543 ∧ k_ ≠ gb544 ∧ k_ ≠ gb558 ∧ k_ ≠ gb559 ∧ k_ ≠ gb568) (.slice A0_1 l0_1.length c0_1) l0_1) := ⟨h0_⟩
   replace HO1_1 : Aside0 (Kd.V (Kd.int .u64) 54 w40 w.heap.size (fun k_ => ((P0_1_ k_ ∨ P1_1_ k_) ∨ w.heap.size ≤ k_) ∧ k_ ≠ gb543 ∧ k_ ≠ gb544 ∧ k_ ≠ gb558 ∧ k_ ≠ gb559 ∧ k_ ≠ gb568) (.slice A1_1 l1_1.length c1_1) l1_1) := ⟨h1_⟩
   replace HO553 : Aside0 (Kd.V (Kd.int .i64) 3 w40 w.heap.size (fun k_ => ((P0_1_ k_ ∨ P1_1_ k_) ∨ w.heap.size ≤ k_) ∧ k_ ≠ gb543 ∧ k_ ≠ gb544 ∧ k_ ≠ gb558 ∧ k_ ≠ gb559 ∧ k_ ≠ gb568) (.slice Ao29 t551.length co29) t551) := ⟨h2_⟩
   replace HO557 : Aside0 (Kd.V (Kd.int .i64) 3 w40 w.heap.size (fun k_ => ((P0_1_ k_ ∨ P1_1_ k_) ∨ w.heap.size ≤ k_) ∧ k_ ≠ gb543 ∧ k_ ≠ gb544 ∧ k_ ≠ gb558 ∧ k_ ≠ gb559 ∧ k_ ≠ gb568) (.slice Ao32 t555.length co32) t555) := ⟨h3_⟩
   have HO563 : Aside0 (Kd.V (Kd.int .i64) 3 w40 w.heap.size (fun k_ => ((P0_1_ k_ ∨ P1_1_ k_) ∨ w.heap.size ≤ k_) ∧ k_ ≠ gb543 ∧ k_ ≠ gb544 ∧ k_ ≠ gb558 ∧ k_ ≠ gb559 ∧ k_ ≠ gb568) v562 t561) := ⟨h4_⟩
   have HO567 : Aside0 (Kd.V (Kd.int .i64) 3 w40 w.heap.size (fun k_ => ((P0_1_ k_ ∨ P1_1_ k_) ∨ w.heap.size ≤ k_) ∧ k_ ≠ gb543 ∧ k_ ≠ gb544 ∧ k_ ≠ gb558 ∧ k_ ≠ gb559 ∧ k_ ≠ gb568) v566 t565) := ⟨h5_⟩
   replace BK543 : Aside0 (w40.heap[gb543]? = some (.cells #[.bool a0_0, .slice A0_1 l0_1.length c0_1] 25 (0, 0))) := ⟨h6_⟩
   replace BK544 : Aside0 (w40.heap[gb544]? = some (.cells #[.bool a1_0, .slice A1_1 l1_1.length c1_1] 25 (0, 0))) := ⟨h7_⟩
   replace BK558 : Aside0 (w40.heap[gb558]? = some (.cells #[.bool t550, .slice Ao29 t551.length co29] 44 (0, 0))) := ⟨h8_⟩
   replace BK559 : Aside0 (w40.heap[gb559]? = some (.cells #[.bool t554, .slice Ao32 t555.length co32] 44 (0, 0))) := ⟨h9_⟩
   have BK568 : Aside0 (w40.heap[gb568]? = some (.cells #[.bool false, .slice none 0 0] 44 (0, 0))) := ⟨h10_⟩
   have GE568 : Aside0 (w.heap.size ≤ gb568) := ⟨h11_⟩
   have NB543_568 : Aside0 (gb543 ≠ gb568) := ⟨h12_⟩
   have NB568_543 : Aside0 (gb568 ≠ gb543) := ⟨h13_⟩
   have NB544_568 : Aside0 (gb544 ≠ gb568) := ⟨h14_⟩
   have NB568_544 : Aside0 (gb568 ≠ gb544) := ⟨h15_⟩
   have NB558_568 : Aside0 (gb558 ≠ gb568) := ⟨h16_⟩
   have NB568_558 : Aside0 (gb568 ≠ gb558) := ⟨h17_⟩
   have NB559_568 : Aside0 (gb559 ≠ gb568) := ⟨h18_⟩
   have NB568_559 : Aside0 (gb568 ≠ gb559) := ⟨h19_⟩
   replace HB : Aside0 (Below w.heap.size w w40) := ⟨h20_⟩
   clear h0_ h1_ h2_ h3_ h4_ h5_ h6_ h7_ h8_ h9_ h10_ h11_ h12_ h13_ h14_ h15_ h16_ h17_ h18_ h19_ h20_
   have hHeld : w40.cell? ⟨gb558, 0, none⟩ = some (.bool t550) ∧ w40.cell? ⟨gb558, 1, none⟩ = some (.slice Ao29 t551.length co29) ∧ w40.cell? ⟨gb559, 0, none⟩ = some (.bool t554) ∧ w40.cell? ⟨gb559, 1, none⟩ = some (.slice Ao32 t555.length co32) := hS_
   obtain ⟨Ao42, co42, eo42⟩ := Kd.V_slice HO567.out
   (first | subst eo42 | (injection eo42 with f1_ f2_ f3_; have f4_ := f1_.symm; have f5_ := f3_.symm; clear f1_ f2_ f3_; subst f4_; subst f5_))
   refine norm_ (a' := ?_) ?_ ?_
   rotate_left
   ·simp only [putAll, Act.put, List.setIfInBounds_toArray, List.set_cons_zero, List.set_cons_succ]
    rfl
   refine one_ (i := 5) (N := none) #[true, true, true, true, true, true] rfl rfl (by kernel_rfl) (by decide) (fun K hK => ?_)
   have hs41 : w40.cell? ⟨gb568, 0, none⟩ = some (.bool false) := (blk_cell BK568.out 0).trans rfl
   have hfs41 := blk_frozen BK568.out 0
   have hns41_0 := NB543_568.out
   have hns41_1 := NB544_568.out
   have hns41_2 := NB558_568.out
   have hns41_3 := NB559_568.out
   have hms41_0 := NB568_543.out
   have hms41_1 := NB568_544.out
   have hms41_2 := NB568_558.out
   have hms41_3 := NB568_559.out
   have hs43 : w40.cell? ⟨gb568, 1, none⟩ = some (.slice none 0 0) := (blk_cell BK568.out 1).trans rfl
   have hfs43 := blk_frozen BK568.out 1
   have hns43_0 := NB543_568.out
   have hns43_1 := NB544_568.out
   have hns43_2 := NB558_568.out
   have hns43_3 := NB559_568.out
   have hms43_0 := NB568_543.out
   have hms43_1 := NB568_544.out
   have hms43_2 := NB568_558.out
   have hms43_3 := NB568_559.out
   refine skip_ (w1 := ?_) (by rfl) rfl ?_ ?_
   rotate_left
   ·go_simp
    rfl
   refine hK.out _ _ ⟨((cell_far (p := ⟨gb568, _, none⟩) NB558_568.out _).trans (((cell_far (p := ⟨gb568, _, none⟩) NB558_568.out _).trans (hHeld.1)))), ((cell_far (p := ⟨gb568, _, none⟩) NB558_568.out _).trans (((cell_far (p := ⟨gb568, _, none⟩) NB558_568.out _).trans (hHeld.2.1)))), ((cell_far (p := ⟨gb568, _, none⟩) NB559_568.out _).trans (((cell_far (p := ⟨gb568, _, none⟩) NB559_568.out _).trans (hHeld.2.2.1)))), ((cell_far (p := ⟨gb568, _, none⟩) NB559_568.out _).trans (((cell_far (p := ⟨gb568, _, none⟩) NB559_568.out _).trans (hHeld.2.2.2))))⟩ (fun hHeld => ?_)
   clear hK K
   refine done_ (by kernel_rfl) ?_
   go_upto_region 7 with (fail)
   go_cut [48] (fun v48 wc => ∃ (kq : Nat) (x48_10 : Bool), v48 = .bool x48_10 ∧ Aside0 (isohyetlaw02_NumAdds.j0 kq x48_10 a0_0 l0_1 a1_0 l1_1 t550 t551 t564 t565 = some r) ∧ Aside0 (kq ≤ k) ∧ Aside0 (Kd.V (Kd.int .u64) 54 wc w.heap.size (fun k_ => ((P0_1_ k_ ∨ P1_1_ k_) ∨ w.heap.size ≤ k_) ∧ k_ ≠ gb543 ∧ k_ ≠ gb544 ∧ k_ ≠ gb558 ∧ k_ ≠ gb559 ∧ k_ ≠ gb568) (.slice A0_1 l0_1.length c0_1) l0_1) ∧ Aside0 (Kd.V (Kd.int .u64) 54 wc w.heap.size (fun k_ => ((P0_1_ k_ ∨ P1_1_ k_) ∨ w.heap.size ≤ k_) ∧ k_ ≠ gb543 ∧ k_ ≠ gb544 ∧ k_ ≠ gb558 ∧ k_ ≠ gb559 ∧ k_ ≠ gb568) (.slice A1_1 l1_1.length c1_1) l1_1) ∧ Aside0 (Kd.V (Kd.int .i64) 3 wc w.heap.size (fun k_ => ((P0_1_ k_ ∨ P1_1_ k_) ∨ w.heap.size ≤ k_) ∧ k_ ≠ gb543 ∧ k_ ≠ gb544 ∧ k_ ≠ gb558 ∧ k_ ≠ gb559 ∧ k_ ≠ gb568) (.slice Ao29 t551.length co29) t551) ∧ Aside0 (Kd.V (Kd.int .i64) 3 wc w.heap.size (fun k_ => ((P0_1_ k_ ∨ P1_1_ k_) ∨ w.heap.size ≤ k_) ∧ k_ ≠ gb543 ∧ k_ ≠ gb544 ∧ k_ ≠ gb558 ∧ k_ ≠ gb559 ∧ k_ ≠ gb568) (.slice Ao32 t555.length co32) t555) ∧ Aside0 (Kd.V (Kd.int .i64) 3 wc w.heap.size (fun k_ => ((P0_1_ k_ ∨ P1_1_ k_) ∨ w.heap.size ≤ k_) ∧ k_ ≠ gb543 ∧ k_ ≠ gb544 ∧ k_ ≠ gb558 ∧ k_ ≠ gb559 ∧ k_ ≠ gb568) (.slice Ao42 t565.length co42) t565) ∧ Aside0 (wc.heap[gb543]? = some (.cells #[.bool a0_0, (.slice A0_1 l0_1.length c0_1)] 25 (0, 0))) ∧ Aside0 (wc.heap[gb544]? = some (.cells #[.bool a1_0, (.slice A1_1 l1_1.length c1_1)] 25 (0, 0))) ∧ Aside0 (wc.heap[gb558]? = some (.cells #[.bool t550, (.slice Ao29 t551.length co29)] 44 (0, 0))) ∧ Aside0 (wc.heap[gb559]? = some (.cells #[.bool t554, (.slice Ao32 t555.length co32)] 44 (0, 0))) ∧ Aside0 (wc.heap[gb568]? = some (.cells #[.bool t564, (.slice Ao42 t565.length co42)] 44 (0, 0))) ∧ Aside0 (Below w.heap.size w wc))
   case first =>
    have H := HC11.out
    clear HC11
    replace H := Option.bind_eq_some_iff.mp H
    obtain ⟨⟨t569, t570⟩, A440, H⟩ := H
    replace H : ((isohyetref02_Add.f k t550 t551 t554 t555).bind fun bt573 => ((isohyetlaw02_is.f k t569 t570 bt573.1 bt573.2).bind fun t577 => (if t577 = true then ((num_Sub.f k a0_0 l0_1 a1_0 l1_1).bind fun bt578 => ((isohyetlaw02_is.f k bt578.1 bt578.2 t564 t565).bind fun t582 => (if t582 = true then ((num_Mul.f k a0_0 l0_1 a1_0 l1_1).bind fun bt583 => ((isohyetref02_Mul.f k t550 t551 t554 t555).bind fun bt587 => ((isohyetlaw02_is.f k bt583.1 bt583.2 bt587.1 bt587.2).bind fun t591 => (isohyetlaw02_NumAdds.j0 k (!t591) a0_0 l0_1 a1_0 l1_1 t550 t551 t564 t565)))) else (isohyetlaw02_NumAdds.j0 k true a0_0 l0_1 a1_0 l1_1 t550 t551 t564 t565)))) else (isohyetlaw02_NumAdds.j0 k true a0_0 l0_1 a1_0 l1_1 t550 t551 t564 t565)))) = some r := H
    have A44 := aK A440
    clear A440
    replace H := Option.bind_eq_some_iff.mp H
    obtain ⟨⟨t573, t574⟩, A450, H⟩ := H
    replace H : ((isohyetlaw02_is.f k t569 t570 t573 t574).bind fun t577 => (if t577 = true then ((num_Sub.f k a0_0 l0_1 a1_0 l1_1).bind fun bt578 => ((isohyetlaw02_is.f k bt578.1 bt578.2 t564 t565).bind fun t582 => (if t582 = true then ((num_Mul.f k a0_0 l0_1 a1_0 l1_1).bind fun bt583 => ((isohyetref02_Mul.f k t550 t551 t554 t555).bind fun bt587 => ((isohyetlaw02_is.f k bt583.1 bt583.2 bt587.1 bt587.2).bind fun t591 => (isohyetlaw02_NumAdds.j0 k (!t591) a0_0 l0_1 a1_0 l1_1 t550 t551 t564 t565)))) else (isohyetlaw02_NumAdds.j0 k true a0_0 l0_1 a1_0 l1_1 t550 t551 t564 t565)))) else (isohyetlaw02_NumAdds.j0 k true a0_0 l0_1 a1_0 l1_1 t550 t551 t564 t565))) = some r := H
    have A45 := aK A450
    clear A450
    obtain ⟨t577, A460, H⟩ := Option.bind_eq_some_iff.mp H
    replace H : (if t577 = true then ((num_Sub.f k a0_0 l0_1 a1_0 l1_1).bind fun bt578 => ((isohyetlaw02_is.f k bt578.1 bt578.2 t564 t565).bind fun t582 => (if t582 = true then ((num_Mul.f k a0_0 l0_1 a1_0 l1_1).bind fun bt583 => ((isohyetref02_Mul.f k t550 t551 t554 t555).bind fun bt587 => ((isohyetlaw02_is.f k bt583.1 bt583.2 bt587.1 bt587.2).bind fun t591 => (isohyetlaw02_NumAdds.j0 k (!t591) a0_0 l0_1 a1_0 l1_1 t550 t551 t564 t565)))) else (isohyetlaw02_NumAdds.j0 k true a0_0 l0_1 a1_0 l1_1 t550 t551 t564 t565)))) else (isohyetlaw02_NumAdds.j0 k true a0_0 l0_1 a1_0 l1_1 t550 t551 t564 t565)) = some r := H
    have A46 := aK A460
    clear A460
    by_cases c47 : t577 = true
    ·subst c47
     replace H : ((num_Sub.f k a0_0 l0_1 a1_0 l1_1).bind fun bt578 => ((isohyetlaw02_is.f k bt578.1 bt578.2 t564 t565).bind fun t582 => (if t582 = true then ((num_Mul.f k a0_0 l0_1 a1_0 l1_1).bind fun bt583 => ((isohyetref02_Mul.f k t550 t551 t554 t555).bind fun bt587 => ((isohyetlaw02_is.f k bt583.1 bt583.2 bt587.1 bt587.2).bind fun t591 => (isohyetlaw02_NumAdds.j0 k (!t591) a0_0 l0_1 a1_0 l1_1 t550 t551 t564 t565)))) else (isohyetlaw02_NumAdds.j0 k true a0_0 l0_1 a1_0 l1_1 t550 t551 t564 t565)))) = some r := by rw [if_pos rfl] at H; exact H
     replace H := Option.bind_eq_some_iff.mp H
     obtain ⟨⟨t578, t579⟩, A480, H⟩ := H
     replace H : ((isohyetlaw02_is.f k t578 t579 t564 t565).bind fun t582 => (if t582 = true then ((num_Mul.f k a0_0 l0_1 a1_0 l1_1).bind fun bt583 => ((isohyetref02_Mul.f k t550 t551 t554 t555).bind fun bt587 => ((isohyetlaw02_is.f k bt583.1 bt583.2 bt587.1 bt587.2).bind fun t591 => (isohyetlaw02_NumAdds.j0 k (!t591) a0_0 l0_1 a1_0 l1_1 t550 t551 t564 t565)))) else (isohyetlaw02_NumAdds.j0 k true a0_0 l0_1 a1_0 l1_1 t550 t551 t564 t565))) = some r := H
     have A48 := aK A480
     clear A480
     obtain ⟨t582, A490, H⟩ := Option.bind_eq_some_iff.mp H
     replace H : (if t582 = true then ((num_Mul.f k a0_0 l0_1 a1_0 l1_1).bind fun bt583 => ((isohyetref02_Mul.f k t550 t551 t554 t555).bind fun bt587 => ((isohyetlaw02_is.f k bt583.1 bt583.2 bt587.1 bt587.2).bind fun t591 => (isohyetlaw02_NumAdds.j0 k (!t591) a0_0 l0_1 a1_0 l1_1 t550 t551 t564 t565)))) else (isohyetlaw02_NumAdds.j0 k true a0_0 l0_1 a1_0 l1_1 t550 t551 t564 t565)) = some r := H
     have A49 := aK A490
     clear A490
     by_cases c50 : t582 = true
     ·subst c50
      replace H : ((num_Mul.f k a0_0 l0_1 a1_0 l1_1).bind fun bt583 => ((isohyetref02_Mul.f k t550 t551 t554 t555).bind fun bt587 => ((isohyetlaw02_is.f k bt583.1 bt583.2 bt587.1 bt587.2).bind fun t591 => (isohyetlaw02_NumAdds.j0 k (!t591) a0_0 l0_1 a1_0 l1_1 t550 t551 t564 t565)))) = some r := by rw [if_pos rfl] at H; exact H
      replace H := Option.bind_eq_some_iff.mp H
      obtain ⟨⟨t583, t584⟩, A510, H⟩ := H
      replace H : ((isohyetref02_Mul.f k t550 t551 t554 t555).bind fun bt587 => ((isohyetlaw02_is.f k t583 t584 bt587.1 bt587.2).bind fun t591 => (isohyetlaw02_NumAdds.j0 k (!t591) a0_0 l0_1 a1_0 l1_1 t550 t551 t564 t565))) = some r := H
      have A51 := aK A510
      clear A510
      replace H := Option.bind_eq_some_iff.mp H
      obtain ⟨⟨t587, t588⟩, A520, H⟩ := H
      replace H : ((isohyetlaw02_is.f k t583 t584 t587 t588).bind fun t591 => (isohyetlaw02_NumAdds.j0 k (!t591) a0_0 l0_1 a1_0 l1_1 t550 t551 t564 t565)) = some r := H
      have A52 := aK A520
      clear A520
      obtain ⟨t591, A530, H⟩ := Option.bind_eq_some_iff.mp H
      replace H : (isohyetlaw02_NumAdds.j0 k (!t591) a0_0 l0_1 a1_0 l1_1 t550 t551 t564 t565) = some r := H
      have A53 := aK A530
      clear A530
      have H' := aK H
      clear H
      try go_wp2
      have n0_ : Aside0 (Kd.V (Kd.int .u64) 54 ((w40.setCell ⟨gb568, 0, none⟩ (.bool t564)).setCell ⟨gb568, 1, none⟩ (.slice Ao42 t565.length co42)) w.heap.size (fun k_ => ((P0_1_ k_ ∨ P1_1_ k_) ∨ w.heap.size ≤ k_) ∧ k_ ≠ gb543 ∧ k_ ≠ gb544 ∧ k_ ≠ gb558 ∧ k_ ≠ gb559 ∧ k_ ≠ gb568) (.slice A0_1 l0_1.length c0_1) l0_1) := ⟨by (with_reducible repeat (first | apply Kd.V_alloc | apply Kd.V_drewN | apply Kd.V_drew)); exact Kd.V_mono (Kd.V_far (p := ⟨gb568, 1, none⟩) (Kd.V_far (p := ⟨gb568, 0, none⟩) (Kd.V_mono HO0_1.out (fun k_ hk => (⟨hk, hk.2.2.2.2.2⟩ : _ ∧ k_ ≠ gb568))) (fun _ hk => hk.2) (.bool t564)) (fun _ hk => hk.2) (.slice Ao42 t565.length co42)) (fun _ hk => ⟨hk.1.1, ⟨hk.1.2.1, ⟨hk.1.2.2.1, ⟨hk.1.2.2.2.1, ⟨hk.1.2.2.2.2.1, hk.1.2.2.2.2.2⟩⟩⟩⟩⟩)⟩
      have n1_ : Aside0 (Kd.V (Kd.int .u64) 54 ((w40.setCell ⟨gb568, 0, none⟩ (.bool t564)).setCell ⟨gb568, 1, none⟩ (.slice Ao42 t565.length co42)) w.heap.size (fun k_ => ((P0_1_ k_ ∨ P1_1_ k_) ∨ w.heap.size ≤ k_) ∧ k_ ≠ gb543 ∧ k_ ≠ gb544 ∧ k_ ≠ gb558 ∧ k_ ≠ gb559 ∧ k_ ≠ gb568) (.slice A1_1 l1_1.length c1_1) l1_1) := ⟨by (with_reducible repeat (first | apply Kd.V_alloc | apply Kd.V_drewN | apply Kd.V_drew)); exact Kd.V_mono (Kd.V_far (p := ⟨gb568, 1, none⟩) (Kd.V_far (p := ⟨gb568, 0, none⟩) (Kd.V_mono HO1_1.out (fun k_ hk => (⟨hk, hk.2.2.2.2.2⟩ : _ ∧ k_ ≠ gb568))) (fun _ hk => hk.2) (.bool t564)) (fun _ hk => hk.2) (.slice Ao42 t565.length co42)) (fun _ hk => ⟨hk.1.1, ⟨hk.1.2.1, ⟨hk.1.2.2.1, ⟨hk.1.2.2.2.1, ⟨hk.1.2.2.2.2.1, hk.1.2.2.2.2.2⟩⟩⟩⟩⟩)⟩
      have n2_ : Aside0 (Kd.V (Kd.int .i64) 3 ((w40.setCell ⟨gb568, 0, none⟩ (.bool t564)).setCell ⟨gb568, 1, none⟩ (.slice Ao42 t565.length co42)) w.heap.size (fun k_ => ((P0_1_ k_ ∨ P1_1_ k_) ∨ w.heap.size ≤ k_) ∧ k_ ≠ gb543 ∧ k_ ≠ gb544 ∧ k_ ≠ gb558 ∧ k_ ≠ gb559 ∧ k_ ≠ gb568) (.slice Ao29 t551.length co29) t551) := ⟨by (with_reducible repeat (first | apply Kd.V_alloc | apply Kd.V_drewN | apply Kd.V_drew)); exact Kd.V_mono (Kd.V_far (p := ⟨gb568, 1, none⟩) (Kd.V_far (p := ⟨gb568, 0, none⟩) (Kd.V_mono HO553.out (fun k_ hk => (⟨hk, hk.2.2.2.2.2⟩ : _ ∧ k_ ≠ gb568))) (fun _ hk => hk.2) (.bool t564)) (fun _ hk => hk.2) (.slice Ao42 t565.length co42)) (fun _ hk => ⟨hk.1.1, ⟨hk.1.2.1, ⟨hk.1.2.2.1, ⟨hk.1.2.2.2.1, ⟨hk.1.2.2.2.2.1, hk.1.2.2.2.2.2⟩⟩⟩⟩⟩)⟩
      have n3_ : Aside0 (Kd.V (Kd.int .i64) 3 ((w40.setCell ⟨gb568, 0, none⟩ (.bool t564)).setCell ⟨gb568, 1, none⟩ (.slice Ao42 t565.length co42)) w.heap.size (fun k_ => ((P0_1_ k_ ∨ P1_1_ k_) ∨ w.heap.size ≤ k_) ∧ k_ ≠ gb543 ∧ k_ ≠ gb544 ∧ k_ ≠ gb558 ∧ k_ ≠ gb559 ∧ k_ ≠ gb568) (.slice Ao32 t555.length co32) t555) := ⟨by (with_reducible repeat (first | apply Kd.V_alloc | apply Kd.V_drewN | apply Kd.V_drew)); exact Kd.V_mono (Kd.V_far (p := ⟨gb568, 1, none⟩) (Kd.V_far (p := ⟨gb568, 0, none⟩) (Kd.V_mono HO557.out (fun k_ hk => (⟨hk, hk.2.2.2.2.2⟩ : _ ∧ k_ ≠ gb568))) (fun _ hk => hk.2) (.bool t564)) (fun _ hk => hk.2) (.slice Ao42 t565.length co42)) (fun _ hk => ⟨hk.1.1, ⟨hk.1.2.1, ⟨hk.1.2.2.1, ⟨hk.1.2.2.2.1, ⟨hk.1.2.2.2.2.1, hk.1.2.2.2.2.2⟩⟩⟩⟩⟩)⟩
      have n4_ : Aside0 (Kd.V (Kd.int .i64) 3 ((w40.setCell ⟨gb568, 0, none⟩ (.bool t564)).setCell ⟨gb568, 1, none⟩ (.slice Ao42 t565.length co42)) w.heap.size (fun k_ => ((P0_1_ k_ ∨ P1_1_ k_) ∨ w.heap.size ≤ k_) ∧ k_ ≠ gb543 ∧ k_ ≠ gb544 ∧ k_ ≠ gb558 ∧ k_ ≠ gb559 ∧ k_ ≠ gb568) v562 t561) := ⟨by (with_reducible repeat (first | apply Kd.V_alloc | apply Kd.V_drewN | apply Kd.V_drew)); exact Kd.V_mono (Kd.V_far (p := ⟨gb568, 1, none⟩) (Kd.V_far (p := ⟨gb568, 0, none⟩) (Kd.V_mono HO563.out (fun k_ hk => (⟨hk, hk.2.2.2.2.2⟩ : _ ∧ k_ ≠ gb568))) (fun _ hk => hk.2) (.bool t564)) (fun _ hk => hk.2) (.slice Ao42 t565.length co42)) (fun _ hk => ⟨hk.1.1, ⟨hk.1.2.1, ⟨hk.1.2.2.1, ⟨hk.1.2.2.2.1, ⟨hk.1.2.2.2.2.1, hk.1.2.2.2.2.2⟩⟩⟩⟩⟩)⟩
      have n5_ : Aside0 (Kd.V (Kd.int .i64) 3 ((w40.setCell ⟨gb568, 0, none⟩ (.bool t564)).setCell ⟨gb568, 1, none⟩ (.slice Ao42 t565.length co42)) w.heap.size (fun k_ => ((P0_1_ k_ ∨ P1_1_ k_) ∨ w.heap.size ≤ k_) ∧ k_ ≠ gb543 ∧ k_ ≠ gb544 ∧ k_ ≠ gb558 ∧ k_ ≠ gb559 ∧ k_ ≠ gb568) (.slice Ao42 t565.length co42) t565) := ⟨by (with_reducible repeat (first | apply Kd.V_alloc | apply Kd.V_drewN | apply Kd.V_drew)); exact Kd.V_mono (Kd.V_far (p := ⟨gb568, 1, none⟩) (Kd.V_far (p := ⟨gb568, 0, none⟩) (Kd.V_mono HO567.out (fun k_ hk => (⟨hk, hk.2.2.2.2.2⟩ : _ ∧ k_ ≠ gb568))) (fun _ hk => hk.2) (.bool t564)) (fun _ hk => hk.2) (.slice Ao42 t565.length co42)) (fun _ hk => ⟨hk.1.1, ⟨hk.1.2.1, ⟨hk.1.2.2.1, ⟨hk.1.2.2.2.1, ⟨hk.1.2.2.2.2.1, hk.1.2.2.2.2.2⟩⟩⟩⟩⟩)⟩
      have n6_ : Aside0 (((w40.setCell ⟨gb568, 0, none⟩ (.bool t564)).setCell ⟨gb568, 1, none⟩ (.slice Ao42 t565.length co42)).heap[gb543]? = some (.cells #[.bool a0_0, .slice A0_1 l0_1.length c0_1] 25 (0, 0))) := ⟨by (with_reducible repeat (first | refine blk_drewN ?_ _ | refine blk_drew ?_ | refine blk_alloc ?_ _)); refine blk_far ?_ NB543_568.out _; (with_reducible repeat (first | refine blk_drewN ?_ _ | refine blk_drew ?_ | refine blk_alloc ?_ _)); refine blk_far ?_ NB543_568.out _; (with_reducible repeat (first | refine blk_drewN ?_ _ | refine blk_drew ?_ | refine blk_alloc ?_ _)); exact BK543.out⟩
      have n7_ : Aside0 (((w40.setCell ⟨gb568, 0, none⟩ (.bool t564)).setCell ⟨gb568, 1, none⟩ (.slice Ao42 t565.length co42)).heap[gb544]? = some (.cells #[.bool a1_0, .slice A1_1 l1_1.length c1_1] 25 (0, 0))) := ⟨by (with_reducible repeat (first | refine blk_drewN ?_ _ | refine blk_drew ?_ | refine blk_alloc ?_ _)); refine blk_far ?_ NB544_568.out _; (with_reducible repeat (first | refine blk_drewN ?_ _ | refine blk_drew ?_ | refine blk_alloc ?_ _)); refine blk_far ?_ NB544_568.out _; (with_reducible repeat (first | refine blk_drewN ?_ _ | refine blk_drew ?_ | refine blk_alloc ?_ _)); exact BK544.out⟩
      have n8_ : Aside0 (((w40.setCell ⟨gb568, 0, none⟩ (.bool t564)).setCell ⟨gb568, 1, none⟩ (.slice Ao42 t565.length co42)).heap[gb558]? = some (.cells #[.bool t550, .slice Ao29 t551.length co29] 44 (0, 0))) := ⟨by (with_reducible repeat (first | refine blk_drewN ?_ _ | refine blk_drew ?_ | refine blk_alloc ?_ _)); refine blk_far ?_ NB558_568.out _; (with_reducible repeat (first | refine blk_drewN ?_ _ | refine blk_drew ?_ | refine blk_alloc ?_ _)); refine blk_far ?_ NB558_568.out _; (with_reducible repeat (first | refine blk_drewN ?_ _ | refine blk_drew ?_ | refine blk_alloc ?_ _)); exact BK558.out⟩
      have n9_ : Aside0 (((w40.setCell ⟨gb568, 0, none⟩ (.bool t564)).setCell ⟨gb568, 1, none⟩ (.slice Ao42 t565.length co42)).heap[gb559]? = some (.cells #[.bool t554, .slice Ao32 t555.length co32] 44 (0, 0))) := ⟨by (with_reducible repeat (first | refine blk_drewN ?_ _ | refine blk_drew ?_ | refine blk_alloc ?_ _)); refine blk_far ?_ NB559_568.out _; (with_reducible repeat (first | refine blk_drewN ?_ _ | refine blk_drew ?_ | refine blk_alloc ?_ _)); refine blk_far ?_ NB559_568.out _; (with_reducible repeat (first | refine blk_drewN ?_ _ | refine blk_drew ?_ | refine blk_alloc ?_ _)); exact BK559.out⟩
      have n10_ : Aside0 (((w40.setCell ⟨gb568, 0, none⟩ (.bool t564)).setCell ⟨gb568, 1, none⟩ (.slice Ao42 t565.length co42)).heap[gb568]? = some (.cells #[.bool t564, .slice Ao42 t565.length co42] 44 (0, 0))) := ⟨by (with_reducible repeat (first | refine blk_drewN ?_ _ | refine blk_drew ?_ | refine blk_alloc ?_ _)); refine blk_put (cs := #[.bool t564, .slice none 0 0]) ?_ 1 _ rfl; (with_reducible repeat (first | refine blk_drewN ?_ _ | refine blk_drew ?_ | refine blk_alloc ?_ _)); refine blk_put (cs := #[.bool false, .slice none 0 0]) ?_ 0 _ rfl; (with_reducible repeat (first | refine blk_drewN ?_ _ | refine blk_drew ?_ | refine blk_alloc ?_ _)); exact BK568.out⟩
      have n11_ : Aside0 (Below w.heap.size w ((w40.setCell ⟨gb568, 0, none⟩ (.bool t564)).setCell ⟨gb568, 1, none⟩ (.slice Ao42 t565.length co42))) := ⟨by repeat (first | (with_reducible first | exact HB.out | apply bA | apply bN | apply bD | refine bS ?_ GE543.out | refine bS ?_ GE544.out | refine bS ?_ GE558.out | refine bS ?_ GE559.out | refine bS ?_ GE568.out) | exact HB.out)⟩
      (try clear HO0_1)
      (try clear HO1_1)
      (try clear HO553)
      (try clear HO557)
      (try clear HO563)
      (try clear HO567)
      (try clear BK543)
      (try clear BK544)
      (try clear BK558)
      (try clear BK559)
      (try clear BK568)
      (try clear HB)
      generalize ((w40.setCell ⟨gb568, 0, none⟩ (.bool t564)).setCell ⟨gb568, 1, none⟩ (.slice Ao42 t565.length co42)) = w54 at n0_ n1_ n2_ n3_ n4_ n5_ n6_ n7_ n8_ n9_ n10_ n11_ ⊢
      have HO0_1 := n0_
      have HO1_1 := n1_
      have HO553 := n2_
      have HO557 := n3_
      have HO563 := n4_
      have HO567 := n5_
      have BK543 := n6_
      have BK544 := n7_
      have BK558 := n8_
      have BK559 := n9_
      have BK568 := n10_
      have HB := n11_
      clear n0_ n1_ n2_ n3_ n4_ n5_ n6_ n7_ n8_ n9_ n10_ n11_
      replace HO0_1 := aK (Kd.V_drew HO0_1.out)
      replace HO1_1 := aK (Kd.V_drew HO1_1.out)
      replace HO553 := aK (Kd.V_drew HO553.out)
      replace HO557 := aK (Kd.V_drew HO557.out)
      replace HO563 := aK (Kd.V_drew HO563.out)
      replace HO567 := aK (Kd.V_drew HO567.out)
      replace BK543 := aK (blk_drew BK543.out)
      replace BK544 := aK (blk_drew BK544.out)
      replace BK558 := aK (blk_drew BK558.out)
      replace BK559 := aK (blk_drew BK559.out)
      replace BK568 := aK (blk_drew BK568.out)
      replace HB := aK (bD HB.out)
      refine start_ (n := 26) (S := fun w' => w'.cell? ⟨gb543, 0, none⟩ = some (.bool a0_0) ∧ w'.cell? ⟨gb543, 1, none⟩ = some (.slice A0_1 l0_1.length c0_1) ∧ w'.cell? ⟨gb544, 0, none⟩ = some (.bool a1_0) ∧ w'.cell? ⟨gb544, 1, none⟩ = some (.slice A1_1 l1_1.length c1_1) ∧ w'.cell? ⟨gb558, 0, none⟩ = some (.bool t550) ∧ w'.cell? ⟨gb558, 1, none⟩ = some (.slice Ao29 t551.length co29) ∧ w'.cell? ⟨gb559, 0, none⟩ = some (.bool t554) ∧ w'.cell? ⟨gb559, 1, none⟩ = some (.slice Ao32 t555.length co32) ∧ w'.cell? ⟨gb568, 0, none⟩ = some (.bool t564) ∧ w'.cell? ⟨gb568, 1, none⟩ = some (.slice Ao42 t565.length co42)) (ds := []) #[false, false, false, false, false, false, false, false, false, false, false, false, false, false, false, false, false, false, false, false, false, false, false, false, false, false] (by kernel_rfl) rfl rfl ⟨(blk_cell BK543.out 0).trans rfl, (blk_cell BK543.out 1).trans rfl, (blk_cell BK544.out 0).trans rfl, (blk_cell BK544.out 1).trans rfl, (blk_cell BK558.out 0).trans rfl, (blk_cell BK558.out 1).trans rfl, (blk_cell BK559.out 0).trans rfl, (blk_cell BK559.out 1).trans rfl, (blk_cell BK568.out 0).trans rfl, (blk_cell BK568.out 1).trans rfl⟩ (fun hHeld => ?_); refine with_tabW isohyetlaw02_NumAdds.tab7 isohyetlaw02_NumAdds.bits7 (fun HT_ HW_ => ?_)
      generalize w54.drew = w55 at HO0_1 HO1_1 HO553 HO557 HO563 HO567 BK543 BK544 BK558 BK559 BK568 HB hHeld ⊢
      refine take_ (i := 0) (N := some 23) (v := ?_) (a' := ?_) #[true, false, false, false, false, false, false, false, false, false, false, false, false, false, false, false, false, false, false, false, false, false, false, false, false, false] rfl rfl (take_ofW HT_.out HW_.out (by kernel_rfl)) (fun _ _ _ h => h) (Or.inl ⟨by rfl, ?_⟩) hHeld ?_ ?_
      rotate_left
      ·rintro w' ⟨s0, s1, s2, s3, s4, s5, s6, s7, s8, s9⟩
       go_simp
       with_reducible rfl
      rotate_left
      ·simp only [Act.put, List.setIfInBounds_toArray, List.set_cons_zero, List.set_cons_succ]
       rfl
      refine take_ (i := 1) (N := some 24) (v := ?_) (a' := ?_) #[true, true, false, false, false, false, false, false, false, false, false, false, false, false, false, false, false, false, false, false, false, false, false, false, false, false] rfl rfl (take_ofW HT_.out HW_.out (by kernel_rfl)) (fun _ _ _ h => h) (Or.inl ⟨by rfl, ?_⟩) hHeld ?_ ?_
      rotate_left
      ·rintro w' ⟨s0, s1, s2, s3, s4, s5, s6, s7, s8, s9⟩
       go_simp
       with_reducible rfl
      rotate_left
      ·simp only [Act.put, List.setIfInBounds_toArray, List.set_cons_zero, List.set_cons_succ]
       rfl
      refine take_ (i := 3) (N := some 26) (v := ?_) (a' := ?_) #[true, true, false, true, false, false, false, false, false, false, false, false, false, false, false, false, false, false, false, false, false, false, false, false, false, false] rfl rfl (take_ofW HT_.out HW_.out (by kernel_rfl)) (fun _ _ _ h => h) (Or.inl ⟨by rfl, ?_⟩) hHeld ?_ ?_
      rotate_left
      ·rintro w' ⟨s0, s1, s2, s3, s4, s5, s6, s7, s8, s9⟩
       go_simp
       with_reducible rfl
      rotate_left
      ·simp only [Act.put, List.setIfInBounds_toArray, List.set_cons_zero, List.set_cons_succ]
       rfl
      refine take_ (i := 4) (N := some 27) (v := ?_) (a' := ?_) #[true, true, false, true, true, false, false, false, false, false, false, false, false, false, false, false, false, false, false, false, false, false, false, false, false, false] rfl rfl (take_ofW HT_.out HW_.out (by kernel_rfl)) (fun _ _ _ h => h) (Or.inl ⟨by rfl, ?_⟩) hHeld ?_ ?_
      rotate_left
      ·rintro w' ⟨s0, s1, s2, s3, s4, s5, s6, s7, s8, s9⟩
       go_simp
       with_reducible rfl
      rotate_left
      ·simp only [Act.put, List.setIfInBounds_toArray, List.set_cons_zero, List.set_cons_succ]
       rfl
      refine one_ (i := 2) (N := some 25) #[true, true, true, true, true, false, false, false, false, false, false, false, false, false, false, false, false, false, false, false, false, false, false, false, false, false] rfl rfl (one_of HT_.out (by kernel_rfl)) (by decide) (fun K hK => ?_)
      refine goes_ Try.func17 (by kernel_rfl) rfl #[.agg #[.bool a0_0, .slice A0_1 l0_1.length c0_1], .agg #[.bool a1_0, .slice A1_1 l1_1.length c1_1]] (by rfl) rfl rfl (by (try simp only [List.map_toArray, List.map_cons, List.map_nil]); first | done | rfl | (simp only [List.length_drop, List.length_take]; rfl)) ?_
      with_reducible refine (num_Add.calls k a0_0 (fun k_ => (((P0_1_ k_ ∨ P1_1_ k_) ∨ w.heap.size ≤ k_) ∧ (k_ ≠ gb543 ∧ (k_ ≠ gb544 ∧ (k_ ≠ gb558 ∧ (k_ ≠ gb559 ∧ k_ ≠ gb568)))))) _ _ l0_1 a1_0 (fun k_ => (((P0_1_ k_ ∨ P1_1_ k_) ∨ w.heap.size ≤ k_) ∧ (k_ ≠ gb543 ∧ (k_ ≠ gb544 ∧ (k_ ≠ gb558 ∧ (k_ ≠ gb559 ∧ k_ ≠ gb568)))))) _ _ l1_1 t569 t570 _ ?side1 ?side2 A44.out).mono ?_
      (case side1 => exact HO0_1.out)
      (case side2 => exact HO1_1.out)
      rintro e w56 ⟨v571, rfl, ho0, hb⟩
      refine ⟨_, rfl, ?_⟩
      replace HO0_1 := aK (Kd.V_below (gV HO0_1.out) hb)
      replace HO1_1 := aK (Kd.V_below (gV HO1_1.out) hb)
      replace HO553 := aK (Kd.V_below (gV HO553.out) hb)
      replace HO557 := aK (Kd.V_below (gV HO557.out) hb)
      replace HO563 := aK (Kd.V_below (gV HO563.out) hb)
      replace HO567 := aK (Kd.V_below (gV HO567.out) hb)
      have HO572 := aK (Kd.V_lower (Kd.V_mono (ok' := fun k_ => ((P0_1_ k_ ∨ P1_1_ k_) ∨ w.heap.size ≤ k_) ∧ k_ ≠ gb543 ∧ k_ ≠ gb544 ∧ k_ ≠ gb558 ∧ k_ ≠ gb559 ∧ k_ ≠ gb568) ho0 (fun k_ hk_ => ⟨Or.elim hk_ (fun hs_ => Or.elim hs_ (fun hs_ => hs_.1) (fun hs_ => hs_.1)) (fun hn_ => (.inr (Nat.le_trans (below_size (gB HB.out)) hn_))), Or.elim hk_ (fun hs_ => Or.elim hs_ (fun hs_ => hs_.2.1) (fun hs_ => hs_.2.1)) (fun hn_ => (Kd.freshB (g := gb543) (o := .cells #[.bool a0_0, .slice A0_1 l0_1.length c0_1] 25 (0, 0)) (gK BK543.out) k_ hn_)), Or.elim hk_ (fun hs_ => Or.elim hs_ (fun hs_ => hs_.2.2.1) (fun hs_ => hs_.2.2.1)) (fun hn_ => (Kd.freshB (g := gb544) (o := .cells #[.bool a1_0, .slice A1_1 l1_1.length c1_1] 25 (0, 0)) (gK BK544.out) k_ hn_)), Or.elim hk_ (fun hs_ => Or.elim hs_ (fun hs_ => hs_.2.2.2.1) (fun hs_ => hs_.2.2.2.1)) (fun hn_ => (Kd.freshB (g := gb558) (o := .cells #[.bool t550, .slice Ao29 t551.length co29] 44 (0, 0)) (gK BK558.out) k_ hn_)), Or.elim hk_ (fun hs_ => Or.elim hs_ (fun hs_ => hs_.2.2.2.2.1) (fun hs_ => hs_.2.2.2.2.1)) (fun hn_ => (Kd.freshB (g := gb559) (o := .cells #[.bool t554, .slice Ao32 t555.length co32] 44 (0, 0)) (gK BK559.out) k_ hn_)), Or.elim hk_ (fun hs_ => Or.elim hs_ (fun hs_ => hs_.2.2.2.2.2) (fun hs_ => hs_.2.2.2.2.2)) (fun hn_ => (Kd.freshB (g := gb568) (o := .cells #[.bool t564, .slice Ao42 t565.length co42] 44 (0, 0)) (gK BK568.out) k_ hn_))⟩)) (below_size (gB HB.out)))
      have n7_ := aK (blk_below (gK BK543.out) hb)
      have n8_ := aK (blk_below (gK BK544.out) hb)
      have n9_ := aK (blk_below (gK BK558.out) hb)
      have n10_ := aK (blk_below (gK BK559.out) hb)
      have n11_ := aK (blk_below (gK BK568.out) hb)
      have n12_ := aK (below_step (gB HB.out) hb)
      clear BK543 BK544 BK558 BK559 BK568 HB
      have BK543 := n7_
      have BK544 := n8_
      have BK558 := n9_
      have BK559 := n10_
      have BK568 := n11_
      have HB := n12_
      clear n7_ n8_ n9_ n10_ n11_ n12_
      (try clear hb)
      (try clear hb2)
      (try clear hk)
      (try clear hi)
      (try clear ho0)
      refine hK.out _ _ ⟨(blk_cell BK543.out 0).trans rfl, (blk_cell BK543.out 1).trans rfl, (blk_cell BK544.out 0).trans rfl, (blk_cell BK544.out 1).trans rfl, (blk_cell BK558.out 0).trans rfl, (blk_cell BK558.out 1).trans rfl, (blk_cell BK559.out 0).trans rfl, (blk_cell BK559.out 1).trans rfl, (blk_cell BK568.out 0).trans rfl, (blk_cell BK568.out 1).trans rfl⟩ (fun hHeld => ?_)
      clear hK K
      refine norm_ (a' := ?_) ?_ ?_
      rotate_left
      ·show Act.put _ (some 25) _ = _
       simp only [Act.put, List.setIfInBounds_toArray, List.set_cons_zero, List.set_cons_succ]
       rfl
      refine one_ (i := 5) (N := some 28) #[true, true, true, true, true, true, false, false, false, false, false, false, false, false, false, false, false, false, false, false, false, false, false, false, false, false] rfl rfl (one_of HT_.out (by kernel_rfl)) (by decide) (fun K hK => ?_)
      refine goes_ Try.func24 (by kernel_rfl) rfl #[.agg #[.bool t550, .slice Ao29 t551.length co29], .agg #[.bool t554, .slice Ao32 t555.length co32]] (by rfl) rfl rfl (by (try simp only [List.map_toArray, List.map_cons, List.map_nil]); first | done | rfl | (simp only [List.length_drop, List.length_take]; rfl)) ?_
      with_reducible refine (isohyetref02_Add.calls k t550 _ _ t551 t554 _ _ t555 t573 t574 _ ?side1 ?side2 ?side3 ?side4 A45.out).mono ?_
      (case side1 => repeat (first | exact (Kd.V_reads' HO553.out).2.2 | apply Kd.C_alloc | apply Kd.C_drewN | apply Kd.C_drew))
      (case side2 => exact (Kd.V_reads' HO553.out).2.1)
      (case side3 => repeat (first | exact (Kd.V_reads' HO557.out).2.2 | apply Kd.C_alloc | apply Kd.C_drewN | apply Kd.C_drew))
      (case side4 => exact (Kd.V_reads' HO557.out).2.1)
      rintro e w57 ⟨v575, rfl, ho0, hb⟩
      refine ⟨_, rfl, ?_⟩
      replace HO0_1 := aK (Kd.V_below (gV HO0_1.out) hb)
      replace HO1_1 := aK (Kd.V_below (gV HO1_1.out) hb)
      replace HO553 := aK (Kd.V_below (gV HO553.out) hb)
      replace HO557 := aK (Kd.V_below (gV HO557.out) hb)
      replace HO563 := aK (Kd.V_below (gV HO563.out) hb)
      replace HO567 := aK (Kd.V_below (gV HO567.out) hb)
      replace HO572 := aK (Kd.V_below (gV HO572.out) hb)
      have HO576 := aK (Kd.V_lower (Kd.V_mono (ok' := fun k_ => ((P0_1_ k_ ∨ P1_1_ k_) ∨ w.heap.size ≤ k_) ∧ k_ ≠ gb543 ∧ k_ ≠ gb544 ∧ k_ ≠ gb558 ∧ k_ ≠ gb559 ∧ k_ ≠ gb568) ho0 (fun k_ hk_ => ⟨(.inr (Nat.le_trans (below_size (gB HB.out)) hk_)), (Kd.freshB (g := gb543) (o := .cells #[.bool a0_0, .slice A0_1 l0_1.length c0_1] 25 (0, 0)) (gK BK543.out) k_ hk_), (Kd.freshB (g := gb544) (o := .cells #[.bool a1_0, .slice A1_1 l1_1.length c1_1] 25 (0, 0)) (gK BK544.out) k_ hk_), (Kd.freshB (g := gb558) (o := .cells #[.bool t550, .slice Ao29 t551.length co29] 44 (0, 0)) (gK BK558.out) k_ hk_), (Kd.freshB (g := gb559) (o := .cells #[.bool t554, .slice Ao32 t555.length co32] 44 (0, 0)) (gK BK559.out) k_ hk_), (Kd.freshB (g := gb568) (o := .cells #[.bool t564, .slice Ao42 t565.length co42] 44 (0, 0)) (gK BK568.out) k_ hk_)⟩)) (below_size (gB HB.out)))
      have n8_ := aK (blk_below (gK BK543.out) hb)
      have n9_ := aK (blk_below (gK BK544.out) hb)
      have n10_ := aK (blk_below (gK BK558.out) hb)
      have n11_ := aK (blk_below (gK BK559.out) hb)
      have n12_ := aK (blk_below (gK BK568.out) hb)
      have n13_ := aK (below_step (gB HB.out) hb)
      clear BK543 BK544 BK558 BK559 BK568 HB
      have BK543 := n8_
      have BK544 := n9_
      have BK558 := n10_
      have BK559 := n11_
      have BK568 := n12_
      have HB := n13_
      clear n8_ n9_ n10_ n11_ n12_ n13_
      (try clear hb)
      (try clear hb2)
      (try clear hk)
      (try clear hi)
      (try clear ho0)
      obtain ⟨Ao58, co58, eo58⟩ := Kd.V_slice HO572.out
      (first | subst eo58 | (injection eo58 with f1_ f2_ f3_; have f4_ := f1_.symm; have f5_ := f3_.symm; clear f1_ f2_ f3_; subst f4_; subst f5_))
      obtain ⟨Ao59, co59, eo59⟩ := Kd.V_slice HO576.out
      (first | subst eo59 | (injection eo59 with f1_ f2_ f3_; have f4_ := f1_.symm; have f5_ := f3_.symm; clear f1_ f2_ f3_; subst f4_; subst f5_))
      refine hK.out _ _ ⟨(blk_cell BK543.out 0).trans rfl, (blk_cell BK543.out 1).trans rfl, (blk_cell BK544.out 0).trans rfl, (blk_cell BK544.out 1).trans rfl, (blk_cell BK558.out 0).trans rfl, (blk_cell BK558.out 1).trans rfl, (blk_cell BK559.out 0).trans rfl, (blk_cell BK559.out 1).trans rfl, (blk_cell BK568.out 0).trans rfl, (blk_cell BK568.out 1).trans rfl⟩ (fun hHeld => ?_)
      clear hK K
      refine norm_ (a' := ?_) ?_ ?_
      rotate_left
      ·show Act.put _ (some 28) _ = _
       simp only [Act.put, List.setIfInBounds_toArray, List.set_cons_zero, List.set_cons_succ]
       rfl
      refine one_ (i := 6) (N := some 29) #[true, true, true, true, true, true, true, false, false, false, false, false, false, false, false, false, false, false, false, false, false, false, false, false, false, false] rfl rfl (one_of HT_.out (by kernel_rfl)) (by decide) (fun K hK => ?_)
      refine goes_ Try.func26 (by kernel_rfl) rfl #[.agg #[.bool t569, .slice Ao58 t570.length co58], .agg #[.bool t573, .slice Ao59 t574.length co59]] (by rfl) rfl rfl (by (try simp only [List.map_toArray, List.map_cons, List.map_nil]); first | done | rfl | (simp only [List.length_drop, List.length_take]; rfl)) ?_
      with_reducible refine (isohyetlaw02_is.calls k t569 _ _ t570 t573 _ _ t574 true _ ?side1 ?side2 ?side3 ?side4 A46.out).mono ?_
      (case side1 => repeat (first | exact (Kd.V_reads' HO572.out).2.2 | apply Kd.C_alloc | apply Kd.C_drewN | apply Kd.C_drew))
      (case side2 => exact (Kd.V_reads' HO572.out).2.1)
      (case side3 => repeat (first | exact (Kd.V_reads' HO576.out).2.2 | apply Kd.C_alloc | apply Kd.C_drewN | apply Kd.C_drew))
      (case side4 => exact (Kd.V_reads' HO576.out).2.1)
      rintro e w60 ⟨rfl, hb⟩
      refine ⟨_, rfl, ?_⟩
      replace HO0_1 := aK (Kd.V_below (gV HO0_1.out) hb)
      replace HO1_1 := aK (Kd.V_below (gV HO1_1.out) hb)
      replace HO553 := aK (Kd.V_below (gV HO553.out) hb)
      replace HO557 := aK (Kd.V_below (gV HO557.out) hb)
      replace HO563 := aK (Kd.V_below (gV HO563.out) hb)
      replace HO567 := aK (Kd.V_below (gV HO567.out) hb)
      replace HO572 := aK (Kd.V_below (gV HO572.out) hb)
      replace HO576 := aK (Kd.V_below (gV HO576.out) hb)
      replace BK543 := aK (blk_below (gK BK543.out) hb)
      replace BK544 := aK (blk_below (gK BK544.out) hb)
      replace BK558 := aK (blk_below (gK BK558.out) hb)
      replace BK559 := aK (blk_below (gK BK559.out) hb)
      replace BK568 := aK (blk_below (gK BK568.out) hb)
      replace HB := aK (below_step (gB HB.out) hb)
      (try clear hb)
      (try clear hb2)
      (try clear hk)
      (try clear hi)
      refine hK.out _ _ ⟨(blk_cell BK543.out 0).trans rfl, (blk_cell BK543.out 1).trans rfl, (blk_cell BK544.out 0).trans rfl, (blk_cell BK544.out 1).trans rfl, (blk_cell BK558.out 0).trans rfl, (blk_cell BK558.out 1).trans rfl, (blk_cell BK559.out 0).trans rfl, (blk_cell BK559.out 1).trans rfl, (blk_cell BK568.out 0).trans rfl, (blk_cell BK568.out 1).trans rfl⟩ (fun hHeld => ?_)
      clear hK K
      refine norm_ (a' := ?_) ?_ ?_
      rotate_left
      ·show Act.put _ (some 29) _ = _
       simp only [Act.put, List.setIfInBounds_toArray, List.set_cons_zero, List.set_cons_succ]
       rfl
      refine pure_ (i := 7) (N := some 30) (v := ?_) (a' := ?_) #[true, true, true, true, true, true, true, true, false, false, false, false, false, false, false, false, false, false, false, false, false, false, false, false, false, false] rfl rfl (any_of HT_.out (by kernel_rfl)) (fun _ _ _ h => h) (Or.inl ⟨by rfl, ?_⟩) ?_ ?_
      rotate_left
      ·intro w'
       go_simp
       with_reducible rfl
      rotate_left
      ·simp only [Act.put, List.setIfInBounds_toArray, List.set_cons_zero, List.set_cons_succ]
       rfl
      refine pure_ (i := 8) (N := some 31) (v := ?_) (a' := ?_) #[true, true, true, true, true, true, true, true, true, false, false, false, false, false, false, false, false, false, false, false, false, false, false, false, false, false] rfl rfl (any_of HT_.out (by kernel_rfl)) (fun _ _ _ h => h) (Or.inl ⟨by rfl, ?_⟩) ?_ ?_
      rotate_left
      ·intro w'
       go_simp
       with_reducible rfl
      rotate_left
      ·simp only [Act.put, List.setIfInBounds_toArray, List.set_cons_zero, List.set_cons_succ]
       rfl
      refine take_ (i := 9) (N := some 32) (v := ?_) (a' := ?_) #[true, true, true, true, true, true, true, true, true, true, false, false, false, false, false, false, false, false, false, false, false, false, false, false, false, false] rfl rfl (take_ofW HT_.out HW_.out (by kernel_rfl)) (fun _ _ _ h => h) (Or.inl ⟨by rfl, ?_⟩) hHeld ?_ ?_
      rotate_left
      ·rintro w' ⟨s0, s1, s2, s3, s4, s5, s6, s7, s8, s9⟩
       go_simp
       with_reducible rfl
      rotate_left
      ·simp only [Act.put, List.setIfInBounds_toArray, List.set_cons_zero, List.set_cons_succ]
       rfl
      refine take_ (i := 10) (N := some 33) (v := ?_) (a' := ?_) #[true, true, true, true, true, true, true, true, true, true, true, false, false, false, false, false, false, false, false, false, false, false, false, false, false, false] rfl rfl (take_ofW HT_.out HW_.out (by kernel_rfl)) (fun _ _ _ h => h) (Or.inl ⟨by rfl, ?_⟩) hHeld ?_ ?_
      rotate_left
      ·rintro w' ⟨s0, s1, s2, s3, s4, s5, s6, s7, s8, s9⟩
       go_simp
       with_reducible rfl
      rotate_left
      ·simp only [Act.put, List.setIfInBounds_toArray, List.set_cons_zero, List.set_cons_succ]
       rfl
      refine take_ (i := 12) (N := some 35) (v := ?_) (a' := ?_) #[true, true, true, true, true, true, true, true, true, true, true, false, true, false, false, false, false, false, false, false, false, false, false, false, false, false] rfl rfl (take_ofW HT_.out HW_.out (by kernel_rfl)) (fun _ _ _ h => h) (Or.inl ⟨by rfl, ?_⟩) hHeld ?_ ?_
      rotate_left
      ·rintro w' ⟨s0, s1, s2, s3, s4, s5, s6, s7, s8, s9⟩
       go_simp
       with_reducible rfl
      rotate_left
      ·simp only [Act.put, List.setIfInBounds_toArray, List.set_cons_zero, List.set_cons_succ]
       rfl
      refine one_ (i := 11) (N := some 34) #[true, true, true, true, true, true, true, true, true, true, true, true, true, false, false, false, false, false, false, false, false, false, false, false, false, false] rfl rfl (one_of HT_.out (by kernel_rfl)) (by decide) (fun K hK => ?_)
      refine goes_ Try.func16 (by kernel_rfl) rfl #[.agg #[.bool a0_0, .slice A0_1 l0_1.length c0_1], .agg #[.bool a1_0, .slice A1_1 l1_1.length c1_1]] (by rfl) rfl rfl (by (try simp only [List.map_toArray, List.map_cons, List.map_nil]); first | done | rfl | (simp only [List.length_drop, List.length_take]; rfl)) ?_
      with_reducible refine (num_Sub.calls k a0_0 (fun k_ => (((P0_1_ k_ ∨ P1_1_ k_) ∨ w.heap.size ≤ k_) ∧ (k_ ≠ gb543 ∧ (k_ ≠ gb544 ∧ (k_ ≠ gb558 ∧ (k_ ≠ gb559 ∧ k_ ≠ gb568)))))) _ _ l0_1 a1_0 (fun k_ => (((P0_1_ k_ ∨ P1_1_ k_) ∨ w.heap.size ≤ k_) ∧ (k_ ≠ gb543 ∧ (k_ ≠ gb544 ∧ (k_ ≠ gb558 ∧ (k_ ≠ gb559 ∧ k_ ≠ gb568)))))) _ _ l1_1 t578 t579 _ ?side1 ?side2 A48.out).mono ?_
      (case side1 => exact HO0_1.out)
      (case side2 => exact HO1_1.out)
      rintro e w61 ⟨v580, rfl, ho0, hb⟩
      refine ⟨_, rfl, ?_⟩
      replace HO0_1 := aK (Kd.V_below (gV HO0_1.out) hb)
      replace HO1_1 := aK (Kd.V_below (gV HO1_1.out) hb)
      replace HO553 := aK (Kd.V_below (gV HO553.out) hb)
      replace HO557 := aK (Kd.V_below (gV HO557.out) hb)
      replace HO563 := aK (Kd.V_below (gV HO563.out) hb)
      replace HO567 := aK (Kd.V_below (gV HO567.out) hb)
      replace HO572 := aK (Kd.V_below (gV HO572.out) hb)
      replace HO576 := aK (Kd.V_below (gV HO576.out) hb)
      have HO581 := aK (Kd.V_lower (Kd.V_mono (ok' := fun k_ => ((P0_1_ k_ ∨ P1_1_ k_) ∨ w.heap.size ≤ k_) ∧ k_ ≠ gb543 ∧ k_ ≠ gb544 ∧ k_ ≠ gb558 ∧ k_ ≠ gb559 ∧ k_ ≠ gb568) ho0 (fun k_ hk_ => ⟨Or.elim hk_ (fun hs_ => Or.elim hs_ (fun hs_ => hs_.1) (fun hs_ => hs_.1)) (fun hn_ => (.inr (Nat.le_trans (below_size (gB HB.out)) hn_))), Or.elim hk_ (fun hs_ => Or.elim hs_ (fun hs_ => hs_.2.1) (fun hs_ => hs_.2.1)) (fun hn_ => (Kd.freshB (g := gb543) (o := .cells #[.bool a0_0, .slice A0_1 l0_1.length c0_1] 25 (0, 0)) (gK BK543.out) k_ hn_)), Or.elim hk_ (fun hs_ => Or.elim hs_ (fun hs_ => hs_.2.2.1) (fun hs_ => hs_.2.2.1)) (fun hn_ => (Kd.freshB (g := gb544) (o := .cells #[.bool a1_0, .slice A1_1 l1_1.length c1_1] 25 (0, 0)) (gK BK544.out) k_ hn_)), Or.elim hk_ (fun hs_ => Or.elim hs_ (fun hs_ => hs_.2.2.2.1) (fun hs_ => hs_.2.2.2.1)) (fun hn_ => (Kd.freshB (g := gb558) (o := .cells #[.bool t550, .slice Ao29 t551.length co29] 44 (0, 0)) (gK BK558.out) k_ hn_)), Or.elim hk_ (fun hs_ => Or.elim hs_ (fun hs_ => hs_.2.2.2.2.1) (fun hs_ => hs_.2.2.2.2.1)) (fun hn_ => (Kd.freshB (g := gb559) (o := .cells #[.bool t554, .slice Ao32 t555.length co32] 44 (0, 0)) (gK BK559.out) k_ hn_)), Or.elim hk_ (fun hs_ => Or.elim hs_ (fun hs_ => hs_.2.2.2.2.2) (fun hs_ => hs_.2.2.2.2.2)) (fun hn_ => (Kd.freshB (g := gb568) (o := .cells #[.bool t564, .slice Ao42 t565.length co42] 44 (0, 0)) (gK BK568.out) k_ hn_))⟩)) (below_size (gB HB.out)))
      have n9_ := aK (blk_below (gK BK543.out) hb)
      have n10_ := aK (blk_below (gK BK544.out) hb)
      have n11_ := aK (blk_below (gK BK558.out) hb)
      have n12_ := aK (blk_below (gK BK559.out) hb)
      have n13_ := aK (blk_below (gK BK568.out) hb)
      have n14_ := aK (below_step (gB HB.out) hb)
      clear BK543 BK544 BK558 BK559 BK568 HB
      have BK543 := n9_
      have BK544 := n10_
      have BK558 := n11_
      have BK559 := n12_
      have BK568 := n13_
      have HB := n14_
      clear n9_ n10_ n11_ n12_ n13_ n14_
      (try clear hb)
      (try clear hb2)
      (try clear hk)
      (try clear hi)
      (try clear ho0)
      obtain ⟨Ao62, co62, eo62⟩ := Kd.V_slice HO581.out
      (first | subst eo62 | (injection eo62 with f1_ f2_ f3_; have f4_ := f1_.symm; have f5_ := f3_.symm; clear f1_ f2_ f3_; subst f4_; subst f5_))
      refine hK.out _ _ ⟨(blk_cell BK543.out 0).trans rfl, (blk_cell BK543.out 1).trans rfl, (blk_cell BK544.out 0).trans rfl, (blk_cell BK544.out 1).trans rfl, (blk_cell BK558.out 0).trans rfl, (blk_cell BK558.out 1).trans rfl, (blk_cell BK559.out 0).trans rfl, (blk_cell BK559.out 1).trans rfl, (blk_cell BK568.out 0).trans rfl, (blk_cell BK568.out 1).trans rfl⟩ (fun hHeld => ?_)
      clear hK K
      refine norm_ (a' := ?_) ?_ ?_
      rotate_left
      ·show Act.put _ (some 34) _ = _
       simp only [Act.put, List.setIfInBounds_toArray, List.set_cons_zero, List.set_cons_succ]
       rfl
      refine one_ (i := 13) (N := some 36) #[true, true, true, true, true, true, true, true, true, true, true, true, true, true, false, false, false, false, false, false, false, false, false, false, false, false] rfl rfl (one_of HT_.out (by kernel_rfl)) (by decide) (fun K hK => ?_)
      refine goes_ Try.func26 (by kernel_rfl) rfl #[.agg #[.bool t578, .slice Ao62 t579.length co62], .agg #[.bool t564, .slice Ao42 t565.length co42]] (by rfl) rfl rfl (by (try simp only [List.map_toArray, List.map_cons, List.map_nil]); first | done | rfl | (simp only [List.length_drop, List.length_take]; rfl)) ?_
      with_reducible refine (isohyetlaw02_is.calls k t578 _ _ t579 t564 _ _ t565 true _ ?side1 ?side2 ?side3 ?side4 A49.out).mono ?_
      (case side1 => repeat (first | exact (Kd.V_reads' HO581.out).2.2 | apply Kd.C_alloc | apply Kd.C_drewN | apply Kd.C_drew))
      (case side2 => exact (Kd.V_reads' HO581.out).2.1)
      (case side3 => repeat (first | exact (Kd.V_reads' HO567.out).2.2 | apply Kd.C_alloc | apply Kd.C_drewN | apply Kd.C_drew))
      (case side4 => exact (Kd.V_reads' HO567.out).2.1)
      rintro e w63 ⟨rfl, hb⟩
      refine ⟨_, rfl, ?_⟩
      replace HO0_1 := aK (Kd.V_below (gV HO0_1.out) hb)
      replace HO1_1 := aK (Kd.V_below (gV HO1_1.out) hb)
      replace HO553 := aK (Kd.V_below (gV HO553.out) hb)
      replace HO557 := aK (Kd.V_below (gV HO557.out) hb)
      replace HO563 := aK (Kd.V_below (gV HO563.out) hb)
      replace HO567 := aK (Kd.V_below (gV HO567.out) hb)
      replace HO572 := aK (Kd.V_below (gV HO572.out) hb)
      replace HO576 := aK (Kd.V_below (gV HO576.out) hb)
      replace HO581 := aK (Kd.V_below (gV HO581.out) hb)
      replace BK543 := aK (blk_below (gK BK543.out) hb)
      replace BK544 := aK (blk_below (gK BK544.out) hb)
      replace BK558 := aK (blk_below (gK BK558.out) hb)
      replace BK559 := aK (blk_below (gK BK559.out) hb)
      replace BK568 := aK (blk_below (gK BK568.out) hb)
      replace HB := aK (below_step (gB HB.out) hb)
      (try clear hb)
      (try clear hb2)
      (try clear hk)
      (try clear hi)
      refine hK.out _ _ ⟨(blk_cell BK543.out 0).trans rfl, (blk_cell BK543.out 1).trans rfl, (blk_cell BK544.out 0).trans rfl, (blk_cell BK544.out 1).trans rfl, (blk_cell BK558.out 0).trans rfl, (blk_cell BK558.out 1).trans rfl, (blk_cell BK559.out 0).trans rfl, (blk_cell BK559.out 1).trans rfl, (blk_cell BK568.out 0).trans rfl, (blk_cell BK568.out 1).trans rfl⟩ (fun hHeld => ?_)
      clear hK K
      refine norm_ (a' := ?_) ?_ ?_
      rotate_left
      ·show Act.put _ (some 36) _ = _
       simp only [Act.put, List.setIfInBounds_toArray, List.set_cons_zero, List.set_cons_succ]
       rfl
      refine pure_ (i := 14) (N := some 37) (v := ?_) (a' := ?_) #[true, true, true, true, true, true, true, true, true, true, true, true, true, true, true, false, false, false, false, false, false, false, false, false, false, false] rfl rfl (any_of HT_.out (by kernel_rfl)) (fun _ _ _ h => h) (Or.inl ⟨by rfl, ?_⟩) ?_ ?_
      rotate_left
      ·intro w'
       go_simp
       with_reducible rfl
      rotate_left
      ·simp only [Act.put, List.setIfInBounds_toArray, List.set_cons_zero, List.set_cons_succ]
       rfl
      refine pure_ (i := 15) (N := some 38) (v := ?_) (a' := ?_) #[true, true, true, true, true, true, true, true, true, true, true, true, true, true, true, true, false, false, false, false, false, false, false, false, false, false] rfl rfl (any_of HT_.out (by kernel_rfl)) (fun _ _ _ h => h) (Or.inl ⟨by rfl, ?_⟩) ?_ ?_
      rotate_left
      ·intro w'
       go_simp
       with_reducible rfl
      rotate_left
      ·simp only [Act.put, List.setIfInBounds_toArray, List.set_cons_zero, List.set_cons_succ]
       rfl
      refine pure_ (i := 16) (N := some 39) (v := ?_) (a' := ?_) #[true, true, true, true, true, true, true, true, true, true, true, true, true, true, true, true, true, false, false, false, false, false, false, false, false, false] rfl rfl (any_of HT_.out (by kernel_rfl)) (fun _ _ _ h => h) (Or.inl ⟨by rfl, ?_⟩) ?_ ?_
      rotate_left
      ·intro w'
       go_simp
       with_reducible rfl
      rotate_left
      ·simp only [Act.put, List.setIfInBounds_toArray, List.set_cons_zero, List.set_cons_succ]
       rfl
      refine take_ (i := 17) (N := some 40) (v := ?_) (a' := ?_) #[true, true, true, true, true, true, true, true, true, true, true, true, true, true, true, true, true, true, false, false, false, false, false, false, false, false] rfl rfl (take_ofW HT_.out HW_.out (by kernel_rfl)) (fun _ _ _ h => h) (Or.inl ⟨by rfl, ?_⟩) hHeld ?_ ?_
      rotate_left
      ·rintro w' ⟨s0, s1, s2, s3, s4, s5, s6, s7, s8, s9⟩
       go_simp
       with_reducible rfl
      rotate_left
      ·simp only [Act.put, List.setIfInBounds_toArray, List.set_cons_zero, List.set_cons_succ]
       rfl
      refine take_ (i := 18) (N := some 41) (v := ?_) (a' := ?_) #[true, true, true, true, true, true, true, true, true, true, true, true, true, true, true, true, true, true, true, false, false, false, false, false, false, false] rfl rfl (take_ofW HT_.out HW_.out (by kernel_rfl)) (fun _ _ _ h => h) (Or.inl ⟨by rfl, ?_⟩) hHeld ?_ ?_
      rotate_left
      ·rintro w' ⟨s0, s1, s2, s3, s4, s5, s6, s7, s8, s9⟩
       go_simp
       with_reducible rfl
      rotate_left
      ·simp only [Act.put, List.setIfInBounds_toArray, List.set_cons_zero, List.set_cons_succ]
       rfl
      refine take_ (i := 20) (N := some 43) (v := ?_) (a' := ?_) #[true, true, true, true, true, true, true, true, true, true, true, true, true, true, true, true, true, true, true, false, true, false, false, false, false, false] rfl rfl (take_ofW HT_.out HW_.out (by kernel_rfl)) (fun _ _ _ h => h) (Or.inl ⟨by rfl, ?_⟩) hHeld ?_ ?_
      rotate_left
      ·rintro w' ⟨s0, s1, s2, s3, s4, s5, s6, s7, s8, s9⟩
       go_simp
       with_reducible rfl
      rotate_left
      ·simp only [Act.put, List.setIfInBounds_toArray, List.set_cons_zero, List.set_cons_succ]
       rfl
      refine take_ (i := 21) (N := some 44) (v := ?_) (a' := ?_) #[true, true, true, true, true, true, true, true, true, true, true, true, true, true, true, true, true, true, true, false, true, true, false, false, false, false] rfl rfl (take_ofW HT_.out HW_.out (by kernel_rfl)) (fun _ _ _ h => h) (Or.inl ⟨by rfl, ?_⟩) hHeld ?_ ?_
      rotate_left
      ·rintro w' ⟨s0, s1, s2, s3, s4, s5, s6, s7, s8, s9⟩
       go_simp
       with_reducible rfl
      rotate_left
      ·simp only [Act.put, List.setIfInBounds_toArray, List.set_cons_zero, List.set_cons_succ]
       rfl
      refine one_ (i := 19) (N := some 42) #[true, true, true, true, true, true, true, true, true, true, true, true, true, true, true, true, true, true, true, true, true, true, false, false, false, false] rfl rfl (one_of HT_.out (by kernel_rfl)) (by decide) (fun K hK => ?_)
      refine goes_ Try.func20 (by kernel_rfl) rfl #[.agg #[.bool a0_0, .slice A0_1 l0_1.length c0_1], .agg #[.bool a1_0, .slice A1_1 l1_1.length c1_1]] (by rfl) rfl rfl (by (try simp only [List.map_toArray, List.map_cons, List.map_nil]); first | done | rfl | (simp only [List.length_drop, List.length_take]; rfl)) ?_
      with_reducible refine (num_Mul.calls k a0_0 _ _ l0_1 a1_0 _ _ l1_1 t583 t584 _ ?side1 ?side2 ?side3 ?side4 A51.out).mono ?_
      (case side1 => repeat (first | exact (Kd.V_reads' HO0_1.out).2.2 | apply Kd.C_alloc | apply Kd.C_drewN | apply Kd.C_drew))
      (case side2 => exact (Kd.V_reads' HO0_1.out).2.1)
      (case side3 => repeat (first | exact (Kd.V_reads' HO1_1.out).2.2 | apply Kd.C_alloc | apply Kd.C_drewN | apply Kd.C_drew))
      (case side4 => exact (Kd.V_reads' HO1_1.out).2.1)
      rintro e w64 ⟨v585, rfl, ho0, hb⟩
      refine ⟨_, rfl, ?_⟩
      replace HO0_1 := aK (Kd.V_below (gV HO0_1.out) hb)
      replace HO1_1 := aK (Kd.V_below (gV HO1_1.out) hb)
      replace HO553 := aK (Kd.V_below (gV HO553.out) hb)
      replace HO557 := aK (Kd.V_below (gV HO557.out) hb)
      replace HO563 := aK (Kd.V_below (gV HO563.out) hb)
      replace HO567 := aK (Kd.V_below (gV HO567.out) hb)
      replace HO572 := aK (Kd.V_below (gV HO572.out) hb)
      replace HO576 := aK (Kd.V_below (gV HO576.out) hb)
      replace HO581 := aK (Kd.V_below (gV HO581.out) hb)
      have HO586 := aK (Kd.V_lower (Kd.V_mono (ok' := fun k_ => ((P0_1_ k_ ∨ P1_1_ k_) ∨ w.heap.size ≤ k_) ∧ k_ ≠ gb543 ∧ k_ ≠ gb544 ∧ k_ ≠ gb558 ∧ k_ ≠ gb559 ∧ k_ ≠ gb568) ho0 (fun k_ hk_ => ⟨(.inr (Nat.le_trans (below_size (gB HB.out)) hk_)), (Kd.freshB (g := gb543) (o := .cells #[.bool a0_0, .slice A0_1 l0_1.length c0_1] 25 (0, 0)) (gK BK543.out) k_ hk_), (Kd.freshB (g := gb544) (o := .cells #[.bool a1_0, .slice A1_1 l1_1.length c1_1] 25 (0, 0)) (gK BK544.out) k_ hk_), (Kd.freshB (g := gb558) (o := .cells #[.bool t550, .slice Ao29 t551.length co29] 44 (0, 0)) (gK BK558.out) k_ hk_), (Kd.freshB (g := gb559) (o := .cells #[.bool t554, .slice Ao32 t555.length co32] 44 (0, 0)) (gK BK559.out) k_ hk_), (Kd.freshB (g := gb568) (o := .cells #[.bool t564, .slice Ao42 t565.length co42] 44 (0, 0)) (gK BK568.out) k_ hk_)⟩)) (below_size (gB HB.out)))
      have n10_ := aK (blk_below (gK BK543.out) hb)
      have n11_ := aK (blk_below (gK BK544.out) hb)
      have n12_ := aK (blk_below (gK BK558.out) hb)
      have n13_ := aK (blk_below (gK BK559.out) hb)
      have n14_ := aK (blk_below (gK BK568.out) hb)
      have n15_ := aK (below_step (gB HB.out) hb)
      clear BK543 BK544 BK558 BK559 BK568 HB
      have BK543 := n10_
      have BK544 := n11_
      have BK558 := n12_
      have BK559 := n13_
      have BK568 := n14_
      have HB := n15_
      clear n10_ n11_ n12_ n13_ n14_ n15_
      (try clear hb)
      (try clear hb2)
      (try clear hk)
      (try clear hi)
      (try clear ho0)
      refine hK.out _ _ ⟨(blk_cell BK543.out 0).trans rfl, (blk_cell BK543.out 1).trans rfl, (blk_cell BK544.out 0).trans rfl, (blk_cell BK544.out 1).trans rfl, (blk_cell BK558.out 0).trans rfl, (blk_cell BK558.out 1).trans rfl, (blk_cell BK559.out 0).trans rfl, (blk_cell BK559.out 1).trans rfl, (blk_cell BK568.out 0).trans rfl, (blk_cell BK568.out 1).trans rfl⟩ (fun hHeld => ?_)
      clear hK K
      refine norm_ (a' := ?_) ?_ ?_
      rotate_left
      ·show Act.put _ (some 42) _ = _
       simp only [Act.put, List.setIfInBounds_toArray, List.set_cons_zero, List.set_cons_succ]
       rfl
      refine one_ (i := 22) (N := some 45) #[true, true, true, true, true, true, true, true, true, true, true, true, true, true, true, true, true, true, true, true, true, true, true, false, false, false] rfl rfl (one_of HT_.out (by kernel_rfl)) (by decide) (fun K hK => ?_)
      refine goes_ Try.func27 (by kernel_rfl) rfl #[.agg #[.bool t550, .slice Ao29 t551.length co29], .agg #[.bool t554, .slice Ao32 t555.length co32]] (by rfl) rfl rfl (by (try simp only [List.map_toArray, List.map_cons, List.map_nil]); first | done | rfl | (simp only [List.length_drop, List.length_take]; rfl)) ?_
      with_reducible refine (isohyetref02_Mul.calls k t550 _ _ t551 t554 _ _ t555 t587 t588 _ ?side1 ?side2 ?side3 ?side4 A52.out).mono ?_
      (case side1 => repeat (first | exact (Kd.V_reads' HO553.out).2.2 | apply Kd.C_alloc | apply Kd.C_drewN | apply Kd.C_drew))
      (case side2 => exact (Kd.V_reads' HO553.out).2.1)
      (case side3 => repeat (first | exact (Kd.V_reads' HO557.out).2.2 | apply Kd.C_alloc | apply Kd.C_drewN | apply Kd.C_drew))
      (case side4 => exact (Kd.V_reads' HO557.out).2.1)
      rintro e w65 ⟨v589, rfl, ho0, hb⟩
      refine ⟨_, rfl, ?_⟩
      replace HO0_1 := aK (Kd.V_below (gV HO0_1.out) hb)
      replace HO1_1 := aK (Kd.V_below (gV HO1_1.out) hb)
      replace HO553 := aK (Kd.V_below (gV HO553.out) hb)
      replace HO557 := aK (Kd.V_below (gV HO557.out) hb)
      replace HO563 := aK (Kd.V_below (gV HO563.out) hb)
      replace HO567 := aK (Kd.V_below (gV HO567.out) hb)
      replace HO572 := aK (Kd.V_below (gV HO572.out) hb)
      replace HO576 := aK (Kd.V_below (gV HO576.out) hb)
      replace HO581 := aK (Kd.V_below (gV HO581.out) hb)
      replace HO586 := aK (Kd.V_below (gV HO586.out) hb)
      have HO590 := aK (Kd.V_lower (Kd.V_mono (ok' := fun k_ => ((P0_1_ k_ ∨ P1_1_ k_) ∨ w.heap.size ≤ k_) ∧ k_ ≠ gb543 ∧ k_ ≠ gb544 ∧ k_ ≠ gb558 ∧ k_ ≠ gb559 ∧ k_ ≠ gb568) ho0 (fun k_ hk_ => ⟨(.inr (Nat.le_trans (below_size (gB HB.out)) hk_)), (Kd.freshB (g := gb543) (o := .cells #[.bool a0_0, .slice A0_1 l0_1.length c0_1] 25 (0, 0)) (gK BK543.out) k_ hk_), (Kd.freshB (g := gb544) (o := .cells #[.bool a1_0, .slice A1_1 l1_1.length c1_1] 25 (0, 0)) (gK BK544.out) k_ hk_), (Kd.freshB (g := gb558) (o := .cells #[.bool t550, .slice Ao29 t551.length co29] 44 (0, 0)) (gK BK558.out) k_ hk_), (Kd.freshB (g := gb559) (o := .cells #[.bool t554, .slice Ao32 t555.length co32] 44 (0, 0)) (gK BK559.out) k_ hk_), (Kd.freshB (g := gb568) (o := .cells #[.bool t564, .slice Ao42 t565.length co42] 44 (0, 0)) (gK BK568.out) k_ hk_)⟩)) (below_size (gB HB.out)))
      have n11_ := aK (blk_below (gK BK543.out) hb)
      have n12_ := aK (blk_below (gK BK544.out) hb)
      have n13_ := aK (blk_below (gK BK558.out) hb)
      have n14_ := aK (blk_below (gK BK559.out) hb)
      have n15_ := aK (blk_below (gK BK568.out) hb)
      have n16_ := aK (below_step (gB HB.out) hb)
      clear BK543 BK544 BK558 BK559 BK568 HB
      have BK543 := n11_
      have BK544 := n12_
      have BK558 := n13_
      have BK559 := n14_
      have BK568 := n15_
      have HB := n16_
      clear n11_ n12_ n13_ n14_ n15_ n16_
      (try clear hb)
      (try clear hb2)
      (try clear hk)
      (try clear hi)
      (try clear ho0)
      obtain ⟨Ao66, co66, eo66⟩ := Kd.V_slice HO586.out
      (first | subst eo66 | (injection eo66 with f1_ f2_ f3_; have f4_ := f1_.symm; have f5_ := f3_.symm; clear f1_ f2_ f3_; subst f4_; subst f5_))
      obtain ⟨Ao67, co67, eo67⟩ := Kd.V_slice HO590.out
      (first | subst eo67 | (injection eo67 with f1_ f2_ f3_; have f4_ := f1_.symm; have f5_ := f3_.symm; clear f1_ f2_ f3_; subst f4_; subst f5_))
      refine hK.out _ _ ⟨(blk_cell BK543.out 0).trans rfl, (blk_cell BK543.out 1).trans rfl, (blk_cell BK544.out 0).trans rfl, (blk_cell BK544.out 1).trans rfl, (blk_cell BK558.out 0).trans rfl, (blk_cell BK558.out 1).trans rfl, (blk_cell BK559.out 0).trans rfl, (blk_cell BK559.out 1).trans rfl, (blk_cell BK568.out 0).trans rfl, (blk_cell BK568.out 1).trans rfl⟩ (fun hHeld => ?_)
      clear hK K
      refine norm_ (a' := ?_) ?_ ?_
      rotate_left
      ·show Act.put _ (some 45) _ = _
       simp only [Act.put, List.setIfInBounds_toArray, List.set_cons_zero, List.set_cons_succ]
       rfl
      refine one_ (i := 23) (N := some 46) #[true, true, true, true, true, true, true, true, true, true, true, true, true, true, true, true, true, true, true, true, true, true, true, true, false, false] rfl rfl (one_of HT_.out (by kernel_rfl)) (by decide) (fun K hK => ?_)
      refine goes_ Try.func26 (by kernel_rfl) rfl #[.agg #[.bool t583, .slice Ao66 t584.length co66], .agg #[.bool t587, .slice Ao67 t588.length co67]] (by rfl) rfl rfl (by (try simp only [List.map_toArray, List.map_cons, List.map_nil]); first | done | rfl | (simp only [List.length_drop, List.length_take]; rfl)) ?_
      with_reducible refine (isohyetlaw02_is.calls k t583 _ _ t584 t587 _ _ t588 t591 _ ?side1 ?side2 ?side3 ?side4 A53.out).mono ?_
      (case side1 => repeat (first | exact (Kd.V_reads' HO586.out).2.2 | apply Kd.C_alloc | apply Kd.C_drewN | apply Kd.C_drew))
      (case side2 => exact (Kd.V_reads' HO586.out).2.1)
      (case side3 => repeat (first | exact (Kd.V_reads' HO590.out).2.2 | apply Kd.C_alloc | apply Kd.C_drewN | apply Kd.C_drew))
      (case side4 => exact (Kd.V_reads' HO590.out).2.1)
      rintro e w68 ⟨rfl, hb⟩
      refine ⟨_, rfl, ?_⟩
      replace HO0_1 := aK (Kd.V_below (gV HO0_1.out) hb)
      replace HO1_1 := aK (Kd.V_below (gV HO1_1.out) hb)
      replace HO553 := aK (Kd.V_below (gV HO553.out) hb)
      replace HO557 := aK (Kd.V_below (gV HO557.out) hb)
      replace HO563 := aK (Kd.V_below (gV HO563.out) hb)
      replace HO567 := aK (Kd.V_below (gV HO567.out) hb)
      replace HO572 := aK (Kd.V_below (gV HO572.out) hb)
      replace HO576 := aK (Kd.V_below (gV HO576.out) hb)
      replace HO581 := aK (Kd.V_below (gV HO581.out) hb)
      replace HO586 := aK (Kd.V_below (gV HO586.out) hb)
      replace HO590 := aK (Kd.V_below (gV HO590.out) hb)
      replace BK543 := aK (blk_below (gK BK543.out) hb)
      replace BK544 := aK (blk_below (gK BK544.out) hb)
      replace BK558 := aK (blk_below (gK BK558.out) hb)
      replace BK559 := aK (blk_below (gK BK559.out) hb)
      replace BK568 := aK (blk_below (gK BK568.out) hb)
      replace HB := aK (below_step (gB HB.out) hb)
      (try clear hb)
      (try clear hb2)
      (try clear hk)
      (try clear hi)
      refine hK.out _ _ ⟨(blk_cell BK543.out 0).trans rfl, (blk_cell BK543.out 1).trans rfl, (blk_cell BK544.out 0).trans rfl, (blk_cell BK544.out 1).trans rfl, (blk_cell BK558.out 0).trans rfl, (blk_cell BK558.out 1).trans rfl, (blk_cell BK559.out 0).trans rfl, (blk_cell BK559.out 1).trans rfl, (blk_cell BK568.out 0).trans rfl, (blk_cell BK568.out 1).trans rfl⟩ (fun hHeld => ?_)
      clear hK K
      refine norm_ (a' := ?_) ?_ ?_
      rotate_left
      ·show Act.put _ (some 46) _ = _
       simp only [Act.put, List.setIfInBounds_toArray, List.set_cons_zero, List.set_cons_succ]
       rfl
      refine pure_ (i := 24) (N := some 47) (v := ?_) (a' := ?_) #[true, true, true, true, true, true, true, true, true, true, true, true, true, true, true, true, true, true, true, true, true, true, true, true, true, false] rfl rfl (any_of HT_.out (by kernel_rfl)) (fun _ _ _ h => h) (Or.inl ⟨by rfl, ?_⟩) ?_ ?_
      rotate_left
      ·intro w'
       go_simp
       with_reducible rfl
      rotate_left
      ·simp only [Act.put, List.setIfInBounds_toArray, List.set_cons_zero, List.set_cons_succ]
       rfl
      refine pure_ (i := 25) (N := some 48) (v := ?_) (a' := ?_) #[true, true, true, true, true, true, true, true, true, true, true, true, true, true, true, true, true, true, true, true, true, true, true, true, true, true] rfl rfl (any_of HT_.out (by kernel_rfl)) (fun _ _ _ h => h) (Or.inl ⟨by rfl, ?_⟩) ?_ ?_
      rotate_left
      ·intro w'
       go_simp
       with_reducible rfl
      rotate_left
      ·simp only [Act.put, List.setIfInBounds_toArray, List.set_cons_zero, List.set_cons_succ]
       rfl
      refine done_ (done_of HT_.out (by kernel_rfl)) ?_
      try go_wp2
      go_meet
      case rel => exact ⟨_, (!t591), (by first | rfl | (simp; done) | (simp [*]; done)), H', ⟨by first | omega | exact Nat.le_refl _⟩, ⟨gV HO0_1.out⟩, ⟨gV HO1_1.out⟩, ⟨gV HO553.out⟩, ⟨gV HO557.out⟩, ⟨gV HO567.out⟩, ⟨gK BK543.out⟩, ⟨gK BK544.out⟩, ⟨gK BK558.out⟩, ⟨gK BK559.out⟩, ⟨gK BK568.out⟩, ⟨gB HB.out⟩⟩
     ·replace c50 := Bool.eq_false_iff.mpr c50
      subst c50
      have H1 : (isohyetlaw02_NumAdds.j0 k true a0_0 l0_1 a1_0 l1_1 t550 t551 t564 t565) = some r := by rw [if_neg (show ¬ (false = true) by decide)] at H; exact H
      exact absurd H1 (by subst HTRUE; cases k <;> simp [isohyetlaw02_NumAdds.j0])
    ·replace c47 := Bool.eq_false_iff.mpr c47
     subst c47
     have H1 : (isohyetlaw02_NumAdds.j0 k true a0_0 l0_1 a1_0 l1_1 t550 t551 t564 t565) = some r := by rw [if_neg (show ¬ (false = true) by decide)] at H; exact H
     exact absurd H1 (by subst HTRUE; cases k <;> simp [isohyetlaw02_NumAdds.j0])
   case rest =>
    clear HC11
    try clear c1
    try clear c2
    try clear p2
    try clear c4
    try clear c17
    try clear c24
    try clear c26
    try clear c47
    obtain ⟨kq, x48_10, rfl, HA, HJ10, HO_544001, HO_545001, HO_559001, HO_560001, HO_569001, BK543, BK544, BK558, BK559, BK568, HB⟩ := hcut
    cases kq with
    | zero => exact absurd HA.out (by simp [isohyetlaw02_NumAdds.j0])
    | succ kj10 =>
     have H := HA.out
     clear HA
     simp only [isohyetlaw02_NumAdds.j0] at H
     by_cases c86 : x48_10 = true
     ·subst c86
      replace H : (some false) = some r := by rw [if_pos rfl] at H; exact H
      exact absurd ((Option.some.inj H).trans HTRUE) (by decide)
     ·replace c86 := Bool.eq_false_iff.mpr c86
      subst c86
      replace H : ((num_Cmp.f kj10 a0_0 l0_1 a1_0 l1_1).bind fun t592 => ((isohyetref02_Sign.f t564 t565).bind fun t593 => (if t592 = t593 then ((num_Sign.f kj10 a0_0 l0_1).bind fun t594 => ((isohyetref02_Sign.f t550 t551).bind fun t595 => (if t594 = t595 then ((num_Neg.f kj10 a0_0 l0_1).bind fun bt596 => ((isohyetref02_Neg.f t550 t551).bind fun bt600 => ((isohyetlaw02_is.f kj10 bt596.1 bt596.2 bt600.1 bt600.2).bind fun t604 => (if t604 = true then ((num_Abs.f kj10 a0_0 l0_1).bind fun bt605 => ((isohyetref02_Of.f false t551).bind fun bt609 => ((isohyetlaw02_is.f kj10 bt605.1 bt605.2 bt609.1 bt609.2).bind fun t613 => (some t613)))) else (some false))))) else (some false)))) else (some false)))) = some r := by rw [if_neg (show ¬ (false = true) by decide)] at H; exact H
      obtain ⟨t592, A870, H⟩ := Option.bind_eq_some_iff.mp H
      replace H : ((isohyetref02_Sign.f t564 t565).bind fun t593 => (if t592 = t593 then ((num_Sign.f kj10 a0_0 l0_1).bind fun t594 => ((isohyetref02_Sign.f t550 t551).bind fun t595 => (if t594 = t595 then ((num_Neg.f kj10 a0_0 l0_1).bind fun bt596 => ((isohyetref02_Neg.f t550 t551).bind fun bt600 => ((isohyetlaw02_is.f kj10 bt596.1 bt596.2 bt600.1 bt600.2).bind fun t604 => (if t604 = true then ((num_Abs.f kj10 a0_0 l0_1).bind fun bt605 => ((isohyetref02_Of.f false t551).bind fun bt609 => ((isohyetlaw02_is.f kj10 bt605.1 bt605.2 bt609.1 bt609.2).bind fun t613 => (some t613)))) else (some false))))) else (some false)))) else (some false))) = some r := H
      have A87 := aK A870
      clear A870
      obtain ⟨t593, A880, H⟩ := Option.bind_eq_some_iff.mp H
      replace H : (if t592 = t593 then ((num_Sign.f kj10 a0_0 l0_1).bind fun t594 => ((isohyetref02_Sign.f t550 t551).bind fun t595 => (if t594 = t595 then ((num_Neg.f kj10 a0_0 l0_1).bind fun bt596 => ((isohyetref02_Neg.f t550 t551).bind fun bt600 => ((isohyetlaw02_is.f kj10 bt596.1 bt596.2 bt600.1 bt600.2).bind fun t604 => (if t604 = true then ((num_Abs.f kj10 a0_0 l0_1).bind fun bt605 => ((isohyetref02_Of.f false t551).bind fun bt609 => ((isohyetlaw02_is.f kj10 bt605.1 bt605.2 bt609.1 bt609.2).bind fun t613 => (some t613)))) else (some false))))) else (some false)))) else (some false)) = some r := H
      have A88 := aK A880
      clear A880
      by_cases c89 : t592 = t593
      ·rw [if_pos c89] at H
       have c89b0 : (t592 == t593) = true := beq_iff_eq.mpr c89
       have c89b1 : (t592 != t593) = false := bne_eq_false_iff_eq.mpr c89
       clear c89
       obtain ⟨t594, A900, H⟩ := Option.bind_eq_some_iff.mp H
       replace H : ((isohyetref02_Sign.f t550 t551).bind fun t595 => (if t594 = t595 then ((num_Neg.f kj10 a0_0 l0_1).bind fun bt596 => ((isohyetref02_Neg.f t550 t551).bind fun bt600 => ((isohyetlaw02_is.f kj10 bt596.1 bt596.2 bt600.1 bt600.2).bind fun t604 => (if t604 = true then ((num_Abs.f kj10 a0_0 l0_1).bind fun bt605 => ((isohyetref02_Of.f false t551).bind fun bt609 => ((isohyetlaw02_is.f kj10 bt605.1 bt605.2 bt609.1 bt609.2).bind fun t613 => (some t613)))) else (some false))))) else (some false))) = some r := H
       have A90 := aK A900
       clear A900
       obtain ⟨t595, A910, H⟩ := Option.bind_eq_some_iff.mp H
       replace H : (if t594 = t595 then ((num_Neg.f kj10 a0_0 l0_1).bind fun bt596 => ((isohyetref02_Neg.f t550 t551).bind fun bt600 => ((isohyetlaw02_is.f kj10 bt596.1 bt596.2 bt600.1 bt600.2).bind fun t604 => (if t604 = true then ((num_Abs.f kj10 a0_0 l0_1).bind fun bt605 => ((isohyetref02_Of.f false t551).bind fun bt609 => ((isohyetlaw02_is.f kj10 bt605.1 bt605.2 bt609.1 bt609.2).bind fun t613 => (some t613)))) else (some false))))) else (some false)) = some r := H
       have A91 := aK A910
       clear A910
       by_cases c92 : t594 = t595
       ·rw [if_pos c92] at H
        have c92b0 : (t594 == t595) = true := beq_iff_eq.mpr c92
        have c92b1 : (t594 != t595) = false := bne_eq_false_iff_eq.mpr c92
        clear c92
        replace H := Option.bind_eq_some_iff.mp H
        obtain ⟨⟨t596, t597⟩, A930, H⟩ := H
        replace H : ((isohyetref02_Neg.f t550 t551).bind fun bt600 => ((isohyetlaw02_is.f kj10 t596 t597 bt600.1 bt600.2).bind fun t604 => (if t604 = true then ((num_Abs.f kj10 a0_0 l0_1).bind fun bt605 => ((isohyetref02_Of.f false t551).bind fun bt609 => ((isohyetlaw02_is.f kj10 bt605.1 bt605.2 bt609.1 bt609.2).bind fun t613 => (some t613)))) else (some false)))) = some r := H
        have A93 := aK A930
        clear A930
        replace H := Option.bind_eq_some_iff.mp H
        obtain ⟨⟨t600, t601⟩, A940, H⟩ := H
        replace H : ((isohyetlaw02_is.f kj10 t596 t597 t600 t601).bind fun t604 => (if t604 = true then ((num_Abs.f kj10 a0_0 l0_1).bind fun bt605 => ((isohyetref02_Of.f false t551).bind fun bt609 => ((isohyetlaw02_is.f kj10 bt605.1 bt605.2 bt609.1 bt609.2).bind fun t613 => (some t613)))) else (some false))) = some r := H
        have A94 := aK A940
        clear A940
        obtain ⟨t604, A950, H⟩ := Option.bind_eq_some_iff.mp H
        replace H : (if t604 = true then ((num_Abs.f kj10 a0_0 l0_1).bind fun bt605 => ((isohyetref02_Of.f false t551).bind fun bt609 => ((isohyetlaw02_is.f kj10 bt605.1 bt605.2 bt609.1 bt609.2).bind fun t613 => (some t613)))) else (some false)) = some r := H
        have A95 := aK A950
        clear A950
        by_cases c96 : t604 = true
        ·subst c96
         replace H : ((num_Abs.f kj10 a0_0 l0_1).bind fun bt605 => ((isohyetref02_Of.f false t551).bind fun bt609 => ((isohyetlaw02_is.f kj10 bt605.1 bt605.2 bt609.1 bt609.2).bind fun t613 => (some t613)))) = some r := by rw [if_pos rfl] at H; exact H
         replace H := Option.bind_eq_some_iff.mp H
         obtain ⟨⟨t605, t606⟩, A970, H⟩ := H
         replace H : ((isohyetref02_Of.f false t551).bind fun bt609 => ((isohyetlaw02_is.f kj10 t605 t606 bt609.1 bt609.2).bind fun t613 => (some t613))) = some r := H
         have A97 := aK A970
         clear A970
         replace H := Option.bind_eq_some_iff.mp H
         obtain ⟨⟨t609, t610⟩, A980, H⟩ := H
         replace H : ((isohyetlaw02_is.f kj10 t605 t606 t609 t610).bind fun t613 => (some t613)) = some r := H
         have A98 := aK A980
         clear A980
         obtain ⟨t613, A990, H⟩ := Option.bind_eq_some_iff.mp H
         replace H : (some t613) = some r := H
         have A99 := aK A990
         clear A990
         obtain rfl := Option.some.inj H
         try go_wp2
         replace HO_544001 := aK (Kd.V_drew HO_544001.out)
         replace HO_545001 := aK (Kd.V_drew HO_545001.out)
         replace HO_559001 := aK (Kd.V_drew HO_559001.out)
         replace HO_560001 := aK (Kd.V_drew HO_560001.out)
         replace HO_569001 := aK (Kd.V_drew HO_569001.out)
         replace BK543 := aK (blk_drew BK543.out)
         replace BK544 := aK (blk_drew BK544.out)
         replace BK558 := aK (blk_drew BK558.out)
         replace BK559 := aK (blk_drew BK559.out)
         replace BK568 := aK (blk_drew BK568.out)
         replace HB := aK (bD HB.out)
         refine start_ (n := 29) (S := fun w' => w'.cell? ⟨gb543, 0, none⟩ = some (.bool a0_0) ∧ w'.cell? ⟨gb543, 1, none⟩ = some (.slice A0_1 l0_1.length c0_1) ∧ w'.cell? ⟨gb544, 0, none⟩ = some (.bool a1_0) ∧ w'.cell? ⟨gb544, 1, none⟩ = some (.slice A1_1 l1_1.length c1_1) ∧ w'.cell? ⟨gb568, 0, none⟩ = some (.bool t564) ∧ w'.cell? ⟨gb568, 1, none⟩ = some (.slice Ao42 t565.length co42) ∧ w'.cell? ⟨gb558, 0, none⟩ = some (.bool t550) ∧ w'.cell? ⟨gb558, 1, none⟩ = some (.slice Ao29 t551.length co29)) (ds := []) #[false, false, false, false, false, false, false, false, false, false, false, false, false, false, false, false, false, false, false, false, false, false, false, false, false, false, false, false, false] (by kernel_rfl) rfl rfl ⟨(blk_cell BK543.out 0).trans rfl, (blk_cell BK543.out 1).trans rfl, (blk_cell BK544.out 0).trans rfl, (blk_cell BK544.out 1).trans rfl, (blk_cell BK568.out 0).trans rfl, (blk_cell BK568.out 1).trans rfl, (blk_cell BK558.out 0).trans rfl, (blk_cell BK558.out 1).trans rfl⟩ (fun hHeld => ?_); refine with_tabW isohyetlaw02_NumAdds.tab9 isohyetlaw02_NumAdds.bits9 (fun HT_ HW_ => ?_)
         generalize wc.drew = w100 at HO_544001 HO_545001 HO_559001 HO_560001 HO_569001 BK543 BK544 BK558 BK559 BK568 HB hHeld ⊢
         refine take_ (i := 0) (N := some 49) (v := ?_) (a' := ?_) #[true, false, false, false, false, false, false, false, false, false, false, false, false, false, false, false, false, false, false, false, false, false, false, false, false, false, false, false, false] rfl rfl (take_ofW HT_.out HW_.out (by kernel_rfl)) (fun _ _ _ h => h) (Or.inl ⟨by rfl, ?_⟩) hHeld ?_ ?_
         rotate_left
         ·rintro w' ⟨s0, s1, s2, s3, s4, s5, s6, s7⟩
          go_simp
          with_reducible rfl
         rotate_left
         ·simp only [Act.put, List.setIfInBounds_toArray, List.set_cons_zero, List.set_cons_succ]
          rfl
         refine take_ (i := 1) (N := some 50) (v := ?_) (a' := ?_) #[true, true, false, false, false, false, false, false, false, false, false, false, false, false, false, false, false, false, false, false, false, false, false, false, false, false, false, false, false] rfl rfl (take_ofW HT_.out HW_.out (by kernel_rfl)) (fun _ _ _ h => h) (Or.inl ⟨by rfl, ?_⟩) hHeld ?_ ?_
         rotate_left
         ·rintro w' ⟨s0, s1, s2, s3, s4, s5, s6, s7⟩
          go_simp
          with_reducible rfl
         rotate_left
         ·simp only [Act.put, List.setIfInBounds_toArray, List.set_cons_zero, List.set_cons_succ]
          rfl
         refine take_ (i := 3) (N := some 52) (v := ?_) (a' := ?_) #[true, true, false, true, false, false, false, false, false, false, false, false, false, false, false, false, false, false, false, false, false, false, false, false, false, false, false, false, false] rfl rfl (take_ofW HT_.out HW_.out (by kernel_rfl)) (fun _ _ _ h => h) (Or.inl ⟨by rfl, ?_⟩) hHeld ?_ ?_
         rotate_left
         ·rintro w' ⟨s0, s1, s2, s3, s4, s5, s6, s7⟩
          go_simp
          with_reducible rfl
         rotate_left
         ·simp only [Act.put, List.setIfInBounds_toArray, List.set_cons_zero, List.set_cons_succ]
          rfl
         refine one_ (i := 2) (N := some 51) #[true, true, true, true, false, false, false, false, false, false, false, false, false, false, false, false, false, false, false, false, false, false, false, false, false, false, false, false, false] rfl rfl (one_of HT_.out (by kernel_rfl)) (by decide) (fun K hK => ?_)
         refine goes_ Try.func14 (by kernel_rfl) rfl #[.agg #[.bool a0_0, .slice A0_1 l0_1.length c0_1], .agg #[.bool a1_0, .slice A1_1 l1_1.length c1_1]] (by rfl) rfl rfl (by (try simp only [List.map_toArray, List.map_cons, List.map_nil]); first | done | rfl | (simp only [List.length_drop, List.length_take]; rfl)) ?_
         with_reducible refine (num_Cmp.calls kj10 a0_0 _ _ l0_1 a1_0 _ _ l1_1 t592 _ ?side1 ?side2 ?side3 ?side4 A87.out).mono ?_
         (case side1 => repeat (first | exact (Kd.V_reads' HO_544001.out).2.2 | apply Kd.C_alloc | apply Kd.C_drewN | apply Kd.C_drew))
         (case side2 => exact (Kd.V_reads' HO_544001.out).2.1)
         (case side3 => repeat (first | exact (Kd.V_reads' HO_545001.out).2.2 | apply Kd.C_alloc | apply Kd.C_drewN | apply Kd.C_drew))
         (case side4 => exact (Kd.V_reads' HO_545001.out).2.1)
         rintro e w101 ⟨rfl, hb⟩
         refine ⟨_, rfl, ?_⟩
         replace HO_544001 := aK (Kd.V_below (gV HO_544001.out) hb)
         replace HO_545001 := aK (Kd.V_below (gV HO_545001.out) hb)
         replace HO_559001 := aK (Kd.V_below (gV HO_559001.out) hb)
         replace HO_560001 := aK (Kd.V_below (gV HO_560001.out) hb)
         replace HO_569001 := aK (Kd.V_below (gV HO_569001.out) hb)
         replace BK543 := aK (blk_below (gK BK543.out) hb)
         replace BK544 := aK (blk_below (gK BK544.out) hb)
         replace BK558 := aK (blk_below (gK BK558.out) hb)
         replace BK559 := aK (blk_below (gK BK559.out) hb)
         replace BK568 := aK (blk_below (gK BK568.out) hb)
         replace HB := aK (below_step (gB HB.out) hb)
         (try clear hb)
         (try clear hb2)
         (try clear hk)
         (try clear hi)
         refine hK.out _ _ ⟨(blk_cell BK543.out 0).trans rfl, (blk_cell BK543.out 1).trans rfl, (blk_cell BK544.out 0).trans rfl, (blk_cell BK544.out 1).trans rfl, (blk_cell BK568.out 0).trans rfl, (blk_cell BK568.out 1).trans rfl, (blk_cell BK558.out 0).trans rfl, (blk_cell BK558.out 1).trans rfl⟩ (fun hHeld => ?_)
         clear hK K
         refine norm_ (a' := ?_) ?_ ?_
         rotate_left
         ·show Act.put _ (some 51) _ = _
          simp only [Act.put, List.setIfInBounds_toArray, List.set_cons_zero, List.set_cons_succ]
          rfl
         refine one_ (i := 4) (N := some 53) #[true, true, true, true, true, false, false, false, false, false, false, false, false, false, false, false, false, false, false, false, false, false, false, false, false, false, false, false, false] rfl rfl (one_of HT_.out (by kernel_rfl)) (by decide) (fun K hK => ?_)
         refine goes_ Try.func28 (by kernel_rfl) rfl #[.agg #[.bool t564, .slice Ao42 t565.length co42]] (by rfl) rfl rfl (by (try simp only [List.map_toArray, List.map_cons, List.map_nil]); first | done | rfl | (simp only [List.length_drop, List.length_take]; rfl)) ?_
         with_reducible refine (isohyetref02_Sign.calls t564 _ _ t565 t593 _ ?side1 ?side2 A88.out).mono ?_
         (case side1 => repeat (first | exact (Kd.V_reads' HO_569001.out).2.2 | apply Kd.C_alloc | apply Kd.C_drewN | apply Kd.C_drew))
         (case side2 => exact (Kd.V_reads' HO_569001.out).2.1)
         rintro e w102 ⟨rfl, hb⟩
         refine ⟨_, rfl, ?_⟩
         replace HO_544001 := aK (Kd.V_below (gV HO_544001.out) hb)
         replace HO_545001 := aK (Kd.V_below (gV HO_545001.out) hb)
         replace HO_559001 := aK (Kd.V_below (gV HO_559001.out) hb)
         replace HO_560001 := aK (Kd.V_below (gV HO_560001.out) hb)
         replace HO_569001 := aK (Kd.V_below (gV HO_569001.out) hb)
         replace BK543 := aK (blk_below (gK BK543.out) hb)
         replace BK544 := aK (blk_below (gK BK544.out) hb)
         replace BK558 := aK (blk_below (gK BK558.out) hb)
         replace BK559 := aK (blk_below (gK BK559.out) hb)
         replace BK568 := aK (blk_below (gK BK568.out) hb)
         replace HB := aK (below_step (gB HB.out) hb)
         (try clear hb)
         (try clear hb2)
         (try clear hk)
         (try clear hi)
         refine hK.out _ _ ⟨(blk_cell BK543.out 0).trans rfl, (blk_cell BK543.out 1).trans rfl, (blk_cell BK544.out 0).trans rfl, (blk_cell BK544.out 1).trans rfl, (blk_cell BK568.out 0).trans rfl, (blk_cell BK568.out 1).trans rfl, (blk_cell BK558.out 0).trans rfl, (blk_cell BK558.out 1).trans rfl⟩ (fun hHeld => ?_)
         clear hK K
         refine norm_ (a' := ?_) ?_ ?_
         rotate_left
         ·show Act.put _ (some 53) _ = _
          simp only [Act.put, List.setIfInBounds_toArray, List.set_cons_zero, List.set_cons_succ]
          rfl
         refine pure_ (i := 5) (N := some 54) (v := ?_) (a' := ?_) #[true, true, true, true, true, true, false, false, false, false, false, false, false, false, false, false, false, false, false, false, false, false, false, false, false, false, false, false, false] rfl rfl (any_of HT_.out (by kernel_rfl)) (fun _ _ _ h => h) (Or.inl ⟨by rfl, ?_⟩) ?_ ?_
         rotate_left
         ·intro w'
          go_simp
          with_reducible rfl
         rotate_left
         ·simp only [Act.put, List.setIfInBounds_toArray, List.set_cons_zero, List.set_cons_succ]
          rfl
         refine pure_ (i := 6) (N := some 55) (v := ?_) (a' := ?_) #[true, true, true, true, true, true, true, false, false, false, false, false, false, false, false, false, false, false, false, false, false, false, false, false, false, false, false, false, false] rfl rfl (any_of HT_.out (by kernel_rfl)) (fun _ _ _ h => h) (Or.inl ⟨by rfl, ?_⟩) ?_ ?_
         rotate_left
         ·intro w'
          go_simp
          with_reducible rfl
         rotate_left
         ·simp only [Act.put, List.setIfInBounds_toArray, List.set_cons_zero, List.set_cons_succ]
          rfl
         refine take_ (i := 7) (N := some 56) (v := ?_) (a' := ?_) #[true, true, true, true, true, true, true, true, false, false, false, false, false, false, false, false, false, false, false, false, false, false, false, false, false, false, false, false, false] rfl rfl (take_ofW HT_.out HW_.out (by kernel_rfl)) (fun _ _ _ h => h) (Or.inl ⟨by rfl, ?_⟩) hHeld ?_ ?_
         rotate_left
         ·rintro w' ⟨s0, s1, s2, s3, s4, s5, s6, s7⟩
          go_simp
          with_reducible rfl
         rotate_left
         ·simp only [Act.put, List.setIfInBounds_toArray, List.set_cons_zero, List.set_cons_succ]
          rfl
         refine take_ (i := 9) (N := some 58) (v := ?_) (a' := ?_) #[true, true, true, true, true, true, true, true, false, true, false, false, false, false, false, false, false, false, false, false, false, false, false, false, false, false, false, false, false] rfl rfl (take_ofW HT_.out HW_.out (by kernel_rfl)) (fun _ _ _ h => h) (Or.inl ⟨by rfl, ?_⟩) hHeld ?_ ?_
         rotate_left
         ·rintro w' ⟨s0, s1, s2, s3, s4, s5, s6, s7⟩
          go_simp
          with_reducible rfl
         rotate_left
         ·simp only [Act.put, List.setIfInBounds_toArray, List.set_cons_zero, List.set_cons_succ]
          rfl
         refine one_ (i := 8) (N := some 57) #[true, true, true, true, true, true, true, true, true, true, false, false, false, false, false, false, false, false, false, false, false, false, false, false, false, false, false, false, false] rfl rfl (one_of HT_.out (by kernel_rfl)) (by decide) (fun K hK => ?_)
         refine goes_ Try.func15 (by kernel_rfl) rfl #[.agg #[.bool a0_0, .slice A0_1 l0_1.length c0_1]] (by rfl) rfl rfl (by (try simp only [List.map_toArray, List.map_cons, List.map_nil]); first | done | rfl | (simp only [List.length_drop, List.length_take]; rfl)) ?_
         with_reducible refine (num_Sign.calls kj10 a0_0 _ _ l0_1 t594 _ ?side1 ?side2 A90.out).mono ?_
         (case side1 => repeat (first | exact (Kd.V_reads' HO_544001.out).2.2 | apply Kd.C_alloc | apply Kd.C_drewN | apply Kd.C_drew))
         (case side2 => exact (Kd.V_reads' HO_544001.out).2.1)
         rintro e w103 ⟨rfl, hb⟩
         refine ⟨_, rfl, ?_⟩
         replace HO_544001 := aK (Kd.V_below (gV HO_544001.out) hb)
         replace HO_545001 := aK (Kd.V_below (gV HO_545001.out) hb)
         replace HO_559001 := aK (Kd.V_below (gV HO_559001.out) hb)
         replace HO_560001 := aK (Kd.V_below (gV HO_560001.out) hb)
         replace HO_569001 := aK (Kd.V_below (gV HO_569001.out) hb)
         replace BK543 := aK (blk_below (gK BK543.out) hb)
         replace BK544 := aK (blk_below (gK BK544.out) hb)
         replace BK558 := aK (blk_below (gK BK558.out) hb)
         replace BK559 := aK (blk_below (gK BK559.out) hb)
         replace BK568 := aK (blk_below (gK BK568.out) hb)
         replace HB := aK (below_step (gB HB.out) hb)
         (try clear hb)
         (try clear hb2)
         (try clear hk)
         (try clear hi)
         refine hK.out _ _ ⟨(blk_cell BK543.out 0).trans rfl, (blk_cell BK543.out 1).trans rfl, (blk_cell BK544.out 0).trans rfl, (blk_cell BK544.out 1).trans rfl, (blk_cell BK568.out 0).trans rfl, (blk_cell BK568.out 1).trans rfl, (blk_cell BK558.out 0).trans rfl, (blk_cell BK558.out 1).trans rfl⟩ (fun hHeld => ?_)
         clear hK K
         refine norm_ (a' := ?_) ?_ ?_
         rotate_left
         ·show Act.put _ (some 57) _ = _
          simp only [Act.put, List.setIfInBounds_toArray, List.set_cons_zero, List.set_cons_succ]
          rfl
         refine one_ (i := 10) (N := some 59) #[true, true, true, true, true, true, true, true, true, true, true, false, false, false, false, false, false, false, false, false, false, false, false, false, false, false, false, false, false] rfl rfl (one_of HT_.out (by kernel_rfl)) (by decide) (fun K hK => ?_)
         refine goes_ Try.func28 (by kernel_rfl) rfl #[.agg #[.bool t550, .slice Ao29 t551.length co29]] (by rfl) rfl rfl (by (try simp only [List.map_toArray, List.map_cons, List.map_nil]); first | done | rfl | (simp only [List.length_drop, List.length_take]; rfl)) ?_
         with_reducible refine (isohyetref02_Sign.calls t550 _ _ t551 t595 _ ?side1 ?side2 A91.out).mono ?_
         (case side1 => repeat (first | exact (Kd.V_reads' HO_559001.out).2.2 | apply Kd.C_alloc | apply Kd.C_drewN | apply Kd.C_drew))
         (case side2 => exact (Kd.V_reads' HO_559001.out).2.1)
         rintro e w104 ⟨rfl, hb⟩
         refine ⟨_, rfl, ?_⟩
         replace HO_544001 := aK (Kd.V_below (gV HO_544001.out) hb)
         replace HO_545001 := aK (Kd.V_below (gV HO_545001.out) hb)
         replace HO_559001 := aK (Kd.V_below (gV HO_559001.out) hb)
         replace HO_560001 := aK (Kd.V_below (gV HO_560001.out) hb)
         replace HO_569001 := aK (Kd.V_below (gV HO_569001.out) hb)
         replace BK543 := aK (blk_below (gK BK543.out) hb)
         replace BK544 := aK (blk_below (gK BK544.out) hb)
         replace BK558 := aK (blk_below (gK BK558.out) hb)
         replace BK559 := aK (blk_below (gK BK559.out) hb)
         replace BK568 := aK (blk_below (gK BK568.out) hb)
         replace HB := aK (below_step (gB HB.out) hb)
         (try clear hb)
         (try clear hb2)
         (try clear hk)
         (try clear hi)
         refine hK.out _ _ ⟨(blk_cell BK543.out 0).trans rfl, (blk_cell BK543.out 1).trans rfl, (blk_cell BK544.out 0).trans rfl, (blk_cell BK544.out 1).trans rfl, (blk_cell BK568.out 0).trans rfl, (blk_cell BK568.out 1).trans rfl, (blk_cell BK558.out 0).trans rfl, (blk_cell BK558.out 1).trans rfl⟩ (fun hHeld => ?_)
         clear hK K
         refine norm_ (a' := ?_) ?_ ?_
         rotate_left
         ·show Act.put _ (some 59) _ = _
          simp only [Act.put, List.setIfInBounds_toArray, List.set_cons_zero, List.set_cons_succ]
          rfl
         refine pure_ (i := 11) (N := some 60) (v := ?_) (a' := ?_) #[true, true, true, true, true, true, true, true, true, true, true, true, false, false, false, false, false, false, false, false, false, false, false, false, false, false, false, false, false] rfl rfl (any_of HT_.out (by kernel_rfl)) (fun _ _ _ h => h) (Or.inl ⟨by rfl, ?_⟩) ?_ ?_
         rotate_left
         ·intro w'
          go_simp
          with_reducible rfl
         rotate_left
         ·simp only [Act.put, List.setIfInBounds_toArray, List.set_cons_zero, List.set_cons_succ]
          rfl
         refine pure_ (i := 12) (N := some 61) (v := ?_) (a' := ?_) #[true, true, true, true, true, true, true, true, true, true, true, true, true, false, false, false, false, false, false, false, false, false, false, false, false, false, false, false, false] rfl rfl (any_of HT_.out (by kernel_rfl)) (fun _ _ _ h => h) (Or.inl ⟨by rfl, ?_⟩) ?_ ?_
         rotate_left
         ·intro w'
          go_simp
          with_reducible rfl
         rotate_left
         ·simp only [Act.put, List.setIfInBounds_toArray, List.set_cons_zero, List.set_cons_succ]
          rfl
         refine pure_ (i := 13) (N := some 62) (v := ?_) (a' := ?_) #[true, true, true, true, true, true, true, true, true, true, true, true, true, true, false, false, false, false, false, false, false, false, false, false, false, false, false, false, false] rfl rfl (any_of HT_.out (by kernel_rfl)) (fun _ _ _ h => h) (Or.inl ⟨by rfl, ?_⟩) ?_ ?_
         rotate_left
         ·intro w'
          go_simp
          with_reducible rfl
         rotate_left
         ·simp only [Act.put, List.setIfInBounds_toArray, List.set_cons_zero, List.set_cons_succ]
          rfl
         refine take_ (i := 14) (N := some 63) (v := ?_) (a' := ?_) #[true, true, true, true, true, true, true, true, true, true, true, true, true, true, true, false, false, false, false, false, false, false, false, false, false, false, false, false, false] rfl rfl (take_ofW HT_.out HW_.out (by kernel_rfl)) (fun _ _ _ h => h) (Or.inl ⟨by rfl, ?_⟩) hHeld ?_ ?_
         rotate_left
         ·rintro w' ⟨s0, s1, s2, s3, s4, s5, s6, s7⟩
          go_simp
          with_reducible rfl
         rotate_left
         ·simp only [Act.put, List.setIfInBounds_toArray, List.set_cons_zero, List.set_cons_succ]
          rfl
         refine take_ (i := 16) (N := some 65) (v := ?_) (a' := ?_) #[true, true, true, true, true, true, true, true, true, true, true, true, true, true, true, false, true, false, false, false, false, false, false, false, false, false, false, false, false] rfl rfl (take_ofW HT_.out HW_.out (by kernel_rfl)) (fun _ _ _ h => h) (Or.inl ⟨by rfl, ?_⟩) hHeld ?_ ?_
         rotate_left
         ·rintro w' ⟨s0, s1, s2, s3, s4, s5, s6, s7⟩
          go_simp
          with_reducible rfl
         rotate_left
         ·simp only [Act.put, List.setIfInBounds_toArray, List.set_cons_zero, List.set_cons_succ]
          rfl
         refine one_ (i := 15) (N := some 64) #[true, true, true, true, true, true, true, true, true, true, true, true, true, true, true, true, true, false, false, false, false, false, false, false, false, false, false, false, false] rfl rfl (one_of HT_.out (by kernel_rfl)) (by decide) (fun K hK => ?_)
         refine goes_ Try.func22 (by kernel_rfl) rfl #[.agg #[.bool a0_0, .slice A0_1 l0_1.length c0_1]] (by rfl) rfl rfl (by (try simp only [List.map_toArray, List.map_cons, List.map_nil]); first | done | rfl | (simp only [List.length_drop, List.length_take]; rfl)) ?_
         with_reducible refine (num_Neg.calls kj10 a0_0 (fun k_ => (((P0_1_ k_ ∨ P1_1_ k_) ∨ w.heap.size ≤ k_) ∧ (k_ ≠ gb543 ∧ (k_ ≠ gb544 ∧ (k_ ≠ gb558 ∧ (k_ ≠ gb559 ∧ k_ ≠ gb568)))))) _ _ l0_1 t596 t597 _ ?side1 A93.out).mono ?_
         (case side1 => exact HO_544001.out)
         rintro e w105 ⟨v598, rfl, ho0, hb⟩
         refine ⟨_, rfl, ?_⟩
         replace HO_544001 := aK (Kd.V_below (gV HO_544001.out) hb)
         replace HO_545001 := aK (Kd.V_below (gV HO_545001.out) hb)
         replace HO_559001 := aK (Kd.V_below (gV HO_559001.out) hb)
         replace HO_560001 := aK (Kd.V_below (gV HO_560001.out) hb)
         replace HO_569001 := aK (Kd.V_below (gV HO_569001.out) hb)
         have HO599 := aK (Kd.V_lower (Kd.V_mono (ok' := fun k_ => ((P0_1_ k_ ∨ P1_1_ k_) ∨ w.heap.size ≤ k_) ∧ k_ ≠ gb543 ∧ k_ ≠ gb544 ∧ k_ ≠ gb558 ∧ k_ ≠ gb559 ∧ k_ ≠ gb568) ho0 (fun k_ hk_ => ⟨Or.elim hk_ (fun hs_ => hs_.1) (fun hn_ => (.inr (Nat.le_trans (below_size (gB HB.out)) hn_))), Or.elim hk_ (fun hs_ => hs_.2.1) (fun hn_ => (Kd.freshB (g := gb543) (o := .cells #[.bool a0_0, .slice A0_1 l0_1.length c0_1] 25 (0, 0)) (gK BK543.out) k_ hn_)), Or.elim hk_ (fun hs_ => hs_.2.2.1) (fun hn_ => (Kd.freshB (g := gb544) (o := .cells #[.bool a1_0, .slice A1_1 l1_1.length c1_1] 25 (0, 0)) (gK BK544.out) k_ hn_)), Or.elim hk_ (fun hs_ => hs_.2.2.2.1) (fun hn_ => (Kd.freshB (g := gb558) (o := .cells #[.bool t550, .slice Ao29 t551.length co29] 44 (0, 0)) (gK BK558.out) k_ hn_)), Or.elim hk_ (fun hs_ => hs_.2.2.2.2.1) (fun hn_ => (Kd.freshB (g := gb559) (o := .cells #[.bool t554, .slice Ao32 t555.length co32] 44 (0, 0)) (gK BK559.out) k_ hn_)), Or.elim hk_ (fun hs_ => hs_.2.2.2.2.2) (fun hn_ => (Kd.freshB (g := gb568) (o := .cells #[.bool t564, .slice Ao42 t565.length co42] 44 (0, 0)) (gK BK568.out) k_ hn_))⟩)) (below_size (gB HB.out)))
         have n6_ := aK (blk_below (gK BK543.out) hb)
         have n7_ := aK (blk_below (gK BK544.out) hb)
         have n8_ := aK (blk_below (gK BK558.out) hb)
         have n9_ := aK (blk_below (gK BK559.out) hb)
         have n10_ := aK (blk_below (gK BK568.out) hb)
         have n11_ := aK (below_step (gB HB.out) hb)
         clear BK543 BK544 BK558 BK559 BK568 HB
         have BK543 := n6_
         have BK544 := n7_
         have BK558 := n8_
         have BK559 := n9_
         have BK568 := n10_
         have HB := n11_
         clear n6_ n7_ n8_ n9_ n10_ n11_
         (try clear hb)
         (try clear hb2)
         (try clear hk)
         (try clear hi)
         (try clear ho0)
         refine hK.out _ _ ⟨(blk_cell BK543.out 0).trans rfl, (blk_cell BK543.out 1).trans rfl, (blk_cell BK544.out 0).trans rfl, (blk_cell BK544.out 1).trans rfl, (blk_cell BK568.out 0).trans rfl, (blk_cell BK568.out 1).trans rfl, (blk_cell BK558.out 0).trans rfl, (blk_cell BK558.out 1).trans rfl⟩ (fun hHeld => ?_)
         clear hK K
         refine norm_ (a' := ?_) ?_ ?_
         rotate_left
         ·show Act.put _ (some 64) _ = _
          simp only [Act.put, List.setIfInBounds_toArray, List.set_cons_zero, List.set_cons_succ]
          rfl
         refine one_ (i := 17) (N := some 66) #[true, true, true, true, true, true, true, true, true, true, true, true, true, true, true, true, true, true, false, false, false, false, false, false, false, false, false, false, false] rfl rfl (one_of HT_.out (by kernel_rfl)) (by decide) (fun K hK => ?_)
         refine goes_ Try.func25 (by kernel_rfl) rfl #[.agg #[.bool t550, .slice Ao29 t551.length co29]] (by rfl) rfl rfl (by (try simp only [List.map_toArray, List.map_cons, List.map_nil]); first | done | rfl | (simp only [List.length_drop, List.length_take]; rfl)) ?_
         with_reducible refine (isohyetref02_Neg.calls t550 (fun k_ => (((P0_1_ k_ ∨ P1_1_ k_) ∨ w.heap.size ≤ k_) ∧ (k_ ≠ gb543 ∧ (k_ ≠ gb544 ∧ (k_ ≠ gb558 ∧ (k_ ≠ gb559 ∧ k_ ≠ gb568)))))) _ _ t551 t600 t601 _ ?side1 A94.out).mono ?_
         (case side1 => exact HO_559001.out)
         rintro e w106 ⟨v602, rfl, ho0, hb⟩
         refine ⟨_, rfl, ?_⟩
         replace HO_544001 := aK (Kd.V_below (gV HO_544001.out) hb)
         replace HO_545001 := aK (Kd.V_below (gV HO_545001.out) hb)
         replace HO_559001 := aK (Kd.V_below (gV HO_559001.out) hb)
         replace HO_560001 := aK (Kd.V_below (gV HO_560001.out) hb)
         replace HO_569001 := aK (Kd.V_below (gV HO_569001.out) hb)
         replace HO599 := aK (Kd.V_below (gV HO599.out) hb)
         have HO603 := aK (Kd.V_lower (Kd.V_mono (ok' := fun k_ => ((P0_1_ k_ ∨ P1_1_ k_) ∨ w.heap.size ≤ k_) ∧ k_ ≠ gb543 ∧ k_ ≠ gb544 ∧ k_ ≠ gb558 ∧ k_ ≠ gb559 ∧ k_ ≠ gb568) ho0 (fun k_ hk_ => ⟨Or.elim hk_ (fun hs_ => hs_.1) (fun hn_ => (.inr (Nat.le_trans (below_size (gB HB.out)) hn_))), Or.elim hk_ (fun hs_ => hs_.2.1) (fun hn_ => (Kd.freshB (g := gb543) (o := .cells #[.bool a0_0, .slice A0_1 l0_1.length c0_1] 25 (0, 0)) (gK BK543.out) k_ hn_)), Or.elim hk_ (fun hs_ => hs_.2.2.1) (fun hn_ => (Kd.freshB (g := gb544) (o := .cells #[.bool a1_0, .slice A1_1 l1_1.length c1_1] 25 (0, 0)) (gK BK544.out) k_ hn_)), Or.elim hk_ (fun hs_ => hs_.2.2.2.1) (fun hn_ => (Kd.freshB (g := gb558) (o := .cells #[.bool t550, .slice Ao29 t551.length co29] 44 (0, 0)) (gK BK558.out) k_ hn_)), Or.elim hk_ (fun hs_ => hs_.2.2.2.2.1) (fun hn_ => (Kd.freshB (g := gb559) (o := .cells #[.bool t554, .slice Ao32 t555.length co32] 44 (0, 0)) (gK BK559.out) k_ hn_)), Or.elim hk_ (fun hs_ => hs_.2.2.2.2.2) (fun hn_ => (Kd.freshB (g := gb568) (o := .cells #[.bool t564, .slice Ao42 t565.length co42] 44 (0, 0)) (gK BK568.out) k_ hn_))⟩)) (below_size (gB HB.out)))
         have n7_ := aK (blk_below (gK BK543.out) hb)
         have n8_ := aK (blk_below (gK BK544.out) hb)
         have n9_ := aK (blk_below (gK BK558.out) hb)
         have n10_ := aK (blk_below (gK BK559.out) hb)
         have n11_ := aK (blk_below (gK BK568.out) hb)
         have n12_ := aK (below_step (gB HB.out) hb)
         clear BK543 BK544 BK558 BK559 BK568 HB
         have BK543 := n7_
         have BK544 := n8_
         have BK558 := n9_
         have BK559 := n10_
         have BK568 := n11_
         have HB := n12_
         clear n7_ n8_ n9_ n10_ n11_ n12_
         (try clear hb)
         (try clear hb2)
         (try clear hk)
         (try clear hi)
         (try clear ho0)
         obtain ⟨Ao107, co107, eo107⟩ := Kd.V_slice HO599.out
         (first | subst eo107 | (injection eo107 with f1_ f2_ f3_; have f4_ := f1_.symm; have f5_ := f3_.symm; clear f1_ f2_ f3_; subst f4_; subst f5_))
         obtain ⟨Ao108, co108, eo108⟩ := Kd.V_slice HO603.out
         (first | subst eo108 | (injection eo108 with f1_ f2_ f3_; have f4_ := f1_.symm; have f5_ := f3_.symm; clear f1_ f2_ f3_; subst f4_; subst f5_))
         refine hK.out _ _ ⟨(blk_cell BK543.out 0).trans rfl, (blk_cell BK543.out 1).trans rfl, (blk_cell BK544.out 0).trans rfl, (blk_cell BK544.out 1).trans rfl, (blk_cell BK568.out 0).trans rfl, (blk_cell BK568.out 1).trans rfl, (blk_cell BK558.out 0).trans rfl, (blk_cell BK558.out 1).trans rfl⟩ (fun hHeld => ?_)
         clear hK K
         refine norm_ (a' := ?_) ?_ ?_
         rotate_left
         ·show Act.put _ (some 66) _ = _
          simp only [Act.put, List.setIfInBounds_toArray, List.set_cons_zero, List.set_cons_succ]
          rfl
         refine one_ (i := 18) (N := some 67) #[true, true, true, true, true, true, true, true, true, true, true, true, true, true, true, true, true, true, true, false, false, false, false, false, false, false, false, false, false] rfl rfl (one_of HT_.out (by kernel_rfl)) (by decide) (fun K hK => ?_)
         refine goes_ Try.func26 (by kernel_rfl) rfl #[.agg #[.bool t596, .slice Ao107 t597.length co107], .agg #[.bool t600, .slice Ao108 t601.length co108]] (by rfl) rfl rfl (by (try simp only [List.map_toArray, List.map_cons, List.map_nil]); first | done | rfl | (simp only [List.length_drop, List.length_take]; rfl)) ?_
         with_reducible refine (isohyetlaw02_is.calls kj10 t596 _ _ t597 t600 _ _ t601 true _ ?side1 ?side2 ?side3 ?side4 A95.out).mono ?_
         (case side1 => repeat (first | exact (Kd.V_reads' HO599.out).2.2 | apply Kd.C_alloc | apply Kd.C_drewN | apply Kd.C_drew))
         (case side2 => exact (Kd.V_reads' HO599.out).2.1)
         (case side3 => repeat (first | exact (Kd.V_reads' HO603.out).2.2 | apply Kd.C_alloc | apply Kd.C_drewN | apply Kd.C_drew))
         (case side4 => exact (Kd.V_reads' HO603.out).2.1)
         rintro e w109 ⟨rfl, hb⟩
         refine ⟨_, rfl, ?_⟩
         replace HO_544001 := aK (Kd.V_below (gV HO_544001.out) hb)
         replace HO_545001 := aK (Kd.V_below (gV HO_545001.out) hb)
         replace HO_559001 := aK (Kd.V_below (gV HO_559001.out) hb)
         replace HO_560001 := aK (Kd.V_below (gV HO_560001.out) hb)
         replace HO_569001 := aK (Kd.V_below (gV HO_569001.out) hb)
         replace HO599 := aK (Kd.V_below (gV HO599.out) hb)
         replace HO603 := aK (Kd.V_below (gV HO603.out) hb)
         replace BK543 := aK (blk_below (gK BK543.out) hb)
         replace BK544 := aK (blk_below (gK BK544.out) hb)
         replace BK558 := aK (blk_below (gK BK558.out) hb)
         replace BK559 := aK (blk_below (gK BK559.out) hb)
         replace BK568 := aK (blk_below (gK BK568.out) hb)
         replace HB := aK (below_step (gB HB.out) hb)
         (try clear hb)
         (try clear hb2)
         (try clear hk)
         (try clear hi)
         refine hK.out _ _ ⟨(blk_cell BK543.out 0).trans rfl, (blk_cell BK543.out 1).trans rfl, (blk_cell BK544.out 0).trans rfl, (blk_cell BK544.out 1).trans rfl, (blk_cell BK568.out 0).trans rfl, (blk_cell BK568.out 1).trans rfl, (blk_cell BK558.out 0).trans rfl, (blk_cell BK558.out 1).trans rfl⟩ (fun hHeld => ?_)
         clear hK K
         refine norm_ (a' := ?_) ?_ ?_
         rotate_left
         ·show Act.put _ (some 67) _ = _
          simp only [Act.put, List.setIfInBounds_toArray, List.set_cons_zero, List.set_cons_succ]
          rfl
         refine pure_ (i := 19) (N := some 68) (v := ?_) (a' := ?_) #[true, true, true, true, true, true, true, true, true, true, true, true, true, true, true, true, true, true, true, true, false, false, false, false, false, false, false, false, false] rfl rfl (any_of HT_.out (by kernel_rfl)) (fun _ _ _ h => h) (Or.inl ⟨by rfl, ?_⟩) ?_ ?_
         rotate_left
         ·intro w'
          go_simp
          with_reducible rfl
         rotate_left
         ·simp only [Act.put, List.setIfInBounds_toArray, List.set_cons_zero, List.set_cons_succ]
          rfl
         refine pure_ (i := 20) (N := some 69) (v := ?_) (a' := ?_) #[true, true, true, true, true, true, true, true, true, true, true, true, true, true, true, true, true, true, true, true, true, false, false, false, false, false, false, false, false] rfl rfl (any_of HT_.out (by kernel_rfl)) (fun _ _ _ h => h) (Or.inl ⟨by rfl, ?_⟩) ?_ ?_
         rotate_left
         ·intro w'
          go_simp
          with_reducible rfl
         rotate_left
         ·simp only [Act.put, List.setIfInBounds_toArray, List.set_cons_zero, List.set_cons_succ]
          rfl
         refine pure_ (i := 23) (N := some 72) (v := ?_) (a' := ?_) #[true, true, true, true, true, true, true, true, true, true, true, true, true, true, true, true, true, true, true, true, true, false, false, true, false, false, false, false, false] rfl rfl (any_of HT_.out (by kernel_rfl)) (fun _ _ _ h => h) (Or.inl ⟨by rfl, ?_⟩) ?_ ?_
         rotate_left
         ·intro w'
          go_simp
          with_reducible rfl
         rotate_left
         ·simp only [Act.put, List.setIfInBounds_toArray, List.set_cons_zero, List.set_cons_succ]
          rfl
         refine take_ (i := 21) (N := some 70) (v := ?_) (a' := ?_) #[true, true, true, true, true, true, true, true, true, true, true, true, true, true, true, true, true, true, true, true, true, true, false, true, false, false, false, false, false] rfl rfl (take_ofW HT_.out HW_.out (by kernel_rfl)) (fun _ _ _ h => h) (Or.inl ⟨by rfl, ?_⟩) hHeld ?_ ?_
         rotate_left
         ·rintro w' ⟨s0, s1, s2, s3, s4, s5, s6, s7⟩
          go_simp
          with_reducible rfl
         rotate_left
         ·simp only [Act.put, List.setIfInBounds_toArray, List.set_cons_zero, List.set_cons_succ]
          rfl
         refine take_ (i := 24) (N := some 73) (v := ?_) (a' := ?_) #[true, true, true, true, true, true, true, true, true, true, true, true, true, true, true, true, true, true, true, true, true, true, false, true, true, false, false, false, false] rfl rfl (take_ofW HT_.out HW_.out (by kernel_rfl)) (fun _ _ _ h => h) (Or.inl ⟨by rfl, ?_⟩) hHeld ?_ ?_
         rotate_left
         ·rintro w' ⟨s0, s1, s2, s3, s4, s5, s6, s7⟩
          go_simp
          with_reducible rfl
         rotate_left
         ·simp only [Act.put, List.setIfInBounds_toArray, List.set_cons_zero, List.set_cons_succ]
          rfl
         refine one_ (i := 22) (N := some 71) #[true, true, true, true, true, true, true, true, true, true, true, true, true, true, true, true, true, true, true, true, true, true, true, true, true, false, false, false, false] rfl rfl (one_of HT_.out (by kernel_rfl)) (by decide) (fun K hK => ?_)
         refine goes_ Try.func21 (by kernel_rfl) rfl #[.agg #[.bool a0_0, .slice A0_1 l0_1.length c0_1]] (by rfl) rfl rfl (by (try simp only [List.map_toArray, List.map_cons, List.map_nil]); first | done | rfl | (simp only [List.length_drop, List.length_take]; rfl)) ?_
         with_reducible refine (num_Abs.calls kj10 a0_0 (fun k_ => (((P0_1_ k_ ∨ P1_1_ k_) ∨ w.heap.size ≤ k_) ∧ (k_ ≠ gb543 ∧ (k_ ≠ gb544 ∧ (k_ ≠ gb558 ∧ (k_ ≠ gb559 ∧ k_ ≠ gb568)))))) _ _ l0_1 t605 t606 _ ?side1 A97.out).mono ?_
         (case side1 => exact HO_544001.out)
         rintro e w110 ⟨v607, rfl, ho0, hb⟩
         refine ⟨_, rfl, ?_⟩
         replace HO_544001 := aK (Kd.V_below (gV HO_544001.out) hb)
         replace HO_545001 := aK (Kd.V_below (gV HO_545001.out) hb)
         replace HO_559001 := aK (Kd.V_below (gV HO_559001.out) hb)
         replace HO_560001 := aK (Kd.V_below (gV HO_560001.out) hb)
         replace HO_569001 := aK (Kd.V_below (gV HO_569001.out) hb)
         replace HO599 := aK (Kd.V_below (gV HO599.out) hb)
         replace HO603 := aK (Kd.V_below (gV HO603.out) hb)
         have HO608 := aK (Kd.V_lower (Kd.V_mono (ok' := fun k_ => ((P0_1_ k_ ∨ P1_1_ k_) ∨ w.heap.size ≤ k_) ∧ k_ ≠ gb543 ∧ k_ ≠ gb544 ∧ k_ ≠ gb558 ∧ k_ ≠ gb559 ∧ k_ ≠ gb568) ho0 (fun k_ hk_ => ⟨Or.elim hk_ (fun hs_ => hs_.1) (fun hn_ => (.inr (Nat.le_trans (below_size (gB HB.out)) hn_))), Or.elim hk_ (fun hs_ => hs_.2.1) (fun hn_ => (Kd.freshB (g := gb543) (o := .cells #[.bool a0_0, .slice A0_1 l0_1.length c0_1] 25 (0, 0)) (gK BK543.out) k_ hn_)), Or.elim hk_ (fun hs_ => hs_.2.2.1) (fun hn_ => (Kd.freshB (g := gb544) (o := .cells #[.bool a1_0, .slice A1_1 l1_1.length c1_1] 25 (0, 0)) (gK BK544.out) k_ hn_)), Or.elim hk_ (fun hs_ => hs_.2.2.2.1) (fun hn_ => (Kd.freshB (g := gb558) (o := .cells #[.bool t550, .slice Ao29 t551.length co29] 44 (0, 0)) (gK BK558.out) k_ hn_)), Or.elim hk_ (fun hs_ => hs_.2.2.2.2.1) (fun hn_ => (Kd.freshB (g := gb559) (o := .cells #[.bool t554, .slice Ao32 t555.length co32] 44 (0, 0)) (gK BK559.out) k_ hn_)), Or.elim hk_ (fun hs_ => hs_.2.2.2.2.2) (fun hn_ => (Kd.freshB (g := gb568) (o := .cells #[.bool t564, .slice Ao42 t565.length co42] 44 (0, 0)) (gK BK568.out) k_ hn_))⟩)) (below_size (gB HB.out)))
         have n8_ := aK (blk_below (gK BK543.out) hb)
         have n9_ := aK (blk_below (gK BK544.out) hb)
         have n10_ := aK (blk_below (gK BK558.out) hb)
         have n11_ := aK (blk_below (gK BK559.out) hb)
         have n12_ := aK (blk_below (gK BK568.out) hb)
         have n13_ := aK (below_step (gB HB.out) hb)
         clear BK543 BK544 BK558 BK559 BK568 HB
         have BK543 := n8_
         have BK544 := n9_
         have BK558 := n10_
         have BK559 := n11_
         have BK568 := n12_
         have HB := n13_
         clear n8_ n9_ n10_ n11_ n12_ n13_
         (try clear hb)
         (try clear hb2)
         (try clear hk)
         (try clear hi)
         (try clear ho0)
         refine hK.out _ _ ⟨(blk_cell BK543.out 0).trans rfl, (blk_cell BK543.out 1).trans rfl, (blk_cell BK544.out 0).trans rfl, (blk_cell BK544.out 1).trans rfl, (blk_cell BK568.out 0).trans rfl, (blk_cell BK568.out 1).trans rfl, (blk_cell BK558.out 0).trans rfl, (blk_cell BK558.out 1).trans rfl⟩ (fun hHeld => ?_)
         clear hK K
         refine norm_ (a' := ?_) ?_ ?_
         rotate_left
         ·show Act.put _ (some 71) _ = _
          simp only [Act.put, List.setIfInBounds_toArray, List.set_cons_zero, List.set_cons_succ]
          rfl
         refine one_ (i := 25) (N := some 74) #[true, true, true, true, true, true, true, true, true, true, true, true, true, true, true, true, true, true, true, true, true, true, true, true, true, true, false, false, false] rfl rfl (one_of HT_.out (by kernel_rfl)) (by decide) (fun K hK => ?_)
         refine goes_ Try.func29 (by kernel_rfl) rfl #[.bool false, .slice Ao29 t551.length co29] (by rfl) rfl rfl (by (try simp only [List.map_toArray, List.map_cons, List.map_nil]); first | done | rfl | (simp only [List.length_drop, List.length_take]; rfl)) ?_
         with_reducible refine (isohyetref02_Of.calls false (fun k_ => (((P0_1_ k_ ∨ P1_1_ k_) ∨ w.heap.size ≤ k_) ∧ (k_ ≠ gb543 ∧ (k_ ≠ gb544 ∧ (k_ ≠ gb558 ∧ (k_ ≠ gb559 ∧ k_ ≠ gb568)))))) _ _ t551 t609 t610 _ ?side1 A98.out).mono ?_
         (case side1 => exact HO_559001.out)
         rintro e w111 ⟨v611, rfl, ho0, hb⟩
         refine ⟨_, rfl, ?_⟩
         replace HO_544001 := aK (Kd.V_below (gV HO_544001.out) hb)
         replace HO_545001 := aK (Kd.V_below (gV HO_545001.out) hb)
         replace HO_559001 := aK (Kd.V_below (gV HO_559001.out) hb)
         replace HO_560001 := aK (Kd.V_below (gV HO_560001.out) hb)
         replace HO_569001 := aK (Kd.V_below (gV HO_569001.out) hb)
         replace HO599 := aK (Kd.V_below (gV HO599.out) hb)
         replace HO603 := aK (Kd.V_below (gV HO603.out) hb)
         replace HO608 := aK (Kd.V_below (gV HO608.out) hb)
         have HO612 := aK (Kd.V_lower (Kd.V_mono (ok' := fun k_ => ((P0_1_ k_ ∨ P1_1_ k_) ∨ w.heap.size ≤ k_) ∧ k_ ≠ gb543 ∧ k_ ≠ gb544 ∧ k_ ≠ gb558 ∧ k_ ≠ gb559 ∧ k_ ≠ gb568) ho0 (fun k_ hk_ => ⟨Or.elim hk_ (fun hs_ => hs_.1) (fun hn_ => (.inr (Nat.le_trans (below_size (gB HB.out)) hn_))), Or.elim hk_ (fun hs_ => hs_.2.1) (fun hn_ => (Kd.freshB (g := gb543) (o := .cells #[.bool a0_0, .slice A0_1 l0_1.length c0_1] 25 (0, 0)) (gK BK543.out) k_ hn_)), Or.elim hk_ (fun hs_ => hs_.2.2.1) (fun hn_ => (Kd.freshB (g := gb544) (o := .cells #[.bool a1_0, .slice A1_1 l1_1.length c1_1] 25 (0, 0)) (gK BK544.out) k_ hn_)), Or.elim hk_ (fun hs_ => hs_.2.2.2.1) (fun hn_ => (Kd.freshB (g := gb558) (o := .cells #[.bool t550, .slice Ao29 t551.length co29] 44 (0, 0)) (gK BK558.out) k_ hn_)), Or.elim hk_ (fun hs_ => hs_.2.2.2.2.1) (fun hn_ => (Kd.freshB (g := gb559) (o := .cells #[.bool t554, .slice Ao32 t555.length co32] 44 (0, 0)) (gK BK559.out) k_ hn_)), Or.elim hk_ (fun hs_ => hs_.2.2.2.2.2) (fun hn_ => (Kd.freshB (g := gb568) (o := .cells #[.bool t564, .slice Ao42 t565.length co42] 44 (0, 0)) (gK BK568.out) k_ hn_))⟩)) (below_size (gB HB.out)))
         have n9_ := aK (blk_below (gK BK543.out) hb)
         have n10_ := aK (blk_below (gK BK544.out) hb)
         have n11_ := aK (blk_below (gK BK558.out) hb)
         have n12_ := aK (blk_below (gK BK559.out) hb)
         have n13_ := aK (blk_below (gK BK568.out) hb)
         have n14_ := aK (below_step (gB HB.out) hb)
         clear BK543 BK544 BK558 BK559 BK568 HB
         have BK543 := n9_
         have BK544 := n10_
         have BK558 := n11_
         have BK559 := n12_
         have BK568 := n13_
         have HB := n14_
         clear n9_ n10_ n11_ n12_ n13_ n14_
         (try clear hb)
         (try clear hb2)
         (try clear hk)
         (try clear hi)
         (try clear ho0)
         obtain ⟨Ao112, co112, eo112⟩ := Kd.V_slice HO608.out
         (first | subst eo112 | (injection eo112 with f1_ f2_ f3_; have f4_ := f1_.symm; have f5_ := f3_.symm; clear f1_ f2_ f3_; subst f4_; subst f5_))
         obtain ⟨Ao113, co113, eo113⟩ := Kd.V_slice HO612.out
         (first | subst eo113 | (injection eo113 with f1_ f2_ f3_; have f4_ := f1_.symm; have f5_ := f3_.symm; clear f1_ f2_ f3_; subst f4_; subst f5_))
         refine hK.out _ _ ⟨(blk_cell BK543.out 0).trans rfl, (blk_cell BK543.out 1).trans rfl, (blk_cell BK544.out 0).trans rfl, (blk_cell BK544.out 1).trans rfl, (blk_cell BK568.out 0).trans rfl, (blk_cell BK568.out 1).trans rfl, (blk_cell BK558.out 0).trans rfl, (blk_cell BK558.out 1).trans rfl⟩ (fun hHeld => ?_)
         clear hK K
         refine norm_ (a' := ?_) ?_ ?_
         rotate_left
         ·show Act.put _ (some 74) _ = _
          simp only [Act.put, List.setIfInBounds_toArray, List.set_cons_zero, List.set_cons_succ]
          rfl
         refine one_ (i := 26) (N := some 75) #[true, true, true, true, true, true, true, true, true, true, true, true, true, true, true, true, true, true, true, true, true, true, true, true, true, true, true, false, false] rfl rfl (one_of HT_.out (by kernel_rfl)) (by decide) (fun K hK => ?_)
         refine goes_ Try.func26 (by kernel_rfl) rfl #[.agg #[.bool t605, .slice Ao112 t606.length co112], .agg #[.bool t609, .slice Ao113 t610.length co113]] (by rfl) rfl rfl (by (try simp only [List.map_toArray, List.map_cons, List.map_nil]); first | done | rfl | (simp only [List.length_drop, List.length_take]; rfl)) ?_
         with_reducible refine (isohyetlaw02_is.calls kj10 t605 _ _ t606 t609 _ _ t610 t613 _ ?side1 ?side2 ?side3 ?side4 A99.out).mono ?_
         (case side1 => repeat (first | exact (Kd.V_reads' HO608.out).2.2 | apply Kd.C_alloc | apply Kd.C_drewN | apply Kd.C_drew))
         (case side2 => exact (Kd.V_reads' HO608.out).2.1)
         (case side3 => repeat (first | exact (Kd.V_reads' HO612.out).2.2 | apply Kd.C_alloc | apply Kd.C_drewN | apply Kd.C_drew))
         (case side4 => exact (Kd.V_reads' HO612.out).2.1)
         rintro e w114 ⟨rfl, hb⟩
         refine ⟨_, rfl, ?_⟩
         replace HO_544001 := aK (Kd.V_below (gV HO_544001.out) hb)
         replace HO_545001 := aK (Kd.V_below (gV HO_545001.out) hb)
         replace HO_559001 := aK (Kd.V_below (gV HO_559001.out) hb)
         replace HO_560001 := aK (Kd.V_below (gV HO_560001.out) hb)
         replace HO_569001 := aK (Kd.V_below (gV HO_569001.out) hb)
         replace HO599 := aK (Kd.V_below (gV HO599.out) hb)
         replace HO603 := aK (Kd.V_below (gV HO603.out) hb)
         replace HO608 := aK (Kd.V_below (gV HO608.out) hb)
         replace HO612 := aK (Kd.V_below (gV HO612.out) hb)
         replace BK543 := aK (blk_below (gK BK543.out) hb)
         replace BK544 := aK (blk_below (gK BK544.out) hb)
         replace BK558 := aK (blk_below (gK BK558.out) hb)
         replace BK559 := aK (blk_below (gK BK559.out) hb)
         replace BK568 := aK (blk_below (gK BK568.out) hb)
         replace HB := aK (below_step (gB HB.out) hb)
         (try clear hb)
         (try clear hb2)
         (try clear hk)
         (try clear hi)
         refine hK.out _ _ ⟨(blk_cell BK543.out 0).trans rfl, (blk_cell BK543.out 1).trans rfl, (blk_cell BK544.out 0).trans rfl, (blk_cell BK544.out 1).trans rfl, (blk_cell BK568.out 0).trans rfl, (blk_cell BK568.out 1).trans rfl, (blk_cell BK558.out 0).trans rfl, (blk_cell BK558.out 1).trans rfl⟩ (fun hHeld => ?_)
         clear hK K
         refine norm_ (a' := ?_) ?_ ?_
         rotate_left
         ·show Act.put _ (some 75) _ = _
          simp only [Act.put, List.setIfInBounds_toArray, List.set_cons_zero, List.set_cons_succ]
          rfl
         refine pure_ (i := 27) (N := some 76) (v := ?_) (a' := ?_) #[true, true, true, true, true, true, true, true, true, true, true, true, true, true, true, true, true, true, true, true, true, true, true, true, true, true, true, true, false] rfl rfl (any_of HT_.out (by kernel_rfl)) (fun _ _ _ h => h) (Or.inl ⟨by rfl, ?_⟩) ?_ ?_
         rotate_left
         ·intro w'
          go_simp
          with_reducible rfl
         rotate_left
         ·simp only [Act.put, List.setIfInBounds_toArray, List.set_cons_zero, List.set_cons_succ]
          rfl
         refine pure_ (i := 28) (N := some 4) (v := ?_) (a' := ?_) #[true, true, true, true, true, true, true, true, true, true, true, true, true, true, true, true, true, true, true, true, true, true, true, true, true, true, true, true, true] rfl rfl (any_of HT_.out (by kernel_rfl)) (fun _ _ _ h => h) (Or.inl ⟨by rfl, ?_⟩) ?_ ?_
         rotate_left
         ·intro w'
          go_simp
          with_reducible rfl
         rotate_left
         ·simp only [Act.put, List.setIfInBounds_toArray, List.set_cons_zero, List.set_cons_succ]
          rfl
         refine done_ (done_of HT_.out (by kernel_rfl)) ?_
         try go_wp2
         go_ret
         exact ⟨by first | rfl | (simp [errW_none, errW_some] <;> rfl) | (simp [*, errW_none, errW_some] <;> rfl), gB HB.out⟩
        ·replace c96 := Bool.eq_false_iff.mpr c96
         subst c96
         replace H : (some false) = some r := by rw [if_neg (show ¬ (false = true) by decide)] at H; exact H
         exact absurd ((Option.some.inj H).trans HTRUE) (by decide)
       ·rw [if_neg c92] at H
        have c92b0 : (t594 == t595) = false := beq_eq_false_iff_ne.mpr c92
        have c92b1 : (t594 != t595) = true := bne_iff_ne.mpr c92
        exact absurd ((Option.some.inj H).trans HTRUE) (by decide)
      ·rw [if_neg c89] at H
       have c89b0 : (t592 == t593) = false := beq_eq_false_iff_ne.mpr c89
       have c89b1 : (t592 != t593) = true := bne_iff_ne.mpr c89
       exact absurd ((Option.some.inj H).trans HTRUE) (by decide)
  ·replace c6 := Bool.eq_false_iff.mpr c6
   subst c6
   replace H : (some true) = some r := by rw [if_neg (show ¬ (false = true) by decide)] at H; exact H
   obtain rfl := Option.some.inj H
   go_enter Try.func7, Try.ntmps7
   go_wp2_with (first | ((with_reducible refine gate_dst (N := 2) rfl ?_); refine box_event ?hg (N := 2) ?hd (cs := #[.bool a0_0, .slice A0_1 l0_1.length c0_1]) (t := 25) ?hr ?_; (case hd => rfl); (case hg => rfl); (case hr => first | (go_simp; done) | (go_simp; rfl)); intro gb543 hg w115 hbox hb; replace HO0_1 := aK (Kd.V_below (Kd.V_elderB (gV HO0_1.out) gb543 (Nat.le_of_eq hg.symm)) hb); replace HO1_1 := aK (Kd.V_below (Kd.V_elderB (gV HO1_1.out) gb543 (Nat.le_of_eq hg.symm)) hb); have n2_ := aK (below_step (gB HB.out) hb); have BK543 := aK (hbox); have GE543 := aK ((by rw [hg]; exact (below_size (gB HB.out)) : w.heap.size ≤ gb543)); clear HB; have HB := n2_; clear n2_; clear hb hbox hg) | ((with_reducible refine gate_dst (N := 3) rfl ?_); refine box_event ?hg (N := 3) ?hd (cs := #[.bool a1_0, .slice A1_1 l1_1.length c1_1]) (t := 25) ?hr ?_; (case hd => rfl); (case hg => rfl); (case hr => first | (go_simp; done) | (go_simp; rfl)); intro gb544 hg w116 hbox hb; replace HO0_1 := aK (Kd.V_below (Kd.V_elderB (gV HO0_1.out) gb544 (Nat.le_of_eq hg.symm)) hb); replace HO1_1 := aK (Kd.V_below (Kd.V_elderB (gV HO1_1.out) gb544 (Nat.le_of_eq hg.symm)) hb); have n2_ := aK (blk_below (gK BK543.out) hb); have n3_ := aK (below_step (gB HB.out) hb); have BK544 := aK (hbox); have GE544 := aK ((by rw [hg]; exact (below_size (gB HB.out)) : w.heap.size ≤ gb544)); have NB543_544 := aK ((by rw [hg]; exact Nat.ne_of_lt (blk_lt (gK BK543.out)) : gb543 ≠ gb544)); have NB544_543 := aK ((by rw [hg]; exact Nat.ne_of_gt (blk_lt (gK BK543.out)) : gb544 ≠ gb543)); clear BK543 HB; have BK543 := n2_; have HB := n3_; clear n2_ n3_; clear hb hbox hg) | ((with_reducible refine gate_callee (f := 9) rfl ?_); refine goesL_ (some 8) rfl rfl Try.func9 (by kernel_rfl) rfl #[] rfl (by (try simp only [List.map_toArray, List.map_cons, List.map_nil]); first | done | rfl | (simp only [List.length_drop, List.length_take]; rfl)) ?_; (with_reducible refine (isohyetlaw02_fit.calls k  true _ rfl A3.out).mono ?_); (try clear A3); rintro e w117 ⟨rfl, hb⟩; refine ⟨_, rfl, ?_⟩; replace HO0_1 := aK (Kd.V_below (gV HO0_1.out) hb); replace HO1_1 := aK (Kd.V_below (gV HO1_1.out) hb); replace BK543 := aK (blk_below (gK BK543.out) hb); replace BK544 := aK (blk_below (gK BK544.out) hb); replace HB := aK (below_step (gB HB.out) hb); (try clear hb); (try clear hb2); (try clear hk); (try clear hi); have hnb118 := NB543_544.out; have hnc118 := NB544_543.out; have hcz119_0 : w117.cell? ⟨gb543, 0, none⟩ = some (.bool a0_0) := (blk_cell BK543.out 0).trans rfl; have hcz119_1 : w117.cell? ⟨gb543, 1, none⟩ = some (.slice A0_1 l0_1.length c0_1) := (blk_cell BK543.out 1).trans rfl; have hfz119_0 := blk_frozen BK543.out 0; have hfz119_1 := blk_frozen BK543.out 1; have hcz120_0 : w117.cell? ⟨gb544, 0, none⟩ = some (.bool a1_0) := (blk_cell BK544.out 0).trans rfl; have hcz120_1 : w117.cell? ⟨gb544, 1, none⟩ = some (.slice A1_1 l1_1.length c1_1) := (blk_cell BK544.out 1).trans rfl; have hfz120_0 := blk_frozen BK544.out 0; have hfz120_1 := blk_frozen BK544.out 1) | ((with_reducible refine gate_dst (N := 12) rfl ?_); refine Kd.N_lit k25 _ 25 ?hg (N' := 12) ?hd (xs := ([(⟨a0_0, l0_1⟩ : S25), (⟨a1_0, l1_1⟩ : S25)] : List (S25))) (inner := [.bool a0_0, .slice A0_1 l0_1.length c0_1, .bool a1_0, .slice A1_1 l1_1.length c1_1]) (ok := (fun k_ => ((P0_1_ k_ ∨ P1_1_ k_) ∨ w.heap.size ≤ k_) ∧ k_ ≠ gb543 ∧ k_ ≠ gb544)) (okp := (fun k_ => ((P0_1_ k_ ∨ P1_1_ k_) ∨ w.heap.size ≤ k_) ∧ k_ ≠ gb543 ∧ k_ ≠ gb544)) ?hr ?hp (fun _ hk => hk) ((show ∀ k_, w117.heap.size ≤ k_ → (fun k_ => ((P0_1_ k_ ∨ P1_1_ k_) ∨ w.heap.size ≤ k_) ∧ k_ ≠ gb543 ∧ k_ ≠ gb544) k_ from fun k_ hk => ⟨(.inr (Nat.le_trans (below_size (gB HB.out)) hk)), Kd.freshB (g := gb543) (o := .cells #[.bool a0_0, .slice A0_1 l0_1.length c0_1] 25 (0, 0)) (gK BK543.out) k_ hk, Kd.freshB (g := gb544) (o := .cells #[.bool a1_0, .slice A1_1 l1_1.length c1_1] 25 (0, 0)) (gK BK544.out) k_ hk⟩) _ (Nat.le_refl _)) (Below.refl _ _) (Nat.le_refl _) (by simp) ?_; (case hd => rfl); (case hg => rfl); (case hr => first | (go_simp; done) | (go_simp; rfl)); (case hp => exact (Reps.c2 (show Kd.FK k25 _ _ (⟨a0_0, l0_1⟩ : S25) [.bool a0_0, .slice A0_1 l0_1.length c0_1] from (k25_mkF _ _ (⟨a0_0, l0_1⟩ : S25) (Kd.V_reads' (Kd.V_mono (ok' := (fun k_ => ((P0_1_ k_ ∨ P1_1_ k_) ∨ w.heap.size ≤ k_) ∧ k_ ≠ gb543 ∧ k_ ≠ gb544)) (HO0_1.out) (fun k_ hk => ⟨hk.1.1, ⟨hk.1.2, hk.2⟩⟩))).2.1 (Kd.V_F (Kd.V_mono (ok' := (fun k_ => ((P0_1_ k_ ∨ P1_1_ k_) ∨ w.heap.size ≤ k_) ∧ k_ ≠ gb543 ∧ k_ ≠ gb544)) (HO0_1.out) (fun k_ hk => ⟨hk.1.1, ⟨hk.1.2, hk.2⟩⟩))))) (Reps.c2 (show Kd.FK k25 _ _ (⟨a1_0, l1_1⟩ : S25) [.bool a1_0, .slice A1_1 l1_1.length c1_1] from (k25_mkF _ _ (⟨a1_0, l1_1⟩ : S25) (Kd.V_reads' (Kd.V_mono (ok' := (fun k_ => ((P0_1_ k_ ∨ P1_1_ k_) ∨ w.heap.size ≤ k_) ∧ k_ ≠ gb543 ∧ k_ ≠ gb544)) (HO1_1.out) (fun k_ hk => ⟨hk.1.1, ⟨hk.1.2, hk.2⟩⟩))).2.1 (Kd.V_F (Kd.V_mono (ok' := (fun k_ => ((P0_1_ k_ ∨ P1_1_ k_) ∨ w.heap.size ≤ k_) ∧ k_ ≠ gb543 ∧ k_ ≠ gb544)) (HO1_1.out) (fun k_ hk => ⟨hk.1.1, ⟨hk.1.2, hk.2⟩⟩))))) (Reps.none _ _)))); intro v547 w121 ho122 hb hg_ hnew_; clear hg_ hnew_; (first | rw [← Ny546.out] at ho122 | (simp only [Int.reduceToNat] at ho122; rw [← Ny546.out] at ho122)); replace HO0_1 := aK (Kd.V_elder' (gV HO0_1.out) (Kd.N_base ho122) hb); replace HO1_1 := aK (Kd.V_elder' (gV HO1_1.out) (Kd.N_base ho122) hb); have HO548 := aK (Kd.N_lower ho122 (below_size (gB HB.out))); replace BK543 := aK (blk_below (gK BK543.out) hb); replace BK544 := aK (blk_below (gK BK544.out) hb); have n5_ := aK (below_step (gB HB.out) hb); clear HB; have HB := n5_; clear n5_; clear hb ho122; obtain ⟨Ao123, co123, eo123⟩ := Kd.N_slice HO548.out; subst eo123) | ((with_reducible refine gate_callee (f := 10) rfl ?_); refine goesL_ (some 13) rfl rfl Try.func10 (by kernel_rfl) rfl #[.int .i64 4, .slice Ao123 y546.length co123] rfl (by (try simp only [List.map_toArray, List.map_cons, List.map_nil]); first | done | rfl | (simp only [List.length_drop, List.length_take]; rfl)) ?_; (with_reducible refine (isohyetlaw02_short.calls k 4 _ _ y546 false _ ?side1 ?side2 A5.out).mono ?_); (case side1 => repeat (first | exact (Kd.N_reads' HO548.out).2.2 | apply Kd.C_alloc | apply Kd.C_drewN | apply Kd.C_drew)); (case side2 => exact (Kd.N_reads' HO548.out).2.1); (try clear A5); rintro e w124 ⟨rfl, hb⟩; refine ⟨_, rfl, ?_⟩; replace HO0_1 := aK (Kd.V_below (gV HO0_1.out) hb); replace HO1_1 := aK (Kd.V_below (gV HO1_1.out) hb); replace HO548 := aK (Kd.N_below (gN HO548.out) hb); replace BK543 := aK (blk_below (gK BK543.out) hb); replace BK544 := aK (blk_below (gK BK544.out) hb); replace HB := aK (below_step (gB HB.out) hb); (try clear hb); (try clear hb2); (try clear hk); (try clear hi)))
   go_ret
   exact ⟨by first | rfl | (simp [errW_none, errW_some] <;> rfl) | (simp [*, errW_none, errW_some] <;> rfl), gB HB.out⟩
 ·replace c4 := Bool.eq_false_iff.mpr c4
  subst c4
  replace H : (some false) = some r := by rw [if_neg (show ¬ (false = true) by decide)] at H; exact H
  exact absurd ((Option.some.inj H).trans HTRUE) (by decide)

end Go.Proofs.Ytpgmhhkkbjbpgaa.M
