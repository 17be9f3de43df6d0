-- By drive.py (this session's program), out of the translation. Lean checks it.
import Derived.Test.YtpdgjhaimfpacaaDoorA0
import Derived.Test.YtpdgjhaimfpacaaDoorC1
import Derived.Test.YtpdgjhaimfpacaaDoorE3
import Derived.Test.YtpdgjhaimfpacaaDoorE4
import Derived.Test.YtpdgjhaimfpacaaDoorE5
namespace Go.Proofs.YtpdgjhaimfpacaaDoor.M
open Go.Proofs.YtpdgjhaimfpacaaDoor.MB Go.Proofs.YtpdgjhaimfpacaaDoor
open Go.RowKit Go.Proofs.YtpdgjhaimfpacaaDoorW.PrintWords Go.Proofs.YtpdgjhaimfpacaaDoorW.PrintLast Go.Proofs.YtpdgjhaimfpacaaDoorW.PrintMore
attribute [local go_sem] max2_int min2_int max_two min_two max_three min_three max_four min_four   -- for this text's walks alone
set_option linter.unusedVariables false
set_option linter.unusedSimpArgs false
attribute [local go_sem] add64_run sub64_run

/-! ### isohyetlaw04_fit: function 8 -/
def isohyetlaw04_fit.f (k : Nat)  : Option (Bool) := (deci_Parse.f k (⟨#[45, 48, 46, 53]⟩ : ByteArray) 2).bind fun bt365 => (if bt365.2 = 0 then (if bt365.1 = (-50) then ((deci_Text.f k bt365.1 2).bind fun t367 => (if t367.toList = ([45, 48, 46, 53, 48] : List UInt8) then ((num_Of.f k (-12)).bind fun bt368 => ((deci_Digits.f k bt368.1 bt368.2).bind fun t372 => (some (t372.toList == ([45, 49, 50] : List UInt8))))) else (some false))) else (some false)) else (some false))
theorem isohyetlaw04_fit.mono : ∀ k, LeO (isohyetlaw04_fit.f k ) (isohyetlaw04_fit.f (k + 1) ) := by
 intro  k
 unfold isohyetlaw04_fit.f
 repeat' first
   | (with_reducible exact deci_Digits.mono _ _ _)
   | (with_reducible exact deci_Parse.mono _ _ _)
   | (with_reducible exact deci_Text.mono _ _ _)
   | (with_reducible exact num_Of.mono _ _)
   | (with_reducible exact LeO.refl _)
   | (with_reducible exact LeO.none _)
   | (with_reducible refine LeO.ite ?_ ?_)
   | (with_reducible refine LeO.bind ?_ (fun _ => ?_))
   | exact deci_Digits.mono _ _ _
   | exact deci_Parse.mono _ _ _
   | exact deci_Text.mono _ _ _
   | exact num_Of.mono _ _
   | exact LeO.none _
   | refine LeO.ite ?_ ?_
   | refine LeO.bind ?_ (fun _ => ?_)
set_option maxHeartbeats 8000000 in
set_option maxRecDepth 100000 in
theorem isohyetlaw04_fit.calls (k : Nat)  (r : Bool) (w : World) (HT0 : MB.TabW w) (HTRUE : r = true) (h : isohyetlaw04_fit.f k  = some r) :
  Calls Tryd.prog 8 #[] w fun e w' => e = .returned (.bool r) ∧ Below w.heap.size w w' := by
 have HB := Aside0.mk (Below.refl w.heap.size w)
 have H : ((deci_Parse.f k (⟨#[45, 48, 46, 53]⟩ : ByteArray) 2).bind fun bt365 => (if bt365.2 = 0 then (if bt365.1 = (-50) then ((deci_Text.f k bt365.1 2).bind fun t367 => (if t367.toList = ([45, 48, 46, 53, 48] : List UInt8) then ((num_Of.f k (-12)).bind fun bt368 => ((deci_Digits.f k bt368.1 bt368.2).bind fun t372 => (some (t372.toList == ([45, 49, 50] : List UInt8))))) else (some false))) else (some false)) else (some false))) = some r := h
 clear h
 replace H := Option.bind_eq_some_iff.mp H
 obtain ⟨⟨t365, t366⟩, A10, H⟩ := H
 replace H : (if t366 = 0 then (if t365 = (-50) then ((deci_Text.f k t365 2).bind fun t367 => (if t367.toList = ([45, 48, 46, 53, 48] : List UInt8) then ((num_Of.f k (-12)).bind fun bt368 => ((deci_Digits.f k bt368.1 bt368.2).bind fun t372 => (some (t372.toList == ([45, 49, 50] : List UInt8))))) else (some false))) else (some false)) else (some false)) = some r := H
 have A1 := Aside0.mk A10
 clear A10
 by_cases c2 : t366 = 0
 ·rw [if_pos c2] at H
  have c2b0 : (t366 == 0) = true := beq_iff_eq.mpr c2
  have c2b1 : (t366 != 0) = false := bne_eq_false_iff_eq.mpr c2
  clear c2
  by_cases c3 : t365 = (-50)
  ·rw [if_pos c3] at H
   have c3b0 : (t365 == (-50)) = true := beq_iff_eq.mpr c3
   have c3b1 : (t365 != (-50)) = false := bne_eq_false_iff_eq.mpr c3
   clear c3
   replace H := Option.bind_eq_some_iff.mp H
   obtain ⟨t367, A40, H⟩ := H
   replace H : (if t367.toList = ([45, 48, 46, 53, 48] : List UInt8) then ((num_Of.f k (-12)).bind fun bt368 => ((deci_Digits.f k bt368.1 bt368.2).bind fun t372 => (some (t372.toList == ([45, 49, 50] : List UInt8))))) else (some false)) = some r := H
   have A4 := Aside0.mk A40
   clear A40
   by_cases c5 : t367.toList = ([45, 48, 46, 53, 48] : List UInt8)
   ·rw [if_pos c5] at H
    have c5b0 : (t367.toList == ([45, 48, 46, 53, 48] : List UInt8)) = true := beq_iff_eq.mpr c5
    have c5b1 : (t367.toList != ([45, 48, 46, 53, 48] : List UInt8)) = false := bne_eq_false_iff_eq.mpr c5
    clear c5
    replace H := Option.bind_eq_some_iff.mp H
    obtain ⟨⟨t368, t369⟩, A60, H⟩ := H
    replace H : ((deci_Digits.f k t368 t369).bind fun t372 => (some (t372.toList == ([45, 49, 50] : List UInt8)))) = some r := H
    have A6 := Aside0.mk A60
    clear A60
    replace H := Option.bind_eq_some_iff.mp H
    obtain ⟨t372, A70, H⟩ := H
    replace H : (some (t372.toList == ([45, 49, 50] : List UInt8))) = some r := H
    have A7 := Aside0.mk A70
    clear A70
    obtain rfl := Option.some.inj H
    go_enter Tryd.func8, Tryd.ntmps8
    go_wp2_with (first | ((with_reducible refine gate_callee (f := 9) rfl ?_); refine goesL_ (some 4) rfl rfl Tryd.func9 (by kernel_rfl) rfl #[.string (⟨#[45, 48, 46, 53]⟩ : ByteArray), .int .i64 2] rfl (by (try simp only [List.map_toArray, List.map_cons, List.map_nil]); first | done | rfl | (simp only [List.length_drop, List.length_take]; rfl)) ?_; (with_reducible refine (deci_Parse.calls k (⟨#[45, 48, 46, 53]⟩ : ByteArray) 2 t365 t366 _ (MB.tab_below HT0 (gB HB.out)) A1.out).mono ?_); (try clear A1); rintro e w8 ⟨rfl, hb⟩; refine ⟨_, rfl, ?_⟩; have n0_ := Aside0.mk (below_step (gB HB.out) hb); clear HB; have HB := n0_; clear n0_; (try clear hb); (try clear hb2); (try clear hk); (try clear hi)) | (go_at_call 11; (with_reducible refine (deci_Text.calls k t365 2 t367 _ A4.out).mono ?_); (try clear A4); rintro e w9 ⟨rfl, hb⟩; have n0_ := Aside0.mk (below_step (gB HB.out) hb); clear HB; have HB := n0_; clear n0_; (try clear hb); (try clear hb2); (try clear hk); (try clear hi)) | (go_at_call 14; (with_reducible refine (num_Of.calls k (-12) t368 t369 _ A6.out).mono ?_); (try clear A6); rintro e w10 ⟨v370, rfl, ho0, hb⟩; have n0_ := Aside0.mk (Kd.V_lower (Kd.V_mono (ok' := fun k_ => True) ho0 (fun k_ hk_ => trivial)) (below_size (gB HB.out))); have n1_ := Aside0.mk (below_step (gB HB.out) hb); clear HB; have HO371 := n0_; have HB := n1_; clear n0_ n1_; (try clear hb); (try clear hb2); (try clear hk); (try clear hi); (try clear ho0); obtain ⟨Ao11, co11, eo11⟩ := Kd.V_slice HO371.out; subst eo11) | (go_at_call 15; (with_reducible refine (deci_Digits.calls k t368 (fun k_ => True) _ _ t369 t372 _ ?side1 A7.out).mono ?_); (case side1 => exact HO371.out); (try clear A7); rintro e w12 ⟨rfl, hb⟩; have n0_ := Aside0.mk (Kd.V_below (gV HO371.out) hb); have n1_ := Aside0.mk (below_step (gB HB.out) hb); clear HO371; clear HB; have HO371 := n0_; have HB := n1_; clear n0_ n1_; (try clear hb); (try clear hb2); (try clear hk); (try clear hi)))
    go_ret
    exact ⟨by first | rfl | (simp [errW_none, errW_some] <;> rfl) | (simp [*, errW_none, errW_some] <;> rfl), by repeat (first | (with_reducible first | exact HB.out | apply bA | apply bN | apply bD) | exact HB.out)⟩
   ·rw [if_neg c5] at H
    have c5b0 : (t367.toList == ([45, 48, 46, 53, 48] : List UInt8)) = false := beq_eq_false_iff_ne.mpr c5
    have c5b1 : (t367.toList != ([45, 48, 46, 53, 48] : List UInt8)) = true := bne_iff_ne.mpr c5
    exact absurd ((Option.some.inj H).trans HTRUE) (by decide)
  ·rw [if_neg c3] at H
   have c3b0 : (t365 == (-50)) = false := beq_eq_false_iff_ne.mpr c3
   have c3b1 : (t365 != (-50)) = true := bne_iff_ne.mpr c3
   exact absurd ((Option.some.inj H).trans HTRUE) (by decide)
 ·rw [if_neg c2] at H
  have c2b0 : (t366 == 0) = false := beq_eq_false_iff_ne.mpr c2
  have c2b1 : (t366 != 0) = true := bne_iff_ne.mpr c2
  exact absurd ((Option.some.inj H).trans HTRUE) (by decide)

end Go.Proofs.YtpdgjhaimfpacaaDoor.M
