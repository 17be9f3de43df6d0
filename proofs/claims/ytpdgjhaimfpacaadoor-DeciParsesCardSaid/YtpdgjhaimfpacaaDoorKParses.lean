-- By drive.py (this session's program), out of the translation. Lean checks it.
import Derived.Test.YtpdgjhaimfpacaaDoorA0
import Derived.Test.YtpdgjhaimfpacaaDoorA6
import Derived.Test.YtpdgjhaimfpacaaDoorA7
import Derived.Test.YtpdgjhaimfpacaaDoorE3
namespace Go.Proofs.YtpdgjhaimfpacaaDoor.M
open Go.Proofs.YtpdgjhaimfpacaaDoor.MB Go.Proofs.YtpdgjhaimfpacaaDoor
open Go.RowKit Go.Proofs.YtpdgjhaimfpacaaDoorW.PrintWords Go.Proofs.YtpdgjhaimfpacaaDoorW.PrintLast Go.Proofs.YtpdgjhaimfpacaaDoorW.PrintMore
attribute [local go_sem] max2_int min2_int max_two min_two max_three min_three max_four min_four   -- for this text's walks alone
set_option linter.unusedVariables false
set_option linter.unusedSimpArgs false
attribute [local go_sem] add64_run sub64_run

/-! ### isohyetlaw04_DeciParses: function 3 -/
def isohyetlaw04_DeciParses.f (k : Nat) (a0 : ByteArray) (a1 : Int) : Option (Bool) := (isohyetlaw04_fit.f k).bind fun t373 => (if t373 = true then (if (a0.size : Int) > 1000 then (some true) else ((deci_Parse.f k a0 a1).bind fun bt374 => ((isohyetlaw04_units.f k a0 (mn (mx a1 0) 9)).bind fun bt376 => (if bt374.2 = bt376.2 then (some (bt374.1 == bt376.1)) else (some false))))) else (some false))
theorem isohyetlaw04_DeciParses.mono : ∀ a0 a1 k, LeO (isohyetlaw04_DeciParses.f k a0 a1) (isohyetlaw04_DeciParses.f (k + 1) a0 a1) := by
 intro a0 a1 k
 unfold isohyetlaw04_DeciParses.f
 repeat' first
   | (with_reducible exact deci_Parse.mono _ _ _)
   | (with_reducible exact isohyetlaw04_fit.mono _)
   | (with_reducible exact isohyetlaw04_units.mono _ _ _)
   | (with_reducible exact LeO.refl _)
   | (with_reducible exact LeO.none _)
   | (with_reducible refine LeO.ite ?_ ?_)
   | (with_reducible refine LeO.bind ?_ (fun _ => ?_))
   | exact deci_Parse.mono _ _ _
   | exact isohyetlaw04_fit.mono _
   | exact isohyetlaw04_units.mono _ _ _
   | exact LeO.none _
   | refine LeO.ite ?_ ?_
   | refine LeO.bind ?_ (fun _ => ?_)
set_option maxHeartbeats 8000000 in
set_option maxRecDepth 100000 in
theorem isohyetlaw04_DeciParses.calls (k : Nat) (a0 : ByteArray) (a1 : Int) (r : Bool) (w : World) (HT0 : MB.TabW w) (HTRUE : r = true) (h : isohyetlaw04_DeciParses.f k a0 a1 = some r) :
  Calls Tryd.prog 3 #[.string a0, .int .i64 a1] w fun e w' => e = .returned (.bool r) ∧ Below w.heap.size w w' := by
 have HB := Aside0.mk (Below.refl w.heap.size w)
 have H : ((isohyetlaw04_fit.f k).bind fun t373 => (if t373 = true then (if (a0.size : Int) > 1000 then (some true) else ((deci_Parse.f k a0 a1).bind fun bt374 => ((isohyetlaw04_units.f k a0 (mn (mx a1 0) 9)).bind fun bt376 => (if bt374.2 = bt376.2 then (some (bt374.1 == bt376.1)) else (some false))))) else (some false))) = some r := h
 clear h
 replace H := Option.bind_eq_some_iff.mp H
 obtain ⟨t373, A30, H⟩ := H
 replace H : (if t373 = true then (if (a0.size : Int) > 1000 then (some true) else ((deci_Parse.f k a0 a1).bind fun bt374 => ((isohyetlaw04_units.f k a0 (mn (mx a1 0) 9)).bind fun bt376 => (if bt374.2 = bt376.2 then (some (bt374.1 == bt376.1)) else (some false))))) else (some false)) = some r := H
 have A3 := Aside0.mk A30
 clear A30
 by_cases c4 : t373 = true
 ·subst c4
  have H1 : (if (a0.size : Int) > 1000 then (some true) else ((deci_Parse.f k a0 a1).bind fun bt374 => ((isohyetlaw04_units.f k a0 (mn (mx a1 0) 9)).bind fun bt376 => (if bt374.2 = bt376.2 then (some (bt374.1 == bt376.1)) else (some false))))) = some r := by rw [if_pos rfl] at H; exact H
  clear H
  have H := H1
  clear H1
  by_cases c5 : (a0.size : Int) > 1000
  ·rw [if_pos c5] at H
   have c5b0 : decide (1000 < (a0.size : Int)) = true := decide_eq_true c5
   have c5b1 : decide (1000 < a0.size) = true := decide_eq_true (by omega)
   clear c5
   obtain rfl := Option.some.inj H
   go_enter Tryd.func3, Tryd.ntmps3
   go_wp2_with (first | ((with_reducible refine gate_callee (f := 8) rfl ?_); refine goesL_ (some 9) rfl rfl Tryd.func8 (by kernel_rfl) rfl #[] rfl (by (try simp only [List.map_toArray, List.map_cons, List.map_nil]); first | done | rfl | (simp only [List.length_drop, List.length_take]; rfl)) ?_; (with_reducible refine (isohyetlaw04_fit.calls k  true _ (MB.tab_below HT0 (gB HB.out)) rfl A3.out).mono ?_); (try clear A3); rintro e w6 ⟨rfl, hb⟩; refine ⟨_, rfl, ?_⟩; have n0_ := Aside0.mk (below_step (gB HB.out) hb); clear HB; have HB := n0_; clear n0_; (try clear hb); (try clear hb2); (try clear hk); (try clear hi)))
   go_ret
   exact ⟨by first | rfl | (simp [errW_none, errW_some] <;> rfl) | (simp [*, errW_none, errW_some] <;> rfl), by repeat (first | (with_reducible first | exact HB.out | apply bA | apply bN | apply bD) | exact HB.out)⟩
  ·rw [if_neg c5] at H
   have c5b0 : decide (1000 < (a0.size : Int)) = false := decide_eq_false c5
   have c5b1 : decide (1000 < a0.size) = false := decide_eq_false (by omega)
   clear c5
   replace H := Option.bind_eq_some_iff.mp H
   obtain ⟨⟨t374, t375⟩, A70, H⟩ := H
   replace H : ((isohyetlaw04_units.f k a0 (mn (mx a1 0) 9)).bind fun bt376 => (if t375 = bt376.2 then (some (t374 == bt376.1)) else (some false))) = some r := H
   have A7 := Aside0.mk A70
   clear A70
   obtain ⟨ji8, hji8⟩ : ∃ j_ : Int, (mx a1 0) = j_ := ⟨_, rfl⟩
   replace H : ((isohyetlaw04_units.f k a0 (mn (ji8) 9)).bind fun bt376 => (if t375 = bt376.2 then (some (t374 == bt376.1)) else (some false))) = some r := by first | (rw [hji8] at H; exact H) | (simp only [hji8] at H ⊢; exact H)
   (try rw [hji8] at A3)
   (try rw [hji8] at A7)
   (try (have hji8l : 0 ≤ ji8 := by (rw [← hji8]; unfold mx; (repeat' split) <;> omega)))
   (try (have hji8m : 0 ≤ ji8 := by omega))
   have hji8_ : (if a1 < 0 then 0 else a1) = ji8 := hji8
   obtain ⟨ji9, hji9⟩ : ∃ j_ : Int, (mn (ji8) 9) = j_ := ⟨_, rfl⟩
   replace H : ((isohyetlaw04_units.f k a0 (ji9)).bind fun bt376 => (if t375 = bt376.2 then (some (t374 == bt376.1)) else (some false))) = some r := by first | (rw [hji9] at H; exact H) | (simp only [hji9] at H ⊢; exact H)
   (try rw [hji9] at A3)
   (try rw [hji9] at A7)
   have hji9_ : (if 9 < (ji8) then 9 else (ji8)) = ji9 := hji9
   replace H := Option.bind_eq_some_iff.mp H
   obtain ⟨⟨t376, t377⟩, A100, H⟩ := H
   replace H : (if t375 = t377 then (some (t374 == t376)) else (some false)) = some r := H
   have A10 := Aside0.mk A100
   clear A100
   by_cases c11 : t375 = t377
   ·rw [if_pos c11] at H
    have c11b0 : (t375 == t377) = true := beq_iff_eq.mpr c11
    have c11b1 : (t375 != t377) = false := bne_eq_false_iff_eq.mpr c11
    clear c11
    obtain rfl := Option.some.inj H
    go_enter Tryd.func3, Tryd.ntmps3
    go_wp2_with (first | ((with_reducible refine gate_callee (f := 8) rfl ?_); refine goesL_ (some 9) rfl rfl Tryd.func8 (by kernel_rfl) rfl #[] rfl (by (try simp only [List.map_toArray, List.map_cons, List.map_nil]); first | done | rfl | (simp only [List.length_drop, List.length_take]; rfl)) ?_; (with_reducible refine (isohyetlaw04_fit.calls k  true _ (MB.tab_below HT0 (gB HB.out)) rfl A3.out).mono ?_); (try clear A3); rintro e w12 ⟨rfl, hb⟩; refine ⟨_, rfl, ?_⟩; have n0_ := Aside0.mk (below_step (gB HB.out) hb); clear HB; have HB := n0_; clear n0_; (try clear hb); (try clear hb2); (try clear hk); (try clear hi)) | ((with_reducible refine gate_callee (f := 9) rfl ?_); refine goesL_ (some 17) rfl rfl Tryd.func9 (by kernel_rfl) rfl #[.string a0, .int .i64 a1] rfl (by (try simp only [List.map_toArray, List.map_cons, List.map_nil]); first | done | rfl | (simp only [List.length_drop, List.length_take]; rfl)) ?_; (with_reducible refine (deci_Parse.calls k a0 a1 t374 t375 _ (MB.tab_below HT0 (gB HB.out)) A7.out).mono ?_); (try clear A7); rintro e w13 ⟨rfl, hb⟩; refine ⟨_, rfl, ?_⟩; have n0_ := Aside0.mk (below_step (gB HB.out) hb); clear HB; have HB := n0_; clear n0_; (try clear hb); (try clear hb2); (try clear hk); (try clear hi)) | ((with_reducible refine gate_callee (f := 10) rfl ?_); refine goesL_ (some 25) rfl rfl Tryd.func10 (by kernel_rfl) rfl #[.string a0, .int .i64 ji9] rfl (by (try simp only [List.map_toArray, List.map_cons, List.map_nil]); first | done | (simp only [hji9]; rfl) | rfl | (simp only [List.length_drop, List.length_take]; rfl)) ?_; (with_reducible refine (isohyetlaw04_units.calls k a0 ji9 t376 t377 _ A10.out).mono ?_); (try clear A10); rintro e w14 ⟨rfl, hb⟩; refine ⟨_, rfl, ?_⟩; have n0_ := Aside0.mk (below_step (gB HB.out) hb); clear HB; have HB := n0_; clear n0_; (try clear hb); (try clear hb2); (try clear hk); (try clear hi)))
    go_ret
    exact ⟨by first | rfl | (simp [errW_none, errW_some] <;> rfl) | (simp only [← hji8, ← hji9]; first | rfl | (simp [errW_none, errW_some] <;> rfl)) | (simp [*, errW_none, errW_some] <;> rfl), by repeat (first | (with_reducible first | exact HB.out | apply bA | apply bN | apply bD) | exact HB.out)⟩
   ·rw [if_neg c11] at H
    have c11b0 : (t375 == t377) = false := beq_eq_false_iff_ne.mpr c11
    have c11b1 : (t375 != t377) = true := bne_iff_ne.mpr c11
    exact absurd ((Option.some.inj H).trans HTRUE) (by decide)
 ·replace c4 := Bool.eq_false_iff.mpr c4
  subst c4
  have H1 : (some false) = some r := by rw [if_neg (show ¬ (false = true) by decide)] at H; exact H
  clear H
  have H := H1
  clear H1
  exact absurd ((Option.some.inj H).trans HTRUE) (by decide)

end Go.Proofs.YtpdgjhaimfpacaaDoor.M
