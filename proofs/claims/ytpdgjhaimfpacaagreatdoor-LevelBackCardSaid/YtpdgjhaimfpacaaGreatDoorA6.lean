-- By drive.py (this session's program), out of the translation. Lean checks it.
import Derived.Test.YtpdgjhaimfpacaaGreatDoorA0
import Derived.Test.YtpdgjhaimfpacaaGreatDoorE10
import Derived.Test.YtpdgjhaimfpacaaGreatDoorE9
namespace Go.Proofs.YtpdgjhaimfpacaaGreatDoor.M
open Go.Proofs.YtpdgjhaimfpacaaGreatDoor.MB Go.Proofs.YtpdgjhaimfpacaaGreatDoor
open Go.RowKit Go.Proofs.YtpdgjhaimfpacaaGreatDoorW.PrintWords Go.Proofs.YtpdgjhaimfpacaaGreatDoorW.PrintLast Go.Proofs.YtpdgjhaimfpacaaGreatDoorW.PrintMore
attribute [local go_sem] max2_int min2_int max_two min_two max_three min_three max_four min_four   -- for this text's walks alone
set_option linter.unusedVariables false
set_option linter.unusedSimpArgs false
attribute [local go_sem] add64_run sub64_run

/-! ### isohyetlaw18_fit: function 17 -/
def isohyetlaw18_fit.f (k : Nat)  : Option (Bool) := (level_Parse.f k (⟨#[48, 58, 49, 48, 58, 52]⟩ : ByteArray) 0).bind fun bt378 => (if bt378.2 = 0 then (if (bt378.1.length : Int) = 3 then (if 2 < (bt378.1.length : Int) then (if (rd bt378.1 2) = 8 then ((level_Print.f k bt378.1 1).bind fun t383 => (some (t383.toList == ([48, 46, 48, 44, 48, 46, 52, 44, 48, 46, 56] : List UInt8)))) else (some false)) else (none)) else (some false)) else (some false))
theorem isohyetlaw18_fit.mono : ∀ k, LeO (isohyetlaw18_fit.f k ) (isohyetlaw18_fit.f (k + 1) ) := by
 intro  k
 unfold isohyetlaw18_fit.f
 repeat' first
   | (with_reducible exact level_Parse.mono _ _ _)
   | (with_reducible exact level_Print.mono _ _ _)
   | (with_reducible exact LeO.refl _)
   | (with_reducible exact LeO.none _)
   | (with_reducible refine LeO.ite ?_ ?_)
   | (with_reducible refine LeO.bind ?_ (fun _ => ?_))
   | exact level_Parse.mono _ _ _
   | exact level_Print.mono _ _ _
   | exact LeO.none _
   | refine LeO.ite ?_ ?_
   | refine LeO.bind ?_ (fun _ => ?_)
set_option maxHeartbeats 8000000 in
set_option maxRecDepth 100000 in
theorem isohyetlaw18_fit.calls (k : Nat)  (r : Bool) (w : World) (HT0 : MB.TabW w) (HTRUE : r = true) (h : isohyetlaw18_fit.f k  = some r) :
  Calls Tryz.prog 17 #[] w fun e w' => e = .returned (.bool r) ∧ Below w.heap.size w w' := by
 have HB := Aside0.mk (Below.refl w.heap.size w)
 have H : ((level_Parse.f k (⟨#[48, 58, 49, 48, 58, 52]⟩ : ByteArray) 0).bind fun bt378 => (if bt378.2 = 0 then (if (bt378.1.length : Int) = 3 then (if 2 < (bt378.1.length : Int) then (if (rd bt378.1 2) = 8 then ((level_Print.f k bt378.1 1).bind fun t383 => (some (t383.toList == ([48, 46, 48, 44, 48, 46, 52, 44, 48, 46, 56] : List UInt8)))) else (some false)) else (none)) else (some false)) else (some false))) = some r := h
 clear h
 replace H := Option.bind_eq_some_iff.mp H
 obtain ⟨⟨t378, t379⟩, A10, H⟩ := H
 replace H : (if t379 = 0 then (if (t378.length : Int) = 3 then (if 2 < (t378.length : Int) then (if (rd t378 2) = 8 then ((level_Print.f k t378 1).bind fun t383 => (some (t383.toList == ([48, 46, 48, 44, 48, 46, 52, 44, 48, 46, 56] : List UInt8)))) else (some false)) else (none)) else (some false)) else (some false)) = some r := H
 have A1 := Aside0.mk A10
 clear A10
 by_cases c2 : t379 = 0
 ·rw [if_pos c2] at H
  have c2b0 : (t379 == 0) = true := beq_iff_eq.mpr c2
  have c2b1 : (t379 != 0) = false := bne_eq_false_iff_eq.mpr c2
  clear c2
  by_cases c3 : (t378.length : Int) = 3
  ·rw [if_pos c3] at H
   have c3b0 : ((t378.length : Int) == 3) = true := beq_iff_eq.mpr c3
   have c3b1 : ((t378.length : Int) != 3) = false := bne_eq_false_iff_eq.mpr c3
   clear c3
   by_cases c4 : 2 < (t378.length : Int)
   ·rw [if_pos c4] at H
    have c4b0 : decide (2 < (t378.length : Int)) = true := decide_eq_true c4
    have c4b1 : decide (2 < t378.length) = true := decide_eq_true (by omega)
    clear c4
    by_cases c5 : (rd t378 2) = 8
    ·rw [if_pos c5] at H
     have c5b0 : ((rd t378 2) == 8) = true := beq_iff_eq.mpr c5
     have c5b1 : ((rd t378 2) != 8) = false := bne_eq_false_iff_eq.mpr c5
     clear c5
     replace H := Option.bind_eq_some_iff.mp H
     obtain ⟨t383, A60, H⟩ := H
     replace H : (some (t383.toList == ([48, 46, 48, 44, 48, 46, 52, 44, 48, 46, 56] : List UInt8))) = some r := H
     have A6 := Aside0.mk A60
     clear A60
     obtain rfl := Option.some.inj H
     go_enter Tryz.func17, Tryz.ntmps17
     go_wp2_with (first | ((with_reducible refine gate_callee (f := 20) rfl ?_); refine goesL_ (some 4) rfl rfl Tryz.func20 (by kernel_rfl) rfl #[.string (⟨#[48, 58, 49, 48, 58, 52]⟩ : ByteArray), .int .i64 0] rfl (by (try simp only [List.map_toArray, List.map_cons, List.map_nil]); first | done | rfl | (simp only [List.length_drop, List.length_take]; rfl)) ?_; (with_reducible refine (level_Parse.calls k (⟨#[48, 58, 49, 48, 58, 52]⟩ : ByteArray) 0 t378 t379 _ (MB.tab_below HT0 (gB HB.out)) A1.out).mono ?_); (try clear A1); rintro e w7 ⟨v380, rfl, ho0, hb⟩; refine ⟨_, rfl, ?_⟩; have n0_ := Aside0.mk (Kd.R_lower ho0 (below_size (gB HB.out))); have n1_ := Aside0.mk (below_step (gB HB.out) hb); clear HB; have HO381 := n0_; have HB := n1_; clear n0_ n1_; (try clear hb); (try clear hb2); (try clear hk); (try clear hi); (try clear ho0); obtain ⟨Ao8, co8, eo8⟩ := Kd.R_slice HO381.out; subst eo8; have p382 : 0 ≤ (2 : Int) := (by omega); have q382 : 2 < (t378.length : Int) := of_decide_eq_true (by first | (with_reducible assumption) | assumption); obtain ⟨ad382, e382, hx382_0⟩ := Kd.at_int (Kd.R_reads' HO381.out).2.2 2 p382 q382; cases e382; (try simp only [show (2 : Int).toNat = 2 from rfl, Nat.reduceMul, Nat.reduceEqDiff, Go.Addr.add, ↓reduceIte] at hx382_0); have qi382 : (2 < t378.length) = True := eq_true (by omega); (try rw [show ((2 : Int)).toNat = 2 from rfl] at hx382_0); replace p382 := eq_true p382; replace q382 := eq_true q382) | (go_at_call 21; (with_reducible refine (level_Print.calls k _ _ t378 1 t383 _ ?side1 ?side2 A6.out).mono ?_); (case side1 => repeat (first | exact (Kd.R_reads' HO381.out).2.2 | (with_reducible refine Kd.C_alloc ?_ _) | (with_reducible refine Kd.C_drewN ?_ _) | (with_reducible refine Kd.C_drew ?_))); (case side2 => exact (Kd.R_reads' HO381.out).2.1); (try clear A6); rintro e w9 ⟨rfl, hb⟩; have n0_ := Aside0.mk (Kd.R_below (gR HO381.out) hb); have n1_ := Aside0.mk (below_step (gB HB.out) hb); clear HO381; clear HB; have HO381 := n0_; have HB := n1_; clear n0_ n1_; (try clear hb); (try clear hb2); (try clear hk); (try clear hi)))
     go_ret
     exact ⟨by first | rfl | (simp [errW_none, errW_some] <;> rfl) | (simp [*, errW_none, errW_some] <;> rfl), by repeat (first | (with_reducible first | exact HB.out | apply bA | apply bN | apply bD) | exact HB.out)⟩
    ·rw [if_neg c5] at H
     have c5b0 : ((rd t378 2) == 8) = false := beq_eq_false_iff_ne.mpr c5
     have c5b1 : ((rd t378 2) != 8) = true := bne_iff_ne.mpr c5
     exact absurd ((Option.some.inj H).trans HTRUE) (by decide)
   ·rw [if_neg c4] at H
    exact absurd H (by simp)
  ·rw [if_neg c3] at H
   have c3b0 : ((t378.length : Int) == 3) = false := beq_eq_false_iff_ne.mpr c3
   have c3b1 : ((t378.length : Int) != 3) = true := bne_iff_ne.mpr c3
   exact absurd ((Option.some.inj H).trans HTRUE) (by decide)
 ·rw [if_neg c2] at H
  have c2b0 : (t379 == 0) = false := beq_eq_false_iff_ne.mpr c2
  have c2b1 : (t379 != 0) = true := bne_iff_ne.mpr c2
  exact absurd ((Option.some.inj H).trans HTRUE) (by decide)

end Go.Proofs.YtpdgjhaimfpacaaGreatDoor.M
