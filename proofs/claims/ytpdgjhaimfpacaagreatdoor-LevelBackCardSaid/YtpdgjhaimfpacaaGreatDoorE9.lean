-- By drive.py (this session's program), out of the translation. Lean checks it.
import Derived.Test.YtpdgjhaimfpacaaGreatDoorA0
import Derived.Test.YtpdgjhaimfpacaaGreatDoorE7
import Derived.Test.YtpdgjhaimfpacaaGreatDoorE8
namespace Go.Proofs.YtpdgjhaimfpacaaGreatDoor.M
open Go.Proofs.YtpdgjhaimfpacaaGreatDoor.MB Go.Proofs.YtpdgjhaimfpacaaGreatDoor
open Go.RowKit Go.Proofs.YtpdgjhaimfpacaaGreatDoorW.PrintWords Go.Proofs.YtpdgjhaimfpacaaGreatDoorW.PrintLast Go.Proofs.YtpdgjhaimfpacaaGreatDoorW.PrintMore
attribute [local go_sem] max2_int min2_int max_two min_two max_three min_three max_four min_four   -- for this text's walks alone
set_option linter.unusedVariables false
set_option linter.unusedSimpArgs false
attribute [local go_sem] add64_run sub64_run

/-! ### level_Parse: function 20 -/
def level_Parse.l0 : Nat → List Int → List Int → Int → Option (List Int × Int)
 | 0, _, _, _ => none
 | k + 1, x7, x9, x10 => if 1 < (x7.length : Int) then (if x10 ≤ (rd x7 1) then (if (x9.length : Int) = 200 then (some (([] : List Int), 5)) else (if x9.length < 17592186044416 then (if 2 < (x7.length : Int) then (level_Parse.l0 k x7 (x9 ++ [x10]) (wrap64 (x10 + (rd x7 2)))) else (none)) else (none))) else (some (x9, 0))) else (none)
def level_Parse.f (k : Nat) (a0 : ByteArray) (a1 : Int) : Option (List Int × Int) := if (a0.size : Int) > 200000 then (some (([] : List Int), 2)) else ((strings_Split.f a0 (⟨#[58]⟩ : ByteArray)).bind fun t346 => (if (t346.length : Int) = 1 then ((level_list.f k a0 a1).bind fun bt349 => (some (bt349.1, bt349.2))) else ((level_numbers.f k t346 a1).bind fun bt353 => (if bt353.2 = 0 then (if (bt353.1.length : Int) = 3 then (if 2 < (bt353.1.length : Int) then (if (rd bt353.1 2) ≤ 0 then (some (([] : List Int), 1)) else (if 0 < (bt353.1.length : Int) then (level_Parse.l0 k bt353.1 ([] : List Int) (rd bt353.1 0)) else (none))) else (none)) else (some (([] : List Int), 1))) else (some (([] : List Int), bt353.2))))))
theorem level_Parse.mono_l : ∀ k, (∀ y0 y1 y2, LeO (level_Parse.l0 k y0 y1 y2) (level_Parse.l0 (k + 1) y0 y1 y2))
 | 0 => fun _ _ _ r h => by simp [level_Parse.l0] at h
 | k + 1 => by
  have ih0 := level_Parse.mono_l k
  ·intro y0 y1 y2
   unfold level_Parse.l0
   repeat' first
   | (with_reducible exact ih0 _ _ _)
   | (with_reducible exact level_list.mono _ _ _)
   | (with_reducible exact level_numbers.mono _ _ _)
   | (with_reducible exact LeO.refl _)
   | (with_reducible exact LeO.none _)
   | (with_reducible refine LeO.ite ?_ ?_)
   | (with_reducible refine LeO.bind ?_ (fun _ => ?_))
   | exact ih0 _ _ _
   | exact level_list.mono _ _ _
   | exact level_numbers.mono _ _ _
   | exact LeO.none _
   | refine LeO.ite ?_ ?_
   | refine LeO.bind ?_ (fun _ => ?_)
theorem level_Parse.mono : ∀ a0 a1 k, LeO (level_Parse.f k a0 a1) (level_Parse.f (k + 1) a0 a1) := by
 intro a0 a1 k
 have ih0 := level_Parse.mono_l k
 unfold level_Parse.f
 repeat' first
   | (with_reducible exact ih0 _ _ _)
   | (with_reducible exact level_list.mono _ _ _)
   | (with_reducible exact level_numbers.mono _ _ _)
   | (with_reducible exact LeO.refl _)
   | (with_reducible exact LeO.none _)
   | (with_reducible refine LeO.ite ?_ ?_)
   | (with_reducible refine LeO.bind ?_ (fun _ => ?_))
   | exact ih0 _ _ _
   | exact level_list.mono _ _ _
   | exact level_numbers.mono _ _ _
   | exact LeO.none _
   | refine LeO.ite ?_ ?_
   | refine LeO.bind ?_ (fun _ => ?_)
set_option maxHeartbeats 8000000 in
set_option maxRecDepth 100000 in
theorem level_Parse.calls (k : Nat) (a0 : ByteArray) (a1 : Int) (r1 : List Int) (r2 : Int) (w : World) (HT0 : MB.TabW w) (h : level_Parse.f k a0 a1 = some (r1, r2)) :
  Calls Tryz.prog 20 #[.string a0, .int .i64 a1] w fun e w' => ∃ v0_ : Value, e = .returned (.tuple #[v0_, .int .i64 r2]) ∧ Kd.R (Kd.int .i64) 3 w' w.heap.size (fun _ => True) v0_ r1 ∧ Below w.heap.size w w' := by
 have HB := Aside0.mk (Below.refl w.heap.size w)
 have H : (if (a0.size : Int) > 200000 then (some (([] : List Int), 2)) else ((strings_Split.f a0 (⟨#[58]⟩ : ByteArray)).bind fun t346 => (if (t346.length : Int) = 1 then ((level_list.f k a0 a1).bind fun bt349 => (some (bt349.1, bt349.2))) else ((level_numbers.f k t346 a1).bind fun bt353 => (if bt353.2 = 0 then (if (bt353.1.length : Int) = 3 then (if 2 < (bt353.1.length : Int) then (if (rd bt353.1 2) ≤ 0 then (some (([] : List Int), 1)) else (if 0 < (bt353.1.length : Int) then (level_Parse.l0 k bt353.1 ([] : List Int) (rd bt353.1 0)) else (none))) else (none)) else (some (([] : List Int), 1))) else (some (([] : List Int), bt353.2))))))) = some (r1, r2) := h
 clear h
 by_cases c3 : (a0.size : Int) > 200000
 ·rw [if_pos c3] at H
  have c3b0 : decide (200000 < (a0.size : Int)) = true := decide_eq_true c3
  have c3b1 : decide (200000 < a0.size) = true := decide_eq_true (by omega)
  clear c3
  simp only [Option.some.injEq, Prod.mk.injEq] at H
  obtain ⟨rfl, rfl⟩ := H
  go_enter Tryz.func20, Tryz.ntmps20
  go_wp2
  go_ret2
  exact ⟨_, by first | rfl | (simp [errW_none, errW_some] <;> rfl) | (simp [*, errW_none, errW_some] <;> rfl), by first | exact Kd.R_nil _ _ _ _ _ | exact Kd.N_nil _ _ _ _ _ | exact Kd.V_nil _ _ _ _ _ | exact Kd.Q_nil _ _ _ _ _ | exact Kd.S_nil _ _ _ _ _, by repeat (first | (with_reducible first | exact HB.out | apply bA | apply bN | apply bD) | exact HB.out)⟩
 ·rw [if_neg c3] at H
  have c3b0 : decide (200000 < (a0.size : Int)) = false := decide_eq_false c3
  have c3b1 : decide (200000 < a0.size) = false := decide_eq_false (by omega)
  clear c3
  replace H := Option.bind_eq_some_iff.mp H
  obtain ⟨t346, A40, H⟩ := H
  replace H : (if (t346.length : Int) = 1 then ((level_list.f k a0 a1).bind fun bt349 => (some (bt349.1, bt349.2))) else ((level_numbers.f k t346 a1).bind fun bt353 => (if bt353.2 = 0 then (if (bt353.1.length : Int) = 3 then (if 2 < (bt353.1.length : Int) then (if (rd bt353.1 2) ≤ 0 then (some (([] : List Int), 1)) else (if 0 < (bt353.1.length : Int) then (level_Parse.l0 k bt353.1 ([] : List Int) (rd bt353.1 0)) else (none))) else (none)) else (some (([] : List Int), 1))) else (some (([] : List Int), bt353.2))))) = some (r1, r2) := H
  have A4 := Aside0.mk A40
  clear A40
  by_cases c5 : (t346.length : Int) = 1
  ·rw [if_pos c5] at H
   have c5b0 : ((t346.length : Int) == 1) = true := beq_iff_eq.mpr c5
   have c5b1 : ((t346.length : Int) != 1) = false := bne_eq_false_iff_eq.mpr c5
   clear c5
   replace H := Option.bind_eq_some_iff.mp H
   obtain ⟨⟨t349, t350⟩, A60, H⟩ := H
   replace H : (some (t349, t350)) = some (r1, r2) := H
   have A6 := Aside0.mk A60
   clear A60
   simp only [Option.some.injEq, Prod.mk.injEq] at H
   obtain ⟨rfl, rfl⟩ := H
   go_enter Tryz.func20, Tryz.ntmps20
   go_wp2_with (first | ((with_reducible refine gate_callee (f := 40) rfl ?_); refine goesL_ (some 15) rfl rfl Tryz.func40 (by kernel_rfl) rfl #[.string a0, .string (⟨#[58]⟩ : ByteArray)] rfl (by (try simp only [List.map_toArray, List.map_cons, List.map_nil]); first | done | rfl | (simp only [List.length_drop, List.length_take]; rfl)) ?_; (with_reducible refine (strings_Split.calls a0 (⟨#[58]⟩ : ByteArray) t346 _ (MB.tab_below HT0 (gB HB.out)) A4.out).mono ?_); rintro e w7 ⟨v347, rfl, ho0, hb⟩; refine ⟨_, rfl, ?_⟩; have n0_ := Aside0.mk (Kd.R_lower ho0 (below_size (gB HB.out))); have n1_ := Aside0.mk (below_step (gB HB.out) hb); clear HB; have HO348 := n0_; have HB := n1_; clear n0_ n1_; (try clear hb); (try clear hb2); (try clear hk); (try clear hi); (try clear ho0); obtain ⟨Ao8, co8, eo8⟩ := Kd.R_slice HO348.out; subst eo8) | ((with_reducible refine gate_callee (f := 41) rfl ?_); refine goesL_ (some 21) rfl rfl Tryz.func41 (by kernel_rfl) rfl #[.string a0, .int .i64 a1] rfl (by (try simp only [List.map_toArray, List.map_cons, List.map_nil]); first | done | rfl | (simp only [List.length_drop, List.length_take]; rfl)) ?_; (with_reducible refine (level_list.calls k a0 a1 t349 t350 _ (MB.tab_below HT0 (gB HB.out)) A6.out).mono ?_); rintro e w9 ⟨v351, rfl, ho0, hb⟩; refine ⟨_, rfl, ?_⟩; have n0_ := Aside0.mk (Kd.R_below (gR HO348.out) hb); have n1_ := Aside0.mk (Kd.R_lower ho0 (below_size (gB HB.out))); have n2_ := Aside0.mk (below_step (gB HB.out) hb); clear HO348; clear HB; have HO348 := n0_; have HO352 := n1_; have HB := n2_; clear n0_ n1_ n2_; (try clear hb); (try clear hb2); (try clear hk); (try clear hi); (try clear ho0)))
   go_ret2
   exact ⟨_, by first | rfl | (simp [errW_none, errW_some] <;> rfl) | (simp [*, errW_none, errW_some] <;> rfl), by (with_reducible repeat (first | apply Kd.R_alloc | apply Kd.R_drewN | apply Kd.R_drew)); exact HO352.out, by repeat (first | (with_reducible first | exact HB.out | apply bA | apply bN | apply bD) | exact HB.out)⟩
  ·rw [if_neg c5] at H
   have c5b0 : ((t346.length : Int) == 1) = false := beq_eq_false_iff_ne.mpr c5
   have c5b1 : ((t346.length : Int) != 1) = true := bne_iff_ne.mpr c5
   replace H := Option.bind_eq_some_iff.mp H
   obtain ⟨⟨t353, t354⟩, A100, H⟩ := H
   replace H : (if t354 = 0 then (if (t353.length : Int) = 3 then (if 2 < (t353.length : Int) then (if (rd t353 2) ≤ 0 then (some (([] : List Int), 1)) else (if 0 < (t353.length : Int) then (level_Parse.l0 k t353 ([] : List Int) (rd t353 0)) else (none))) else (none)) else (some (([] : List Int), 1))) else (some (([] : List Int), t354))) = some (r1, r2) := H
   have A10 := Aside0.mk A100
   clear A100
   by_cases c11 : t354 = 0
   ·rw [if_pos c11] at H
    have c11b0 : (t354 == 0) = true := beq_iff_eq.mpr c11
    have c11b1 : (t354 != 0) = false := bne_eq_false_iff_eq.mpr c11
    clear c11
    by_cases c12 : (t353.length : Int) = 3
    ·rw [if_pos c12] at H
     have c12b0 : ((t353.length : Int) == 3) = true := beq_iff_eq.mpr c12
     have c12b1 : ((t353.length : Int) != 3) = false := bne_eq_false_iff_eq.mpr c12
     clear c12
     by_cases c13 : 2 < (t353.length : Int)
     ·rw [if_pos c13] at H
      have c13b0 : decide (2 < (t353.length : Int)) = true := decide_eq_true c13
      have c13b1 : decide (2 < t353.length) = true := decide_eq_true (by omega)
      clear c13
      by_cases c14 : (rd t353 2) ≤ 0
      ·rw [if_pos c14] at H
       have c14b0 : decide ((rd t353 2) ≤ 0) = true := decide_eq_true c14
       clear c14
       simp only [Option.some.injEq, Prod.mk.injEq] at H
       obtain ⟨rfl, rfl⟩ := H
       go_enter Tryz.func20, Tryz.ntmps20
       go_wp2_with (first | ((with_reducible refine gate_callee (f := 40) rfl ?_); refine goesL_ (some 15) rfl rfl Tryz.func40 (by kernel_rfl) rfl #[.string a0, .string (⟨#[58]⟩ : ByteArray)] rfl (by (try simp only [List.map_toArray, List.map_cons, List.map_nil]); first | done | rfl | (simp only [List.length_drop, List.length_take]; rfl)) ?_; (with_reducible refine (strings_Split.calls a0 (⟨#[58]⟩ : ByteArray) t346 _ (MB.tab_below HT0 (gB HB.out)) A4.out).mono ?_); rintro e w15 ⟨v347, rfl, ho0, hb⟩; refine ⟨_, rfl, ?_⟩; have n0_ := Aside0.mk (Kd.R_lower ho0 (below_size (gB HB.out))); have n1_ := Aside0.mk (below_step (gB HB.out) hb); clear HB; have HO348 := n0_; have HB := n1_; clear n0_ n1_; (try clear hb); (try clear hb2); (try clear hk); (try clear hi); (try clear ho0); obtain ⟨Ao16, co16, eo16⟩ := Kd.R_slice HO348.out; subst eo16) | ((with_reducible refine gate_callee (f := 42) rfl ?_); refine goesL_ (some 27) rfl rfl Tryz.func42 (by kernel_rfl) rfl #[.slice Ao16 t346.length co16, .int .i64 a1] rfl (by (try simp only [List.map_toArray, List.map_cons, List.map_nil]); first | done | rfl | (simp only [List.length_drop, List.length_take]; rfl)) ?_; (with_reducible refine (level_numbers.calls k _ _ t346 a1 t353 t354 _ ?side1 ?side2 (MB.tab_below HT0 (gB HB.out)) A10.out).mono ?_); (case side1 => repeat (first | exact (Kd.R_reads' HO348.out).2.2 | (with_reducible refine Kd.C_alloc ?_ _) | (with_reducible refine Kd.C_drewN ?_ _) | (with_reducible refine Kd.C_drew ?_))); (case side2 => exact (Kd.R_reads' HO348.out).2.1); rintro e w17 ⟨v355, rfl, ho0, hb⟩; refine ⟨_, rfl, ?_⟩; have n0_ := Aside0.mk (Kd.R_below (gR HO348.out) hb); have n1_ := Aside0.mk (Kd.R_lower ho0 (below_size (gB HB.out))); have n2_ := Aside0.mk (below_step (gB HB.out) hb); clear HO348; clear HB; have HO348 := n0_; have HO356 := n1_; have HB := n2_; clear n0_ n1_ n2_; (try clear hb); (try clear hb2); (try clear hk); (try clear hi); (try clear ho0); obtain ⟨Ao18, co18, eo18⟩ := Kd.R_slice HO356.out; subst eo18; have p357 : 0 ≤ (2 : Int) := (by omega); have q357 : 2 < (t353.length : Int) := of_decide_eq_true (by first | (with_reducible assumption) | assumption); obtain ⟨ad357, e357, hx357_0⟩ := Kd.at_int (Kd.R_reads' HO356.out).2.2 2 p357 q357; cases e357; (try simp only [show (2 : Int).toNat = 2 from rfl, Nat.reduceMul, Nat.reduceEqDiff, Go.Addr.add, ↓reduceIte] at hx357_0); have qi357 : (2 < t353.length) = True := eq_true (by omega); (try rw [show ((2 : Int)).toNat = 2 from rfl] at hx357_0); replace p357 := eq_true p357; replace q357 := eq_true q357))
       go_ret2
       exact ⟨_, by first | rfl | (simp [errW_none, errW_some] <;> rfl) | (simp [*, errW_none, errW_some] <;> rfl), by first | exact Kd.R_nil _ _ _ _ _ | exact Kd.N_nil _ _ _ _ _ | exact Kd.V_nil _ _ _ _ _ | exact Kd.Q_nil _ _ _ _ _ | exact Kd.S_nil _ _ _ _ _, by repeat (first | (with_reducible first | exact HB.out | apply bA | apply bN | apply bD) | exact HB.out)⟩
      ·rw [if_neg c14] at H
       have c14b0 : decide ((rd t353 2) ≤ 0) = false := decide_eq_false c14
       clear c14
       by_cases c19 : 0 < (t353.length : Int)
       ·rw [if_pos c19] at H
        have c19b0 : decide (0 < (t353.length : Int)) = true := decide_eq_true c19
        have c19b1 : decide (0 < t353.length) = true := decide_eq_true (by omega)
        clear c19
        have H' := Aside0.mk H
        clear H
        go_enter Tryz.func20, Tryz.ntmps20
        go_wp2_with (first | ((with_reducible refine gate_callee (f := 40) rfl ?_); refine goesL_ (some 15) rfl rfl Tryz.func40 (by kernel_rfl) rfl #[.string a0, .string (⟨#[58]⟩ : ByteArray)] rfl (by (try simp only [List.map_toArray, List.map_cons, List.map_nil]); first | done | rfl | (simp only [List.length_drop, List.length_take]; rfl)) ?_; (with_reducible refine (strings_Split.calls a0 (⟨#[58]⟩ : ByteArray) t346 _ (MB.tab_below HT0 (gB HB.out)) A4.out).mono ?_); rintro e w20 ⟨v347, rfl, ho0, hb⟩; refine ⟨_, rfl, ?_⟩; have n0_ := Aside0.mk (Kd.R_lower ho0 (below_size (gB HB.out))); have n1_ := Aside0.mk (below_step (gB HB.out) hb); clear HB; have HO348 := n0_; have HB := n1_; clear n0_ n1_; (try clear hb); (try clear hb2); (try clear hk); (try clear hi); (try clear ho0); obtain ⟨Ao21, co21, eo21⟩ := Kd.R_slice HO348.out; subst eo21) | ((with_reducible refine gate_callee (f := 42) rfl ?_); refine goesL_ (some 27) rfl rfl Tryz.func42 (by kernel_rfl) rfl #[.slice Ao21 t346.length co21, .int .i64 a1] rfl (by (try simp only [List.map_toArray, List.map_cons, List.map_nil]); first | done | rfl | (simp only [List.length_drop, List.length_take]; rfl)) ?_; (with_reducible refine (level_numbers.calls k _ _ t346 a1 t353 t354 _ ?side1 ?side2 (MB.tab_below HT0 (gB HB.out)) A10.out).mono ?_); (case side1 => repeat (first | exact (Kd.R_reads' HO348.out).2.2 | (with_reducible refine Kd.C_alloc ?_ _) | (with_reducible refine Kd.C_drewN ?_ _) | (with_reducible refine Kd.C_drew ?_))); (case side2 => exact (Kd.R_reads' HO348.out).2.1); rintro e w22 ⟨v355, rfl, ho0, hb⟩; refine ⟨_, rfl, ?_⟩; have n0_ := Aside0.mk (Kd.R_below (gR HO348.out) hb); have n1_ := Aside0.mk (Kd.R_lower ho0 (below_size (gB HB.out))); have n2_ := Aside0.mk (below_step (gB HB.out) hb); clear HO348; clear HB; have HO348 := n0_; have HO356 := n1_; have HB := n2_; clear n0_ n1_ n2_; (try clear hb); (try clear hb2); (try clear hk); (try clear hi); (try clear ho0); obtain ⟨Ao23, co23, eo23⟩ := Kd.R_slice HO356.out; subst eo23; have p357 : 0 ≤ (2 : Int) := (by omega); have q357 : 2 < (t353.length : Int) := of_decide_eq_true (by first | (with_reducible assumption) | assumption); obtain ⟨ad357, e357, hx357_0⟩ := Kd.at_int (Kd.R_reads' HO356.out).2.2 2 p357 q357; cases e357; (try simp only [show (2 : Int).toNat = 2 from rfl, Nat.reduceMul, Nat.reduceEqDiff, Go.Addr.add, ↓reduceIte] at hx357_0); have qi357 : (2 < t353.length) = True := eq_true (by omega); (try rw [show ((2 : Int)).toNat = 2 from rfl] at hx357_0); replace p357 := eq_true p357; replace q357 := eq_true q357; have p358 : 0 ≤ (0 : Int) := (by omega); have q358 : 0 < (t353.length : Int) := of_decide_eq_true (by first | (with_reducible assumption) | assumption); obtain ⟨ad358, e358, hx358_0⟩ := Kd.at_int (Kd.R_reads' HO356.out).2.2 0 p358 q358; obtain rfl : ad357 = ad358 := (by injection e358); have qi358 : (0 < t353.length) = True := eq_true (by omega); (try rw [show ((0 : Int)).toNat = 0 from rfl] at hx358_0); (try rw [Addr.add_zero'] at hx358_0); replace p358 := eq_true p358; replace q358 := eq_true q358))
        go_loopg [9, 10] k (fun kq v9 v10 w' => ∃ (x9_1 : List Int) (x10_1 : Int), v10 = .int .i64 x10_1 ∧ Aside0 (level_Parse.l0 kq t353 x9_1 x10_1 = some (r1, r2)) ∧ Aside0 (kq ≤ k) ∧ Aside0 (Kd.R (Kd.int .i64) 3 w' w.heap.size (fun k_ => some k_ ≠ (v9 : Value).ownBlock) (.slice (some ad357) t353.length co23) t353) ∧ Aside0 (Kd.R (Kd.int .i64) 3 w' w.heap.size (fun k_ => some k_ ≠ ((.slice (some ad357) t353.length co23) : Value).ownBlock) v9 x9_1) ∧ Aside0 (Below w.heap.size w w'))
        case atStart => exact ⟨(([] : List Int)), (rd t353 0), (by first | rfl | (simp; done) | (simp [*]; done)), H', ⟨Nat.le_refl _⟩, ⟨by (with_reducible repeat (first | apply Kd.R_alloc | apply Kd.R_drewN | apply Kd.R_drew)); exact Kd.R_mono HO356.out (fun _ hk => (by simp [Value.ownBlock]))⟩, ⟨by first | exact Kd.R_nil _ _ _ _ _ | exact Kd.N_nil _ _ _ _ _ | exact Kd.V_nil _ _ _ _ _ | exact Kd.Q_nil _ _ _ _ _ | exact Kd.S_nil _ _ _ _ _⟩, ⟨by repeat (first | (with_reducible first | exact HB.out | apply bA | apply bN | apply bD) | exact HB.out)⟩⟩
        case round =>
         clear H'
         try clear c1
         try clear c2
         try clear p2
         try clear c3
         try clear c3b0
         try clear c3b1
         try clear p3
         try clear q3
         try clear hx3
         try clear qi3
         try clear c4
         try clear c5
         try clear c5b0
         try clear c5b1
         try clear c11
         try clear c11b0
         try clear c11b1
         try clear c12
         try clear c12b0
         try clear c12b1
         try clear c13
         try clear c13b0
         try clear c13b1
         try clear c14
         try clear c14b0
         try clear c19
         try clear c19b0
         try clear c19b1
         try clear c20
         try clear hx357_0
         try clear hx358_0
         try clear p357
         try clear p358
         try clear q357
         try clear q358
         obtain ⟨x9_1, x10_1, rfl, HA, HK1, HO_7, HO_9, HB⟩ := hrel
         cases gk with
         | zero => exact absurd HA.out (by simp [level_Parse.l0])
         | succ k1 =>
          have H := HA.out
          clear HA
          simp only [level_Parse.l0] at H
          by_cases c24 : 1 < (t353.length : Int)
          ·rw [if_pos c24] at H
           have c24b0 : decide (1 < (t353.length : Int)) = true := decide_eq_true c24
           have c24b1 : decide (1 < t353.length) = true := decide_eq_true (by omega)
           clear c24
           by_cases c25 : x10_1 ≤ (rd t353 1)
           ·rw [if_pos c25] at H
            have c25b0 : decide (x10_1 ≤ (rd t353 1)) = true := decide_eq_true c25
            clear c25
            by_cases c26 : (x9_1.length : Int) = 200
            ·rw [if_pos c26] at H
             have c26b0 : ((x9_1.length : Int) == 200) = true := beq_iff_eq.mpr c26
             have c26b1 : ((x9_1.length : Int) != 200) = false := bne_eq_false_iff_eq.mpr c26
             clear c26
             simp only [Option.some.injEq, Prod.mk.injEq] at H
             obtain ⟨rfl, rfl⟩ := H
             have p359 : 0 ≤ (1 : Int) := (by omega)
             have q359 : 1 < (t353.length : Int) := of_decide_eq_true (by first | (with_reducible assumption) | assumption)
             obtain ⟨ad359, e359, hx359_0⟩ := Kd.at_int (Kd.R_reads' HO_7.out).2.2 1 p359 q359
             obtain rfl : ad357 = ad359 := (by injection e359)
             (try simp only [show (1 : Int).toNat = 1 from rfl, Nat.reduceMul, Nat.reduceEqDiff, Go.Addr.add, ↓reduceIte] at hx359_0)
             have qi359 : (1 < t353.length) = True := eq_true (by omega)
             (try rw [show ((1 : Int)).toNat = 1 from rfl] at hx359_0)
             replace p359 := eq_true p359
             replace q359 := eq_true q359
             obtain ⟨Ao27, co27, eo27⟩ := Kd.R_slice HO_9.out
             subst eo27
             go_wp2
             go_ret2
             exact ⟨_, by first | rfl | (simp [errW_none, errW_some] <;> rfl) | (simp [*, errW_none, errW_some] <;> rfl), by first | exact Kd.R_nil _ _ _ _ _ | exact Kd.N_nil _ _ _ _ _ | exact Kd.V_nil _ _ _ _ _ | exact Kd.Q_nil _ _ _ _ _ | exact Kd.S_nil _ _ _ _ _, by repeat (first | (with_reducible first | exact HB.out | apply bA | apply bN | apply bD) | exact HB.out)⟩
            ·rw [if_neg c26] at H
             have c26b0 : ((x9_1.length : Int) == 200) = false := beq_eq_false_iff_ne.mpr c26
             have c26b1 : ((x9_1.length : Int) != 200) = true := bne_iff_ne.mpr c26
             by_cases c28 : x9_1.length < 17592186044416
             ·rw [if_pos c28] at H
              have LMc28 := Aside0.mk c28
              clear c28
              obtain ⟨y360, hy360⟩ : ∃ y_ : List Int, y_ = (x9_1 ++ [x10_1]) := ⟨_, rfl⟩
              replace H : (if 2 < (t353.length : Int) then (level_Parse.l0 k1 t353 y360 (wrap64 (x10_1 + (rd t353 2)))) else (none)) = some (r1, r2) := by first | (rw [hy360]; with_reducible exact H) | (have H2_ := (Option.bind_some _ _).symm.trans H; rw [hy360]; with_reducible exact H2_) | (have H2_ := (Option.bind_some _ _).symm.trans H; with_reducible exact H2_) | with_reducible exact H | (rw [hy360]; exact H) | exact H
              have Ny360 := Aside0.mk hy360
              clear hy360
              by_cases c29 : 2 < (t353.length : Int)
              ·rw [if_pos c29] at H
               have c29b0 : decide (2 < (t353.length : Int)) = true := decide_eq_true c29
               have c29b1 : decide (2 < t353.length) = true := decide_eq_true (by omega)
               clear c29
               have H' := Aside0.mk H
               clear H
               have p359 : 0 ≤ (1 : Int) := (by omega)
               have q359 : 1 < (t353.length : Int) := of_decide_eq_true (by first | (with_reducible assumption) | assumption)
               obtain ⟨ad359, e359, hx359_0⟩ := Kd.at_int (Kd.R_reads' HO_7.out).2.2 1 p359 q359
               obtain rfl : ad357 = ad359 := (by injection e359)
               (try simp only [show (1 : Int).toNat = 1 from rfl, Nat.reduceMul, Nat.reduceEqDiff, Go.Addr.add, ↓reduceIte] at hx359_0)
               have qi359 : (1 < t353.length) = True := eq_true (by omega)
               (try rw [show ((1 : Int)).toNat = 1 from rfl] at hx359_0)
               replace p359 := eq_true p359
               replace q359 := eq_true q359
               obtain ⟨Ao30, co30, eo30⟩ := Kd.R_slice HO_9.out
               subst eo30
               go_wp2_with (first | ((with_reducible refine gate_builtin (b := .append) (xs := #[.tmp 60, .tmp 62]) rfl ?_); at_builtin; refine Kd.R_append (Kd.int .i64) (w0 := w) w.heap.size rfl (.tmp 60) (.tmp 62) 30 3 (.int .i64 0) 8 rfl Tryz.underlying30 info3 rfl (by decide) (by omega) (.slice Ao30 x9_1.length co30) x9_1 x10_1 [.int .i64 x10_1] (fun k_ => some k_ ≠ (.slice (some ad357) t353.length co23 : Value).ownBlock) (fun _ => False) rfl rfl ?aP (fun _ hk => hk.elim) ?aF ?aO ?aB ?aS ?aL ?_; (case aP => exact rfl); (case aB => exact (gB HB.out)); (case aF => exact (fun k_ hk => Kd.fresh' (Kd.R_lt (gR HO_7.out)) k_ hk)); (case aO => exact (gR HO_9.out)); (case aS => exact (below_size (gB HB.out))); (case aL => have := LMc28.out; omega); intro v361 w31 ho hb hg hat; rw [← Ny360.out] at ho; have n0_ := Aside0.mk (Kd.R_after (ok := (fun _ => True)) (gR (Kd.R_mono HO_7.out (fun _ hk => ⟨trivial, hk⟩))) hg hat); have n1_ := Aside0.mk (hb); have n2_ := Aside0.mk (ho); clear HO_7; clear HB; clear HO_9; have HO_7 := n0_; have HB := n1_; have HO362 := n2_; clear n0_ n1_ n2_; clear ho hb hg hat; have p363 : 0 ≤ (2 : Int) := (by omega); have q363 : 2 < (t353.length : Int) := of_decide_eq_true (by first | (with_reducible assumption) | assumption); obtain ⟨ad363, e363, hx363_0⟩ := Kd.at_int (Kd.R_reads' HO_7.out).2.2 2 p363 q363; obtain rfl : ad357 = ad363 := (by injection e363); (try simp only [show (2 : Int).toNat = 2 from rfl, Nat.reduceMul, Nat.reduceEqDiff, Go.Addr.add, ↓reduceIte] at hx363_0); have qi363 : (2 < t353.length) = True := eq_true (by omega); (try rw [show ((2 : Int)).toNat = 2 from rfl] at hx363_0); replace p363 := eq_true p363; replace q363 := eq_true q363))
               go_roundg k1
               case measure => have := HK1.out; omega
               case rel => exact ⟨(y360), (wrap64 (x10_1 + (rd t353 2))), (by first | rfl | (simp; done) | (simp [*]; done)), H', ⟨by have := HK1.out; omega⟩, ⟨by (with_reducible repeat (first | apply Kd.R_alloc | apply Kd.R_drewN | apply Kd.R_drew)); exact Kd.R_mono HO_7.out (fun _ hk => hk.2)⟩, ⟨by (with_reducible repeat (first | apply Kd.R_alloc | apply Kd.R_drewN | apply Kd.R_drew)); exact HO362.out⟩, ⟨by repeat (first | (with_reducible first | exact HB.out | apply bA | apply bN | apply bD) | exact HB.out)⟩⟩
              ·rw [if_neg c29] at H
               exact absurd H (by simp)
             ·rw [if_neg c28] at H
              exact absurd H (by simp)
           ·rw [if_neg c25] at H
            have c25b0 : decide (x10_1 ≤ (rd t353 1)) = false := decide_eq_false c25
            clear c25
            simp only [Option.some.injEq, Prod.mk.injEq] at H
            obtain ⟨rfl, rfl⟩ := H
            have p359 : 0 ≤ (1 : Int) := (by omega)
            have q359 : 1 < (t353.length : Int) := of_decide_eq_true (by first | (with_reducible assumption) | assumption)
            obtain ⟨ad359, e359, hx359_0⟩ := Kd.at_int (Kd.R_reads' HO_7.out).2.2 1 p359 q359
            obtain rfl : ad357 = ad359 := (by injection e359)
            (try simp only [show (1 : Int).toNat = 1 from rfl, Nat.reduceMul, Nat.reduceEqDiff, Go.Addr.add, ↓reduceIte] at hx359_0)
            have qi359 : (1 < t353.length) = True := eq_true (by omega)
            (try rw [show ((1 : Int)).toNat = 1 from rfl] at hx359_0)
            replace p359 := eq_true p359
            replace q359 := eq_true q359
            go_wp2
            go_ret2
            exact ⟨_, by first | rfl | (simp [errW_none, errW_some] <;> rfl) | (simp [*, errW_none, errW_some] <;> rfl), by (with_reducible repeat (first | apply Kd.R_alloc | apply Kd.R_drewN | apply Kd.R_drew)); exact Kd.R_mono HO_9.out (fun _ hk => trivial), by repeat (first | (with_reducible first | exact HB.out | apply bA | apply bN | apply bD) | exact HB.out)⟩
          ·rw [if_neg c24] at H
           exact absurd H (by simp)
       ·rw [if_neg c19] at H
        exact absurd H (by simp)
     ·rw [if_neg c13] at H
      exact absurd H (by simp)
    ·rw [if_neg c12] at H
     have c12b0 : ((t353.length : Int) == 3) = false := beq_eq_false_iff_ne.mpr c12
     have c12b1 : ((t353.length : Int) != 3) = true := bne_iff_ne.mpr c12
     simp only [Option.some.injEq, Prod.mk.injEq] at H
     obtain ⟨rfl, rfl⟩ := H
     go_enter Tryz.func20, Tryz.ntmps20
     go_wp2_with (first | ((with_reducible refine gate_callee (f := 40) rfl ?_); refine goesL_ (some 15) rfl rfl Tryz.func40 (by kernel_rfl) rfl #[.string a0, .string (⟨#[58]⟩ : ByteArray)] rfl (by (try simp only [List.map_toArray, List.map_cons, List.map_nil]); first | done | rfl | (simp only [List.length_drop, List.length_take]; rfl)) ?_; (with_reducible refine (strings_Split.calls a0 (⟨#[58]⟩ : ByteArray) t346 _ (MB.tab_below HT0 (gB HB.out)) A4.out).mono ?_); rintro e w32 ⟨v347, rfl, ho0, hb⟩; refine ⟨_, rfl, ?_⟩; have n0_ := Aside0.mk (Kd.R_lower ho0 (below_size (gB HB.out))); have n1_ := Aside0.mk (below_step (gB HB.out) hb); clear HB; have HO348 := n0_; have HB := n1_; clear n0_ n1_; (try clear hb); (try clear hb2); (try clear hk); (try clear hi); (try clear ho0); obtain ⟨Ao33, co33, eo33⟩ := Kd.R_slice HO348.out; subst eo33) | ((with_reducible refine gate_callee (f := 42) rfl ?_); refine goesL_ (some 27) rfl rfl Tryz.func42 (by kernel_rfl) rfl #[.slice Ao33 t346.length co33, .int .i64 a1] rfl (by (try simp only [List.map_toArray, List.map_cons, List.map_nil]); first | done | rfl | (simp only [List.length_drop, List.length_take]; rfl)) ?_; (with_reducible refine (level_numbers.calls k _ _ t346 a1 t353 t354 _ ?side1 ?side2 (MB.tab_below HT0 (gB HB.out)) A10.out).mono ?_); (case side1 => repeat (first | exact (Kd.R_reads' HO348.out).2.2 | (with_reducible refine Kd.C_alloc ?_ _) | (with_reducible refine Kd.C_drewN ?_ _) | (with_reducible refine Kd.C_drew ?_))); (case side2 => exact (Kd.R_reads' HO348.out).2.1); rintro e w34 ⟨v355, rfl, ho0, hb⟩; refine ⟨_, rfl, ?_⟩; have n0_ := Aside0.mk (Kd.R_below (gR HO348.out) hb); have n1_ := Aside0.mk (Kd.R_lower ho0 (below_size (gB HB.out))); have n2_ := Aside0.mk (below_step (gB HB.out) hb); clear HO348; clear HB; have HO348 := n0_; have HO356 := n1_; have HB := n2_; clear n0_ n1_ n2_; (try clear hb); (try clear hb2); (try clear hk); (try clear hi); (try clear ho0); obtain ⟨Ao35, co35, eo35⟩ := Kd.R_slice HO356.out; subst eo35))
     go_ret2
     exact ⟨_, by first | rfl | (simp [errW_none, errW_some] <;> rfl) | (simp [*, errW_none, errW_some] <;> rfl), by first | exact Kd.R_nil _ _ _ _ _ | exact Kd.N_nil _ _ _ _ _ | exact Kd.V_nil _ _ _ _ _ | exact Kd.Q_nil _ _ _ _ _ | exact Kd.S_nil _ _ _ _ _, by repeat (first | (with_reducible first | exact HB.out | apply bA | apply bN | apply bD) | exact HB.out)⟩
   ·rw [if_neg c11] at H
    have c11b0 : (t354 == 0) = false := beq_eq_false_iff_ne.mpr c11
    have c11b1 : (t354 != 0) = true := bne_iff_ne.mpr c11
    simp only [Option.some.injEq, Prod.mk.injEq] at H
    obtain ⟨rfl, rfl⟩ := H
    go_enter Tryz.func20, Tryz.ntmps20
    go_wp2_with (first | ((with_reducible refine gate_callee (f := 40) rfl ?_); refine goesL_ (some 15) rfl rfl Tryz.func40 (by kernel_rfl) rfl #[.string a0, .string (⟨#[58]⟩ : ByteArray)] rfl (by (try simp only [List.map_toArray, List.map_cons, List.map_nil]); first | done | rfl | (simp only [List.length_drop, List.length_take]; rfl)) ?_; (with_reducible refine (strings_Split.calls a0 (⟨#[58]⟩ : ByteArray) t346 _ (MB.tab_below HT0 (gB HB.out)) A4.out).mono ?_); rintro e w36 ⟨v347, rfl, ho0, hb⟩; refine ⟨_, rfl, ?_⟩; have n0_ := Aside0.mk (Kd.R_lower ho0 (below_size (gB HB.out))); have n1_ := Aside0.mk (below_step (gB HB.out) hb); clear HB; have HO348 := n0_; have HB := n1_; clear n0_ n1_; (try clear hb); (try clear hb2); (try clear hk); (try clear hi); (try clear ho0); obtain ⟨Ao37, co37, eo37⟩ := Kd.R_slice HO348.out; subst eo37) | ((with_reducible refine gate_callee (f := 42) rfl ?_); refine goesL_ (some 27) rfl rfl Tryz.func42 (by kernel_rfl) rfl #[.slice Ao37 t346.length co37, .int .i64 a1] rfl (by (try simp only [List.map_toArray, List.map_cons, List.map_nil]); first | done | rfl | (simp only [List.length_drop, List.length_take]; rfl)) ?_; (with_reducible refine (level_numbers.calls k _ _ t346 a1 t353 t354 _ ?side1 ?side2 (MB.tab_below HT0 (gB HB.out)) A10.out).mono ?_); (case side1 => repeat (first | exact (Kd.R_reads' HO348.out).2.2 | (with_reducible refine Kd.C_alloc ?_ _) | (with_reducible refine Kd.C_drewN ?_ _) | (with_reducible refine Kd.C_drew ?_))); (case side2 => exact (Kd.R_reads' HO348.out).2.1); rintro e w38 ⟨v355, rfl, ho0, hb⟩; refine ⟨_, rfl, ?_⟩; have n0_ := Aside0.mk (Kd.R_below (gR HO348.out) hb); have n1_ := Aside0.mk (Kd.R_lower ho0 (below_size (gB HB.out))); have n2_ := Aside0.mk (below_step (gB HB.out) hb); clear HO348; clear HB; have HO348 := n0_; have HO356 := n1_; have HB := n2_; clear n0_ n1_ n2_; (try clear hb); (try clear hb2); (try clear hk); (try clear hi); (try clear ho0)))
    go_ret2
    exact ⟨_, by first | rfl | (simp [errW_none, errW_some] <;> rfl) | (simp [*, errW_none, errW_some] <;> rfl), by first | exact Kd.R_nil _ _ _ _ _ | exact Kd.N_nil _ _ _ _ _ | exact Kd.V_nil _ _ _ _ _ | exact Kd.Q_nil _ _ _ _ _ | exact Kd.S_nil _ _ _ _ _, by repeat (first | (with_reducible first | exact HB.out | apply bA | apply bN | apply bD) | exact HB.out)⟩

end Go.Proofs.YtpdgjhaimfpacaaGreatDoor.M
