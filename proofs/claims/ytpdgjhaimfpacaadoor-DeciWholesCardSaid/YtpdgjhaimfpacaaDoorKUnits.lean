-- By drive.py (this session's program), out of the translation. Lean checks it.
import Derived.Test.YtpdgjhaimfpacaaDoorA0
import Derived.Test.YtpdgjhaimfpacaaDoorA6
import Derived.Test.YtpdgjhaimfpacaaDoorC1
import Derived.Test.YtpdgjhaimfpacaaDoorE5
import Derived.Test.YtpdgjhaimfpacaaDoorE6
namespace Go.Proofs.YtpdgjhaimfpacaaDoor.M
open Go.Proofs.YtpdgjhaimfpacaaDoor.MB Go.Proofs.YtpdgjhaimfpacaaDoor
open Go.RowKit Go.Proofs.YtpdgjhaimfpacaaDoorW.PrintWords Go.Proofs.YtpdgjhaimfpacaaDoorW.PrintLast Go.Proofs.YtpdgjhaimfpacaaDoorW.PrintMore
attribute [local go_sem] max2_int min2_int max_two min_two max_three min_three max_four min_four   -- for this text's walks alone
set_option linter.unusedVariables false
set_option linter.unusedSimpArgs false
attribute [local go_sem] add64_run sub64_run

/-! ### isohyetlaw04_DeciUnits: function 7 -/
mutual
def isohyetlaw04_DeciUnits.j0 : Nat → ByteArray → Int → Bool → Bool → List Int → Option (Bool)
 | 0, _, _, _, _, _ => none
 | k + 1, x1, x2, x21, x471000, x471001 => if x21 = true then (some true) else ((deci_Fixed.f k x471000 x471001 x2).bind fun t472 => ((deci_Units.f k t472 x2).bind fun bt473 => (if bt473.2.2 = 0 then ((num_Cmp.f k bt473.1 bt473.2.1 x471000 x471001).bind fun t479 => (isohyetlaw04_DeciUnits.j1 k x1 x2 (t479 != 0))) else (isohyetlaw04_DeciUnits.j1 k x1 x2 true))))
def isohyetlaw04_DeciUnits.j1 : Nat → ByteArray → Int → Bool → Option (Bool)
 | 0, _, _, _ => none
 | k + 1, x1, x2, x37 => if x37 = true then (some false) else ((deci_Units.f k x1 x2).bind fun bt480 => (if bt480.2.2 = 0 then ((deci_Fixed.f k bt480.1 bt480.2.1 x2).bind fun t486 => (some (t486.toList == x1.toList))) else ((num_Sign.f k bt480.1 bt480.2.1).bind fun t487 => (if t487 = 0 then (some ((bt480.2.2 == 2) == (decide ((x1.size : Int) > 400)))) else (some false)))))
end
def isohyetlaw04_DeciUnits.f (k : Nat) (a0_0 : Bool) (l0_1 : List Int) (a1 : ByteArray) (a2 : Int) : Option (Bool) := (isohyetlaw04_fit.f k).bind fun t471 => (if t471 = true then (if (l0_1.length : Int) > 12 then (isohyetlaw04_DeciUnits.j0 k a1 a2 true a0_0 l0_1) else (isohyetlaw04_DeciUnits.j0 k a1 a2 (decide ((a1.size : Int) > 1000)) a0_0 l0_1)) else (some false))
theorem isohyetlaw04_DeciUnits.mono_l : ∀ k, (∀ y0 y1 y2 y3 y4, LeO (isohyetlaw04_DeciUnits.j0 k y0 y1 y2 y3 y4) (isohyetlaw04_DeciUnits.j0 (k + 1) y0 y1 y2 y3 y4)) ∧ (∀ y0 y1 y2, LeO (isohyetlaw04_DeciUnits.j1 k y0 y1 y2) (isohyetlaw04_DeciUnits.j1 (k + 1) y0 y1 y2))
 | 0 => ⟨fun _ _ _ _ _ r h => by simp [isohyetlaw04_DeciUnits.j0] at h, fun _ _ _ r h => by simp [isohyetlaw04_DeciUnits.j1] at h⟩
 | k + 1 => by
  obtain ⟨ih0, ih1⟩ := isohyetlaw04_DeciUnits.mono_l k
  refine ⟨?_, ?_⟩
  ·intro y0 y1 y2 y3 y4
   unfold isohyetlaw04_DeciUnits.j0
   repeat' first
   | (with_reducible exact ih0 _ _ _ _ _)
   | (with_reducible exact ih1 _ _ _)
   | (with_reducible exact deci_Fixed.mono _ _ _ _)
   | (with_reducible exact deci_Units.mono _ _ _)
   | (with_reducible exact isohyetlaw04_fit.mono _)
   | (with_reducible exact num_Cmp.mono _ _ _ _ _)
   | (with_reducible exact num_Sign.mono _ _ _)
   | (with_reducible exact LeO.refl _)
   | (with_reducible exact LeO.none _)
   | (with_reducible refine LeO.ite ?_ ?_)
   | (with_reducible refine LeO.bind ?_ (fun _ => ?_))
   | exact ih0 _ _ _ _ _
   | exact ih1 _ _ _
   | exact deci_Fixed.mono _ _ _ _
   | exact deci_Units.mono _ _ _
   | exact isohyetlaw04_fit.mono _
   | exact num_Cmp.mono _ _ _ _ _
   | exact num_Sign.mono _ _ _
   | exact LeO.none _
   | refine LeO.ite ?_ ?_
   | refine LeO.bind ?_ (fun _ => ?_)
  ·intro y0 y1 y2
   unfold isohyetlaw04_DeciUnits.j1
   repeat' first
   | (with_reducible exact ih0 _ _ _ _ _)
   | (with_reducible exact ih1 _ _ _)
   | (with_reducible exact deci_Fixed.mono _ _ _ _)
   | (with_reducible exact deci_Units.mono _ _ _)
   | (with_reducible exact isohyetlaw04_fit.mono _)
   | (with_reducible exact num_Cmp.mono _ _ _ _ _)
   | (with_reducible exact num_Sign.mono _ _ _)
   | (with_reducible exact LeO.refl _)
   | (with_reducible exact LeO.none _)
   | (with_reducible refine LeO.ite ?_ ?_)
   | (with_reducible refine LeO.bind ?_ (fun _ => ?_))
   | exact ih0 _ _ _ _ _
   | exact ih1 _ _ _
   | exact deci_Fixed.mono _ _ _ _
   | exact deci_Units.mono _ _ _
   | exact isohyetlaw04_fit.mono _
   | exact num_Cmp.mono _ _ _ _ _
   | exact num_Sign.mono _ _ _
   | exact LeO.none _
   | refine LeO.ite ?_ ?_
   | refine LeO.bind ?_ (fun _ => ?_)
theorem isohyetlaw04_DeciUnits.mono : ∀ a0 a1 a2 a3 k, LeO (isohyetlaw04_DeciUnits.f k a0 a1 a2 a3) (isohyetlaw04_DeciUnits.f (k + 1) a0 a1 a2 a3) := by
 intro a0 a1 a2 a3 k
 obtain ⟨ih0, ih1⟩ := isohyetlaw04_DeciUnits.mono_l k
 unfold isohyetlaw04_DeciUnits.f
 repeat' first
   | (with_reducible exact ih0 _ _ _ _ _)
   | (with_reducible exact ih1 _ _ _)
   | (with_reducible exact deci_Fixed.mono _ _ _ _)
   | (with_reducible exact deci_Units.mono _ _ _)
   | (with_reducible exact isohyetlaw04_fit.mono _)
   | (with_reducible exact num_Cmp.mono _ _ _ _ _)
   | (with_reducible exact num_Sign.mono _ _ _)
   | (with_reducible exact LeO.refl _)
   | (with_reducible exact LeO.none _)
   | (with_reducible refine LeO.ite ?_ ?_)
   | (with_reducible refine LeO.bind ?_ (fun _ => ?_))
   | exact ih0 _ _ _ _ _
   | exact ih1 _ _ _
   | exact deci_Fixed.mono _ _ _ _
   | exact deci_Units.mono _ _ _
   | exact isohyetlaw04_fit.mono _
   | exact num_Cmp.mono _ _ _ _ _
   | exact num_Sign.mono _ _ _
   | exact LeO.none _
   | refine LeO.ite ?_ ?_
   | refine LeO.bind ?_ (fun _ => ?_)
set_option maxHeartbeats 8000000 in
set_option maxRecDepth 100000 in
theorem isohyetlaw04_DeciUnits.calls (k : Nat) (a0_0 : Bool) (A0_1 : Option Addr) (c0_1 : Nat) (l0_1 : List Int) (a1 : ByteArray) (a2 : Int) (r : Bool) (w : World) (hr0_1 : Kd.C (Kd.int .u64) w A0_1 l0_1.length l0_1) (hc0_1 : l0_1.length ≤ c0_1) (HT0 : MB.TabW w) (HTRUE : r = true) (h : isohyetlaw04_DeciUnits.f k a0_0 l0_1 a1 a2 = some r) :
  Calls Tryd.prog 7 #[.agg #[.bool a0_0, .slice A0_1 l0_1.length c0_1], .string a1, .int .i64 a2] w fun e w' => e = .returned (.bool r) ∧ Below w.heap.size w w' := by
 have hu32 := Tryd.underlying32
 have HR0_1 := Aside0.mk hr0_1
 have HC0_1 := Aside0.mk hc0_1
 clear hr0_1 hc0_1
 have HB := Aside0.mk (Below.refl w.heap.size w)
 have H : ((isohyetlaw04_fit.f k).bind fun t471 => (if t471 = true then (if (l0_1.length : Int) > 12 then (isohyetlaw04_DeciUnits.j0 k a1 a2 true a0_0 l0_1) else (isohyetlaw04_DeciUnits.j0 k a1 a2 (decide ((a1.size : Int) > 1000)) a0_0 l0_1)) else (some false))) = some r := h
 clear h
 replace H := Option.bind_eq_some_iff.mp H
 obtain ⟨t471, A40, H⟩ := H
 replace H : (if t471 = true then (if (l0_1.length : Int) > 12 then (isohyetlaw04_DeciUnits.j0 k a1 a2 true a0_0 l0_1) else (isohyetlaw04_DeciUnits.j0 k a1 a2 (decide ((a1.size : Int) > 1000)) a0_0 l0_1)) else (some false)) = some r := H
 have A4 := Aside0.mk A40
 clear A40
 by_cases c5 : t471 = true
 ·subst c5
  have H1 : (if (l0_1.length : Int) > 12 then (isohyetlaw04_DeciUnits.j0 k a1 a2 true a0_0 l0_1) else (isohyetlaw04_DeciUnits.j0 k a1 a2 (decide ((a1.size : Int) > 1000)) a0_0 l0_1)) = some r := by rw [if_pos rfl] at H; exact H
  clear H
  have H := H1
  clear H1
  have HC6 := Aside0.mk H
  clear H
  go_enter Tryd.func7, Tryd.ntmps7
  go_upto_region 3 with (first | ((with_reducible refine gate_dst (N := 3) rfl ?_); (try (refine gate_guard (by rfl) ?_; dsimp only)); refine box_event ?hg (N := 3) ?hd (cs := #[.bool a0_0, .slice A0_1 l0_1.length c0_1]) (t := 32) ?hr ?_; (case hd => rfl); (case hg => rfl); (case hr => first | (go_simp; done) | (go_simp; rfl)); intro gb470 hg w7 hbox hb; have n0_ := Aside0.mk (below_step (gB HB.out) hb); have n1_ := Aside0.mk (hbox); have n2_ := Aside0.mk ((by rw [hg]; exact (below_size (gB HB.out)) : w.heap.size ≤ gb470)); have n3_ := Aside0.mk ((by rw [hg]; exact (below_size (gB HB.out)) : w.heap.size ≤ gb470)); clear HB; have HB := n0_; have BK470 := n1_; have GW470 := n2_; have GE470 := n3_; clear n0_ n1_ n2_ n3_; clear hb hbox hg) | ((with_reducible refine gate_callee (f := 8) rfl ?_); refine goesL_ (some 11) rfl rfl Tryd.func8 (by kernel_rfl) rfl #[] rfl (by (try simp only [List.map_toArray, List.map_cons, List.map_nil]); first | done | rfl | (simp only [List.length_drop, List.length_take]; rfl)) ?_; (with_reducible refine (isohyetlaw04_fit.calls k  true _ (MB.tab_below HT0 (gB HB.out)) rfl A4.out).mono ?_); (try clear A4); rintro e w8 ⟨rfl, hb⟩; refine ⟨_, rfl, ?_⟩; have n0_ := Aside0.mk (blk_below (gK BK470.out) hb); have n1_ := Aside0.mk (below_step (by repeat (first | (with_reducible first | exact HB.out | apply bA | apply bN | apply bD | refine bS ?_ GE470.out) | exact HB.out)) hb); clear BK470; clear HB; have BK470 := n0_; have HB := n1_; clear n0_ n1_; (try clear hb); (try clear hb2); (try clear hk); (try clear hi)))
  (try simp only [Act.put, List.setIfInBounds_toArray, List.set_cons_zero, List.set_cons_succ])
  go_cut [21] (fun v21 wc => ∃ (kq : Nat) (x21_5 : Bool), v21 = .bool x21_5 ∧ Aside0 (isohyetlaw04_DeciUnits.j0 kq a1 a2 x21_5 a0_0 l0_1 = some r) ∧ Aside0 (kq ≤ k) ∧ Aside0 (wc.heap[gb470]? = some (.cells #[.bool a0_0, (.slice A0_1 l0_1.length c0_1)] 32 (0, 0))) ∧ Aside0 (Below w.heap.size w wc))
  case first =>
   have H := HC6.out
   clear HC6
   by_cases c9 : (l0_1.length : Int) > 12
   ·rw [if_pos c9] at H
    have c9b0 : decide (12 < (l0_1.length : Int)) = true := decide_eq_true c9
    have c9b1 : decide (12 < l0_1.length) = true := decide_eq_true (by omega)
    clear c9
    (first | rw [c9b0] | rw [c9b1] | (simp only [i64_w, i32_w]; rw [c9b0]) | skip)
    have H' := Aside0.mk H
    clear H
    have hcz10_0 : w8.cell? ⟨gb470, 0, none⟩ = some (.bool a0_0) := (blk_cell BK470.out 0).trans rfl
    have hcz10_1 : w8.cell? ⟨gb470, 1, none⟩ = some (.slice A0_1 l0_1.length c0_1) := (blk_cell BK470.out 1).trans rfl
    have hfz10_0 := blk_frozen BK470.out 0
    have hfz10_1 := blk_frozen BK470.out 1
    go_wp2
    go_meet
    case rel => exact ⟨_, (true), (by first | rfl | (simp; done) | (simp [*]; done)), H', ⟨by first | omega | exact Nat.le_refl _⟩, ⟨by (with_reducible repeat (first | refine blk_drewN ?_ _ | refine blk_drew ?_ | refine blk_alloc ?_ _)); exact BK470.out⟩, ⟨by repeat (first | (with_reducible first | exact HB.out | apply bA | apply bN | apply bD | refine bS ?_ GE470.out) | exact HB.out)⟩⟩
   ·rw [if_neg c9] at H
    have c9b0 : decide (12 < (l0_1.length : Int)) = false := decide_eq_false c9
    have c9b1 : decide (12 < l0_1.length) = false := decide_eq_false (by omega)
    clear c9
    (first | rw [c9b0] | rw [c9b1] | (simp only [i64_w, i32_w]; rw [c9b0]) | skip)
    have H' := Aside0.mk H
    clear H
    have hcz11_0 : w8.cell? ⟨gb470, 0, none⟩ = some (.bool a0_0) := (blk_cell BK470.out 0).trans rfl
    have hcz11_1 : w8.cell? ⟨gb470, 1, none⟩ = some (.slice A0_1 l0_1.length c0_1) := (blk_cell BK470.out 1).trans rfl
    have hfz11_0 := blk_frozen BK470.out 0
    have hfz11_1 := blk_frozen BK470.out 1
    go_wp2
    go_meet
    case rel => exact ⟨_, (decide ((a1.size : Int) > 1000)), (by first | rfl | (simp; done) | (simp [*]; done)), H', ⟨by first | omega | exact Nat.le_refl _⟩, ⟨by (with_reducible repeat (first | refine blk_drewN ?_ _ | refine blk_drew ?_ | refine blk_alloc ?_ _)); exact BK470.out⟩, ⟨by repeat (first | (with_reducible first | exact HB.out | apply bA | apply bN | apply bD | refine bS ?_ GE470.out) | exact HB.out)⟩⟩
  case rest =>
   clear HC6
   try clear p2
   try clear c5
   try clear c7
   try clear c8
   try clear c9
   try clear c9b0
   try clear c9b1
   try clear hcz10_0
   try clear hcz10_1
   try clear hcz11_0
   try clear hcz11_1
   try clear hfz10_0
   try clear hfz10_1
   try clear hfz11_0
   try clear hfz11_1
   obtain ⟨kq, x21_5, rfl, HA, HJ5, BK470, HB⟩ := hcut
   cases kq with
   | zero => exact absurd HA.out (by simp [isohyetlaw04_DeciUnits.j0])
   | succ kj5 =>
    have H := HA.out
    clear HA
    simp only [isohyetlaw04_DeciUnits.j0] at H
    by_cases c12 : x21_5 = true
    ·subst c12
     have H1 : (some true) = some r := by rw [if_pos rfl] at H; exact H
     clear H
     have H := H1
     clear H1
     obtain rfl := Option.some.inj H
     go_wp2
     go_ret
     exact ⟨by first | rfl | (simp [errW_none, errW_some] <;> rfl) | (simp [*, errW_none, errW_some] <;> rfl), by repeat (first | (with_reducible first | exact HB.out | apply bA | apply bN | apply bD | refine bS ?_ GE470.out) | exact HB.out)⟩
    ·replace c12 := Bool.eq_false_iff.mpr c12
     subst c12
     have H1 : ((deci_Fixed.f kj5 a0_0 l0_1 a2).bind fun t472 => ((deci_Units.f kj5 t472 a2).bind fun bt473 => (if bt473.2.2 = 0 then ((num_Cmp.f kj5 bt473.1 bt473.2.1 a0_0 l0_1).bind fun t479 => (isohyetlaw04_DeciUnits.j1 kj5 a1 a2 (t479 != 0))) else (isohyetlaw04_DeciUnits.j1 kj5 a1 a2 true)))) = some r := by rw [if_neg (show ¬ (false = true) by decide)] at H; exact H
     clear H
     have H := H1
     clear H1
     replace H := Option.bind_eq_some_iff.mp H
     obtain ⟨t472, A130, H⟩ := H
     replace H : ((deci_Units.f kj5 t472 a2).bind fun bt473 => (if bt473.2.2 = 0 then ((num_Cmp.f kj5 bt473.1 bt473.2.1 a0_0 l0_1).bind fun t479 => (isohyetlaw04_DeciUnits.j1 kj5 a1 a2 (t479 != 0))) else (isohyetlaw04_DeciUnits.j1 kj5 a1 a2 true))) = some r := H
     have A13 := Aside0.mk A130
     clear A130
     replace H := Option.bind_eq_some_iff.mp H
     obtain ⟨⟨t473, t474, t477⟩, A140, H⟩ := H
     replace H : (if t477 = 0 then ((num_Cmp.f kj5 t473 t474 a0_0 l0_1).bind fun t479 => (isohyetlaw04_DeciUnits.j1 kj5 a1 a2 (t479 != 0))) else (isohyetlaw04_DeciUnits.j1 kj5 a1 a2 true)) = some r := H
     have A14 := Aside0.mk A140
     clear A140
     have HC15 := Aside0.mk H
     clear H
     have hcz16_0 : wc.cell? ⟨gb470, 0, none⟩ = some (.bool a0_0) := (blk_cell BK470.out 0).trans rfl
     have hcz16_1 : wc.cell? ⟨gb470, 1, none⟩ = some (.slice A0_1 l0_1.length c0_1) := (blk_cell BK470.out 1).trans rfl
     have hfz16_0 := blk_frozen BK470.out 0
     have hfz16_1 := blk_frozen BK470.out 1
     go_upto_region 6 with (first | ((with_reducible refine gate_callee (f := 13) rfl ?_); refine goesL_ (some 25) rfl rfl Tryd.func13 (by kernel_rfl) rfl #[.agg #[.bool a0_0, .slice A0_1 l0_1.length c0_1], .int .i64 a2] rfl (by (try simp only [List.map_toArray, List.map_cons, List.map_nil]); first | done | rfl | (simp only [List.length_drop, List.length_take]; rfl)) ?_; (with_reducible refine (deci_Fixed.calls kj5 a0_0 _ _ l0_1 a2 t472 _ ?side1 ?side2 A13.out).mono ?_); (case side1 => repeat (first | exact (Kd.C_below HR0_1.out HB.out) | (with_reducible refine Kd.C_alloc ?_ _) | (with_reducible refine Kd.C_drewN ?_ _) | (with_reducible refine Kd.C_drew ?_))); (case side2 => exact HC0_1.out); (try clear A13); rintro e w17 ⟨rfl, hb⟩; refine ⟨_, rfl, ?_⟩; have n0_ := Aside0.mk (blk_below (gK BK470.out) hb); have n1_ := Aside0.mk (below_step (by repeat (first | (with_reducible first | exact HB.out | apply bA | apply bN | apply bD | refine bS ?_ GE470.out) | exact HB.out)) hb); clear BK470; clear HB; have BK470 := n0_; have HB := n1_; clear n0_ n1_; (try clear hb); (try clear hb2); (try clear hk); (try clear hi)) | ((with_reducible refine gate_callee (f := 22) rfl ?_); refine goesL_ (some 27) rfl rfl Tryd.func22 (by kernel_rfl) rfl #[.string t472, .int .i64 a2] rfl (by (try simp only [List.map_toArray, List.map_cons, List.map_nil]); first | done | rfl | (simp only [List.length_drop, List.length_take]; rfl)) ?_; (with_reducible refine (deci_Units.calls kj5 t472 a2 t473 t474 t477 _ (MB.tab_below HT0 (gB HB.out)) A14.out).mono ?_); (try clear A14); rintro e w18 ⟨v475, rfl, ho0, hb⟩; refine ⟨_, rfl, ?_⟩; have n0_ := Aside0.mk (Kd.V_lower (Kd.V_mono (ok' := fun k_ => k_ ≠ gb470) ho0 (fun k_ hk_ => (Kd.freshB (g := gb470) (o := .cells #[.bool a0_0, .slice A0_1 l0_1.length c0_1] 32 (0, 0)) (gK BK470.out) k_ hk_))) (below_size (by repeat (first | (with_reducible first | exact HB.out | apply bA | apply bN | apply bD | refine bS ?_ GE470.out) | exact HB.out)))); have n1_ := Aside0.mk (blk_below (gK BK470.out) hb); have n2_ := Aside0.mk (below_step (by repeat (first | (with_reducible first | exact HB.out | apply bA | apply bN | apply bD | refine bS ?_ GE470.out) | exact HB.out)) hb); clear BK470; clear HB; have HO476 := n0_; have BK470 := n1_; have HB := n2_; clear n0_ n1_ n2_; (try clear hb); (try clear hb2); (try clear hk); (try clear hi); (try clear ho0)) | ((with_reducible refine gate_dst (N := 7) rfl ?_); (try (refine gate_guard (by rfl) ?_; dsimp only)); refine box_event ?hg (N := 7) ?hd (cs := #[.bool false, .slice none 0 0]) (t := 32) ?hr ?_; (case hd => rfl); (case hg => rfl); (case hr => first | (go_simp; done) | (go_simp; rfl)); intro gb478 hg w19 hbox hb; have n0_ := Aside0.mk (Kd.V_below (Kd.V_elderB (gV HO476.out) gb478 (Nat.le_of_eq hg.symm)) hb); have n1_ := Aside0.mk (blk_below (gK BK470.out) hb); have n2_ := Aside0.mk (below_step (by repeat (first | (with_reducible first | exact HB.out | apply bA | apply bN | apply bD | refine bS ?_ GE470.out) | exact HB.out)) hb); have n3_ := Aside0.mk (hbox); have n4_ := Aside0.mk ((by rw [hg]; exact (below_size (by repeat (first | (with_reducible first | exact HB.out | apply bA | apply bN | apply bD | refine bS ?_ GE470.out) | exact HB.out))) : w.heap.size ≤ gb478)); have n5_ := Aside0.mk ((by rw [hg]; exact (below_size (by repeat (first | (with_reducible first | exact HB.out | apply bA | apply bN | apply bD | refine bS ?_ GE470.out) | exact HB.out))) : w.heap.size ≤ gb478)); have n6_ := Aside0.mk ((by rw [hg]; exact Nat.ne_of_lt (blk_lt (g := gb470) (o := .cells #[.bool a0_0, .slice A0_1 l0_1.length c0_1] 32 (0, 0)) (gK BK470.out)) : gb470 ≠ gb478)); have n7_ := Aside0.mk ((by rw [hg]; exact Nat.ne_of_gt (blk_lt (g := gb470) (o := .cells #[.bool a0_0, .slice A0_1 l0_1.length c0_1] 32 (0, 0)) (gK BK470.out)) : gb478 ≠ gb470)); clear HO476; clear BK470; clear HB; have HO476 := n0_; have BK470 := n1_; have HB := n2_; have BK478 := n3_; have GW478 := n4_; have GE478 := n5_; have NB470_478 := n6_; have NB478_470 := n7_; clear n0_ n1_ n2_ n3_ n4_ n5_ n6_ n7_; clear hb hbox hg; have hnb20 := NB478_470.out; have hnc20 := NB470_478.out; have hcz21_0 : w19.cell? ⟨gb478, 0, none⟩ = some (.bool false) := (blk_cell BK478.out 0).trans rfl; have hcz21_1 : w19.cell? ⟨gb478, 1, none⟩ = some (.slice none 0 0) := (blk_cell BK478.out 1).trans rfl; have hfz21_0 := blk_frozen BK478.out 0; have hfz21_1 := blk_frozen BK478.out 1; obtain ⟨Ao22, co22, eo22⟩ := Kd.V_slice HO476.out; subst eo22))
     (try simp only [Act.put, List.setIfInBounds_toArray, List.set_cons_zero, List.set_cons_succ])
     go_cut [37] (fun v37 wc => ∃ (kq : Nat) (x37_14 : Bool), v37 = .bool x37_14 ∧ Aside0 (isohyetlaw04_DeciUnits.j1 kq a1 a2 x37_14 = some r) ∧ Aside0 (kq ≤ kj5) ∧ Aside0 (Kd.V (Kd.int .u64) 63 wc w.heap.size (fun k_ => k_ ≠ gb470 ∧ k_ ≠ gb478) (.slice Ao22 t474.length co22) t474) ∧ Aside0 (wc.heap[gb470]? = some (.cells #[.bool a0_0, (.slice A0_1 l0_1.length c0_1)] 32 (0, 0))) ∧ Aside0 (wc.heap[gb478]? = some (.cells #[.bool t473, (.slice Ao22 t474.length co22)] 32 (0, 0))) ∧ Aside0 (Below w.heap.size w wc))
     case first =>
      have H := HC15.out
      clear HC15
      by_cases c23 : t477 = 0
      ·rw [if_pos c23] at H
       have c23b0 : (t477 == 0) = true := beq_iff_eq.mpr c23
       have c23b1 : (t477 != 0) = false := bne_eq_false_iff_eq.mpr c23
       clear c23
       (first | rw [c23b0] | rw [c23b1] | (simp only [i64_w, i32_w]; rw [c23b0]) | skip)
       replace H := Option.bind_eq_some_iff.mp H
       obtain ⟨t479, A240, H⟩ := H
       replace H : (isohyetlaw04_DeciUnits.j1 kj5 a1 a2 (t479 != 0)) = some r := H
       have A24 := Aside0.mk A240
       clear A240
       have H' := Aside0.mk H
       clear H
       have hnb25 := NB478_470.out
       have hnc25 := NB470_478.out
       have hcz26_0 : w19.cell? ⟨gb478, 0, none⟩ = some (.bool false) := (blk_cell BK478.out 0).trans rfl
       have hcz26_1 : w19.cell? ⟨gb478, 1, none⟩ = some (.slice none 0 0) := (blk_cell BK478.out 1).trans rfl
       have hfz26_0 := blk_frozen BK478.out 0
       have hfz26_1 := blk_frozen BK478.out 1
       have hcz27_0 : w19.cell? ⟨gb470, 0, none⟩ = some (.bool a0_0) := (blk_cell BK470.out 0).trans rfl
       have hcz27_1 : w19.cell? ⟨gb470, 1, none⟩ = some (.slice A0_1 l0_1.length c0_1) := (blk_cell BK470.out 1).trans rfl
       have hfz27_0 := blk_frozen BK470.out 0
       have hfz27_1 := blk_frozen BK470.out 1
       go_wp2_with (first | (go_at_call 20; (with_reducible refine (num_Cmp.calls kj5 t473 _ _ t474 a0_0 _ _ l0_1 t479 _ ?side1 ?side2 ?side3 ?side4 A24.out).mono ?_); (case side1 => refine (Kd.V_reads' (e := 63) (base := w.heap.size) (ok := fun k_ => (k_ ≠ gb470 ∧ k_ ≠ gb478)) (n := t474.length) (c := co22) ?_).2.2; exact (gV (Kd.V_mono (Kd.V_far (p := ⟨gb478, 1, none⟩) (Kd.V_far (p := ⟨gb478, 0, none⟩) (Kd.V_mono HO476.out (fun k_ hk => (⟨hk, hk.2⟩ : _ ∧ k_ ≠ gb478))) (fun _ hk => hk.2) (.bool t473)) (fun _ hk => hk.2) (.slice Ao22 t474.length co22)) (fun _ h_ => h_.1)))); (case side2 => exact (Kd.V_reads' HO476.out).2.1); (case side3 => exact Kd.C_below HR0_1.out (by repeat (first | (with_reducible first | exact HB.out | apply bA | apply bN | apply bD | refine bS ?_ GE470.out | refine bS ?_ GE478.out) | exact HB.out))); (case side4 => exact HC0_1.out); (try clear A24); rintro e w28 ⟨rfl, hb⟩; have n0_ := Aside0.mk (Kd.V_below (gV (Kd.V_mono (Kd.V_far (p := ⟨gb478, 1, none⟩) (Kd.V_far (p := ⟨gb478, 0, none⟩) (Kd.V_mono HO476.out (fun k_ hk => (⟨hk, hk.2⟩ : _ ∧ k_ ≠ gb478))) (fun _ hk => hk.2) (.bool t473)) (fun _ hk => hk.2) (.slice Ao22 t474.length co22)) (fun _ h_ => h_.1))) hb); have n1_ := Aside0.mk (blk_below (g := gb470) (o := .cells #[.bool a0_0, .slice A0_1 l0_1.length c0_1] 32 (0, 0)) (by (with_reducible repeat (first | refine blk_drewN ?_ _ | refine blk_drew ?_ | refine blk_alloc ?_ _)); refine blk_far ?_ NB470_478.out _; (with_reducible repeat (first | refine blk_drewN ?_ _ | refine blk_drew ?_ | refine blk_alloc ?_ _)); refine blk_far ?_ NB470_478.out _; (with_reducible repeat (first | refine blk_drewN ?_ _ | refine blk_drew ?_ | refine blk_alloc ?_ _)); exact BK470.out) hb); have n2_ := Aside0.mk (blk_below (g := gb478) (o := .cells #[.bool t473, .slice Ao22 t474.length co22] 32 (0, 0)) (by (with_reducible repeat (first | refine blk_drewN ?_ _ | refine blk_drew ?_ | refine blk_alloc ?_ _)); refine blk_put (cs := #[.bool t473, .slice none 0 0]) ?_ 1 _ rfl; (with_reducible repeat (first | refine blk_drewN ?_ _ | refine blk_drew ?_ | refine blk_alloc ?_ _)); refine blk_put (cs := #[.bool false, .slice none 0 0]) ?_ 0 _ rfl; (with_reducible repeat (first | refine blk_drewN ?_ _ | refine blk_drew ?_ | refine blk_alloc ?_ _)); exact BK478.out) hb); have n3_ := Aside0.mk (below_step (by repeat (first | (with_reducible first | exact HB.out | apply bA | apply bN | apply bD | refine bS ?_ GE470.out | refine bS ?_ GE478.out) | exact HB.out)) hb); clear HO476; clear BK470; clear BK478; clear HB; have HO476 := n0_; have BK470 := n1_; have BK478 := n2_; have HB := n3_; clear n0_ n1_ n2_ n3_; (try clear hb); (try clear hb2); (try clear hk); (try clear hi)))
       go_meet
       case rel => exact ⟨_, ((t479 != 0)), (by first | rfl | (simp; done) | (simp [*]; done)), H', ⟨by have := HJ5.out; first | omega | exact Nat.le_refl _⟩, ⟨by (with_reducible repeat (first | apply Kd.V_alloc | apply Kd.V_drewN | apply Kd.V_drew)); exact HO476.out⟩, ⟨by (with_reducible repeat (first | refine blk_drewN ?_ _ | refine blk_drew ?_ | refine blk_alloc ?_ _)); exact BK470.out⟩, ⟨by (with_reducible repeat (first | refine blk_drewN ?_ _ | refine blk_drew ?_ | refine blk_alloc ?_ _)); exact BK478.out⟩, ⟨by repeat (first | (with_reducible first | exact HB.out | apply bA | apply bN | apply bD | refine bS ?_ GE470.out | refine bS ?_ GE478.out) | exact HB.out)⟩⟩
      ·rw [if_neg c23] at H
       have c23b0 : (t477 == 0) = false := beq_eq_false_iff_ne.mpr c23
       have c23b1 : (t477 != 0) = true := bne_iff_ne.mpr c23
       (first | rw [c23b0] | rw [c23b1] | (simp only [i64_w, i32_w]; rw [c23b0]) | skip)
       have H' := Aside0.mk H
       clear H
       go_wp2
       go_meet
       case rel => exact ⟨_, (true), (by first | rfl | (simp; done) | (simp [*]; done)), H', ⟨by have := HJ5.out; first | omega | exact Nat.le_refl _⟩, ⟨by (with_reducible repeat (first | apply Kd.V_alloc | apply Kd.V_drewN | apply Kd.V_drew)); exact Kd.V_mono (Kd.V_far (p := ⟨gb478, 1, none⟩) (Kd.V_far (p := ⟨gb478, 0, none⟩) (Kd.V_mono HO476.out (fun k_ hk => (⟨hk, hk.2⟩ : _ ∧ k_ ≠ gb478))) (fun _ hk => hk.2) (.bool t473)) (fun _ hk => hk.2) (.slice Ao22 t474.length co22)) (fun _ hk => ⟨hk.1.1, hk.1.2⟩)⟩, ⟨by (with_reducible repeat (first | refine blk_drewN ?_ _ | refine blk_drew ?_ | refine blk_alloc ?_ _)); refine blk_far ?_ NB470_478.out _; (with_reducible repeat (first | refine blk_drewN ?_ _ | refine blk_drew ?_ | refine blk_alloc ?_ _)); refine blk_far ?_ NB470_478.out _; (with_reducible repeat (first | refine blk_drewN ?_ _ | refine blk_drew ?_ | refine blk_alloc ?_ _)); exact BK470.out⟩, ⟨by (with_reducible repeat (first | refine blk_drewN ?_ _ | refine blk_drew ?_ | refine blk_alloc ?_ _)); refine blk_put (cs := #[.bool t473, .slice none 0 0]) ?_ 1 _ rfl; (with_reducible repeat (first | refine blk_drewN ?_ _ | refine blk_drew ?_ | refine blk_alloc ?_ _)); refine blk_put (cs := #[.bool false, .slice none 0 0]) ?_ 0 _ rfl; (with_reducible repeat (first | refine blk_drewN ?_ _ | refine blk_drew ?_ | refine blk_alloc ?_ _)); exact BK478.out⟩, ⟨by repeat (first | (with_reducible first | exact HB.out | apply bA | apply bN | apply bD | refine bS ?_ GE470.out | refine bS ?_ GE478.out) | exact HB.out)⟩⟩
     case rest =>
      clear HC15
      try clear c1
      try clear c2
      try clear p2
      try clear c5
      try clear c7
      try clear c8
      try clear c9
      try clear c9b0
      try clear c9b1
      try clear c12
      try clear c13
      try clear c20
      try clear c22
      try clear c23
      try clear c23b0
      try clear c23b1
      try clear c25
      try clear hcz10_0
      try clear hcz10_1
      try clear hcz11_0
      try clear hcz11_1
      try clear hcz16_0
      try clear hcz16_1
      try clear hcz21_0
      try clear hcz21_1
      try clear hcz26_0
      try clear hcz26_1
      try clear hcz27_0
      try clear hcz27_1
      try clear hfz10_0
      try clear hfz10_1
      try clear hfz11_0
      try clear hfz11_1
      try clear hfz16_0
      try clear hfz16_1
      try clear hfz21_0
      try clear hfz21_1
      try clear hfz26_0
      try clear hfz26_1
      try clear hfz27_0
      try clear hfz27_1
      try clear p2
      obtain ⟨kq, x37_14, rfl, HA, HJ14, HO_479001, BK470, BK478, HB⟩ := hcut
      cases kq with
      | zero => exact absurd HA.out (by simp [isohyetlaw04_DeciUnits.j1])
      | succ kj14 =>
       have H := HA.out
       clear HA
       simp only [isohyetlaw04_DeciUnits.j1] at H
       by_cases c29 : x37_14 = true
       ·subst c29
        have H1 : (some false) = some r := by rw [if_pos rfl] at H; exact H
        clear H
        have H := H1
        clear H1
        exact absurd ((Option.some.inj H).trans HTRUE) (by decide)
       ·replace c29 := Bool.eq_false_iff.mpr c29
        subst c29
        have H1 : ((deci_Units.f kj14 a1 a2).bind fun bt480 => (if bt480.2.2 = 0 then ((deci_Fixed.f kj14 bt480.1 bt480.2.1 a2).bind fun t486 => (some (t486.toList == a1.toList))) else ((num_Sign.f kj14 bt480.1 bt480.2.1).bind fun t487 => (if t487 = 0 then (some ((bt480.2.2 == 2) == (decide ((a1.size : Int) > 400)))) else (some false))))) = some r := by rw [if_neg (show ¬ (false = true) by decide)] at H; exact H
        clear H
        have H := H1
        clear H1
        replace H := Option.bind_eq_some_iff.mp H
        obtain ⟨⟨t480, t481, t484⟩, A300, H⟩ := H
        replace H : (if t484 = 0 then ((deci_Fixed.f kj14 t480 t481 a2).bind fun t486 => (some (t486.toList == a1.toList))) else ((num_Sign.f kj14 t480 t481).bind fun t487 => (if t487 = 0 then (some ((t484 == 2) == (decide ((a1.size : Int) > 400)))) else (some false)))) = some r := H
        have A30 := Aside0.mk A300
        clear A300
        by_cases c31 : t484 = 0
        ·rw [if_pos c31] at H
         have c31b0 : (t484 == 0) = true := beq_iff_eq.mpr c31
         have c31b1 : (t484 != 0) = false := bne_eq_false_iff_eq.mpr c31
         clear c31
         replace H := Option.bind_eq_some_iff.mp H
         obtain ⟨t486, A320, H⟩ := H
         replace H : (some (t486.toList == a1.toList)) = some r := H
         have A32 := Aside0.mk A320
         clear A320
         obtain rfl := Option.some.inj H
         go_wp2_with (first | ((with_reducible refine gate_callee (f := 22) rfl ?_); refine goesL_ (some 41) rfl rfl Tryd.func22 (by kernel_rfl) rfl #[.string a1, .int .i64 a2] rfl (by (try simp only [List.map_toArray, List.map_cons, List.map_nil]); first | done | rfl | (simp only [List.length_drop, List.length_take]; rfl)) ?_; (with_reducible refine (deci_Units.calls kj14 a1 a2 t480 t481 t484 _ (MB.tab_below HT0 (gB HB.out)) A30.out).mono ?_); (try clear A30); rintro e w33 ⟨v482, rfl, ho0, hb⟩; refine ⟨_, rfl, ?_⟩; have n0_ := Aside0.mk (Kd.V_below (gV HO_479001.out) hb); have n1_ := Aside0.mk (Kd.V_lower (Kd.V_mono (ok' := fun k_ => k_ ≠ gb470 ∧ k_ ≠ gb478) ho0 (fun k_ hk_ => ⟨(Kd.freshB (g := gb470) (o := .cells #[.bool a0_0, .slice A0_1 l0_1.length c0_1] 32 (0, 0)) (gK BK470.out) k_ hk_), (Kd.freshB (g := gb478) (o := .cells #[.bool t473, .slice Ao22 t474.length co22] 32 (0, 0)) (gK BK478.out) k_ hk_)⟩)) (below_size (by repeat (first | (with_reducible first | exact HB.out | apply bA | apply bN | apply bD | refine bS ?_ GE470.out | refine bS ?_ GE478.out) | exact HB.out)))); have n2_ := Aside0.mk (blk_below (gK BK470.out) hb); have n3_ := Aside0.mk (blk_below (gK BK478.out) hb); have n4_ := Aside0.mk (below_step (by repeat (first | (with_reducible first | exact HB.out | apply bA | apply bN | apply bD | refine bS ?_ GE470.out | refine bS ?_ GE478.out) | exact HB.out)) hb); clear HO_479001; clear BK470; clear BK478; clear HB; have HO_479001 := n0_; have HO483 := n1_; have BK470 := n2_; have BK478 := n3_; have HB := n4_; clear n0_ n1_ n2_ n3_ n4_; (try clear hb); (try clear hb2); (try clear hk); (try clear hi); (try clear ho0)) | ((with_reducible refine gate_dst (N := 9) rfl ?_); (try (refine gate_guard (by rfl) ?_; dsimp only)); refine box_event ?hg (N := 9) ?hd (cs := #[.bool false, .slice none 0 0]) (t := 32) ?hr ?_; (case hd => rfl); (case hg => rfl); (case hr => first | (go_simp; done) | (go_simp; rfl)); intro gb485 hg w34 hbox hb; have n0_ := Aside0.mk (Kd.V_below (Kd.V_elderB (gV HO_479001.out) gb485 (Nat.le_of_eq hg.symm)) hb); have n1_ := Aside0.mk (Kd.V_below (Kd.V_elderB (gV HO483.out) gb485 (Nat.le_of_eq hg.symm)) hb); have n2_ := Aside0.mk (blk_below (gK BK470.out) hb); have n3_ := Aside0.mk (blk_below (gK BK478.out) hb); have n4_ := Aside0.mk (below_step (by repeat (first | (with_reducible first | exact HB.out | apply bA | apply bN | apply bD | refine bS ?_ GE470.out | refine bS ?_ GE478.out) | exact HB.out)) hb); have n5_ := Aside0.mk (hbox); have n6_ := Aside0.mk ((by rw [hg]; exact (below_size (by repeat (first | (with_reducible first | exact HB.out | apply bA | apply bN | apply bD | refine bS ?_ GE470.out | refine bS ?_ GE478.out) | exact HB.out))) : w.heap.size ≤ gb485)); have n7_ := Aside0.mk ((by rw [hg]; exact (below_size (by repeat (first | (with_reducible first | exact HB.out | apply bA | apply bN | apply bD | refine bS ?_ GE470.out | refine bS ?_ GE478.out) | exact HB.out))) : w.heap.size ≤ gb485)); have n8_ := Aside0.mk ((by rw [hg]; exact Nat.ne_of_lt (blk_lt (g := gb470) (o := .cells #[.bool a0_0, .slice A0_1 l0_1.length c0_1] 32 (0, 0)) (gK BK470.out)) : gb470 ≠ gb485)); have n9_ := Aside0.mk ((by rw [hg]; exact Nat.ne_of_gt (blk_lt (g := gb470) (o := .cells #[.bool a0_0, .slice A0_1 l0_1.length c0_1] 32 (0, 0)) (gK BK470.out)) : gb485 ≠ gb470)); have n10_ := Aside0.mk ((by rw [hg]; exact Nat.ne_of_lt (blk_lt (g := gb478) (o := .cells #[.bool t473, .slice Ao22 t474.length co22] 32 (0, 0)) (gK BK478.out)) : gb478 ≠ gb485)); have n11_ := Aside0.mk ((by rw [hg]; exact Nat.ne_of_gt (blk_lt (g := gb478) (o := .cells #[.bool t473, .slice Ao22 t474.length co22] 32 (0, 0)) (gK BK478.out)) : gb485 ≠ gb478)); clear HO_479001; clear HO483; clear BK470; clear BK478; clear HB; have HO_479001 := n0_; have HO483 := n1_; have BK470 := n2_; have BK478 := n3_; have HB := n4_; have BK485 := n5_; have GW485 := n6_; have GE485 := n7_; have NB470_485 := n8_; have NB485_470 := n9_; have NB478_485 := n10_; have NB485_478 := n11_; clear n0_ n1_ n2_ n3_ n4_ n5_ n6_ n7_ n8_ n9_ n10_ n11_; clear hb hbox hg; have hnb35 := NB485_470.out; have hnc35 := NB470_485.out; have hnb36 := NB485_478.out; have hnc36 := NB478_485.out; have hcz37_0 : w34.cell? ⟨gb485, 0, none⟩ = some (.bool false) := (blk_cell BK485.out 0).trans rfl; have hcz37_1 : w34.cell? ⟨gb485, 1, none⟩ = some (.slice none 0 0) := (blk_cell BK485.out 1).trans rfl; have hfz37_0 := blk_frozen BK485.out 0; have hfz37_1 := blk_frozen BK485.out 1; obtain ⟨Ao38, co38, eo38⟩ := Kd.V_slice HO483.out; subst eo38) | ((with_reducible refine gate_callee (f := 13) rfl ?_); refine goesL_ (some 59) rfl rfl Tryd.func13 (by kernel_rfl) rfl #[.agg #[.bool t480, .slice Ao38 t481.length co38], .int .i64 a2] rfl (by (try simp only [List.map_toArray, List.map_cons, List.map_nil]); first | done | rfl | (simp only [List.length_drop, List.length_take]; rfl)) ?_; (with_reducible refine (deci_Fixed.calls kj14 t480 _ _ t481 a2 t486 _ ?side1 ?side2 A32.out).mono ?_); (case side1 => refine (Kd.V_reads' (e := 63) (base := w.heap.size) (ok := fun k_ => ((k_ ≠ gb470 ∧ k_ ≠ gb478) ∧ k_ ≠ gb485)) (n := t481.length) (c := co38) ?_).2.2; exact (gV (Kd.V_mono (Kd.V_far (p := ⟨gb485, 1, none⟩) (Kd.V_far (p := ⟨gb485, 0, none⟩) (Kd.V_mono HO483.out (fun k_ hk => (⟨hk, hk.2⟩ : _ ∧ k_ ≠ gb485))) (fun _ hk => hk.2) (.bool t480)) (fun _ hk => hk.2) (.slice Ao38 t481.length co38)) (fun _ h_ => h_.1)))); (case side2 => exact (Kd.V_reads' HO483.out).2.1); (try clear A32); rintro e w39 ⟨rfl, hb⟩; refine ⟨_, rfl, ?_⟩; have n0_ := Aside0.mk (Kd.V_below (gV (Kd.V_mono (Kd.V_far (p := ⟨gb485, 1, none⟩) (Kd.V_far (p := ⟨gb485, 0, none⟩) (Kd.V_mono HO_479001.out (fun k_ hk => (⟨hk, hk.2⟩ : _ ∧ k_ ≠ gb485))) (fun _ hk => hk.2) (.bool t480)) (fun _ hk => hk.2) (.slice Ao38 t481.length co38)) (fun _ h_ => h_.1))) hb); have n1_ := Aside0.mk (Kd.V_below (gV (Kd.V_mono (Kd.V_far (p := ⟨gb485, 1, none⟩) (Kd.V_far (p := ⟨gb485, 0, none⟩) (Kd.V_mono HO483.out (fun k_ hk => (⟨hk, hk.2⟩ : _ ∧ k_ ≠ gb485))) (fun _ hk => hk.2) (.bool t480)) (fun _ hk => hk.2) (.slice Ao38 t481.length co38)) (fun _ h_ => h_.1))) hb); have n2_ := Aside0.mk (blk_below (g := gb470) (o := .cells #[.bool a0_0, .slice A0_1 l0_1.length c0_1] 32 (0, 0)) (by (with_reducible repeat (first | refine blk_drewN ?_ _ | refine blk_drew ?_ | refine blk_alloc ?_ _)); refine blk_far ?_ NB470_485.out _; (with_reducible repeat (first | refine blk_drewN ?_ _ | refine blk_drew ?_ | refine blk_alloc ?_ _)); refine blk_far ?_ NB470_485.out _; (with_reducible repeat (first | refine blk_drewN ?_ _ | refine blk_drew ?_ | refine blk_alloc ?_ _)); exact BK470.out) hb); have n3_ := Aside0.mk (blk_below (g := gb478) (o := .cells #[.bool t473, .slice Ao22 t474.length co22] 32 (0, 0)) (by (with_reducible repeat (first | refine blk_drewN ?_ _ | refine blk_drew ?_ | refine blk_alloc ?_ _)); refine blk_far ?_ NB478_485.out _; (with_reducible repeat (first | refine blk_drewN ?_ _ | refine blk_drew ?_ | refine blk_alloc ?_ _)); refine blk_far ?_ NB478_485.out _; (with_reducible repeat (first | refine blk_drewN ?_ _ | refine blk_drew ?_ | refine blk_alloc ?_ _)); exact BK478.out) hb); have n4_ := Aside0.mk (blk_below (g := gb485) (o := .cells #[.bool t480, .slice Ao38 t481.length co38] 32 (0, 0)) (by (with_reducible repeat (first | refine blk_drewN ?_ _ | refine blk_drew ?_ | refine blk_alloc ?_ _)); refine blk_put (cs := #[.bool t480, .slice none 0 0]) ?_ 1 _ rfl; (with_reducible repeat (first | refine blk_drewN ?_ _ | refine blk_drew ?_ | refine blk_alloc ?_ _)); refine blk_put (cs := #[.bool false, .slice none 0 0]) ?_ 0 _ rfl; (with_reducible repeat (first | refine blk_drewN ?_ _ | refine blk_drew ?_ | refine blk_alloc ?_ _)); exact BK485.out) hb); have n5_ := Aside0.mk (below_step (by repeat (first | (with_reducible first | exact HB.out | apply bA | apply bN | apply bD | refine bS ?_ GE470.out | refine bS ?_ GE478.out | refine bS ?_ GE485.out) | exact HB.out)) hb); clear HO_479001; clear HO483; clear BK470; clear BK478; clear BK485; clear HB; have HO_479001 := n0_; have HO483 := n1_; have BK470 := n2_; have BK478 := n3_; have BK485 := n4_; have HB := n5_; clear n0_ n1_ n2_ n3_ n4_ n5_; (try clear hb); (try clear hb2); (try clear hk); (try clear hi)))
         go_ret
         exact ⟨by first | rfl | (simp [errW_none, errW_some] <;> rfl) | (simp [*, errW_none, errW_some] <;> rfl), by repeat (first | (with_reducible first | exact HB.out | apply bA | apply bN | apply bD | refine bS ?_ GE470.out | refine bS ?_ GE478.out | refine bS ?_ GE485.out) | exact HB.out)⟩
        ·rw [if_neg c31] at H
         have c31b0 : (t484 == 0) = false := beq_eq_false_iff_ne.mpr c31
         have c31b1 : (t484 != 0) = true := bne_iff_ne.mpr c31
         replace H := Option.bind_eq_some_iff.mp H
         obtain ⟨t487, A400, H⟩ := H
         replace H : (if t487 = 0 then (some ((t484 == 2) == (decide ((a1.size : Int) > 400)))) else (some false)) = some r := H
         have A40 := Aside0.mk A400
         clear A400
         by_cases c41 : t487 = 0
         ·rw [if_pos c41] at H
          have c41b0 : (t487 == 0) = true := beq_iff_eq.mpr c41
          have c41b1 : (t487 != 0) = false := bne_eq_false_iff_eq.mpr c41
          clear c41
          obtain rfl := Option.some.inj H
          go_wp2_with (first | ((with_reducible refine gate_callee (f := 22) rfl ?_); refine goesL_ (some 41) rfl rfl Tryd.func22 (by kernel_rfl) rfl #[.string a1, .int .i64 a2] rfl (by (try simp only [List.map_toArray, List.map_cons, List.map_nil]); first | done | rfl | (simp only [List.length_drop, List.length_take]; rfl)) ?_; (with_reducible refine (deci_Units.calls kj14 a1 a2 t480 t481 t484 _ (MB.tab_below HT0 (gB HB.out)) A30.out).mono ?_); (try clear A30); rintro e w42 ⟨v482, rfl, ho0, hb⟩; refine ⟨_, rfl, ?_⟩; have n0_ := Aside0.mk (Kd.V_below (gV HO_479001.out) hb); have n1_ := Aside0.mk (Kd.V_lower (Kd.V_mono (ok' := fun k_ => k_ ≠ gb470 ∧ k_ ≠ gb478) ho0 (fun k_ hk_ => ⟨(Kd.freshB (g := gb470) (o := .cells #[.bool a0_0, .slice A0_1 l0_1.length c0_1] 32 (0, 0)) (gK BK470.out) k_ hk_), (Kd.freshB (g := gb478) (o := .cells #[.bool t473, .slice Ao22 t474.length co22] 32 (0, 0)) (gK BK478.out) k_ hk_)⟩)) (below_size (by repeat (first | (with_reducible first | exact HB.out | apply bA | apply bN | apply bD | refine bS ?_ GE470.out | refine bS ?_ GE478.out) | exact HB.out)))); have n2_ := Aside0.mk (blk_below (gK BK470.out) hb); have n3_ := Aside0.mk (blk_below (gK BK478.out) hb); have n4_ := Aside0.mk (below_step (by repeat (first | (with_reducible first | exact HB.out | apply bA | apply bN | apply bD | refine bS ?_ GE470.out | refine bS ?_ GE478.out) | exact HB.out)) hb); clear HO_479001; clear BK470; clear BK478; clear HB; have HO_479001 := n0_; have HO483 := n1_; have BK470 := n2_; have BK478 := n3_; have HB := n4_; clear n0_ n1_ n2_ n3_ n4_; (try clear hb); (try clear hb2); (try clear hk); (try clear hi); (try clear ho0)) | ((with_reducible refine gate_dst (N := 9) rfl ?_); (try (refine gate_guard (by rfl) ?_; dsimp only)); refine box_event ?hg (N := 9) ?hd (cs := #[.bool false, .slice none 0 0]) (t := 32) ?hr ?_; (case hd => rfl); (case hg => rfl); (case hr => first | (go_simp; done) | (go_simp; rfl)); intro gb485 hg w43 hbox hb; have n0_ := Aside0.mk (Kd.V_below (Kd.V_elderB (gV HO_479001.out) gb485 (Nat.le_of_eq hg.symm)) hb); have n1_ := Aside0.mk (Kd.V_below (Kd.V_elderB (gV HO483.out) gb485 (Nat.le_of_eq hg.symm)) hb); have n2_ := Aside0.mk (blk_below (gK BK470.out) hb); have n3_ := Aside0.mk (blk_below (gK BK478.out) hb); have n4_ := Aside0.mk (below_step (by repeat (first | (with_reducible first | exact HB.out | apply bA | apply bN | apply bD | refine bS ?_ GE470.out | refine bS ?_ GE478.out) | exact HB.out)) hb); have n5_ := Aside0.mk (hbox); have n6_ := Aside0.mk ((by rw [hg]; exact (below_size (by repeat (first | (with_reducible first | exact HB.out | apply bA | apply bN | apply bD | refine bS ?_ GE470.out | refine bS ?_ GE478.out) | exact HB.out))) : w.heap.size ≤ gb485)); have n7_ := Aside0.mk ((by rw [hg]; exact (below_size (by repeat (first | (with_reducible first | exact HB.out | apply bA | apply bN | apply bD | refine bS ?_ GE470.out | refine bS ?_ GE478.out) | exact HB.out))) : w.heap.size ≤ gb485)); have n8_ := Aside0.mk ((by rw [hg]; exact Nat.ne_of_lt (blk_lt (g := gb470) (o := .cells #[.bool a0_0, .slice A0_1 l0_1.length c0_1] 32 (0, 0)) (gK BK470.out)) : gb470 ≠ gb485)); have n9_ := Aside0.mk ((by rw [hg]; exact Nat.ne_of_gt (blk_lt (g := gb470) (o := .cells #[.bool a0_0, .slice A0_1 l0_1.length c0_1] 32 (0, 0)) (gK BK470.out)) : gb485 ≠ gb470)); have n10_ := Aside0.mk ((by rw [hg]; exact Nat.ne_of_lt (blk_lt (g := gb478) (o := .cells #[.bool t473, .slice Ao22 t474.length co22] 32 (0, 0)) (gK BK478.out)) : gb478 ≠ gb485)); have n11_ := Aside0.mk ((by rw [hg]; exact Nat.ne_of_gt (blk_lt (g := gb478) (o := .cells #[.bool t473, .slice Ao22 t474.length co22] 32 (0, 0)) (gK BK478.out)) : gb485 ≠ gb478)); clear HO_479001; clear HO483; clear BK470; clear BK478; clear HB; have HO_479001 := n0_; have HO483 := n1_; have BK470 := n2_; have BK478 := n3_; have HB := n4_; have BK485 := n5_; have GW485 := n6_; have GE485 := n7_; have NB470_485 := n8_; have NB485_470 := n9_; have NB478_485 := n10_; have NB485_478 := n11_; clear n0_ n1_ n2_ n3_ n4_ n5_ n6_ n7_ n8_ n9_ n10_ n11_; clear hb hbox hg; have hnb44 := NB485_470.out; have hnc44 := NB470_485.out; have hnb45 := NB485_478.out; have hnc45 := NB478_485.out; have hcz46_0 : w43.cell? ⟨gb485, 0, none⟩ = some (.bool false) := (blk_cell BK485.out 0).trans rfl; have hcz46_1 : w43.cell? ⟨gb485, 1, none⟩ = some (.slice none 0 0) := (blk_cell BK485.out 1).trans rfl; have hfz46_0 := blk_frozen BK485.out 0; have hfz46_1 := blk_frozen BK485.out 1; obtain ⟨Ao47, co47, eo47⟩ := Kd.V_slice HO483.out; subst eo47) | ((with_reducible refine gate_callee (f := 18) rfl ?_); refine goesL_ (some 47) rfl rfl Tryd.func18 (by kernel_rfl) rfl #[.agg #[.bool t480, .slice Ao47 t481.length co47]] rfl (by (try simp only [List.map_toArray, List.map_cons, List.map_nil]); first | done | rfl | (simp only [List.length_drop, List.length_take]; rfl)) ?_; (with_reducible refine (num_Sign.calls kj14 t480 _ _ t481 t487 _ ?side1 ?side2 A40.out).mono ?_); (case side1 => refine (Kd.V_reads' (e := 63) (base := w.heap.size) (ok := fun k_ => ((k_ ≠ gb470 ∧ k_ ≠ gb478) ∧ k_ ≠ gb485)) (n := t481.length) (c := co47) ?_).2.2; exact (gV (Kd.V_mono (Kd.V_far (p := ⟨gb485, 1, none⟩) (Kd.V_far (p := ⟨gb485, 0, none⟩) (Kd.V_mono HO483.out (fun k_ hk => (⟨hk, hk.2⟩ : _ ∧ k_ ≠ gb485))) (fun _ hk => hk.2) (.bool t480)) (fun _ hk => hk.2) (.slice Ao47 t481.length co47)) (fun _ h_ => h_.1)))); (case side2 => exact (Kd.V_reads' HO483.out).2.1); (try clear A40); rintro e w48 ⟨rfl, hb⟩; refine ⟨_, rfl, ?_⟩; have n0_ := Aside0.mk (Kd.V_below (gV (Kd.V_mono (Kd.V_far (p := ⟨gb485, 1, none⟩) (Kd.V_far (p := ⟨gb485, 0, none⟩) (Kd.V_mono HO_479001.out (fun k_ hk => (⟨hk, hk.2⟩ : _ ∧ k_ ≠ gb485))) (fun _ hk => hk.2) (.bool t480)) (fun _ hk => hk.2) (.slice Ao47 t481.length co47)) (fun _ h_ => h_.1))) hb); have n1_ := Aside0.mk (Kd.V_below (gV (Kd.V_mono (Kd.V_far (p := ⟨gb485, 1, none⟩) (Kd.V_far (p := ⟨gb485, 0, none⟩) (Kd.V_mono HO483.out (fun k_ hk => (⟨hk, hk.2⟩ : _ ∧ k_ ≠ gb485))) (fun _ hk => hk.2) (.bool t480)) (fun _ hk => hk.2) (.slice Ao47 t481.length co47)) (fun _ h_ => h_.1))) hb); have n2_ := Aside0.mk (blk_below (g := gb470) (o := .cells #[.bool a0_0, .slice A0_1 l0_1.length c0_1] 32 (0, 0)) (by (with_reducible repeat (first | refine blk_drewN ?_ _ | refine blk_drew ?_ | refine blk_alloc ?_ _)); refine blk_far ?_ NB470_485.out _; (with_reducible repeat (first | refine blk_drewN ?_ _ | refine blk_drew ?_ | refine blk_alloc ?_ _)); refine blk_far ?_ NB470_485.out _; (with_reducible repeat (first | refine blk_drewN ?_ _ | refine blk_drew ?_ | refine blk_alloc ?_ _)); exact BK470.out) hb); have n3_ := Aside0.mk (blk_below (g := gb478) (o := .cells #[.bool t473, .slice Ao22 t474.length co22] 32 (0, 0)) (by (with_reducible repeat (first | refine blk_drewN ?_ _ | refine blk_drew ?_ | refine blk_alloc ?_ _)); refine blk_far ?_ NB478_485.out _; (with_reducible repeat (first | refine blk_drewN ?_ _ | refine blk_drew ?_ | refine blk_alloc ?_ _)); refine blk_far ?_ NB478_485.out _; (with_reducible repeat (first | refine blk_drewN ?_ _ | refine blk_drew ?_ | refine blk_alloc ?_ _)); exact BK478.out) hb); have n4_ := Aside0.mk (blk_below (g := gb485) (o := .cells #[.bool t480, .slice Ao47 t481.length co47] 32 (0, 0)) (by (with_reducible repeat (first | refine blk_drewN ?_ _ | refine blk_drew ?_ | refine blk_alloc ?_ _)); refine blk_put (cs := #[.bool t480, .slice none 0 0]) ?_ 1 _ rfl; (with_reducible repeat (first | refine blk_drewN ?_ _ | refine blk_drew ?_ | refine blk_alloc ?_ _)); refine blk_put (cs := #[.bool false, .slice none 0 0]) ?_ 0 _ rfl; (with_reducible repeat (first | refine blk_drewN ?_ _ | refine blk_drew ?_ | refine blk_alloc ?_ _)); exact BK485.out) hb); have n5_ := Aside0.mk (below_step (by repeat (first | (with_reducible first | exact HB.out | apply bA | apply bN | apply bD | refine bS ?_ GE470.out | refine bS ?_ GE478.out | refine bS ?_ GE485.out) | exact HB.out)) hb); clear HO_479001; clear HO483; clear BK470; clear BK478; clear BK485; clear HB; have HO_479001 := n0_; have HO483 := n1_; have BK470 := n2_; have BK478 := n3_; have BK485 := n4_; have HB := n5_; clear n0_ n1_ n2_ n3_ n4_ n5_; (try clear hb); (try clear hb2); (try clear hk); (try clear hi)))
          go_ret
          exact ⟨by first | rfl | (simp [errW_none, errW_some] <;> rfl) | (simp [*, errW_none, errW_some] <;> rfl), by repeat (first | (with_reducible first | exact HB.out | apply bA | apply bN | apply bD | refine bS ?_ GE470.out | refine bS ?_ GE478.out | refine bS ?_ GE485.out) | exact HB.out)⟩
         ·rw [if_neg c41] at H
          have c41b0 : (t487 == 0) = false := beq_eq_false_iff_ne.mpr c41
          have c41b1 : (t487 != 0) = true := bne_iff_ne.mpr c41
          exact absurd ((Option.some.inj H).trans HTRUE) (by decide)
 ·replace c5 := Bool.eq_false_iff.mpr c5
  subst c5
  have H1 : (some false) = some r := by rw [if_neg (show ¬ (false = true) by decide)] at H; exact H
  clear H
  have H := H1
  clear H1
  exact absurd ((Option.some.inj H).trans HTRUE) (by decide)

end Go.Proofs.YtpdgjhaimfpacaaDoor.M
