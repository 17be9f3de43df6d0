-- By drive.py (this session's program), out of the translation. Lean checks it.
import Derived.Test.YtpdgjhaimfpacaaDoorA0
import Derived.Test.YtpdgjhaimfpacaaDoorA6
import Derived.Test.YtpdgjhaimfpacaaDoorA9
import Derived.Test.YtpdgjhaimfpacaaDoorC1
import Derived.Test.YtpdgjhaimfpacaaDoorE4
import Derived.Test.YtpdgjhaimfpacaaDoorE6
import Derived.Test.YtpdgjhaimfpacaaDoorR1
import Derived.Test.YtpdgjhaimfpacaaDoorR2
namespace Go.Proofs.YtpdgjhaimfpacaaDoor.M
open Go.Proofs.YtpdgjhaimfpacaaDoor.MB Go.Proofs.YtpdgjhaimfpacaaDoor
open Go.RowKit Go.Proofs.YtpdgjhaimfpacaaDoorW.PrintWords Go.Proofs.YtpdgjhaimfpacaaDoorW.PrintLast Go.Proofs.YtpdgjhaimfpacaaDoorW.PrintMore
attribute [local go_sem] max2_int min2_int max_two min_two max_three min_three max_four min_four   -- for this text's walks alone
set_option linter.unusedVariables false
set_option linter.unusedSimpArgs false
attribute [local go_sem] add64_run sub64_run

/-! ### isohyetlaw04_DeciWholes: function 6 -/
mutual
def isohyetlaw04_DeciWholes.j0 : Nat → ByteArray → Bool → Bool → List Int → Option (Bool)
 | 0, _, _, _, _ => none
 | k + 1, x1, x21, x446000, x446001 => if x21 = true then (some true) else ((deci_Digits.f k x446000 x446001).bind fun t447 => ((isohyetref01_Digits.f k x446001).bind fun t448 => ((isohyetref01_Text.f k t448).bind fun t451 => ((num_Sign.f k x446000 x446001).bind fun t452 => (if t452 < 0 then (if 1 + t451.size ≤ 9223372036854775807 then (isohyetlaw04_DeciWholes.j1 k x1 t447 ((⟨#[45]⟩ : ByteArray) ++ t451) x446000 x446001) else (none)) else (isohyetlaw04_DeciWholes.j1 k x1 t447 t451 x446000 x446001))))))
def isohyetlaw04_DeciWholes.j1 : Nat → ByteArray → ByteArray → ByteArray → Bool → List Int → Option (Bool)
 | 0, _, _, _, _, _ => none
 | k + 1, x1, x5, x6, x446000, x446001 => (deci_Whole.f k x5).bind fun bt453 => (if x5.toList = x6.toList then (if bt453.2.2 = 0 then ((num_Cmp.f k x446000 x446001 bt453.1 bt453.2.1).bind fun t459 => (isohyetlaw04_DeciWholes.j2 k x1 (t459 != 0))) else (isohyetlaw04_DeciWholes.j2 k x1 true)) else (isohyetlaw04_DeciWholes.j2 k x1 true))
def isohyetlaw04_DeciWholes.j2 : Nat → ByteArray → Bool → Option (Bool)
 | 0, _, _ => none
 | k + 1, x1, x50 => if x50 = true then (some false) else ((deci_Whole.f k x1).bind fun bt460 => (if bt460.2.2 = 0 then ((deci_Digits.f k bt460.1 bt460.2.1).bind fun t466 => (if t466.toList = x1.toList then ((isohyetlaw04_plain.f k x1).bind fun t467 => (some t467)) else (some false))) else ((num_Sign.f k bt460.1 bt460.2.1).bind fun t468 => (if t468 = 0 then (if ((bt460.2.2 == 2) == (decide ((x1.size : Int) > 400))) = true then ((isohyetlaw04_plain.f k x1).bind fun t469 => (some (!t469))) else (some false)) else (some false)))))
end
def isohyetlaw04_DeciWholes.f (k : Nat) (a0_0 : Bool) (l0_1 : List Int) (a1 : ByteArray) : Option (Bool) := (isohyetlaw04_fit.f k).bind fun t446 => (if t446 = true then (if (l0_1.length : Int) > 12 then (isohyetlaw04_DeciWholes.j0 k a1 true a0_0 l0_1) else (isohyetlaw04_DeciWholes.j0 k a1 (decide ((a1.size : Int) > 1000)) a0_0 l0_1)) else (some false))
theorem isohyetlaw04_DeciWholes.mono_l : ∀ k, (∀ y0 y1 y2 y3, LeO (isohyetlaw04_DeciWholes.j0 k y0 y1 y2 y3) (isohyetlaw04_DeciWholes.j0 (k + 1) y0 y1 y2 y3)) ∧ (∀ y0 y1 y2 y3 y4, LeO (isohyetlaw04_DeciWholes.j1 k y0 y1 y2 y3 y4) (isohyetlaw04_DeciWholes.j1 (k + 1) y0 y1 y2 y3 y4)) ∧ (∀ y0 y1, LeO (isohyetlaw04_DeciWholes.j2 k y0 y1) (isohyetlaw04_DeciWholes.j2 (k + 1) y0 y1))
 | 0 => ⟨fun _ _ _ _ r h => by simp [isohyetlaw04_DeciWholes.j0] at h, fun _ _ _ _ _ r h => by simp [isohyetlaw04_DeciWholes.j1] at h, fun _ _ r h => by simp [isohyetlaw04_DeciWholes.j2] at h⟩
 | k + 1 => by
  obtain ⟨ih0, ih1, ih2⟩ := isohyetlaw04_DeciWholes.mono_l k
  refine ⟨?_, ?_, ?_⟩
  ·intro y0 y1 y2 y3
   unfold isohyetlaw04_DeciWholes.j0
   repeat' first
   | (with_reducible exact ih0 _ _ _ _)
   | (with_reducible exact ih1 _ _ _ _ _)
   | (with_reducible exact ih2 _ _)
   | (with_reducible exact deci_Digits.mono _ _ _)
   | (with_reducible exact deci_Whole.mono _ _)
   | (with_reducible exact isohyetlaw04_fit.mono _)
   | (with_reducible exact isohyetlaw04_plain.mono _ _)
   | (with_reducible exact isohyetref01_Digits.mono _ _)
   | (with_reducible exact isohyetref01_Text.mono _ _)
   | (with_reducible exact num_Cmp.mono _ _ _ _ _)
   | (with_reducible exact num_Sign.mono _ _ _)
   | (with_reducible exact LeO.refl _)
   | (with_reducible exact LeO.none _)
   | (with_reducible refine LeO.ite ?_ ?_)
   | (with_reducible refine LeO.bind ?_ (fun _ => ?_))
   | exact ih0 _ _ _ _
   | exact ih1 _ _ _ _ _
   | exact ih2 _ _
   | exact deci_Digits.mono _ _ _
   | exact deci_Whole.mono _ _
   | exact isohyetlaw04_fit.mono _
   | exact isohyetlaw04_plain.mono _ _
   | exact isohyetref01_Digits.mono _ _
   | exact isohyetref01_Text.mono _ _
   | exact num_Cmp.mono _ _ _ _ _
   | exact num_Sign.mono _ _ _
   | exact LeO.none _
   | refine LeO.ite ?_ ?_
   | refine LeO.bind ?_ (fun _ => ?_)
  ·intro y0 y1 y2 y3 y4
   unfold isohyetlaw04_DeciWholes.j1
   repeat' first
   | (with_reducible exact ih0 _ _ _ _)
   | (with_reducible exact ih1 _ _ _ _ _)
   | (with_reducible exact ih2 _ _)
   | (with_reducible exact deci_Digits.mono _ _ _)
   | (with_reducible exact deci_Whole.mono _ _)
   | (with_reducible exact isohyetlaw04_fit.mono _)
   | (with_reducible exact isohyetlaw04_plain.mono _ _)
   | (with_reducible exact isohyetref01_Digits.mono _ _)
   | (with_reducible exact isohyetref01_Text.mono _ _)
   | (with_reducible exact num_Cmp.mono _ _ _ _ _)
   | (with_reducible exact num_Sign.mono _ _ _)
   | (with_reducible exact LeO.refl _)
   | (with_reducible exact LeO.none _)
   | (with_reducible refine LeO.ite ?_ ?_)
   | (with_reducible refine LeO.bind ?_ (fun _ => ?_))
   | exact ih0 _ _ _ _
   | exact ih1 _ _ _ _ _
   | exact ih2 _ _
   | exact deci_Digits.mono _ _ _
   | exact deci_Whole.mono _ _
   | exact isohyetlaw04_fit.mono _
   | exact isohyetlaw04_plain.mono _ _
   | exact isohyetref01_Digits.mono _ _
   | exact isohyetref01_Text.mono _ _
   | exact num_Cmp.mono _ _ _ _ _
   | exact num_Sign.mono _ _ _
   | exact LeO.none _
   | refine LeO.ite ?_ ?_
   | refine LeO.bind ?_ (fun _ => ?_)
  ·intro y0 y1
   unfold isohyetlaw04_DeciWholes.j2
   repeat' first
   | (with_reducible exact ih0 _ _ _ _)
   | (with_reducible exact ih1 _ _ _ _ _)
   | (with_reducible exact ih2 _ _)
   | (with_reducible exact deci_Digits.mono _ _ _)
   | (with_reducible exact deci_Whole.mono _ _)
   | (with_reducible exact isohyetlaw04_fit.mono _)
   | (with_reducible exact isohyetlaw04_plain.mono _ _)
   | (with_reducible exact isohyetref01_Digits.mono _ _)
   | (with_reducible exact isohyetref01_Text.mono _ _)
   | (with_reducible exact num_Cmp.mono _ _ _ _ _)
   | (with_reducible exact num_Sign.mono _ _ _)
   | (with_reducible exact LeO.refl _)
   | (with_reducible exact LeO.none _)
   | (with_reducible refine LeO.ite ?_ ?_)
   | (with_reducible refine LeO.bind ?_ (fun _ => ?_))
   | exact ih0 _ _ _ _
   | exact ih1 _ _ _ _ _
   | exact ih2 _ _
   | exact deci_Digits.mono _ _ _
   | exact deci_Whole.mono _ _
   | exact isohyetlaw04_fit.mono _
   | exact isohyetlaw04_plain.mono _ _
   | exact isohyetref01_Digits.mono _ _
   | exact isohyetref01_Text.mono _ _
   | exact num_Cmp.mono _ _ _ _ _
   | exact num_Sign.mono _ _ _
   | exact LeO.none _
   | refine LeO.ite ?_ ?_
   | refine LeO.bind ?_ (fun _ => ?_)
theorem isohyetlaw04_DeciWholes.mono : ∀ a0 a1 a2 k, LeO (isohyetlaw04_DeciWholes.f k a0 a1 a2) (isohyetlaw04_DeciWholes.f (k + 1) a0 a1 a2) := by
 intro a0 a1 a2 k
 obtain ⟨ih0, ih1, ih2⟩ := isohyetlaw04_DeciWholes.mono_l k
 unfold isohyetlaw04_DeciWholes.f
 repeat' first
   | (with_reducible exact ih0 _ _ _ _)
   | (with_reducible exact ih1 _ _ _ _ _)
   | (with_reducible exact ih2 _ _)
   | (with_reducible exact deci_Digits.mono _ _ _)
   | (with_reducible exact deci_Whole.mono _ _)
   | (with_reducible exact isohyetlaw04_fit.mono _)
   | (with_reducible exact isohyetlaw04_plain.mono _ _)
   | (with_reducible exact isohyetref01_Digits.mono _ _)
   | (with_reducible exact isohyetref01_Text.mono _ _)
   | (with_reducible exact num_Cmp.mono _ _ _ _ _)
   | (with_reducible exact num_Sign.mono _ _ _)
   | (with_reducible exact LeO.refl _)
   | (with_reducible exact LeO.none _)
   | (with_reducible refine LeO.ite ?_ ?_)
   | (with_reducible refine LeO.bind ?_ (fun _ => ?_))
   | exact ih0 _ _ _ _
   | exact ih1 _ _ _ _ _
   | exact ih2 _ _
   | exact deci_Digits.mono _ _ _
   | exact deci_Whole.mono _ _
   | exact isohyetlaw04_fit.mono _
   | exact isohyetlaw04_plain.mono _ _
   | exact isohyetref01_Digits.mono _ _
   | exact isohyetref01_Text.mono _ _
   | exact num_Cmp.mono _ _ _ _ _
   | exact num_Sign.mono _ _ _
   | exact LeO.none _
   | refine LeO.ite ?_ ?_
   | refine LeO.bind ?_ (fun _ => ?_)
set_option maxHeartbeats 8000000 in
set_option maxRecDepth 100000 in
theorem isohyetlaw04_DeciWholes.calls (k : Nat) (a0_0 : Bool) (A0_1 : Option Addr) (c0_1 : Nat) (l0_1 : List Int) (a1 : ByteArray) (r : Bool) (w : World) (hr0_1 : Kd.C (Kd.int .u64) w A0_1 l0_1.length l0_1) (hc0_1 : l0_1.length ≤ c0_1) (HT0 : MB.TabW w) (HTRUE : r = true) (h : isohyetlaw04_DeciWholes.f k a0_0 l0_1 a1 = some r) :
  Calls Tryd.prog 6 #[.agg #[.bool a0_0, .slice A0_1 l0_1.length c0_1], .string a1] w fun e w' => e = .returned (.bool r) ∧ Below w.heap.size w w' := by
 have hu32 := Tryd.underlying32
 have HR0_1 := Aside0.mk hr0_1
 have HC0_1 := Aside0.mk hc0_1
 clear hr0_1 hc0_1
 have HB := Aside0.mk (Below.refl w.heap.size w)
 have H : ((isohyetlaw04_fit.f k).bind fun t446 => (if t446 = true then (if (l0_1.length : Int) > 12 then (isohyetlaw04_DeciWholes.j0 k a1 true a0_0 l0_1) else (isohyetlaw04_DeciWholes.j0 k a1 (decide ((a1.size : Int) > 1000)) a0_0 l0_1)) else (some false))) = some r := h
 clear h
 replace H := Option.bind_eq_some_iff.mp H
 obtain ⟨t446, A30, H⟩ := H
 replace H : (if t446 = true then (if (l0_1.length : Int) > 12 then (isohyetlaw04_DeciWholes.j0 k a1 true a0_0 l0_1) else (isohyetlaw04_DeciWholes.j0 k a1 (decide ((a1.size : Int) > 1000)) a0_0 l0_1)) else (some false)) = some r := H
 have A3 := Aside0.mk A30
 clear A30
 by_cases c4 : t446 = true
 ·subst c4
  have H1 : (if (l0_1.length : Int) > 12 then (isohyetlaw04_DeciWholes.j0 k a1 true a0_0 l0_1) else (isohyetlaw04_DeciWholes.j0 k a1 (decide ((a1.size : Int) > 1000)) a0_0 l0_1)) = some r := by rw [if_pos rfl] at H; exact H
  clear H
  have H := H1
  clear H1
  have HC5 := Aside0.mk H
  clear H
  go_enter Tryd.func6, Tryd.ntmps6
  go_upto_region 3 with (first | ((with_reducible refine gate_dst (N := 2) rfl ?_); (try (refine gate_guard (by rfl) ?_; dsimp only)); refine box_event ?hg (N := 2) ?hd (cs := #[.bool a0_0, .slice A0_1 l0_1.length c0_1]) (t := 32) ?hr ?_; (case hd => rfl); (case hg => rfl); (case hr => first | (go_simp; done) | (go_simp; rfl)); intro gb445 hg w6 hbox hb; have n0_ := Aside0.mk (below_step (gB HB.out) hb); have n1_ := Aside0.mk (hbox); have n2_ := Aside0.mk ((by rw [hg]; exact (below_size (gB HB.out)) : w.heap.size ≤ gb445)); have n3_ := Aside0.mk ((by rw [hg]; exact (below_size (gB HB.out)) : w.heap.size ≤ gb445)); clear HB; have HB := n0_; have BK445 := n1_; have GW445 := n2_; have GE445 := n3_; clear n0_ n1_ n2_ n3_; clear hb hbox hg) | ((with_reducible refine gate_callee (f := 8) rfl ?_); refine goesL_ (some 11) rfl rfl Tryd.func8 (by kernel_rfl) rfl #[] rfl (by (try simp only [List.map_toArray, List.map_cons, List.map_nil]); first | done | rfl | (simp only [List.length_drop, List.length_take]; rfl)) ?_; (with_reducible refine (isohyetlaw04_fit.calls k  true _ (MB.tab_below HT0 (gB HB.out)) rfl A3.out).mono ?_); (try clear A3); rintro e w7 ⟨rfl, hb⟩; refine ⟨_, rfl, ?_⟩; have n0_ := Aside0.mk (blk_below (gK BK445.out) hb); have n1_ := Aside0.mk (below_step (by repeat (first | (with_reducible first | exact HB.out | apply bA | apply bN | apply bD | refine bS ?_ GE445.out) | exact HB.out)) hb); clear BK445; clear HB; have BK445 := n0_; have HB := n1_; clear n0_ n1_; (try clear hb); (try clear hb2); (try clear hk); (try clear hi)))
  (try simp only [Act.put, List.setIfInBounds_toArray, List.set_cons_zero, List.set_cons_succ])
  go_cut [21] (fun v21 wc => ∃ (kq : Nat) (x21_4 : Bool), v21 = .bool x21_4 ∧ Aside0 (isohyetlaw04_DeciWholes.j0 kq a1 x21_4 a0_0 l0_1 = some r) ∧ Aside0 (kq ≤ k) ∧ Aside0 (wc.heap[gb445]? = some (.cells #[.bool a0_0, (.slice A0_1 l0_1.length c0_1)] 32 (0, 0))) ∧ Aside0 (Below w.heap.size w wc))
  case first =>
   have H := HC5.out
   clear HC5
   by_cases c8 : (l0_1.length : Int) > 12
   ·rw [if_pos c8] at H
    have c8b0 : decide (12 < (l0_1.length : Int)) = true := decide_eq_true c8
    have c8b1 : decide (12 < l0_1.length) = true := decide_eq_true (by omega)
    clear c8
    (first | rw [c8b0] | rw [c8b1] | (simp only [i64_w, i32_w]; rw [c8b0]) | skip)
    have H' := Aside0.mk H
    clear H
    have hcz9_0 : w7.cell? ⟨gb445, 0, none⟩ = some (.bool a0_0) := (blk_cell BK445.out 0).trans rfl
    have hcz9_1 : w7.cell? ⟨gb445, 1, none⟩ = some (.slice A0_1 l0_1.length c0_1) := (blk_cell BK445.out 1).trans rfl
    have hfz9_0 := blk_frozen BK445.out 0
    have hfz9_1 := blk_frozen BK445.out 1
    go_wp2
    go_meet
    case rel => exact ⟨_, (true), (by first | rfl | (simp; done) | (simp [*]; done)), H', ⟨by first | omega | exact Nat.le_refl _⟩, ⟨by (with_reducible repeat (first | refine blk_drewN ?_ _ | refine blk_drew ?_ | refine blk_alloc ?_ _)); exact BK445.out⟩, ⟨by repeat (first | (with_reducible first | exact HB.out | apply bA | apply bN | apply bD | refine bS ?_ GE445.out) | exact HB.out)⟩⟩
   ·rw [if_neg c8] at H
    have c8b0 : decide (12 < (l0_1.length : Int)) = false := decide_eq_false c8
    have c8b1 : decide (12 < l0_1.length) = false := decide_eq_false (by omega)
    clear c8
    (first | rw [c8b0] | rw [c8b1] | (simp only [i64_w, i32_w]; rw [c8b0]) | skip)
    have H' := Aside0.mk H
    clear H
    have hcz10_0 : w7.cell? ⟨gb445, 0, none⟩ = some (.bool a0_0) := (blk_cell BK445.out 0).trans rfl
    have hcz10_1 : w7.cell? ⟨gb445, 1, none⟩ = some (.slice A0_1 l0_1.length c0_1) := (blk_cell BK445.out 1).trans rfl
    have hfz10_0 := blk_frozen BK445.out 0
    have hfz10_1 := blk_frozen BK445.out 1
    go_wp2
    go_meet
    case rel => exact ⟨_, (decide ((a1.size : Int) > 1000)), (by first | rfl | (simp; done) | (simp [*]; done)), H', ⟨by first | omega | exact Nat.le_refl _⟩, ⟨by (with_reducible repeat (first | refine blk_drewN ?_ _ | refine blk_drew ?_ | refine blk_alloc ?_ _)); exact BK445.out⟩, ⟨by repeat (first | (with_reducible first | exact HB.out | apply bA | apply bN | apply bD | refine bS ?_ GE445.out) | exact HB.out)⟩⟩
  case rest =>
   clear HC5
   try clear p2
   try clear c4
   try clear c6
   try clear c8
   try clear c8b0
   try clear c8b1
   try clear hcz10_0
   try clear hcz10_1
   try clear hcz9_0
   try clear hcz9_1
   try clear hfz10_0
   try clear hfz10_1
   try clear hfz9_0
   try clear hfz9_1
   obtain ⟨kq, x21_4, rfl, HA, HJ4, BK445, HB⟩ := hcut
   cases kq with
   | zero => exact absurd HA.out (by simp [isohyetlaw04_DeciWholes.j0])
   | succ kj4 =>
    have H := HA.out
    clear HA
    simp only [isohyetlaw04_DeciWholes.j0] at H
    by_cases c11 : x21_4 = true
    ·subst c11
     have H1 : (some true) = some r := by rw [if_pos rfl] at H; exact H
     clear H
     have H := H1
     clear H1
     obtain rfl := Option.some.inj H
     go_wp2
     go_ret
     exact ⟨by first | rfl | (simp [errW_none, errW_some] <;> rfl) | (simp [*, errW_none, errW_some] <;> rfl), by repeat (first | (with_reducible first | exact HB.out | apply bA | apply bN | apply bD | refine bS ?_ GE445.out) | exact HB.out)⟩
    ·replace c11 := Bool.eq_false_iff.mpr c11
     subst c11
     have H1 : ((deci_Digits.f kj4 a0_0 l0_1).bind fun t447 => ((isohyetref01_Digits.f kj4 l0_1).bind fun t448 => ((isohyetref01_Text.f kj4 t448).bind fun t451 => ((num_Sign.f kj4 a0_0 l0_1).bind fun t452 => (if t452 < 0 then (if 1 + t451.size ≤ 9223372036854775807 then (isohyetlaw04_DeciWholes.j1 kj4 a1 t447 ((⟨#[45]⟩ : ByteArray) ++ t451) a0_0 l0_1) else (none)) else (isohyetlaw04_DeciWholes.j1 kj4 a1 t447 t451 a0_0 l0_1)))))) = some r := by rw [if_neg (show ¬ (false = true) by decide)] at H; exact H
     clear H
     have H := H1
     clear H1
     replace H := Option.bind_eq_some_iff.mp H
     obtain ⟨t447, A120, H⟩ := H
     replace H : ((isohyetref01_Digits.f kj4 l0_1).bind fun t448 => ((isohyetref01_Text.f kj4 t448).bind fun t451 => ((num_Sign.f kj4 a0_0 l0_1).bind fun t452 => (if t452 < 0 then (if 1 + t451.size ≤ 9223372036854775807 then (isohyetlaw04_DeciWholes.j1 kj4 a1 t447 ((⟨#[45]⟩ : ByteArray) ++ t451) a0_0 l0_1) else (none)) else (isohyetlaw04_DeciWholes.j1 kj4 a1 t447 t451 a0_0 l0_1))))) = some r := H
     have A12 := Aside0.mk A120
     clear A120
     replace H := Option.bind_eq_some_iff.mp H
     obtain ⟨t448, A130, H⟩ := H
     replace H : ((isohyetref01_Text.f kj4 t448).bind fun t451 => ((num_Sign.f kj4 a0_0 l0_1).bind fun t452 => (if t452 < 0 then (if 1 + t451.size ≤ 9223372036854775807 then (isohyetlaw04_DeciWholes.j1 kj4 a1 t447 ((⟨#[45]⟩ : ByteArray) ++ t451) a0_0 l0_1) else (none)) else (isohyetlaw04_DeciWholes.j1 kj4 a1 t447 t451 a0_0 l0_1)))) = some r := H
     have A13 := Aside0.mk A130
     clear A130
     replace H := Option.bind_eq_some_iff.mp H
     obtain ⟨t451, A140, H⟩ := H
     replace H : ((num_Sign.f kj4 a0_0 l0_1).bind fun t452 => (if t452 < 0 then (if 1 + t451.size ≤ 9223372036854775807 then (isohyetlaw04_DeciWholes.j1 kj4 a1 t447 ((⟨#[45]⟩ : ByteArray) ++ t451) a0_0 l0_1) else (none)) else (isohyetlaw04_DeciWholes.j1 kj4 a1 t447 t451 a0_0 l0_1))) = some r := H
     have A14 := Aside0.mk A140
     clear A140
     replace H := Option.bind_eq_some_iff.mp H
     obtain ⟨t452, A150, H⟩ := H
     replace H : (if t452 < 0 then (if 1 + t451.size ≤ 9223372036854775807 then (isohyetlaw04_DeciWholes.j1 kj4 a1 t447 ((⟨#[45]⟩ : ByteArray) ++ t451) a0_0 l0_1) else (none)) else (isohyetlaw04_DeciWholes.j1 kj4 a1 t447 t451 a0_0 l0_1)) = some r := H
     have A15 := Aside0.mk A150
     clear A150
     have HC16 := Aside0.mk H
     clear H
     have hcz17_0 : wc.cell? ⟨gb445, 0, none⟩ = some (.bool a0_0) := (blk_cell BK445.out 0).trans rfl
     have hcz17_1 : wc.cell? ⟨gb445, 1, none⟩ = some (.slice A0_1 l0_1.length c0_1) := (blk_cell BK445.out 1).trans rfl
     have hfz17_0 := blk_frozen BK445.out 0
     have hfz17_1 := blk_frozen BK445.out 1
     go_upto_if 30 with (first | ((with_reducible refine gate_callee (f := 15) rfl ?_); refine goesL_ (some 23) rfl rfl Tryd.func15 (by kernel_rfl) rfl #[.agg #[.bool a0_0, .slice A0_1 l0_1.length c0_1]] rfl (by (try simp only [List.map_toArray, List.map_cons, List.map_nil]); first | done | rfl | (simp only [List.length_drop, List.length_take]; rfl)) ?_; (with_reducible refine (deci_Digits.calls kj4 a0_0 (fun k_ => k_ < w.heap.size) _ _ l0_1 t447 _ ?side1 A12.out).mono ?_); (case side1 => exact Kd.V_mk HC0_1.out (Kd.F_below (Kd.C_F (Kd.heap_int .u64) HR0_1.out) (by repeat (first | (with_reducible first | exact HB.out | apply bA | apply bN | apply bD | refine bS ?_ GE445.out) | exact HB.out)))); (try clear A12); rintro e w18 ⟨rfl, hb⟩; refine ⟨_, rfl, ?_⟩; have n0_ := Aside0.mk (blk_below (gK BK445.out) hb); have n1_ := Aside0.mk (below_step (by repeat (first | (with_reducible first | exact HB.out | apply bA | apply bN | apply bD | refine bS ?_ GE445.out) | exact HB.out)) hb); clear BK445; clear HB; have BK445 := n0_; have HB := n1_; clear n0_ n1_; (try clear hb); (try clear hb2); (try clear hk); (try clear hi); have hcz19_0 : w18.cell? ⟨gb445, 0, none⟩ = some (.bool a0_0) := (blk_cell BK445.out 0).trans rfl; have hcz19_1 : w18.cell? ⟨gb445, 1, none⟩ = some (.slice A0_1 l0_1.length c0_1) := (blk_cell BK445.out 1).trans rfl; have hfz19_0 := blk_frozen BK445.out 0; have hfz19_1 := blk_frozen BK445.out 1) | ((with_reducible refine gate_callee (f := 17) rfl ?_); refine goesL_ (some 26) rfl rfl Tryd.func17 (by kernel_rfl) rfl #[.slice A0_1 l0_1.length c0_1] rfl (by (try simp only [List.map_toArray, List.map_cons, List.map_nil]); first | done | rfl | (simp only [List.length_drop, List.length_take]; rfl)) ?_; (with_reducible refine (isohyetref01_Digits.calls kj4 _ _ l0_1 t448 _ ?side1 ?side2 A13.out).mono ?_); (case side1 => repeat (first | exact (Kd.C_below HR0_1.out HB.out) | (with_reducible refine Kd.C_alloc ?_ _) | (with_reducible refine Kd.C_drewN ?_ _) | (with_reducible refine Kd.C_drew ?_))); (case side2 => exact HC0_1.out); (try clear A13); rintro e w20 ⟨v449, rfl, ho0, hb⟩; refine ⟨_, rfl, ?_⟩; have n0_ := Aside0.mk (Kd.R_lower ho0 (below_size (by repeat (first | (with_reducible first | exact HB.out | apply bA | apply bN | apply bD | refine bS ?_ GE445.out) | exact HB.out)))); have n1_ := Aside0.mk (blk_below (gK BK445.out) hb); have n2_ := Aside0.mk (below_step (by repeat (first | (with_reducible first | exact HB.out | apply bA | apply bN | apply bD | refine bS ?_ GE445.out) | exact HB.out)) hb); clear BK445; clear HB; have HO450 := n0_; have BK445 := n1_; have HB := n2_; clear n0_ n1_ n2_; (try clear hb); (try clear hb2); (try clear hk); (try clear hi); (try clear ho0); obtain ⟨Ao21, co21, eo21⟩ := Kd.R_slice HO450.out; subst eo21) | ((with_reducible refine gate_callee (f := 16) rfl ?_); refine goesL_ (some 27) rfl rfl Tryd.func16 (by kernel_rfl) rfl #[.slice Ao21 t448.length co21] rfl (by (try simp only [List.map_toArray, List.map_cons, List.map_nil]); first | done | rfl | (simp only [List.length_drop, List.length_take]; rfl)) ?_; (with_reducible refine (isohyetref01_Text.calls kj4 _ _ t448 t451 _ ?side1 ?side2 A14.out).mono ?_); (case side1 => repeat (first | exact (Kd.R_reads' HO450.out).2.2 | (with_reducible refine Kd.C_alloc ?_ _) | (with_reducible refine Kd.C_drewN ?_ _) | (with_reducible refine Kd.C_drew ?_))); (case side2 => exact (Kd.R_reads' HO450.out).2.1); (try clear A14); rintro e w22 ⟨rfl, hb⟩; refine ⟨_, rfl, ?_⟩; have n0_ := Aside0.mk (Kd.R_below (gR HO450.out) hb); have n1_ := Aside0.mk (blk_below (gK BK445.out) hb); have n2_ := Aside0.mk (below_step (by repeat (first | (with_reducible first | exact HB.out | apply bA | apply bN | apply bD | refine bS ?_ GE445.out) | exact HB.out)) hb); clear HO450; clear BK445; clear HB; have HO450 := n0_; have BK445 := n1_; have HB := n2_; clear n0_ n1_ n2_; (try clear hb); (try clear hb2); (try clear hk); (try clear hi); have hcz23_0 : w22.cell? ⟨gb445, 0, none⟩ = some (.bool a0_0) := (blk_cell BK445.out 0).trans rfl; have hcz23_1 : w22.cell? ⟨gb445, 1, none⟩ = some (.slice A0_1 l0_1.length c0_1) := (blk_cell BK445.out 1).trans rfl; have hfz23_0 := blk_frozen BK445.out 0; have hfz23_1 := blk_frozen BK445.out 1) | ((with_reducible refine gate_callee (f := 18) rfl ?_); refine goesL_ (some 29) rfl rfl Tryd.func18 (by kernel_rfl) rfl #[.agg #[.bool a0_0, .slice A0_1 l0_1.length c0_1]] rfl (by (try simp only [List.map_toArray, List.map_cons, List.map_nil]); first | done | rfl | (simp only [List.length_drop, List.length_take]; rfl)) ?_; (with_reducible refine (num_Sign.calls kj4 a0_0 _ _ l0_1 t452 _ ?side1 ?side2 A15.out).mono ?_); (case side1 => repeat (first | exact (Kd.C_below HR0_1.out HB.out) | (with_reducible refine Kd.C_alloc ?_ _) | (with_reducible refine Kd.C_drewN ?_ _) | (with_reducible refine Kd.C_drew ?_))); (case side2 => exact HC0_1.out); (try clear A15); rintro e w24 ⟨rfl, hb⟩; refine ⟨_, rfl, ?_⟩; have n0_ := Aside0.mk (Kd.R_below (gR HO450.out) hb); have n1_ := Aside0.mk (blk_below (gK BK445.out) hb); have n2_ := Aside0.mk (below_step (by repeat (first | (with_reducible first | exact HB.out | apply bA | apply bN | apply bD | refine bS ?_ GE445.out) | exact HB.out)) hb); clear HO450; clear BK445; clear HB; have HO450 := n0_; have BK445 := n1_; have HB := n2_; clear n0_ n1_ n2_; (try clear hb); (try clear hb2); (try clear hk); (try clear hi)))
     (try simp only [Act.put, List.setIfInBounds_toArray, List.set_cons_zero, List.set_cons_succ])
     go_cut [6] (fun v6 wc => ∃ (kq : Nat) (x6_15 : ByteArray), v6 = .string x6_15 ∧ Aside0 (isohyetlaw04_DeciWholes.j1 kq a1 t447 x6_15 a0_0 l0_1 = some r) ∧ Aside0 (kq ≤ kj4) ∧ Aside0 (wc.heap[gb445]? = some (.cells #[.bool a0_0, (.slice A0_1 l0_1.length c0_1)] 32 (0, 0))) ∧ Aside0 (Below w.heap.size w wc))
     case first =>
      have H := HC16.out
      clear HC16
      by_cases c25 : t452 < 0
      ·rw [if_pos c25] at H
       have c25b0 : decide (t452 < 0) = true := decide_eq_true c25
       clear c25
       (first | rw [c25b0] | rw [c25b1] | (simp only [i64_w, i32_w]; rw [c25b0]) | skip)
       by_cases c26 : 1 + t451.size ≤ 9223372036854775807
       ·rw [if_pos c26] at H
        have c26b0 := eq_true c26
        have c26b1 : decide (1 + t451.size ≤ 9223372036854775807) = true := decide_eq_true c26
        try have c26b2 : (9223372036854775807 < 1 + t451.size) = False := eq_false (Nat.not_lt.2 c26)
        have H' := Aside0.mk H
        clear H
        go_wp2
        go_meet
        case rel => exact ⟨_, ((⟨#[45]⟩ : ByteArray) ++ t451), (by first | rfl | (simp; done) | (simp [*]; done)), H', ⟨by have := HJ4.out; first | omega | exact Nat.le_refl _⟩, ⟨by (with_reducible repeat (first | refine blk_drewN ?_ _ | refine blk_drew ?_ | refine blk_alloc ?_ _)); exact BK445.out⟩, ⟨by repeat (first | (with_reducible first | exact HB.out | apply bA | apply bN | apply bD | refine bS ?_ GE445.out) | exact HB.out)⟩⟩
       ·rw [if_neg c26] at H
        exact absurd H (by simp)
      ·rw [if_neg c25] at H
       have c25b0 : decide (t452 < 0) = false := decide_eq_false c25
       clear c25
       (first | rw [c25b0] | rw [c25b1] | (simp only [i64_w, i32_w]; rw [c25b0]) | skip)
       have H' := Aside0.mk H
       clear H
       go_wp2
       go_meet
       case rel => exact ⟨_, (t451), (by first | rfl | (simp; done) | (simp [*]; done)), H', ⟨by have := HJ4.out; first | omega | exact Nat.le_refl _⟩, ⟨by (with_reducible repeat (first | refine blk_drewN ?_ _ | refine blk_drew ?_ | refine blk_alloc ?_ _)); exact BK445.out⟩, ⟨by repeat (first | (with_reducible first | exact HB.out | apply bA | apply bN | apply bD | refine bS ?_ GE445.out) | exact HB.out)⟩⟩
     case rest =>
      clear HC16
      try clear c1
      try clear c2
      try clear p2
      try clear c4
      try clear c6
      try clear c8
      try clear c8b0
      try clear c8b1
      try clear c11
      try clear c15
      try clear c16
      try clear c17
      try clear c18
      try clear c25
      try clear c25b0
      try clear c25b1
      try clear c26
      try clear c26b0
      try clear c26b1
      try clear c26b2
      try clear hcz10_0
      try clear hcz10_1
      try clear hcz17_0
      try clear hcz17_1
      try clear hcz19_0
      try clear hcz19_1
      try clear hcz23_0
      try clear hcz23_1
      try clear hcz9_0
      try clear hcz9_1
      try clear hfz10_0
      try clear hfz10_1
      try clear hfz17_0
      try clear hfz17_1
      try clear hfz19_0
      try clear hfz19_1
      try clear hfz23_0
      try clear hfz23_1
      try clear hfz9_0
      try clear hfz9_1
      try clear p2
      obtain ⟨kq, x6_15, rfl, HA, HJ15, BK445, HB⟩ := hcut
      cases kq with
      | zero => exact absurd HA.out (by simp [isohyetlaw04_DeciWholes.j1])
      | succ kj15 =>
       have H := HA.out
       clear HA
       simp only [isohyetlaw04_DeciWholes.j1] at H
       replace H := Option.bind_eq_some_iff.mp H
       obtain ⟨⟨t453, t454, t457⟩, A270, H⟩ := H
       replace H : (if t447.toList = x6_15.toList then (if t457 = 0 then ((num_Cmp.f kj15 a0_0 l0_1 t453 t454).bind fun t459 => (isohyetlaw04_DeciWholes.j2 kj15 a1 (t459 != 0))) else (isohyetlaw04_DeciWholes.j2 kj15 a1 true)) else (isohyetlaw04_DeciWholes.j2 kj15 a1 true)) = some r := H
       have A27 := Aside0.mk A270
       clear A270
       have HC28 := Aside0.mk H
       clear H
       go_upto_region 10 with (first | ((with_reducible refine gate_callee (f := 19) rfl ?_); refine goesL_ (some 35) rfl rfl Tryd.func19 (by kernel_rfl) rfl #[.string t447] rfl (by (try simp only [List.map_toArray, List.map_cons, List.map_nil]); first | done | rfl | (simp only [List.length_drop, List.length_take]; rfl)) ?_; (with_reducible refine (deci_Whole.calls kj15 t447 t453 t454 t457 _ A27.out).mono ?_); (try clear A27); rintro e w29 ⟨v455, rfl, ho0, hb⟩; refine ⟨_, rfl, ?_⟩; have n0_ := Aside0.mk (Kd.V_lower (Kd.V_mono (ok' := fun k_ => k_ ≠ gb445) ho0 (fun k_ hk_ => (Kd.freshB (g := gb445) (o := .cells #[.bool a0_0, .slice A0_1 l0_1.length c0_1] 32 (0, 0)) (gK BK445.out) k_ hk_))) (below_size (by repeat (first | (with_reducible first | exact HB.out | apply bA | apply bN | apply bD | refine bS ?_ GE445.out) | exact HB.out)))); have n1_ := Aside0.mk (blk_below (gK BK445.out) hb); have n2_ := Aside0.mk (below_step (by repeat (first | (with_reducible first | exact HB.out | apply bA | apply bN | apply bD | refine bS ?_ GE445.out) | exact HB.out)) hb); clear BK445; clear HB; have HO456 := n0_; have BK445 := n1_; have HB := n2_; clear n0_ n1_ n2_; (try clear hb); (try clear hb2); (try clear hk); (try clear hi); (try clear ho0)) | ((with_reducible refine gate_dst (N := 7) rfl ?_); (try (refine gate_guard (by rfl) ?_; dsimp only)); refine box_event ?hg (N := 7) ?hd (cs := #[.bool false, .slice none 0 0]) (t := 32) ?hr ?_; (case hd => rfl); (case hg => rfl); (case hr => first | (go_simp; done) | (go_simp; rfl)); intro gb458 hg w30 hbox hb; have n0_ := Aside0.mk (Kd.V_below (Kd.V_elderB (gV HO456.out) gb458 (Nat.le_of_eq hg.symm)) hb); have n1_ := Aside0.mk (blk_below (gK BK445.out) hb); have n2_ := Aside0.mk (below_step (by repeat (first | (with_reducible first | exact HB.out | apply bA | apply bN | apply bD | refine bS ?_ GE445.out) | exact HB.out)) hb); have n3_ := Aside0.mk (hbox); have n4_ := Aside0.mk ((by rw [hg]; exact (below_size (by repeat (first | (with_reducible first | exact HB.out | apply bA | apply bN | apply bD | refine bS ?_ GE445.out) | exact HB.out))) : w.heap.size ≤ gb458)); have n5_ := Aside0.mk ((by rw [hg]; exact (below_size (by repeat (first | (with_reducible first | exact HB.out | apply bA | apply bN | apply bD | refine bS ?_ GE445.out) | exact HB.out))) : w.heap.size ≤ gb458)); have n6_ := Aside0.mk ((by rw [hg]; exact Nat.ne_of_lt (blk_lt (g := gb445) (o := .cells #[.bool a0_0, .slice A0_1 l0_1.length c0_1] 32 (0, 0)) (gK BK445.out)) : gb445 ≠ gb458)); have n7_ := Aside0.mk ((by rw [hg]; exact Nat.ne_of_gt (blk_lt (g := gb445) (o := .cells #[.bool a0_0, .slice A0_1 l0_1.length c0_1] 32 (0, 0)) (gK BK445.out)) : gb458 ≠ gb445)); clear HO456; clear BK445; clear HB; have HO456 := n0_; have BK445 := n1_; have HB := n2_; have BK458 := n3_; have GW458 := n4_; have GE458 := n5_; have NB445_458 := n6_; have NB458_445 := n7_; clear n0_ n1_ n2_ n3_ n4_ n5_ n6_ n7_; clear hb hbox hg; have hnb31 := NB458_445.out; have hnc31 := NB445_458.out; have hcz32_0 : w30.cell? ⟨gb458, 0, none⟩ = some (.bool false) := (blk_cell BK458.out 0).trans rfl; have hcz32_1 : w30.cell? ⟨gb458, 1, none⟩ = some (.slice none 0 0) := (blk_cell BK458.out 1).trans rfl; have hfz32_0 := blk_frozen BK458.out 0; have hfz32_1 := blk_frozen BK458.out 1; obtain ⟨Ao33, co33, eo33⟩ := Kd.V_slice HO456.out; subst eo33))
       (try simp only [Act.put, List.setIfInBounds_toArray, List.set_cons_zero, List.set_cons_succ])
       go_cut [50] (fun v50 wc => ∃ (kq : Nat) (x50_27 : Bool), v50 = .bool x50_27 ∧ Aside0 (isohyetlaw04_DeciWholes.j2 kq a1 x50_27 = some r) ∧ Aside0 (kq ≤ kj15) ∧ Aside0 (Kd.V (Kd.int .u64) 63 wc w.heap.size (fun k_ => k_ ≠ gb445 ∧ k_ ≠ gb458) (.slice Ao33 t454.length co33) t454) ∧ Aside0 (wc.heap[gb445]? = some (.cells #[.bool a0_0, (.slice A0_1 l0_1.length c0_1)] 32 (0, 0))) ∧ Aside0 (wc.heap[gb458]? = some (.cells #[.bool t453, (.slice Ao33 t454.length co33)] 32 (0, 0))) ∧ Aside0 (Below w.heap.size w wc))
       case first =>
        have H := HC28.out
        clear HC28
        by_cases c34 : t447.toList = x6_15.toList
        ·rw [if_pos c34] at H
         have c34b0 : (t447.toList == x6_15.toList) = true := beq_iff_eq.mpr c34
         have c34b1 : (t447.toList != x6_15.toList) = false := bne_eq_false_iff_eq.mpr c34
         clear c34
         (first | rw [c34b0] | rw [c34b1] | (simp only [i64_w, i32_w]; rw [c34b0]) | skip)
         by_cases c35 : t457 = 0
         ·rw [if_pos c35] at H
          have c35b0 : (t457 == 0) = true := beq_iff_eq.mpr c35
          have c35b1 : (t457 != 0) = false := bne_eq_false_iff_eq.mpr c35
          clear c35
          replace H := Option.bind_eq_some_iff.mp H
          obtain ⟨t459, A360, H⟩ := H
          replace H : (isohyetlaw04_DeciWholes.j2 kj15 a1 (t459 != 0)) = some r := H
          have A36 := Aside0.mk A360
          clear A360
          have H' := Aside0.mk H
          clear H
          have hnb37 := NB445_458.out
          have hnc37 := NB458_445.out
          have hcz38_0 : w30.cell? ⟨gb445, 0, none⟩ = some (.bool a0_0) := (blk_cell BK445.out 0).trans rfl
          have hcz38_1 : w30.cell? ⟨gb445, 1, none⟩ = some (.slice A0_1 l0_1.length c0_1) := (blk_cell BK445.out 1).trans rfl
          have hfz38_0 := blk_frozen BK445.out 0
          have hfz38_1 := blk_frozen BK445.out 1
          have hcz39_0 : w30.cell? ⟨gb458, 0, none⟩ = some (.bool false) := (blk_cell BK458.out 0).trans rfl
          have hcz39_1 : w30.cell? ⟨gb458, 1, none⟩ = some (.slice none 0 0) := (blk_cell BK458.out 1).trans rfl
          have hfz39_0 := blk_frozen BK458.out 0
          have hfz39_1 := blk_frozen BK458.out 1
          go_wp2_with (first | (go_at_call 20; (with_reducible refine (num_Cmp.calls kj15 a0_0 _ _ l0_1 t453 _ _ t454 t459 _ ?side1 ?side2 ?side3 ?side4 A36.out).mono ?_); (case side1 => exact Kd.C_below HR0_1.out (by repeat (first | (with_reducible first | exact HB.out | apply bA | apply bN | apply bD | refine bS ?_ GE445.out | refine bS ?_ GE458.out) | exact HB.out))); (case side2 => exact HC0_1.out); (case side3 => refine (Kd.V_reads' (e := 63) (base := w.heap.size) (ok := fun k_ => (k_ ≠ gb445 ∧ k_ ≠ gb458)) (n := t454.length) (c := co33) ?_).2.2; exact (gV (Kd.V_mono (Kd.V_far (p := ⟨gb458, 1, none⟩) (Kd.V_far (p := ⟨gb458, 0, none⟩) (Kd.V_mono HO456.out (fun k_ hk => (⟨hk, hk.2⟩ : _ ∧ k_ ≠ gb458))) (fun _ hk => hk.2) (.bool t453)) (fun _ hk => hk.2) (.slice Ao33 t454.length co33)) (fun _ h_ => h_.1)))); (case side4 => exact (Kd.V_reads' HO456.out).2.1); (try clear A36); rintro e w40 ⟨rfl, hb⟩; have n0_ := Aside0.mk (Kd.V_below (gV (Kd.V_mono (Kd.V_far (p := ⟨gb458, 1, none⟩) (Kd.V_far (p := ⟨gb458, 0, none⟩) (Kd.V_mono HO456.out (fun k_ hk => (⟨hk, hk.2⟩ : _ ∧ k_ ≠ gb458))) (fun _ hk => hk.2) (.bool t453)) (fun _ hk => hk.2) (.slice Ao33 t454.length co33)) (fun _ h_ => h_.1))) hb); have n1_ := Aside0.mk (blk_below (g := gb445) (o := .cells #[.bool a0_0, .slice A0_1 l0_1.length c0_1] 32 (0, 0)) (by (with_reducible repeat (first | refine blk_drewN ?_ _ | refine blk_drew ?_ | refine blk_alloc ?_ _)); refine blk_far ?_ NB445_458.out _; (with_reducible repeat (first | refine blk_drewN ?_ _ | refine blk_drew ?_ | refine blk_alloc ?_ _)); refine blk_far ?_ NB445_458.out _; (with_reducible repeat (first | refine blk_drewN ?_ _ | refine blk_drew ?_ | refine blk_alloc ?_ _)); exact BK445.out) hb); have n2_ := Aside0.mk (blk_below (g := gb458) (o := .cells #[.bool t453, .slice Ao33 t454.length co33] 32 (0, 0)) (by (with_reducible repeat (first | refine blk_drewN ?_ _ | refine blk_drew ?_ | refine blk_alloc ?_ _)); refine blk_put (cs := #[.bool t453, .slice none 0 0]) ?_ 1 _ rfl; (with_reducible repeat (first | refine blk_drewN ?_ _ | refine blk_drew ?_ | refine blk_alloc ?_ _)); refine blk_put (cs := #[.bool false, .slice none 0 0]) ?_ 0 _ rfl; (with_reducible repeat (first | refine blk_drewN ?_ _ | refine blk_drew ?_ | refine blk_alloc ?_ _)); exact BK458.out) hb); have n3_ := Aside0.mk (below_step (by repeat (first | (with_reducible first | exact HB.out | apply bA | apply bN | apply bD | refine bS ?_ GE445.out | refine bS ?_ GE458.out) | exact HB.out)) hb); clear HO456; clear BK445; clear BK458; clear HB; have HO456 := n0_; have BK445 := n1_; have BK458 := n2_; have HB := n3_; clear n0_ n1_ n2_ n3_; (try clear hb); (try clear hb2); (try clear hk); (try clear hi)))
          go_meet
          case rel => exact ⟨_, ((t459 != 0)), (by first | rfl | (simp; done) | (simp [*]; done)), H', ⟨by have := HJ4.out; have := HJ15.out; first | omega | exact Nat.le_refl _⟩, ⟨by (with_reducible repeat (first | apply Kd.V_alloc | apply Kd.V_drewN | apply Kd.V_drew)); exact HO456.out⟩, ⟨by (with_reducible repeat (first | refine blk_drewN ?_ _ | refine blk_drew ?_ | refine blk_alloc ?_ _)); exact BK445.out⟩, ⟨by (with_reducible repeat (first | refine blk_drewN ?_ _ | refine blk_drew ?_ | refine blk_alloc ?_ _)); exact BK458.out⟩, ⟨by repeat (first | (with_reducible first | exact HB.out | apply bA | apply bN | apply bD | refine bS ?_ GE445.out | refine bS ?_ GE458.out) | exact HB.out)⟩⟩
         ·rw [if_neg c35] at H
          have c35b0 : (t457 == 0) = false := beq_eq_false_iff_ne.mpr c35
          have c35b1 : (t457 != 0) = true := bne_iff_ne.mpr c35
          have H' := Aside0.mk H
          clear H
          go_wp2
          go_meet
          case rel => exact ⟨_, (true), (by first | rfl | (simp; done) | (simp [*]; done)), H', ⟨by have := HJ4.out; have := HJ15.out; first | omega | exact Nat.le_refl _⟩, ⟨by (with_reducible repeat (first | apply Kd.V_alloc | apply Kd.V_drewN | apply Kd.V_drew)); exact Kd.V_mono (Kd.V_far (p := ⟨gb458, 1, none⟩) (Kd.V_far (p := ⟨gb458, 0, none⟩) (Kd.V_mono HO456.out (fun k_ hk => (⟨hk, hk.2⟩ : _ ∧ k_ ≠ gb458))) (fun _ hk => hk.2) (.bool t453)) (fun _ hk => hk.2) (.slice Ao33 t454.length co33)) (fun _ hk => ⟨hk.1.1, hk.1.2⟩)⟩, ⟨by (with_reducible repeat (first | refine blk_drewN ?_ _ | refine blk_drew ?_ | refine blk_alloc ?_ _)); refine blk_far ?_ NB445_458.out _; (with_reducible repeat (first | refine blk_drewN ?_ _ | refine blk_drew ?_ | refine blk_alloc ?_ _)); refine blk_far ?_ NB445_458.out _; (with_reducible repeat (first | refine blk_drewN ?_ _ | refine blk_drew ?_ | refine blk_alloc ?_ _)); exact BK445.out⟩, ⟨by (with_reducible repeat (first | refine blk_drewN ?_ _ | refine blk_drew ?_ | refine blk_alloc ?_ _)); refine blk_put (cs := #[.bool t453, .slice none 0 0]) ?_ 1 _ rfl; (with_reducible repeat (first | refine blk_drewN ?_ _ | refine blk_drew ?_ | refine blk_alloc ?_ _)); refine blk_put (cs := #[.bool false, .slice none 0 0]) ?_ 0 _ rfl; (with_reducible repeat (first | refine blk_drewN ?_ _ | refine blk_drew ?_ | refine blk_alloc ?_ _)); exact BK458.out⟩, ⟨by repeat (first | (with_reducible first | exact HB.out | apply bA | apply bN | apply bD | refine bS ?_ GE445.out | refine bS ?_ GE458.out) | exact HB.out)⟩⟩
        ·rw [if_neg c34] at H
         have c34b0 : (t447.toList == x6_15.toList) = false := beq_eq_false_iff_ne.mpr c34
         have c34b1 : (t447.toList != x6_15.toList) = true := bne_iff_ne.mpr c34
         (first | rw [c34b0] | rw [c34b1] | (simp only [i64_w, i32_w]; rw [c34b0]) | skip)
         have H' := Aside0.mk H
         clear H
         go_wp2
         go_meet
         case rel => exact ⟨_, (true), (by first | rfl | (simp; done) | (simp [*]; done)), H', ⟨by have := HJ4.out; have := HJ15.out; first | omega | exact Nat.le_refl _⟩, ⟨by (with_reducible repeat (first | apply Kd.V_alloc | apply Kd.V_drewN | apply Kd.V_drew)); exact Kd.V_mono (Kd.V_far (p := ⟨gb458, 1, none⟩) (Kd.V_far (p := ⟨gb458, 0, none⟩) (Kd.V_mono HO456.out (fun k_ hk => (⟨hk, hk.2⟩ : _ ∧ k_ ≠ gb458))) (fun _ hk => hk.2) (.bool t453)) (fun _ hk => hk.2) (.slice Ao33 t454.length co33)) (fun _ hk => ⟨hk.1.1, hk.1.2⟩)⟩, ⟨by (with_reducible repeat (first | refine blk_drewN ?_ _ | refine blk_drew ?_ | refine blk_alloc ?_ _)); refine blk_far ?_ NB445_458.out _; (with_reducible repeat (first | refine blk_drewN ?_ _ | refine blk_drew ?_ | refine blk_alloc ?_ _)); refine blk_far ?_ NB445_458.out _; (with_reducible repeat (first | refine blk_drewN ?_ _ | refine blk_drew ?_ | refine blk_alloc ?_ _)); exact BK445.out⟩, ⟨by (with_reducible repeat (first | refine blk_drewN ?_ _ | refine blk_drew ?_ | refine blk_alloc ?_ _)); refine blk_put (cs := #[.bool t453, .slice none 0 0]) ?_ 1 _ rfl; (with_reducible repeat (first | refine blk_drewN ?_ _ | refine blk_drew ?_ | refine blk_alloc ?_ _)); refine blk_put (cs := #[.bool false, .slice none 0 0]) ?_ 0 _ rfl; (with_reducible repeat (first | refine blk_drewN ?_ _ | refine blk_drew ?_ | refine blk_alloc ?_ _)); exact BK458.out⟩, ⟨by repeat (first | (with_reducible first | exact HB.out | apply bA | apply bN | apply bD | refine bS ?_ GE445.out | refine bS ?_ GE458.out) | exact HB.out)⟩⟩
       case rest =>
        clear HC28
        try clear c1
        try clear c2
        try clear p2
        try clear c3
        try clear c4
        try clear c6
        try clear c8
        try clear c8b0
        try clear c8b1
        try clear c11
        try clear c15
        try clear c16
        try clear c17
        try clear c18
        try clear c19
        try clear c25
        try clear c25b0
        try clear c25b1
        try clear c26
        try clear c26b0
        try clear c26b1
        try clear c26b2
        try clear c31
        try clear c34
        try clear c34b0
        try clear c34b1
        try clear c35
        try clear c35b0
        try clear c35b1
        try clear c37
        try clear hcz10_0
        try clear hcz10_1
        try clear hcz17_0
        try clear hcz17_1
        try clear hcz19_0
        try clear hcz19_1
        try clear hcz23_0
        try clear hcz23_1
        try clear hcz32_0
        try clear hcz32_1
        try clear hcz38_0
        try clear hcz38_1
        try clear hcz39_0
        try clear hcz39_1
        try clear hcz9_0
        try clear hcz9_1
        try clear hfz10_0
        try clear hfz10_1
        try clear hfz17_0
        try clear hfz17_1
        try clear hfz19_0
        try clear hfz19_1
        try clear hfz23_0
        try clear hfz23_1
        try clear hfz32_0
        try clear hfz32_1
        try clear hfz38_0
        try clear hfz38_1
        try clear hfz39_0
        try clear hfz39_1
        try clear hfz9_0
        try clear hfz9_1
        try clear p2
        obtain ⟨kq, x50_27, rfl, HA, HJ27, HO_459001, BK445, BK458, HB⟩ := hcut
        cases kq with
        | zero => exact absurd HA.out (by simp [isohyetlaw04_DeciWholes.j2])
        | succ kj27 =>
         have H := HA.out
         clear HA
         simp only [isohyetlaw04_DeciWholes.j2] at H
         by_cases c41 : x50_27 = true
         ·subst c41
          have H1 : (some false) = some r := by rw [if_pos rfl] at H; exact H
          clear H
          have H := H1
          clear H1
          exact absurd ((Option.some.inj H).trans HTRUE) (by decide)
         ·replace c41 := Bool.eq_false_iff.mpr c41
          subst c41
          have H1 : ((deci_Whole.f kj27 a1).bind fun bt460 => (if bt460.2.2 = 0 then ((deci_Digits.f kj27 bt460.1 bt460.2.1).bind fun t466 => (if t466.toList = a1.toList then ((isohyetlaw04_plain.f kj27 a1).bind fun t467 => (some t467)) else (some false))) else ((num_Sign.f kj27 bt460.1 bt460.2.1).bind fun t468 => (if t468 = 0 then (if ((bt460.2.2 == 2) == (decide ((a1.size : Int) > 400))) = true then ((isohyetlaw04_plain.f kj27 a1).bind fun t469 => (some (!t469))) else (some false)) else (some false))))) = some r := by rw [if_neg (show ¬ (false = true) by decide)] at H; exact H
          clear H
          have H := H1
          clear H1
          replace H := Option.bind_eq_some_iff.mp H
          obtain ⟨⟨t460, t461, t464⟩, A420, H⟩ := H
          replace H : (if t464 = 0 then ((deci_Digits.f kj27 t460 t461).bind fun t466 => (if t466.toList = a1.toList then ((isohyetlaw04_plain.f kj27 a1).bind fun t467 => (some t467)) else (some false))) else ((num_Sign.f kj27 t460 t461).bind fun t468 => (if t468 = 0 then (if ((t464 == 2) == (decide ((a1.size : Int) > 400))) = true then ((isohyetlaw04_plain.f kj27 a1).bind fun t469 => (some (!t469))) else (some false)) else (some false)))) = some r := H
          have A42 := Aside0.mk A420
          clear A420
          by_cases c43 : t464 = 0
          ·rw [if_pos c43] at H
           have c43b0 : (t464 == 0) = true := beq_iff_eq.mpr c43
           have c43b1 : (t464 != 0) = false := bne_eq_false_iff_eq.mpr c43
           clear c43
           replace H := Option.bind_eq_some_iff.mp H
           obtain ⟨t466, A440, H⟩ := H
           replace H : (if t466.toList = a1.toList then ((isohyetlaw04_plain.f kj27 a1).bind fun t467 => (some t467)) else (some false)) = some r := H
           have A44 := Aside0.mk A440
           clear A440
           by_cases c45 : t466.toList = a1.toList
           ·rw [if_pos c45] at H
            have c45b0 : (t466.toList == a1.toList) = true := beq_iff_eq.mpr c45
            have c45b1 : (t466.toList != a1.toList) = false := bne_eq_false_iff_eq.mpr c45
            clear c45
            replace H := Option.bind_eq_some_iff.mp H
            obtain ⟨t467, A460, H⟩ := H
            replace H : (some t467) = some r := H
            have A46 := Aside0.mk A460
            clear A460
            obtain rfl := Option.some.inj H
            go_wp2_with (first | ((with_reducible refine gate_callee (f := 19) rfl ?_); refine goesL_ (some 53) rfl rfl Tryd.func19 (by kernel_rfl) rfl #[.string a1] rfl (by (try simp only [List.map_toArray, List.map_cons, List.map_nil]); first | done | rfl | (simp only [List.length_drop, List.length_take]; rfl)) ?_; (with_reducible refine (deci_Whole.calls kj27 a1 t460 t461 t464 _ A42.out).mono ?_); (try clear A42); rintro e w47 ⟨v462, rfl, ho0, hb⟩; refine ⟨_, rfl, ?_⟩; have n0_ := Aside0.mk (Kd.V_below (gV HO_459001.out) hb); have n1_ := Aside0.mk (Kd.V_lower (Kd.V_mono (ok' := fun k_ => k_ ≠ gb445 ∧ k_ ≠ gb458) ho0 (fun k_ hk_ => ⟨(Kd.freshB (g := gb445) (o := .cells #[.bool a0_0, .slice A0_1 l0_1.length c0_1] 32 (0, 0)) (gK BK445.out) k_ hk_), (Kd.freshB (g := gb458) (o := .cells #[.bool t453, .slice Ao33 t454.length co33] 32 (0, 0)) (gK BK458.out) k_ hk_)⟩)) (below_size (by repeat (first | (with_reducible first | exact HB.out | apply bA | apply bN | apply bD | refine bS ?_ GE445.out | refine bS ?_ GE458.out) | exact HB.out)))); have n2_ := Aside0.mk (blk_below (gK BK445.out) hb); have n3_ := Aside0.mk (blk_below (gK BK458.out) hb); have n4_ := Aside0.mk (below_step (by repeat (first | (with_reducible first | exact HB.out | apply bA | apply bN | apply bD | refine bS ?_ GE445.out | refine bS ?_ GE458.out) | exact HB.out)) hb); clear HO_459001; clear BK445; clear BK458; clear HB; have HO_459001 := n0_; have HO463 := n1_; have BK445 := n2_; have BK458 := n3_; have HB := n4_; clear n0_ n1_ n2_ n3_ n4_; (try clear hb); (try clear hb2); (try clear hk); (try clear hi); (try clear ho0)) | ((with_reducible refine gate_dst (N := 9) rfl ?_); (try (refine gate_guard (by rfl) ?_; dsimp only)); refine box_event ?hg (N := 9) ?hd (cs := #[.bool false, .slice none 0 0]) (t := 32) ?hr ?_; (case hd => rfl); (case hg => rfl); (case hr => first | (go_simp; done) | (go_simp; rfl)); intro gb465 hg w48 hbox hb; have n0_ := Aside0.mk (Kd.V_below (Kd.V_elderB (gV HO_459001.out) gb465 (Nat.le_of_eq hg.symm)) hb); have n1_ := Aside0.mk (Kd.V_below (Kd.V_elderB (gV HO463.out) gb465 (Nat.le_of_eq hg.symm)) hb); have n2_ := Aside0.mk (blk_below (gK BK445.out) hb); have n3_ := Aside0.mk (blk_below (gK BK458.out) hb); have n4_ := Aside0.mk (below_step (by repeat (first | (with_reducible first | exact HB.out | apply bA | apply bN | apply bD | refine bS ?_ GE445.out | refine bS ?_ GE458.out) | exact HB.out)) hb); have n5_ := Aside0.mk (hbox); have n6_ := Aside0.mk ((by rw [hg]; exact (below_size (by repeat (first | (with_reducible first | exact HB.out | apply bA | apply bN | apply bD | refine bS ?_ GE445.out | refine bS ?_ GE458.out) | exact HB.out))) : w.heap.size ≤ gb465)); have n7_ := Aside0.mk ((by rw [hg]; exact (below_size (by repeat (first | (with_reducible first | exact HB.out | apply bA | apply bN | apply bD | refine bS ?_ GE445.out | refine bS ?_ GE458.out) | exact HB.out))) : w.heap.size ≤ gb465)); have n8_ := Aside0.mk ((by rw [hg]; exact Nat.ne_of_lt (blk_lt (g := gb445) (o := .cells #[.bool a0_0, .slice A0_1 l0_1.length c0_1] 32 (0, 0)) (gK BK445.out)) : gb445 ≠ gb465)); have n9_ := Aside0.mk ((by rw [hg]; exact Nat.ne_of_gt (blk_lt (g := gb445) (o := .cells #[.bool a0_0, .slice A0_1 l0_1.length c0_1] 32 (0, 0)) (gK BK445.out)) : gb465 ≠ gb445)); have n10_ := Aside0.mk ((by rw [hg]; exact Nat.ne_of_lt (blk_lt (g := gb458) (o := .cells #[.bool t453, .slice Ao33 t454.length co33] 32 (0, 0)) (gK BK458.out)) : gb458 ≠ gb465)); have n11_ := Aside0.mk ((by rw [hg]; exact Nat.ne_of_gt (blk_lt (g := gb458) (o := .cells #[.bool t453, .slice Ao33 t454.length co33] 32 (0, 0)) (gK BK458.out)) : gb465 ≠ gb458)); clear HO_459001; clear HO463; clear BK445; clear BK458; clear HB; have HO_459001 := n0_; have HO463 := n1_; have BK445 := n2_; have BK458 := n3_; have HB := n4_; have BK465 := n5_; have GW465 := n6_; have GE465 := n7_; have NB445_465 := n8_; have NB465_445 := n9_; have NB458_465 := n10_; have NB465_458 := n11_; clear n0_ n1_ n2_ n3_ n4_ n5_ n6_ n7_ n8_ n9_ n10_ n11_; clear hb hbox hg; have hnb49 := NB465_445.out; have hnc49 := NB445_465.out; have hnb50 := NB465_458.out; have hnc50 := NB458_465.out; have hcz51_0 : w48.cell? ⟨gb465, 0, none⟩ = some (.bool false) := (blk_cell BK465.out 0).trans rfl; have hcz51_1 : w48.cell? ⟨gb465, 1, none⟩ = some (.slice none 0 0) := (blk_cell BK465.out 1).trans rfl; have hfz51_0 := blk_frozen BK465.out 0; have hfz51_1 := blk_frozen BK465.out 1; obtain ⟨Ao52, co52, eo52⟩ := Kd.V_slice HO463.out; subst eo52) | ((with_reducible refine gate_store (t := 32) (p := 9) rfl ?_); refine store_event (t := 32) (p := 9) (v := ?vo_w53) (w1 := ((w48.setCell ⟨gb465, 0, none⟩ (.bool t460)).setCell ⟨gb465, 1, none⟩ (.slice Ao52 t461.length co52))) ?hg ?ho ?hn ?hr ?_; (case ho => rfl); (case hg => rfl); (case hn => rfl); (case hr => first | (go_simp; done) | (go_simp; rfl)); intro w53 hw; have n0_ : Aside0 (Kd.V (Kd.int .u64) 63 w53 w.heap.size (fun k_ => k_ ≠ gb445 ∧ k_ ≠ gb458 ∧ k_ ≠ gb465) (.slice Ao33 t454.length co33) t454) := ⟨(by rw [hw]; exact (gV (Kd.V_mono (Kd.V_far (p := ⟨gb465, 1, none⟩) (Kd.V_far (p := ⟨gb465, 0, none⟩) (Kd.V_mono HO_459001.out (fun k_ hk => (⟨hk, hk.2⟩ : _ ∧ k_ ≠ gb465))) (fun _ hk => hk.2) (.bool t460)) (fun _ hk => hk.2) (.slice Ao52 t461.length co52)) (fun _ hk => ⟨hk.1.1.1, ⟨hk.1.1.2, hk.1.2⟩⟩))))⟩; have n1_ : Aside0 (Kd.V (Kd.int .u64) 63 w53 w.heap.size (fun k_ => k_ ≠ gb445 ∧ k_ ≠ gb458 ∧ k_ ≠ gb465) (.slice Ao52 t461.length co52) t461) := ⟨(by rw [hw]; exact (gV (Kd.V_mono (Kd.V_far (p := ⟨gb465, 1, none⟩) (Kd.V_far (p := ⟨gb465, 0, none⟩) (Kd.V_mono HO463.out (fun k_ hk => (⟨hk, hk.2⟩ : _ ∧ k_ ≠ gb465))) (fun _ hk => hk.2) (.bool t460)) (fun _ hk => hk.2) (.slice Ao52 t461.length co52)) (fun _ hk => ⟨hk.1.1.1, ⟨hk.1.1.2, hk.1.2⟩⟩))))⟩; have n2_ : Aside0 (w53.heap[gb445]? = some (.cells #[.bool a0_0, .slice A0_1 l0_1.length c0_1] 32 (0, 0))) := ⟨(by rw [hw]; exact (by (with_reducible repeat (first | refine blk_drewN ?_ _ | refine blk_drew ?_ | refine blk_alloc ?_ _)); refine blk_far ?_ NB445_465.out _; (with_reducible repeat (first | refine blk_drewN ?_ _ | refine blk_drew ?_ | refine blk_alloc ?_ _)); refine blk_far ?_ NB445_465.out _; (with_reducible repeat (first | refine blk_drewN ?_ _ | refine blk_drew ?_ | refine blk_alloc ?_ _)); exact BK445.out))⟩; have n3_ : Aside0 (w53.heap[gb458]? = some (.cells #[.bool t453, .slice Ao33 t454.length co33] 32 (0, 0))) := ⟨(by rw [hw]; exact (by (with_reducible repeat (first | refine blk_drewN ?_ _ | refine blk_drew ?_ | refine blk_alloc ?_ _)); refine blk_far ?_ NB458_465.out _; (with_reducible repeat (first | refine blk_drewN ?_ _ | refine blk_drew ?_ | refine blk_alloc ?_ _)); refine blk_far ?_ NB458_465.out _; (with_reducible repeat (first | refine blk_drewN ?_ _ | refine blk_drew ?_ | refine blk_alloc ?_ _)); exact BK458.out))⟩; have n4_ : Aside0 (w53.heap[gb465]? = some (.cells #[.bool t460, .slice Ao52 t461.length co52] 32 (0, 0))) := ⟨(by rw [hw]; exact (by (with_reducible repeat (first | refine blk_drewN ?_ _ | refine blk_drew ?_ | refine blk_alloc ?_ _)); refine blk_put (cs := #[.bool t460, .slice none 0 0]) ?_ 1 _ rfl; (with_reducible repeat (first | refine blk_drewN ?_ _ | refine blk_drew ?_ | refine blk_alloc ?_ _)); refine blk_put (cs := #[.bool false, .slice none 0 0]) ?_ 0 _ rfl; (with_reducible repeat (first | refine blk_drewN ?_ _ | refine blk_drew ?_ | refine blk_alloc ?_ _)); exact BK465.out))⟩; have n5_ : Aside0 (Below w.heap.size w w53) := ⟨(by rw [hw]; exact (by repeat (first | (with_reducible first | exact HB.out | apply bA | apply bN | apply bD | refine bS ?_ GE445.out | refine bS ?_ GE458.out | refine bS ?_ GE465.out) | exact HB.out)))⟩; clear hw; clear HO_459001; clear HO463; clear BK445; clear BK458; clear BK465; clear HB; have HO_459001 := n0_; have HO463 := n1_; have BK445 := n2_; have BK458 := n3_; have BK465 := n4_; have HB := n5_; clear n0_ n1_ n2_ n3_ n4_ n5_; have hcz54_0 : w53.cell? ⟨gb465, 0, none⟩ = some (.bool t460) := (blk_cell BK465.out 0).trans rfl; have hcz54_1 : w53.cell? ⟨gb465, 1, none⟩ = some (.slice Ao52 t461.length co52) := (blk_cell BK465.out 1).trans rfl; have hfz54_0 := blk_frozen BK465.out 0; have hfz54_1 := blk_frozen BK465.out 1) | ((with_reducible refine gate_callee (f := 15) rfl ?_); refine goesL_ (some 75) rfl rfl Tryd.func15 (by kernel_rfl) rfl #[.agg #[.bool t460, .slice Ao52 t461.length co52]] rfl (by (try simp only [List.map_toArray, List.map_cons, List.map_nil]); first | done | rfl | (simp only [List.length_drop, List.length_take]; rfl)) ?_; (with_reducible refine (deci_Digits.calls kj27 t460 (fun k_ => (k_ ≠ gb445 ∧ (k_ ≠ gb458 ∧ k_ ≠ gb465))) _ _ t461 t466 _ ?side1 A44.out).mono ?_); (case side1 => exact HO463.out); (try clear A44); rintro e w55 ⟨rfl, hb⟩; refine ⟨_, rfl, ?_⟩; have n0_ := Aside0.mk (Kd.V_below (gV HO_459001.out) hb); have n1_ := Aside0.mk (Kd.V_below (gV HO463.out) hb); have n2_ := Aside0.mk (blk_below (gK BK445.out) hb); have n3_ := Aside0.mk (blk_below (gK BK458.out) hb); have n4_ := Aside0.mk (blk_below (gK BK465.out) hb); have n5_ := Aside0.mk (below_step (by repeat (first | (with_reducible first | exact HB.out | apply bA | apply bN | apply bD | refine bS ?_ GE445.out | refine bS ?_ GE458.out | refine bS ?_ GE465.out) | exact HB.out)) hb); clear HO_459001; clear HO463; clear BK445; clear BK458; clear BK465; clear HB; have HO_459001 := n0_; have HO463 := n1_; have BK445 := n2_; have BK458 := n3_; have BK465 := n4_; have HB := n5_; clear n0_ n1_ n2_ n3_ n4_ n5_; (try clear hb); (try clear hb2); (try clear hk); (try clear hi)) | (go_at_call 21; (with_reducible refine (isohyetlaw04_plain.calls kj27 a1 t467 _ A46.out).mono ?_); (try clear A46); rintro e w' ⟨rfl, ⟨nd, rfl⟩⟩))
            go_ret
            exact ⟨by first | rfl | (simp [errW_none, errW_some] <;> rfl) | (simp [*, errW_none, errW_some] <;> rfl), by repeat (first | (with_reducible first | exact HB.out | apply bA | apply bN | apply bD | refine bS ?_ GE445.out | refine bS ?_ GE458.out | refine bS ?_ GE465.out) | exact HB.out)⟩
           ·rw [if_neg c45] at H
            have c45b0 : (t466.toList == a1.toList) = false := beq_eq_false_iff_ne.mpr c45
            have c45b1 : (t466.toList != a1.toList) = true := bne_iff_ne.mpr c45
            exact absurd ((Option.some.inj H).trans HTRUE) (by decide)
          ·rw [if_neg c43] at H
           have c43b0 : (t464 == 0) = false := beq_eq_false_iff_ne.mpr c43
           have c43b1 : (t464 != 0) = true := bne_iff_ne.mpr c43
           replace H := Option.bind_eq_some_iff.mp H
           obtain ⟨t468, A560, H⟩ := H
           replace H : (if t468 = 0 then (if ((t464 == 2) == (decide ((a1.size : Int) > 400))) = true then ((isohyetlaw04_plain.f kj27 a1).bind fun t469 => (some (!t469))) else (some false)) else (some false)) = some r := H
           have A56 := Aside0.mk A560
           clear A560
           by_cases c57 : t468 = 0
           ·rw [if_pos c57] at H
            have c57b0 : (t468 == 0) = true := beq_iff_eq.mpr c57
            have c57b1 : (t468 != 0) = false := bne_eq_false_iff_eq.mpr c57
            clear c57
            by_cases c58 : ((t464 == 2) == (decide ((a1.size : Int) > 400))) = true
            ·rw [if_pos c58] at H
             have c58b0 : ((t464 == 2) == (decide ((a1.size : Int) > 400))) = true := c58
             (try (have c58b1 : decide ((t464 == 2) = (decide ((a1.size : Int) > 400))) = true := by simpa using c58))
             (try (have c58b2 : ((t464 == 2) == (decide ((a1.size : Int) > 400))) = true := by simpa using c58))
             clear c58
             replace H := Option.bind_eq_some_iff.mp H
             obtain ⟨t469, A590, H⟩ := H
             replace H : (some (!t469)) = some r := H
             have A59 := Aside0.mk A590
             clear A590
             obtain rfl := Option.some.inj H
             go_wp2_with (first | ((with_reducible refine gate_callee (f := 19) rfl ?_); refine goesL_ (some 53) rfl rfl Tryd.func19 (by kernel_rfl) rfl #[.string a1] rfl (by (try simp only [List.map_toArray, List.map_cons, List.map_nil]); first | done | rfl | (simp only [List.length_drop, List.length_take]; rfl)) ?_; (with_reducible refine (deci_Whole.calls kj27 a1 t460 t461 t464 _ A42.out).mono ?_); (try clear A42); rintro e w60 ⟨v462, rfl, ho0, hb⟩; refine ⟨_, rfl, ?_⟩; have n0_ := Aside0.mk (Kd.V_below (gV HO_459001.out) hb); have n1_ := Aside0.mk (Kd.V_lower (Kd.V_mono (ok' := fun k_ => k_ ≠ gb445 ∧ k_ ≠ gb458) ho0 (fun k_ hk_ => ⟨(Kd.freshB (g := gb445) (o := .cells #[.bool a0_0, .slice A0_1 l0_1.length c0_1] 32 (0, 0)) (gK BK445.out) k_ hk_), (Kd.freshB (g := gb458) (o := .cells #[.bool t453, .slice Ao33 t454.length co33] 32 (0, 0)) (gK BK458.out) k_ hk_)⟩)) (below_size (by repeat (first | (with_reducible first | exact HB.out | apply bA | apply bN | apply bD | refine bS ?_ GE445.out | refine bS ?_ GE458.out) | exact HB.out)))); have n2_ := Aside0.mk (blk_below (gK BK445.out) hb); have n3_ := Aside0.mk (blk_below (gK BK458.out) hb); have n4_ := Aside0.mk (below_step (by repeat (first | (with_reducible first | exact HB.out | apply bA | apply bN | apply bD | refine bS ?_ GE445.out | refine bS ?_ GE458.out) | exact HB.out)) hb); clear HO_459001; clear BK445; clear BK458; clear HB; have HO_459001 := n0_; have HO463 := n1_; have BK445 := n2_; have BK458 := n3_; have HB := n4_; clear n0_ n1_ n2_ n3_ n4_; (try clear hb); (try clear hb2); (try clear hk); (try clear hi); (try clear ho0)) | ((with_reducible refine gate_dst (N := 9) rfl ?_); (try (refine gate_guard (by rfl) ?_; dsimp only)); refine box_event ?hg (N := 9) ?hd (cs := #[.bool false, .slice none 0 0]) (t := 32) ?hr ?_; (case hd => rfl); (case hg => rfl); (case hr => first | (go_simp; done) | (go_simp; rfl)); intro gb465 hg w61 hbox hb; have n0_ := Aside0.mk (Kd.V_below (Kd.V_elderB (gV HO_459001.out) gb465 (Nat.le_of_eq hg.symm)) hb); have n1_ := Aside0.mk (Kd.V_below (Kd.V_elderB (gV HO463.out) gb465 (Nat.le_of_eq hg.symm)) hb); have n2_ := Aside0.mk (blk_below (gK BK445.out) hb); have n3_ := Aside0.mk (blk_below (gK BK458.out) hb); have n4_ := Aside0.mk (below_step (by repeat (first | (with_reducible first | exact HB.out | apply bA | apply bN | apply bD | refine bS ?_ GE445.out | refine bS ?_ GE458.out) | exact HB.out)) hb); have n5_ := Aside0.mk (hbox); have n6_ := Aside0.mk ((by rw [hg]; exact (below_size (by repeat (first | (with_reducible first | exact HB.out | apply bA | apply bN | apply bD | refine bS ?_ GE445.out | refine bS ?_ GE458.out) | exact HB.out))) : w.heap.size ≤ gb465)); have n7_ := Aside0.mk ((by rw [hg]; exact (below_size (by repeat (first | (with_reducible first | exact HB.out | apply bA | apply bN | apply bD | refine bS ?_ GE445.out | refine bS ?_ GE458.out) | exact HB.out))) : w.heap.size ≤ gb465)); have n8_ := Aside0.mk ((by rw [hg]; exact Nat.ne_of_lt (blk_lt (g := gb445) (o := .cells #[.bool a0_0, .slice A0_1 l0_1.length c0_1] 32 (0, 0)) (gK BK445.out)) : gb445 ≠ gb465)); have n9_ := Aside0.mk ((by rw [hg]; exact Nat.ne_of_gt (blk_lt (g := gb445) (o := .cells #[.bool a0_0, .slice A0_1 l0_1.length c0_1] 32 (0, 0)) (gK BK445.out)) : gb465 ≠ gb445)); have n10_ := Aside0.mk ((by rw [hg]; exact Nat.ne_of_lt (blk_lt (g := gb458) (o := .cells #[.bool t453, .slice Ao33 t454.length co33] 32 (0, 0)) (gK BK458.out)) : gb458 ≠ gb465)); have n11_ := Aside0.mk ((by rw [hg]; exact Nat.ne_of_gt (blk_lt (g := gb458) (o := .cells #[.bool t453, .slice Ao33 t454.length co33] 32 (0, 0)) (gK BK458.out)) : gb465 ≠ gb458)); clear HO_459001; clear HO463; clear BK445; clear BK458; clear HB; have HO_459001 := n0_; have HO463 := n1_; have BK445 := n2_; have BK458 := n3_; have HB := n4_; have BK465 := n5_; have GW465 := n6_; have GE465 := n7_; have NB445_465 := n8_; have NB465_445 := n9_; have NB458_465 := n10_; have NB465_458 := n11_; clear n0_ n1_ n2_ n3_ n4_ n5_ n6_ n7_ n8_ n9_ n10_ n11_; clear hb hbox hg; have hnb62 := NB465_445.out; have hnc62 := NB445_465.out; have hnb63 := NB465_458.out; have hnc63 := NB458_465.out; have hcz64_0 : w61.cell? ⟨gb465, 0, none⟩ = some (.bool false) := (blk_cell BK465.out 0).trans rfl; have hcz64_1 : w61.cell? ⟨gb465, 1, none⟩ = some (.slice none 0 0) := (blk_cell BK465.out 1).trans rfl; have hfz64_0 := blk_frozen BK465.out 0; have hfz64_1 := blk_frozen BK465.out 1; obtain ⟨Ao65, co65, eo65⟩ := Kd.V_slice HO463.out; subst eo65) | ((with_reducible refine gate_callee (f := 18) rfl ?_); refine goesL_ (some 59) rfl rfl Tryd.func18 (by kernel_rfl) rfl #[.agg #[.bool t460, .slice Ao65 t461.length co65]] rfl (by (try simp only [List.map_toArray, List.map_cons, List.map_nil]); first | done | rfl | (simp only [List.length_drop, List.length_take]; rfl)) ?_; (with_reducible refine (num_Sign.calls kj27 t460 _ _ t461 t468 _ ?side1 ?side2 A56.out).mono ?_); (case side1 => refine (Kd.V_reads' (e := 63) (base := w.heap.size) (ok := fun k_ => ((k_ ≠ gb445 ∧ k_ ≠ gb458) ∧ k_ ≠ gb465)) (n := t461.length) (c := co65) ?_).2.2; exact (gV (Kd.V_mono (Kd.V_far (p := ⟨gb465, 1, none⟩) (Kd.V_far (p := ⟨gb465, 0, none⟩) (Kd.V_mono HO463.out (fun k_ hk => (⟨hk, hk.2⟩ : _ ∧ k_ ≠ gb465))) (fun _ hk => hk.2) (.bool t460)) (fun _ hk => hk.2) (.slice Ao65 t461.length co65)) (fun _ h_ => h_.1)))); (case side2 => exact (Kd.V_reads' HO463.out).2.1); (try clear A56); rintro e w66 ⟨rfl, hb⟩; refine ⟨_, rfl, ?_⟩; have n0_ := Aside0.mk (Kd.V_below (gV (Kd.V_mono (Kd.V_far (p := ⟨gb465, 1, none⟩) (Kd.V_far (p := ⟨gb465, 0, none⟩) (Kd.V_mono HO_459001.out (fun k_ hk => (⟨hk, hk.2⟩ : _ ∧ k_ ≠ gb465))) (fun _ hk => hk.2) (.bool t460)) (fun _ hk => hk.2) (.slice Ao65 t461.length co65)) (fun _ h_ => h_.1))) hb); have n1_ := Aside0.mk (Kd.V_below (gV (Kd.V_mono (Kd.V_far (p := ⟨gb465, 1, none⟩) (Kd.V_far (p := ⟨gb465, 0, none⟩) (Kd.V_mono HO463.out (fun k_ hk => (⟨hk, hk.2⟩ : _ ∧ k_ ≠ gb465))) (fun _ hk => hk.2) (.bool t460)) (fun _ hk => hk.2) (.slice Ao65 t461.length co65)) (fun _ h_ => h_.1))) hb); have n2_ := Aside0.mk (blk_below (g := gb445) (o := .cells #[.bool a0_0, .slice A0_1 l0_1.length c0_1] 32 (0, 0)) (by (with_reducible repeat (first | refine blk_drewN ?_ _ | refine blk_drew ?_ | refine blk_alloc ?_ _)); refine blk_far ?_ NB445_465.out _; (with_reducible repeat (first | refine blk_drewN ?_ _ | refine blk_drew ?_ | refine blk_alloc ?_ _)); refine blk_far ?_ NB445_465.out _; (with_reducible repeat (first | refine blk_drewN ?_ _ | refine blk_drew ?_ | refine blk_alloc ?_ _)); exact BK445.out) hb); have n3_ := Aside0.mk (blk_below (g := gb458) (o := .cells #[.bool t453, .slice Ao33 t454.length co33] 32 (0, 0)) (by (with_reducible repeat (first | refine blk_drewN ?_ _ | refine blk_drew ?_ | refine blk_alloc ?_ _)); refine blk_far ?_ NB458_465.out _; (with_reducible repeat (first | refine blk_drewN ?_ _ | refine blk_drew ?_ | refine blk_alloc ?_ _)); refine blk_far ?_ NB458_465.out _; (with_reducible repeat (first | refine blk_drewN ?_ _ | refine blk_drew ?_ | refine blk_alloc ?_ _)); exact BK458.out) hb); have n4_ := Aside0.mk (blk_below (g := gb465) (o := .cells #[.bool t460, .slice Ao65 t461.length co65] 32 (0, 0)) (by (with_reducible repeat (first | refine blk_drewN ?_ _ | refine blk_drew ?_ | refine blk_alloc ?_ _)); refine blk_put (cs := #[.bool t460, .slice none 0 0]) ?_ 1 _ rfl; (with_reducible repeat (first | refine blk_drewN ?_ _ | refine blk_drew ?_ | refine blk_alloc ?_ _)); refine blk_put (cs := #[.bool false, .slice none 0 0]) ?_ 0 _ rfl; (with_reducible repeat (first | refine blk_drewN ?_ _ | refine blk_drew ?_ | refine blk_alloc ?_ _)); exact BK465.out) hb); have n5_ := Aside0.mk (below_step (by repeat (first | (with_reducible first | exact HB.out | apply bA | apply bN | apply bD | refine bS ?_ GE445.out | refine bS ?_ GE458.out | refine bS ?_ GE465.out) | exact HB.out)) hb); clear HO_459001; clear HO463; clear BK445; clear BK458; clear BK465; clear HB; have HO_459001 := n0_; have HO463 := n1_; have BK445 := n2_; have BK458 := n3_; have BK465 := n4_; have HB := n5_; clear n0_ n1_ n2_ n3_ n4_ n5_; (try clear hb); (try clear hb2); (try clear hk); (try clear hi)) | (go_at_call 21; (with_reducible refine (isohyetlaw04_plain.calls kj27 a1 t469 _ A59.out).mono ?_); (try clear A59); rintro e w' ⟨rfl, ⟨nd, rfl⟩⟩))
             go_ret
             exact ⟨by first | rfl | (simp [errW_none, errW_some] <;> rfl) | (simp [*, errW_none, errW_some] <;> rfl), by repeat (first | (with_reducible first | exact HB.out | apply bA | apply bN | apply bD | refine bS ?_ GE445.out | refine bS ?_ GE458.out | refine bS ?_ GE465.out) | exact HB.out)⟩
            ·rw [if_neg c58] at H
             have c58b0 : ((t464 == 2) == (decide ((a1.size : Int) > 400))) = false := by simpa using c58
             (try (have c58b1 : decide ((t464 == 2) = (decide ((a1.size : Int) > 400))) = false := by simpa using c58))
             (try (have c58b2 : ((t464 == 2) == (decide ((a1.size : Int) > 400))) = false := by simpa using c58))
             (try (have c58b3 : ¬ ((t464 == 2) = (decide ((a1.size : Int) > 400))) := by simpa using c58))
             clear c58
             exact absurd ((Option.some.inj H).trans HTRUE) (by decide)
           ·rw [if_neg c57] at H
            have c57b0 : (t468 == 0) = false := beq_eq_false_iff_ne.mpr c57
            have c57b1 : (t468 != 0) = true := bne_iff_ne.mpr c57
            exact absurd ((Option.some.inj H).trans HTRUE) (by decide)
 ·replace c4 := Bool.eq_false_iff.mpr c4
  subst c4
  have H1 : (some false) = some r := by rw [if_neg (show ¬ (false = true) by decide)] at H; exact H
  clear H
  have H := H1
  clear H1
  exact absurd ((Option.some.inj H).trans HTRUE) (by decide)

end Go.Proofs.YtpdgjhaimfpacaaDoor.M
