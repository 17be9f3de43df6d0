-- By drive.py (this session's program), out of the translation. Lean checks it.
import Derived.Test.YtpdgjhaimfpacaaDoorA0
namespace Go.Proofs.YtpdgjhaimfpacaaDoor.M
open Go.Proofs.YtpdgjhaimfpacaaDoor.MB Go.Proofs.YtpdgjhaimfpacaaDoor
open Go.RowKit Go.Proofs.YtpdgjhaimfpacaaDoorW.PrintWords Go.Proofs.YtpdgjhaimfpacaaDoorW.PrintLast Go.Proofs.YtpdgjhaimfpacaaDoorW.PrintMore
attribute [local go_sem] max2_int min2_int max_two min_two max_three min_three max_four min_four   -- for this text's walks alone
set_option linter.unusedVariables false
set_option linter.unusedSimpArgs false
attribute [local go_sem] add64_run sub64_run

/-! ### isohyetlaw04_units: function 10 -/
mutual
def isohyetlaw04_units.j0 : Nat → ByteArray → Int → Int → Bool → Bool → Option (Int × Int)
 | 0, _, _, _, _, _ => none
 | k + 1, x0, x1, x6, x7, x30 => if x30 = true then (if 0 < (x0.size : Int) then (isohyetlaw04_units.j1 k x0 x1 1 ((bt x0 0) == 45)) else (none)) else (isohyetlaw04_units.j1 k x0 x1 x6 x7)
def isohyetlaw04_units.j1 : Nat → ByteArray → Int → Int → Bool → Option (Int × Int)
 | 0, _, _, _, _ => none
 | k + 1, x0, x1, x6, x7 => isohyetlaw04_units.l0 k x0 x1 x6 x7 0 (-1) 0 false
def isohyetlaw04_units.l0 : Nat → ByteArray → Int → Int → Bool → Int → Int → Int → Bool → Option (Int × Int)
 | 0, _, _, _, _, _, _, _, _ => none
 | k + 1, x0, x1, x6, x7, x8, x9, x10, x11 => if x6 < (x0.size : Int) then (if 0 ≤ x6 then (if (bt x0 x6) = 46 then (if x9 < 0 then (isohyetlaw04_units.j3 k x0 x1 x6 x7 x8 x9 x10 x11 (bt x0 x6) (decide (x10 > 0))) else (isohyetlaw04_units.j3 k x0 x1 x6 x7 x8 x9 x10 x11 (bt x0 x6) false)) else (isohyetlaw04_units.j3 k x0 x1 x6 x7 x8 x9 x10 x11 (bt x0 x6) false)) else (none)) else (if x10 = 0 then (isohyetlaw04_units.j5 k x1 x7 x8 x9 x11 true) else (isohyetlaw04_units.j5 k x1 x7 x8 x9 x11 (x9 == 0)))
def isohyetlaw04_units.j3 : Nat → ByteArray → Int → Int → Bool → Int → Int → Int → Bool → Int → Bool → Option (Int × Int)
 | 0, _, _, _, _, _, _, _, _, _, _ => none
 | k + 1, x0, x1, x6, x7, x8, x9, x10, x11, x13, x50 => if x50 = true then (isohyetlaw04_units.l0 k x0 x1 (wrap64 (x6 + 1)) x7 x8 0 x10 x11) else (if x13 < 48 then (isohyetlaw04_units.j4 k x0 x1 x6 x7 x8 x9 x10 x11 x13 true) else (isohyetlaw04_units.j4 k x0 x1 x6 x7 x8 x9 x10 x11 x13 (decide (x13 > 57))))
def isohyetlaw04_units.j4 : Nat → ByteArray → Int → Int → Bool → Int → Int → Int → Bool → Int → Bool → Option (Int × Int)
 | 0, _, _, _, _, _, _, _, _, _, _ => none
 | k + 1, x0, x1, x6, x7, x8, x9, x10, x11, x13, x61 => if x61 = true then (some (0, 1)) else (if x9 < 0 then (isohyetlaw04_units.l0 k x0 x1 (wrap64 (x6 + 1)) x7 (mn (wrap64 ((wrap64 (10 * x8)) + ((x13 - 48) % 256))) 1099511627776) x9 (wrap64 (x10 + 1)) x11) else (if x9 < x1 then (isohyetlaw04_units.l0 k x0 x1 (wrap64 (x6 + 1)) x7 (mn (wrap64 ((wrap64 (10 * x8)) + ((x13 - 48) % 256))) 1099511627776) (wrap64 (x9 + 1)) x10 x11) else (if x11 = true then (isohyetlaw04_units.l0 k x0 x1 (wrap64 (x6 + 1)) x7 x8 (wrap64 (x9 + 1)) x10 true) else (isohyetlaw04_units.l0 k x0 x1 (wrap64 (x6 + 1)) x7 x8 (wrap64 (x9 + 1)) x10 (x13 != 48)))))
def isohyetlaw04_units.j5 : Nat → Int → Bool → Int → Int → Bool → Bool → Option (Int × Int)
 | 0, _, _, _, _, _, _ => none
 | k + 1, x1, x7, x8, x9, x11, x98 => if x98 = true then (some (0, 1)) else (isohyetlaw04_units.l1 k x1 x7 x8 x11 (mx x9 0))
def isohyetlaw04_units.l1 : Nat → Int → Bool → Int → Bool → Int → Option (Int × Int)
 | 0, _, _, _, _, _ => none
 | k + 1, x1, x7, x8, x11, x14 => if x14 < x1 then (isohyetlaw04_units.l1 k x1 x7 (mn (wrap64 (10 * x8)) 1099511627776) x11 (wrap64 (x14 + 1))) else (if x11 = true then (some (0, 3)) else (if x8 > 2147483648 then (some (0, 4)) else (if x7 = true then (some (wrap64 (-x8), 0)) else (some (x8, 0)))))
end
def isohyetlaw04_units.f (k : Nat) (a0 : ByteArray) (a1 : Int) : Option (Int × Int) := if (a0.size : Int) > 400 then (some (0, 2)) else (if (a0.size : Int) > 0 then (if 0 < (a0.size : Int) then (if (bt a0 0) = 45 then (isohyetlaw04_units.j0 k a0 a1 0 false true) else (isohyetlaw04_units.j0 k a0 a1 0 false ((bt a0 0) == 43))) else (none)) else (isohyetlaw04_units.j0 k a0 a1 0 false false))
theorem isohyetlaw04_units.mono_l : ∀ k, (∀ y0 y1 y2 y3 y4, LeO (isohyetlaw04_units.j0 k y0 y1 y2 y3 y4) (isohyetlaw04_units.j0 (k + 1) y0 y1 y2 y3 y4)) ∧ (∀ y0 y1 y2 y3, LeO (isohyetlaw04_units.j1 k y0 y1 y2 y3) (isohyetlaw04_units.j1 (k + 1) y0 y1 y2 y3)) ∧ (∀ y0 y1 y2 y3 y4 y5 y6 y7, LeO (isohyetlaw04_units.l0 k y0 y1 y2 y3 y4 y5 y6 y7) (isohyetlaw04_units.l0 (k + 1) y0 y1 y2 y3 y4 y5 y6 y7)) ∧ (∀ y0 y1 y2 y3 y4 y5 y6 y7 y8 y9, LeO (isohyetlaw04_units.j3 k y0 y1 y2 y3 y4 y5 y6 y7 y8 y9) (isohyetlaw04_units.j3 (k + 1) y0 y1 y2 y3 y4 y5 y6 y7 y8 y9)) ∧ (∀ y0 y1 y2 y3 y4 y5 y6 y7 y8 y9, LeO (isohyetlaw04_units.j4 k y0 y1 y2 y3 y4 y5 y6 y7 y8 y9) (isohyetlaw04_units.j4 (k + 1) y0 y1 y2 y3 y4 y5 y6 y7 y8 y9)) ∧ (∀ y0 y1 y2 y3 y4 y5, LeO (isohyetlaw04_units.j5 k y0 y1 y2 y3 y4 y5) (isohyetlaw04_units.j5 (k + 1) y0 y1 y2 y3 y4 y5)) ∧ (∀ y0 y1 y2 y3 y4, LeO (isohyetlaw04_units.l1 k y0 y1 y2 y3 y4) (isohyetlaw04_units.l1 (k + 1) y0 y1 y2 y3 y4))
 | 0 => ⟨fun _ _ _ _ _ r h => by simp [isohyetlaw04_units.j0] at h, fun _ _ _ _ r h => by simp [isohyetlaw04_units.j1] at h, fun _ _ _ _ _ _ _ _ r h => by simp [isohyetlaw04_units.l0] at h, fun _ _ _ _ _ _ _ _ _ _ r h => by simp [isohyetlaw04_units.j3] at h, fun _ _ _ _ _ _ _ _ _ _ r h => by simp [isohyetlaw04_units.j4] at h, fun _ _ _ _ _ _ r h => by simp [isohyetlaw04_units.j5] at h, fun _ _ _ _ _ r h => by simp [isohyetlaw04_units.l1] at h⟩
 | k + 1 => by
  obtain ⟨ih0, ih1, ih2, ih3, ih4, ih5, ih6⟩ := isohyetlaw04_units.mono_l k
  refine ⟨?_, ?_, ?_, ?_, ?_, ?_, ?_⟩
  ·intro y0 y1 y2 y3 y4
   unfold isohyetlaw04_units.j0
   repeat' first
   | (with_reducible exact ih0 _ _ _ _ _)
   | (with_reducible exact ih1 _ _ _ _)
   | (with_reducible exact ih2 _ _ _ _ _ _ _ _)
   | (with_reducible exact ih3 _ _ _ _ _ _ _ _ _ _)
   | (with_reducible exact ih4 _ _ _ _ _ _ _ _ _ _)
   | (with_reducible exact ih5 _ _ _ _ _ _)
   | (with_reducible exact ih6 _ _ _ _ _)
   | (with_reducible exact LeO.refl _)
   | (with_reducible exact LeO.none _)
   | (with_reducible refine LeO.ite ?_ ?_)
   | (with_reducible refine LeO.bind ?_ (fun _ => ?_))
   | exact ih0 _ _ _ _ _
   | exact ih1 _ _ _ _
   | exact ih2 _ _ _ _ _ _ _ _
   | exact ih3 _ _ _ _ _ _ _ _ _ _
   | exact ih4 _ _ _ _ _ _ _ _ _ _
   | exact ih5 _ _ _ _ _ _
   | exact ih6 _ _ _ _ _
   | exact LeO.none _
   | refine LeO.ite ?_ ?_
   | refine LeO.bind ?_ (fun _ => ?_)
  ·intro y0 y1 y2 y3
   unfold isohyetlaw04_units.j1
   repeat' first
   | (with_reducible exact ih0 _ _ _ _ _)
   | (with_reducible exact ih1 _ _ _ _)
   | (with_reducible exact ih2 _ _ _ _ _ _ _ _)
   | (with_reducible exact ih3 _ _ _ _ _ _ _ _ _ _)
   | (with_reducible exact ih4 _ _ _ _ _ _ _ _ _ _)
   | (with_reducible exact ih5 _ _ _ _ _ _)
   | (with_reducible exact ih6 _ _ _ _ _)
   | (with_reducible exact LeO.refl _)
   | (with_reducible exact LeO.none _)
   | (with_reducible refine LeO.ite ?_ ?_)
   | (with_reducible refine LeO.bind ?_ (fun _ => ?_))
   | exact ih0 _ _ _ _ _
   | exact ih1 _ _ _ _
   | exact ih2 _ _ _ _ _ _ _ _
   | exact ih3 _ _ _ _ _ _ _ _ _ _
   | exact ih4 _ _ _ _ _ _ _ _ _ _
   | exact ih5 _ _ _ _ _ _
   | exact ih6 _ _ _ _ _
   | exact LeO.none _
   | refine LeO.ite ?_ ?_
   | refine LeO.bind ?_ (fun _ => ?_)
  ·intro y0 y1 y2 y3 y4 y5 y6 y7
   unfold isohyetlaw04_units.l0
   repeat' first
   | (with_reducible exact ih0 _ _ _ _ _)
   | (with_reducible exact ih1 _ _ _ _)
   | (with_reducible exact ih2 _ _ _ _ _ _ _ _)
   | (with_reducible exact ih3 _ _ _ _ _ _ _ _ _ _)
   | (with_reducible exact ih4 _ _ _ _ _ _ _ _ _ _)
   | (with_reducible exact ih5 _ _ _ _ _ _)
   | (with_reducible exact ih6 _ _ _ _ _)
   | (with_reducible exact LeO.refl _)
   | (with_reducible exact LeO.none _)
   | (with_reducible refine LeO.ite ?_ ?_)
   | (with_reducible refine LeO.bind ?_ (fun _ => ?_))
   | exact ih0 _ _ _ _ _
   | exact ih1 _ _ _ _
   | exact ih2 _ _ _ _ _ _ _ _
   | exact ih3 _ _ _ _ _ _ _ _ _ _
   | exact ih4 _ _ _ _ _ _ _ _ _ _
   | exact ih5 _ _ _ _ _ _
   | exact ih6 _ _ _ _ _
   | exact LeO.none _
   | refine LeO.ite ?_ ?_
   | refine LeO.bind ?_ (fun _ => ?_)
  ·intro y0 y1 y2 y3 y4 y5 y6 y7 y8 y9
   unfold isohyetlaw04_units.j3
   repeat' first
   | (with_reducible exact ih0 _ _ _ _ _)
   | (with_reducible exact ih1 _ _ _ _)
   | (with_reducible exact ih2 _ _ _ _ _ _ _ _)
   | (with_reducible exact ih3 _ _ _ _ _ _ _ _ _ _)
   | (with_reducible exact ih4 _ _ _ _ _ _ _ _ _ _)
   | (with_reducible exact ih5 _ _ _ _ _ _)
   | (with_reducible exact ih6 _ _ _ _ _)
   | (with_reducible exact LeO.refl _)
   | (with_reducible exact LeO.none _)
   | (with_reducible refine LeO.ite ?_ ?_)
   | (with_reducible refine LeO.bind ?_ (fun _ => ?_))
   | exact ih0 _ _ _ _ _
   | exact ih1 _ _ _ _
   | exact ih2 _ _ _ _ _ _ _ _
   | exact ih3 _ _ _ _ _ _ _ _ _ _
   | exact ih4 _ _ _ _ _ _ _ _ _ _
   | exact ih5 _ _ _ _ _ _
   | exact ih6 _ _ _ _ _
   | exact LeO.none _
   | refine LeO.ite ?_ ?_
   | refine LeO.bind ?_ (fun _ => ?_)
  ·intro y0 y1 y2 y3 y4 y5 y6 y7 y8 y9
   unfold isohyetlaw04_units.j4
   repeat' first
   | (with_reducible exact ih0 _ _ _ _ _)
   | (with_reducible exact ih1 _ _ _ _)
   | (with_reducible exact ih2 _ _ _ _ _ _ _ _)
   | (with_reducible exact ih3 _ _ _ _ _ _ _ _ _ _)
   | (with_reducible exact ih4 _ _ _ _ _ _ _ _ _ _)
   | (with_reducible exact ih5 _ _ _ _ _ _)
   | (with_reducible exact ih6 _ _ _ _ _)
   | (with_reducible exact LeO.refl _)
   | (with_reducible exact LeO.none _)
   | (with_reducible refine LeO.ite ?_ ?_)
   | (with_reducible refine LeO.bind ?_ (fun _ => ?_))
   | exact ih0 _ _ _ _ _
   | exact ih1 _ _ _ _
   | exact ih2 _ _ _ _ _ _ _ _
   | exact ih3 _ _ _ _ _ _ _ _ _ _
   | exact ih4 _ _ _ _ _ _ _ _ _ _
   | exact ih5 _ _ _ _ _ _
   | exact ih6 _ _ _ _ _
   | exact LeO.none _
   | refine LeO.ite ?_ ?_
   | refine LeO.bind ?_ (fun _ => ?_)
  ·intro y0 y1 y2 y3 y4 y5
   unfold isohyetlaw04_units.j5
   repeat' first
   | (with_reducible exact ih0 _ _ _ _ _)
   | (with_reducible exact ih1 _ _ _ _)
   | (with_reducible exact ih2 _ _ _ _ _ _ _ _)
   | (with_reducible exact ih3 _ _ _ _ _ _ _ _ _ _)
   | (with_reducible exact ih4 _ _ _ _ _ _ _ _ _ _)
   | (with_reducible exact ih5 _ _ _ _ _ _)
   | (with_reducible exact ih6 _ _ _ _ _)
   | (with_reducible exact LeO.refl _)
   | (with_reducible exact LeO.none _)
   | (with_reducible refine LeO.ite ?_ ?_)
   | (with_reducible refine LeO.bind ?_ (fun _ => ?_))
   | exact ih0 _ _ _ _ _
   | exact ih1 _ _ _ _
   | exact ih2 _ _ _ _ _ _ _ _
   | exact ih3 _ _ _ _ _ _ _ _ _ _
   | exact ih4 _ _ _ _ _ _ _ _ _ _
   | exact ih5 _ _ _ _ _ _
   | exact ih6 _ _ _ _ _
   | exact LeO.none _
   | refine LeO.ite ?_ ?_
   | refine LeO.bind ?_ (fun _ => ?_)
  ·intro y0 y1 y2 y3 y4
   unfold isohyetlaw04_units.l1
   repeat' first
   | (with_reducible exact ih0 _ _ _ _ _)
   | (with_reducible exact ih1 _ _ _ _)
   | (with_reducible exact ih2 _ _ _ _ _ _ _ _)
   | (with_reducible exact ih3 _ _ _ _ _ _ _ _ _ _)
   | (with_reducible exact ih4 _ _ _ _ _ _ _ _ _ _)
   | (with_reducible exact ih5 _ _ _ _ _ _)
   | (with_reducible exact ih6 _ _ _ _ _)
   | (with_reducible exact LeO.refl _)
   | (with_reducible exact LeO.none _)
   | (with_reducible refine LeO.ite ?_ ?_)
   | (with_reducible refine LeO.bind ?_ (fun _ => ?_))
   | exact ih0 _ _ _ _ _
   | exact ih1 _ _ _ _
   | exact ih2 _ _ _ _ _ _ _ _
   | exact ih3 _ _ _ _ _ _ _ _ _ _
   | exact ih4 _ _ _ _ _ _ _ _ _ _
   | exact ih5 _ _ _ _ _ _
   | exact ih6 _ _ _ _ _
   | exact LeO.none _
   | refine LeO.ite ?_ ?_
   | refine LeO.bind ?_ (fun _ => ?_)
theorem isohyetlaw04_units.mono : ∀ a0 a1 k, LeO (isohyetlaw04_units.f k a0 a1) (isohyetlaw04_units.f (k + 1) a0 a1) := by
 intro a0 a1 k
 obtain ⟨ih0, ih1, ih2, ih3, ih4, ih5, ih6⟩ := isohyetlaw04_units.mono_l k
 unfold isohyetlaw04_units.f
 repeat' first
   | (with_reducible exact ih0 _ _ _ _ _)
   | (with_reducible exact ih1 _ _ _ _)
   | (with_reducible exact ih2 _ _ _ _ _ _ _ _)
   | (with_reducible exact ih3 _ _ _ _ _ _ _ _ _ _)
   | (with_reducible exact ih4 _ _ _ _ _ _ _ _ _ _)
   | (with_reducible exact ih5 _ _ _ _ _ _)
   | (with_reducible exact ih6 _ _ _ _ _)
   | (with_reducible exact LeO.refl _)
   | (with_reducible exact LeO.none _)
   | (with_reducible refine LeO.ite ?_ ?_)
   | (with_reducible refine LeO.bind ?_ (fun _ => ?_))
   | exact ih0 _ _ _ _ _
   | exact ih1 _ _ _ _
   | exact ih2 _ _ _ _ _ _ _ _
   | exact ih3 _ _ _ _ _ _ _ _ _ _
   | exact ih4 _ _ _ _ _ _ _ _ _ _
   | exact ih5 _ _ _ _ _ _
   | exact ih6 _ _ _ _ _
   | exact LeO.none _
   | refine LeO.ite ?_ ?_
   | refine LeO.bind ?_ (fun _ => ?_)
set_option maxHeartbeats 8000000 in
set_option maxRecDepth 100000 in
theorem isohyetlaw04_units.calls (k : Nat) (a0 : ByteArray) (a1 : Int) (r1 : Int) (r2 : Int) (w : World) (h : isohyetlaw04_units.f k a0 a1 = some (r1, r2)) :
  Calls Tryd.prog 10 #[.string a0, .int .i64 a1] w fun e w' => e = .returned (.tuple #[.int .i64 r1, .int .i64 r2]) ∧ Below w.heap.size w w' := by
 have HB := Aside0.mk (Below.refl w.heap.size w)
 have H : (if (a0.size : Int) > 400 then (some (0, 2)) else (if (a0.size : Int) > 0 then (if 0 < (a0.size : Int) then (if (bt a0 0) = 45 then (isohyetlaw04_units.j0 k a0 a1 0 false true) else (isohyetlaw04_units.j0 k a0 a1 0 false ((bt a0 0) == 43))) else (none)) else (isohyetlaw04_units.j0 k a0 a1 0 false false))) = some (r1, r2) := h
 clear h
 by_cases c3 : (a0.size : Int) > 400
 ·rw [if_pos c3] at H
  have c3b0 : decide (400 < (a0.size : Int)) = true := decide_eq_true c3
  have c3b1 : decide (400 < a0.size) = true := decide_eq_true (by omega)
  clear c3
  simp only [Option.some.injEq, Prod.mk.injEq] at H
  obtain ⟨rfl, rfl⟩ := H
  go_enter Tryd.func10, Tryd.ntmps10
  go_wp2
  go_ret2
  exact ⟨by first | rfl | (simp [errW_none, errW_some] <;> rfl) | (simp [*, errW_none, errW_some] <;> rfl), by repeat (first | (with_reducible first | exact HB.out | apply bA | apply bN | apply bD) | exact HB.out)⟩
 ·rw [if_neg c3] at H
  have c3b0 : decide (400 < (a0.size : Int)) = false := decide_eq_false c3
  have c3b1 : decide (400 < a0.size) = false := decide_eq_false (by omega)
  clear c3
  have HC4 := Aside0.mk H
  clear H
  go_enter Tryd.func10, Tryd.ntmps10
  go_upto_region 4 with (fail)
  go_cut [30] (fun v30 wc => ∃ (kq : Nat) (x30_3 : Bool), v30 = .bool x30_3 ∧ Aside0 (isohyetlaw04_units.j0 kq a0 a1 0 false x30_3 = some (r1, r2)) ∧ Aside0 (kq ≤ k) ∧ Aside0 (Below w.heap.size w wc))
  case first =>
   have H := HC4.out
   clear HC4
   by_cases c5 : (a0.size : Int) > 0
   ·rw [if_pos c5] at H
    have c5b0 : decide (0 < (a0.size : Int)) = true := decide_eq_true c5
    have c5b1 : decide (0 < a0.size) = true := decide_eq_true (by omega)
    clear c5
    (first | rw [c5b0] | rw [c5b1] | (simp only [i64_w, i32_w]; rw [c5b0]) | skip)
    by_cases c6 : 0 < (a0.size : Int)
    ·rw [if_pos c6] at H
     have c6b0 : decide (0 < (a0.size : Int)) = true := decide_eq_true c6
     have c6b1 : decide (0 < a0.size) = true := decide_eq_true (by omega)
     clear c6
     by_cases c8 : (bt a0 0) = 45
     ·rw [if_pos c8] at H
      have c8b0 : ((bt a0 0) == 45) = true := beq_iff_eq.mpr c8
      have c8b1 : ((bt a0 0) != 45) = false := bne_eq_false_iff_eq.mpr c8
      clear c8
      have H' := Aside0.mk H
      clear H
      have p7 : 0 ≤ (0 : Int) := (by omega)
      have q7 : 0 < a0.size := (by have : (0 : Int) < (a0.size : Int) := of_decide_eq_true (by first | (with_reducible assumption) | assumption); omega)
      have hx7 : ∀ h : 0 < a0.size, ((a0[0]'h).toNat : Int) = bt a0 0 := bt_at a0 0
      clear p7
      have qi7 : (0 < (a0.size : Int)) = True := eq_true (of_decide_eq_true (by first | (with_reducible assumption) | assumption))
      replace q7 := eq_true q7
      go_wp2
      go_meet
      case rel => exact ⟨_, (true), (by first | rfl | (simp; done) | (simp [*]; done)), H', ⟨by first | omega | exact Nat.le_refl _⟩, ⟨by repeat (first | (with_reducible first | exact HB.out | apply bA | apply bN | apply bD) | exact HB.out)⟩⟩
     ·rw [if_neg c8] at H
      have c8b0 : ((bt a0 0) == 45) = false := beq_eq_false_iff_ne.mpr c8
      have c8b1 : ((bt a0 0) != 45) = true := bne_iff_ne.mpr c8
      have H' := Aside0.mk H
      clear H
      have p7 : 0 ≤ (0 : Int) := (by omega)
      have q7 : 0 < a0.size := (by have : (0 : Int) < (a0.size : Int) := of_decide_eq_true (by first | (with_reducible assumption) | assumption); omega)
      have hx7 : ∀ h : 0 < a0.size, ((a0[0]'h).toNat : Int) = bt a0 0 := bt_at a0 0
      clear p7
      have qi7 : (0 < (a0.size : Int)) = True := eq_true (of_decide_eq_true (by first | (with_reducible assumption) | assumption))
      replace q7 := eq_true q7
      have p9 : 0 ≤ (0 : Int) := (by omega)
      have q9 : 0 < a0.size := (by have : (0 : Int) < (a0.size : Int) := of_decide_eq_true (by first | (with_reducible assumption) | assumption); omega)
      have hx9 : ∀ h : 0 < a0.size, ((a0[0]'h).toNat : Int) = bt a0 0 := bt_at a0 0
      clear p9
      have qi9 : (0 < (a0.size : Int)) = True := eq_true (of_decide_eq_true (by first | (with_reducible assumption) | assumption))
      replace q9 := eq_true q9
      go_wp2
      go_meet
      case rel => exact ⟨_, (((bt a0 0) == 43)), (by first | rfl | (simp; done) | (simp [*]; done)), H', ⟨by first | omega | exact Nat.le_refl _⟩, ⟨by repeat (first | (with_reducible first | exact HB.out | apply bA | apply bN | apply bD) | exact HB.out)⟩⟩
    ·rw [if_neg c6] at H
     exact absurd H (by simp)
   ·rw [if_neg c5] at H
    have c5b0 : decide (0 < (a0.size : Int)) = false := decide_eq_false c5
    have c5b1 : decide (0 < a0.size) = false := decide_eq_false (by omega)
    clear c5
    (first | rw [c5b0] | rw [c5b1] | (simp only [i64_w, i32_w]; rw [c5b0]) | skip)
    have H' := Aside0.mk H
    clear H
    go_wp2
    go_meet
    case rel => exact ⟨_, (false), (by first | rfl | (simp; done) | (simp [*]; done)), H', ⟨by first | omega | exact Nat.le_refl _⟩, ⟨by repeat (first | (with_reducible first | exact HB.out | apply bA | apply bN | apply bD) | exact HB.out)⟩⟩
  case rest =>
   clear HC4
   try clear c1
   try clear p2
   try clear c3
   try clear c3b0
   try clear c3b1
   try clear c5
   try clear c5b0
   try clear c5b1
   try clear c6
   try clear c6b0
   try clear c6b1
   try clear p7
   try clear q7
   try clear hx7
   try clear qi7
   try clear c8
   try clear c8b0
   try clear c8b1
   try clear p9
   try clear q9
   try clear hx9
   try clear qi9
   try clear p7
   try clear p9
   try clear q7
   try clear q9
   obtain ⟨kq, x30_3, rfl, HA, HJ3, HB⟩ := hcut
   cases kq with
   | zero => exact absurd HA.out (by simp [isohyetlaw04_units.j0])
   | succ kj3 =>
    have H := HA.out
    clear HA
    simp only [isohyetlaw04_units.j0] at H
    have HC10 := Aside0.mk H
    clear H
    go_upto_if 30 with (fail)
    go_cut [6, 7] (fun v6 v7 wc => ∃ (kq : Nat) (x6_9 : Int) (x7_9 : Bool), v6 = .int .i64 x6_9 ∧ v7 = .bool x7_9 ∧ Aside0 (isohyetlaw04_units.j1 kq a0 a1 x6_9 x7_9 = some (r1, r2)) ∧ Aside0 (kq ≤ kj3) ∧ Aside0 (Below w.heap.size w wc))
    case first =>
     have H := HC10.out
     clear HC10
     by_cases c11 : x30_3 = true
     ·subst c11
      have H1 : (if 0 < (a0.size : Int) then (isohyetlaw04_units.j1 kj3 a0 a1 1 ((bt a0 0) == 45)) else (none)) = some (r1, r2) := by rw [if_pos rfl] at H; exact H
      clear H
      have H := H1
      clear H1
      by_cases c12 : 0 < (a0.size : Int)
      ·rw [if_pos c12] at H
       have c12b0 : decide (0 < (a0.size : Int)) = true := decide_eq_true c12
       have c12b1 : decide (0 < a0.size) = true := decide_eq_true (by omega)
       clear c12
       (first | rw [c12b0] | rw [c12b1] | (simp only [i64_w, i32_w]; rw [c12b0]) | skip)
       have H' := Aside0.mk H
       clear H
       have p13 : 0 ≤ (0 : Int) := (by omega)
       have q13 : 0 < a0.size := (by have : (0 : Int) < (a0.size : Int) := of_decide_eq_true (by first | (with_reducible assumption) | assumption); omega)
       have hx13 : ∀ h : 0 < a0.size, ((a0[0]'h).toNat : Int) = bt a0 0 := bt_at a0 0
       clear p13
       have qi13 : (0 < (a0.size : Int)) = True := eq_true (of_decide_eq_true (by first | (with_reducible assumption) | assumption))
       replace q13 := eq_true q13
       go_wp2
       go_meet
       case rel => exact ⟨_, (1), (((bt a0 0) == 45)), (by first | rfl | (simp; done) | (simp [*]; done)), (by first | rfl | (simp; done) | (simp [*]; done)), H', ⟨by have := HJ3.out; first | omega | exact Nat.le_refl _⟩, ⟨by repeat (first | (with_reducible first | exact HB.out | apply bA | apply bN | apply bD) | exact HB.out)⟩⟩
      ·rw [if_neg c12] at H
       exact absurd H (by simp)
     ·replace c11 := Bool.eq_false_iff.mpr c11
      subst c11
      have H1 : (isohyetlaw04_units.j1 kj3 a0 a1 0 false) = some (r1, r2) := by rw [if_neg (show ¬ (false = true) by decide)] at H; exact H
      clear H
      have H := H1
      clear H1
      have H' := Aside0.mk H
      clear H
      go_wp2
      go_meet
      case rel => exact ⟨_, (0), (false), (by first | rfl | (simp; done) | (simp [*]; done)), (by first | rfl | (simp; done) | (simp [*]; done)), H', ⟨by have := HJ3.out; first | omega | exact Nat.le_refl _⟩, ⟨by repeat (first | (with_reducible first | exact HB.out | apply bA | apply bN | apply bD) | exact HB.out)⟩⟩
    case rest =>
     clear HC10
     try clear c1
     try clear p1
     try clear q1
     try clear hx1
     try clear qi1
     try clear p2
     try clear c3
     try clear c3b0
     try clear c3b1
     try clear c5
     try clear c5b0
     try clear c5b1
     try clear c6
     try clear c6b0
     try clear c6b1
     try clear p7
     try clear q7
     try clear hx7
     try clear qi7
     try clear c8
     try clear c8b0
     try clear c8b1
     try clear p9
     try clear q9
     try clear hx9
     try clear qi9
     try clear c10
     try clear c11
     try clear c12
     try clear c12b0
     try clear c12b1
     try clear p13
     try clear q13
     try clear hx13
     try clear qi13
     try clear p13
     try clear p2
     try clear p7
     try clear p9
     try clear q13
     try clear q7
     try clear q9
     obtain ⟨kq, x6_9, x7_9, rfl, rfl, HA, HJ9, HB⟩ := hcut
     cases kq with
     | zero => exact absurd HA.out (by simp [isohyetlaw04_units.j1])
     | succ kj9 =>
      have H := HA.out
      clear HA
      simp only [isohyetlaw04_units.j1] at H
      have H' := Aside0.mk H
      clear H
      go_wp2
      go_loopg [6, 8, 9, 10, 11] kj9 (fun kq v6 v8 v9 v10 v11 w' => ∃ (x6_3 : Int) (x8_3 : Int) (x9_3 : Int) (x10_3 : Int) (x11_3 : Bool), v6 = .int .i64 x6_3 ∧ v8 = .int .i64 x8_3 ∧ v9 = .int .i64 x9_3 ∧ v10 = .int .i64 x10_3 ∧ v11 = .bool x11_3 ∧ Aside0 (isohyetlaw04_units.l0 kq a0 a1 x6_3 x7_9 x8_3 x9_3 x10_3 x11_3 = some (r1, r2)) ∧ Aside0 (kq ≤ kj9) ∧ Aside0 (Below w.heap.size w w'))
      case atStart => exact ⟨(x6_9), (0), ((-1)), (0), (false), (by first | rfl | (simp; done) | (simp [*]; done)), (by first | rfl | (simp; done) | (simp [*]; done)), (by first | rfl | (simp; done) | (simp [*]; done)), (by first | rfl | (simp; done) | (simp [*]; done)), (by first | rfl | (simp; done) | (simp [*]; done)), H', ⟨Nat.le_refl _⟩, ⟨by repeat (first | (with_reducible first | exact HB.out | apply bA | apply bN | apply bD) | exact HB.out)⟩⟩
      case round =>
       clear H'
       try clear c1
       try clear p1
       try clear q1
       try clear hx1
       try clear qi1
       try clear p2
       try clear c3
       try clear c3b0
       try clear c3b1
       try clear c5
       try clear c5b0
       try clear c5b1
       try clear c6
       try clear c6b0
       try clear c6b1
       try clear p7
       try clear q7
       try clear hx7
       try clear qi7
       try clear c8
       try clear c8b0
       try clear c8b1
       try clear p9
       try clear q9
       try clear hx9
       try clear qi9
       try clear c10
       try clear c11
       try clear c12
       try clear c12b0
       try clear c12b1
       try clear p13
       try clear q13
       try clear hx13
       try clear qi13
       try clear p1
       try clear p13
       try clear p2
       try clear p7
       try clear p9
       try clear q1
       try clear q13
       try clear q7
       try clear q9
       obtain ⟨x6_3, x8_3, x9_3, x10_3, x11_3, rfl, rfl, rfl, rfl, rfl, HA, HK3, HB⟩ := hrel
       cases gk with
       | zero => exact absurd HA.out (by simp [isohyetlaw04_units.l0])
       | succ k3 =>
        have H := HA.out
        clear HA
        simp only [isohyetlaw04_units.l0] at H
        by_cases c14 : x6_3 < (a0.size : Int)
        ·rw [if_pos c14] at H
         have c14b0 : decide (x6_3 < (a0.size : Int)) = true := decide_eq_true c14
         clear c14
         by_cases c15 : 0 ≤ x6_3
         ·rw [if_pos c15] at H
          have c15b0 : decide (0 ≤ x6_3) = true := decide_eq_true c15
          clear c15
          have HC17 := Aside0.mk H
          clear H
          have p16 : 0 ≤ (x6_3 : Int) := of_decide_eq_true (by first | (with_reducible assumption) | assumption)
          have q16 : x6_3 < (a0.size : Int) := of_decide_eq_true (by first | (with_reducible assumption) | assumption)
          have hx16 := bt_at a0 x6_3
          replace p16 := eq_true p16
          replace q16 := eq_true q16
          go_upto_region 14 with (fail)
          go_cut [50] (fun v50 wc => ∃ (kq : Nat) (x50_16 : Bool), v50 = .bool x50_16 ∧ Aside0 (isohyetlaw04_units.j3 kq a0 a1 x6_3 x7_9 x8_3 x9_3 x10_3 x11_3 (bt a0 x6_3) x50_16 = some (r1, r2)) ∧ Aside0 (kq ≤ k3) ∧ Aside0 (Below w.heap.size w wc))
          case first =>
           have H := HC17.out
           clear HC17
           by_cases c18 : (bt a0 x6_3) = 46
           ·rw [if_pos c18] at H
            have c18b0 : ((bt a0 x6_3) == 46) = true := beq_iff_eq.mpr c18
            have c18b1 : ((bt a0 x6_3) != 46) = false := bne_eq_false_iff_eq.mpr c18
            clear c18
            (first | rw [c18b0] | rw [c18b1] | (simp only [i64_w, i32_w]; rw [c18b0]) | skip)
            by_cases c19 : x9_3 < 0
            ·rw [if_pos c19] at H
             have c19b0 : decide (x9_3 < 0) = true := decide_eq_true c19
             clear c19
             have H' := Aside0.mk H
             clear H
             go_wp2
             go_meet
             case rel => exact ⟨_, (decide (x10_3 > 0)), (by first | rfl | (simp; done) | (simp [*]; done)), H', ⟨by have := HJ3.out; have := HJ9.out; have := HK3.out; first | omega | exact Nat.le_refl _⟩, ⟨by repeat (first | (with_reducible first | exact HB.out | apply bA | apply bN | apply bD) | exact HB.out)⟩⟩
            ·rw [if_neg c19] at H
             have c19b0 : decide (x9_3 < 0) = false := decide_eq_false c19
             clear c19
             have H' := Aside0.mk H
             clear H
             go_wp2
             go_meet
             case rel => exact ⟨_, (false), (by first | rfl | (simp; done) | (simp [*]; done)), H', ⟨by have := HJ3.out; have := HJ9.out; have := HK3.out; first | omega | exact Nat.le_refl _⟩, ⟨by repeat (first | (with_reducible first | exact HB.out | apply bA | apply bN | apply bD) | exact HB.out)⟩⟩
           ·rw [if_neg c18] at H
            have c18b0 : ((bt a0 x6_3) == 46) = false := beq_eq_false_iff_ne.mpr c18
            have c18b1 : ((bt a0 x6_3) != 46) = true := bne_iff_ne.mpr c18
            (first | rw [c18b0] | rw [c18b1] | (simp only [i64_w, i32_w]; rw [c18b0]) | skip)
            have H' := Aside0.mk H
            clear H
            go_wp2
            go_meet
            case rel => exact ⟨_, (false), (by first | rfl | (simp; done) | (simp [*]; done)), H', ⟨by have := HJ3.out; have := HJ9.out; have := HK3.out; first | omega | exact Nat.le_refl _⟩, ⟨by repeat (first | (with_reducible first | exact HB.out | apply bA | apply bN | apply bD) | exact HB.out)⟩⟩
          case rest =>
           clear HC17
           try clear c1
           try clear p1
           try clear q1
           try clear hx1
           try clear qi1
           try clear p2
           try clear c3
           try clear c3b0
           try clear c3b1
           try clear c5
           try clear c5b0
           try clear c5b1
           try clear c6
           try clear c6b0
           try clear c6b1
           try clear p7
           try clear q7
           try clear hx7
           try clear qi7
           try clear c8
           try clear c8b0
           try clear c8b1
           try clear p9
           try clear q9
           try clear hx9
           try clear qi9
           try clear c10
           try clear c11
           try clear c12
           try clear c12b0
           try clear c12b1
           try clear p13
           try clear q13
           try clear hx13
           try clear qi13
           try clear c14
           try clear c14b0
           try clear c15
           try clear c15b0
           try clear p16
           try clear q16
           try clear hx16
           try clear c18
           try clear c18b0
           try clear c18b1
           try clear c19
           try clear c19b0
           try clear p1
           try clear p13
           try clear p16
           try clear p2
           try clear p7
           try clear p9
           try clear q1
           try clear q13
           try clear q16
           try clear q7
           try clear q9
           obtain ⟨kq, x50_16, rfl, HA, HJ16, HB⟩ := hcut
           cases kq with
           | zero => exact absurd HA.out (by simp [isohyetlaw04_units.j3])
           | succ kj16 =>
            have H := HA.out
            clear HA
            simp only [isohyetlaw04_units.j3] at H
            by_cases c20 : x50_16 = true
            ·subst c20
             have H1 : (isohyetlaw04_units.l0 kj16 a0 a1 (wrap64 (x6_3 + 1)) x7_9 x8_3 0 x10_3 x11_3) = some (r1, r2) := by rw [if_pos rfl] at H; exact H
             clear H
             have H := H1
             clear H1
             have H' := Aside0.mk H
             clear H
             go_wp2
             go_roundg kj16
             case measure => have := HJ3.out; have := HJ9.out; have := HK3.out; have := HJ16.out; omega
             case rel => exact ⟨(wrap64 (x6_3 + 1)), (x8_3), (0), (x10_3), (x11_3), (by first | rfl | (simp; done) | (simp [*]; done)), (by first | rfl | (simp; done) | (simp [*]; done)), (by first | rfl | (simp; done) | (simp [*]; done)), (by first | rfl | (simp; done) | (simp [*]; done)), (by first | rfl | (simp; done) | (simp [*]; done)), H', ⟨by have := HJ3.out; have := HJ9.out; have := HK3.out; have := HJ16.out; omega⟩, ⟨by repeat (first | (with_reducible first | exact HB.out | apply bA | apply bN | apply bD) | exact HB.out)⟩⟩
            ·replace c20 := Bool.eq_false_iff.mpr c20
             subst c20
             have H1 : (if (bt a0 x6_3) < 48 then (isohyetlaw04_units.j4 kj16 a0 a1 x6_3 x7_9 x8_3 x9_3 x10_3 x11_3 (bt a0 x6_3) true) else (isohyetlaw04_units.j4 kj16 a0 a1 x6_3 x7_9 x8_3 x9_3 x10_3 x11_3 (bt a0 x6_3) (decide ((bt a0 x6_3) > 57)))) = some (r1, r2) := by rw [if_neg (show ¬ (false = true) by decide)] at H; exact H
             clear H
             have H := H1
             clear H1
             have HC21 := Aside0.mk H
             clear H
             go_upto_region 16 with (fail)
             go_cut [61] (fun v61 wc => ∃ (kq : Nat) (x61_20 : Bool), v61 = .bool x61_20 ∧ Aside0 (isohyetlaw04_units.j4 kq a0 a1 x6_3 x7_9 x8_3 x9_3 x10_3 x11_3 (bt a0 x6_3) x61_20 = some (r1, r2)) ∧ Aside0 (kq ≤ kj16) ∧ Aside0 (Below w.heap.size w wc))
             case first =>
              have H := HC21.out
              clear HC21
              by_cases c22 : (bt a0 x6_3) < 48
              ·rw [if_pos c22] at H
               have c22b0 : decide ((bt a0 x6_3) < 48) = true := decide_eq_true c22
               clear c22
               (first | rw [c22b0] | rw [c22b1] | (simp only [i64_w, i32_w]; rw [c22b0]) | skip)
               have H' := Aside0.mk H
               clear H
               go_wp2
               go_meet
               case rel => exact ⟨_, (true), (by first | rfl | (simp; done) | (simp [*]; done)), H', ⟨by have := HJ3.out; have := HJ9.out; have := HK3.out; have := HJ16.out; first | omega | exact Nat.le_refl _⟩, ⟨by repeat (first | (with_reducible first | exact HB.out | apply bA | apply bN | apply bD) | exact HB.out)⟩⟩
              ·rw [if_neg c22] at H
               have c22b0 : decide ((bt a0 x6_3) < 48) = false := decide_eq_false c22
               clear c22
               (first | rw [c22b0] | rw [c22b1] | (simp only [i64_w, i32_w]; rw [c22b0]) | skip)
               have H' := Aside0.mk H
               clear H
               go_wp2
               go_meet
               case rel => exact ⟨_, (decide ((bt a0 x6_3) > 57)), (by first | rfl | (simp; done) | (simp [*]; done)), H', ⟨by have := HJ3.out; have := HJ9.out; have := HK3.out; have := HJ16.out; first | omega | exact Nat.le_refl _⟩, ⟨by repeat (first | (with_reducible first | exact HB.out | apply bA | apply bN | apply bD) | exact HB.out)⟩⟩
             case rest =>
              clear HC21
              try clear c1
              try clear p1
              try clear q1
              try clear hx1
              try clear qi1
              try clear c2
              try clear p2
              try clear c3
              try clear c3b0
              try clear c3b1
              try clear c5
              try clear c5b0
              try clear c5b1
              try clear c6
              try clear c6b0
              try clear c6b1
              try clear p6
              try clear p7
              try clear q7
              try clear hx7
              try clear qi7
              try clear c8
              try clear c8b0
              try clear c8b1
              try clear p9
              try clear q9
              try clear hx9
              try clear qi9
              try clear c10
              try clear c11
              try clear c12
              try clear c12b0
              try clear c12b1
              try clear p13
              try clear q13
              try clear hx13
              try clear qi13
              try clear c14
              try clear c14b0
              try clear c15
              try clear c15b0
              try clear p16
              try clear q16
              try clear hx16
              try clear c18
              try clear c18b0
              try clear c18b1
              try clear c19
              try clear c19b0
              try clear c20
              try clear c22
              try clear c22b0
              try clear c22b1
              try clear p1
              try clear p13
              try clear p16
              try clear p2
              try clear p7
              try clear p9
              try clear q1
              try clear q13
              try clear q16
              try clear q7
              try clear q9
              obtain ⟨kq, x61_20, rfl, HA, HJ20, HB⟩ := hcut
              cases kq with
              | zero => exact absurd HA.out (by simp [isohyetlaw04_units.j4])
              | succ kj20 =>
               have H := HA.out
               clear HA
               simp only [isohyetlaw04_units.j4] at H
               by_cases c23 : x61_20 = true
               ·subst c23
                have H1 : (some (0, 1)) = some (r1, r2) := by rw [if_pos rfl] at H; exact H
                clear H
                have H := H1
                clear H1
                simp only [Option.some.injEq, Prod.mk.injEq] at H
                obtain ⟨rfl, rfl⟩ := H
                go_wp2
                go_ret2
                exact ⟨by first | rfl | (simp [errW_none, errW_some] <;> rfl) | (simp [*, errW_none, errW_some] <;> rfl), by repeat (first | (with_reducible first | exact HB.out | apply bA | apply bN | apply bD) | exact HB.out)⟩
               ·replace c23 := Bool.eq_false_iff.mpr c23
                subst c23
                have H1 : (if x9_3 < 0 then (isohyetlaw04_units.l0 kj20 a0 a1 (wrap64 (x6_3 + 1)) x7_9 (mn (wrap64 ((wrap64 (10 * x8_3)) + (((bt a0 x6_3) - 48) % 256))) 1099511627776) x9_3 (wrap64 (x10_3 + 1)) x11_3) else (if x9_3 < a1 then (isohyetlaw04_units.l0 kj20 a0 a1 (wrap64 (x6_3 + 1)) x7_9 (mn (wrap64 ((wrap64 (10 * x8_3)) + (((bt a0 x6_3) - 48) % 256))) 1099511627776) (wrap64 (x9_3 + 1)) x10_3 x11_3) else (if x11_3 = true then (isohyetlaw04_units.l0 kj20 a0 a1 (wrap64 (x6_3 + 1)) x7_9 x8_3 (wrap64 (x9_3 + 1)) x10_3 true) else (isohyetlaw04_units.l0 kj20 a0 a1 (wrap64 (x6_3 + 1)) x7_9 x8_3 (wrap64 (x9_3 + 1)) x10_3 ((bt a0 x6_3) != 48))))) = some (r1, r2) := by rw [if_neg (show ¬ (false = true) by decide)] at H; exact H
                clear H
                have H := H1
                clear H1
                by_cases c24 : x9_3 < 0
                ·rw [if_pos c24] at H
                 have c24b0 : decide (x9_3 < 0) = true := decide_eq_true c24
                 clear c24
                 obtain ⟨ji25, hji25⟩ : ∃ j_ : Int, (mn (wrap64 ((wrap64 (10 * x8_3)) + (((bt a0 x6_3) - 48) % 256))) 1099511627776) = j_ := ⟨_, rfl⟩
                 replace H : (isohyetlaw04_units.l0 kj20 a0 a1 (wrap64 (x6_3 + 1)) x7_9 ji25 x9_3 (wrap64 (x10_3 + 1)) x11_3) = some (r1, r2) := by first | (rw [hji25] at H; exact H) | (simp only [hji25] at H ⊢; exact H)
                 have hji25_ : (if 1099511627776 < (wrap64 ((wrap64 (10 * x8_3)) + (((bt a0 x6_3) - 48) % 256))) then 1099511627776 else (wrap64 ((wrap64 (10 * x8_3)) + (((bt a0 x6_3) - 48) % 256)))) = ji25 := hji25
                 have H' := Aside0.mk H
                 clear H
                 go_wp2
                 go_roundg kj20
                 case measure => have := HJ3.out; have := HJ9.out; have := HK3.out; have := HJ16.out; have := HJ20.out; omega
                 case rel => exact ⟨(wrap64 (x6_3 + 1)), (ji25), (x9_3), (wrap64 (x10_3 + 1)), (x11_3), (by first | rfl | (simp; done) | (simp [*]; done)), (by first | rfl | (simp; done) | (simp only [← hji25] <;> (first | rfl | simp)) | (simp [*]; done)), (by first | rfl | (simp; done) | (simp [*]; done)), (by first | rfl | (simp; done) | (simp [*]; done)), (by first | rfl | (simp; done) | (simp [*]; done)), H', ⟨by have := HJ3.out; have := HJ9.out; have := HK3.out; have := HJ16.out; have := HJ20.out; omega⟩, ⟨by repeat (first | (with_reducible first | exact HB.out | apply bA | apply bN | apply bD) | exact HB.out)⟩⟩
                ·rw [if_neg c24] at H
                 have c24b0 : decide (x9_3 < 0) = false := decide_eq_false c24
                 clear c24
                 by_cases c26 : x9_3 < a1
                 ·rw [if_pos c26] at H
                  have c26b0 : decide (x9_3 < a1) = true := decide_eq_true c26
                  clear c26
                  obtain ⟨ji27, hji27⟩ : ∃ j_ : Int, (mn (wrap64 ((wrap64 (10 * x8_3)) + (((bt a0 x6_3) - 48) % 256))) 1099511627776) = j_ := ⟨_, rfl⟩
                  replace H : (isohyetlaw04_units.l0 kj20 a0 a1 (wrap64 (x6_3 + 1)) x7_9 ji27 (wrap64 (x9_3 + 1)) x10_3 x11_3) = some (r1, r2) := by first | (rw [hji27] at H; exact H) | (simp only [hji27] at H ⊢; exact H)
                  have hji27_ : (if 1099511627776 < (wrap64 ((wrap64 (10 * x8_3)) + (((bt a0 x6_3) - 48) % 256))) then 1099511627776 else (wrap64 ((wrap64 (10 * x8_3)) + (((bt a0 x6_3) - 48) % 256)))) = ji27 := hji27
                  have H' := Aside0.mk H
                  clear H
                  go_wp2
                  go_roundg kj20
                  case measure => have := HJ3.out; have := HJ9.out; have := HK3.out; have := HJ16.out; have := HJ20.out; omega
                  case rel => exact ⟨(wrap64 (x6_3 + 1)), (ji27), (wrap64 (x9_3 + 1)), (x10_3), (x11_3), (by first | rfl | (simp; done) | (simp [*]; done)), (by first | rfl | (simp; done) | (simp only [← hji27] <;> (first | rfl | simp)) | (simp [*]; done)), (by first | rfl | (simp; done) | (simp [*]; done)), (by first | rfl | (simp; done) | (simp [*]; done)), (by first | rfl | (simp; done) | (simp [*]; done)), H', ⟨by have := HJ3.out; have := HJ9.out; have := HK3.out; have := HJ16.out; have := HJ20.out; omega⟩, ⟨by repeat (first | (with_reducible first | exact HB.out | apply bA | apply bN | apply bD) | exact HB.out)⟩⟩
                 ·rw [if_neg c26] at H
                  have c26b0 : decide (x9_3 < a1) = false := decide_eq_false c26
                  clear c26
                  by_cases c28 : x11_3 = true
                  ·subst c28
                   have H1 : (isohyetlaw04_units.l0 kj20 a0 a1 (wrap64 (x6_3 + 1)) x7_9 x8_3 (wrap64 (x9_3 + 1)) x10_3 true) = some (r1, r2) := by rw [if_pos rfl] at H; exact H
                   clear H
                   have H := H1
                   clear H1
                   have H' := Aside0.mk H
                   clear H
                   go_wp2
                   go_roundg kj20
                   case measure => have := HJ3.out; have := HJ9.out; have := HK3.out; have := HJ16.out; have := HJ20.out; omega
                   case rel => exact ⟨(wrap64 (x6_3 + 1)), (x8_3), (wrap64 (x9_3 + 1)), (x10_3), (true), (by first | rfl | (simp; done) | (simp [*]; done)), (by first | rfl | (simp; done) | (simp [*]; done)), (by first | rfl | (simp; done) | (simp [*]; done)), (by first | rfl | (simp; done) | (simp [*]; done)), (by first | rfl | (simp; done) | (simp [*]; done)), H', ⟨by have := HJ3.out; have := HJ9.out; have := HK3.out; have := HJ16.out; have := HJ20.out; omega⟩, ⟨by repeat (first | (with_reducible first | exact HB.out | apply bA | apply bN | apply bD) | exact HB.out)⟩⟩
                  ·replace c28 := Bool.eq_false_iff.mpr c28
                   subst c28
                   have H1 : (isohyetlaw04_units.l0 kj20 a0 a1 (wrap64 (x6_3 + 1)) x7_9 x8_3 (wrap64 (x9_3 + 1)) x10_3 ((bt a0 x6_3) != 48)) = some (r1, r2) := by rw [if_neg (show ¬ (false = true) by decide)] at H; exact H
                   clear H
                   have H := H1
                   clear H1
                   have H' := Aside0.mk H
                   clear H
                   go_wp2
                   go_roundg kj20
                   case measure => have := HJ3.out; have := HJ9.out; have := HK3.out; have := HJ16.out; have := HJ20.out; omega
                   case rel => exact ⟨(wrap64 (x6_3 + 1)), (x8_3), (wrap64 (x9_3 + 1)), (x10_3), (((bt a0 x6_3) != 48)), (by first | rfl | (simp; done) | (simp [*]; done)), (by first | rfl | (simp; done) | (simp [*]; done)), (by first | rfl | (simp; done) | (simp [*]; done)), (by first | rfl | (simp; done) | (simp [*]; done)), (by first | rfl | (simp; done) | (simp [*]; done)), H', ⟨by have := HJ3.out; have := HJ9.out; have := HK3.out; have := HJ16.out; have := HJ20.out; omega⟩, ⟨by repeat (first | (with_reducible first | exact HB.out | apply bA | apply bN | apply bD) | exact HB.out)⟩⟩
         ·rw [if_neg c15] at H
          exact absurd H (by simp)
        ·rw [if_neg c14] at H
         have c14b0 : decide (x6_3 < (a0.size : Int)) = false := decide_eq_false c14
         clear c14
         have HC29 := Aside0.mk H
         clear H
         go_upto_region 24 with (fail)
         go_cut [98] (fun v98 wc => ∃ (kq : Nat) (x98_28 : Bool), v98 = .bool x98_28 ∧ Aside0 (isohyetlaw04_units.j5 kq a1 x7_9 x8_3 x9_3 x11_3 x98_28 = some (r1, r2)) ∧ Aside0 (kq ≤ k3) ∧ Aside0 (Below w.heap.size w wc))
         case first =>
          have H := HC29.out
          clear HC29
          by_cases c30 : x10_3 = 0
          ·rw [if_pos c30] at H
           have c30b0 : (x10_3 == 0) = true := beq_iff_eq.mpr c30
           have c30b1 : (x10_3 != 0) = false := bne_eq_false_iff_eq.mpr c30
           clear c30
           (first | rw [c30b0] | rw [c30b1] | (simp only [i64_w, i32_w]; rw [c30b0]) | skip)
           have H' := Aside0.mk H
           clear H
           go_wp2
           go_meet
           case rel => exact ⟨_, (true), (by first | rfl | (simp; done) | (simp [*]; done)), H', ⟨by have := HJ3.out; have := HJ9.out; have := HK3.out; first | omega | exact Nat.le_refl _⟩, ⟨by repeat (first | (with_reducible first | exact HB.out | apply bA | apply bN | apply bD) | exact HB.out)⟩⟩
          ·rw [if_neg c30] at H
           have c30b0 : (x10_3 == 0) = false := beq_eq_false_iff_ne.mpr c30
           have c30b1 : (x10_3 != 0) = true := bne_iff_ne.mpr c30
           (first | rw [c30b0] | rw [c30b1] | (simp only [i64_w, i32_w]; rw [c30b0]) | skip)
           have H' := Aside0.mk H
           clear H
           go_wp2
           go_meet
           case rel => exact ⟨_, ((x9_3 == 0)), (by first | rfl | (simp; done) | (simp [*]; done)), H', ⟨by have := HJ3.out; have := HJ9.out; have := HK3.out; first | omega | exact Nat.le_refl _⟩, ⟨by repeat (first | (with_reducible first | exact HB.out | apply bA | apply bN | apply bD) | exact HB.out)⟩⟩
         case rest =>
          clear HC29
          try clear c1
          try clear p1
          try clear q1
          try clear hx1
          try clear qi1
          try clear c2
          try clear p2
          try clear c3
          try clear c3b0
          try clear c3b1
          try clear c5
          try clear c5b0
          try clear c5b1
          try clear c6
          try clear c6b0
          try clear c6b1
          try clear p6
          try clear p7
          try clear q7
          try clear hx7
          try clear qi7
          try clear c8
          try clear c8b0
          try clear c8b1
          try clear p9
          try clear q9
          try clear hx9
          try clear qi9
          try clear c10
          try clear c11
          try clear c12
          try clear c12b0
          try clear c12b1
          try clear p13
          try clear q13
          try clear hx13
          try clear qi13
          try clear c14
          try clear c14b0
          try clear c15
          try clear c15b0
          try clear p16
          try clear q16
          try clear hx16
          try clear c18
          try clear c18b0
          try clear c18b1
          try clear c19
          try clear c19b0
          try clear c20
          try clear c22
          try clear c22b0
          try clear c22b1
          try clear c23
          try clear c24
          try clear c24b0
          try clear c26
          try clear c26b0
          try clear c28
          try clear c30
          try clear c30b0
          try clear c30b1
          try clear p1
          try clear p13
          try clear p16
          try clear p2
          try clear p6
          try clear p7
          try clear p9
          try clear q1
          try clear q13
          try clear q16
          try clear q7
          try clear q9
          obtain ⟨kq, x98_28, rfl, HA, HJ28, HB⟩ := hcut
          cases kq with
          | zero => exact absurd HA.out (by simp [isohyetlaw04_units.j5])
          | succ kj28 =>
           have H := HA.out
           clear HA
           simp only [isohyetlaw04_units.j5] at H
           by_cases c31 : x98_28 = true
           ·subst c31
            have H1 : (some (0, 1)) = some (r1, r2) := by rw [if_pos rfl] at H; exact H
            clear H
            have H := H1
            clear H1
            simp only [Option.some.injEq, Prod.mk.injEq] at H
            obtain ⟨rfl, rfl⟩ := H
            go_wp2
            go_ret2
            exact ⟨by first | rfl | (simp [errW_none, errW_some] <;> rfl) | (simp [*, errW_none, errW_some] <;> rfl), by repeat (first | (with_reducible first | exact HB.out | apply bA | apply bN | apply bD) | exact HB.out)⟩
           ·replace c31 := Bool.eq_false_iff.mpr c31
            subst c31
            have H1 : (isohyetlaw04_units.l1 kj28 a1 x7_9 x8_3 x11_3 (mx x9_3 0)) = some (r1, r2) := by rw [if_neg (show ¬ (false = true) by decide)] at H; exact H
            clear H
            have H := H1
            clear H1
            obtain ⟨ji32, hji32⟩ : ∃ j_ : Int, (mx x9_3 0) = j_ := ⟨_, rfl⟩
            replace H : (isohyetlaw04_units.l1 kj28 a1 x7_9 x8_3 x11_3 ji32) = some (r1, r2) := by first | (rw [hji32] at H; exact H) | (simp only [hji32] at H ⊢; exact H)
            have hji32_ : (if x9_3 < 0 then 0 else x9_3) = ji32 := hji32
            have H' := Aside0.mk H
            clear H
            go_wp2
            go_loopg [8, 14] kj28 (fun kq v8 v14 w' => ∃ (x8_5 : Int) (x14_5 : Int), v8 = .int .i64 x8_5 ∧ v14 = .int .i64 x14_5 ∧ Aside0 (isohyetlaw04_units.l1 kq a1 x7_9 x8_5 x11_3 x14_5 = some (r1, r2)) ∧ Aside0 (kq ≤ kj28) ∧ Aside0 (Below w.heap.size w w'))
            case atStart => exact ⟨(x8_3), (ji32), (by first | rfl | (simp; done) | (simp [*]; done)), (by first | rfl | (simp; done) | (simp only [← hji32] <;> (first | rfl | simp)) | (simp [*]; done)), H', ⟨Nat.le_refl _⟩, ⟨by repeat (first | (with_reducible first | exact HB.out | apply bA | apply bN | apply bD) | exact HB.out)⟩⟩
            case round =>
             clear H'
             try clear c1
             try clear p1
             try clear q1
             try clear hx1
             try clear qi1
             try clear c2
             try clear p2
             try clear c3
             try clear c3b0
             try clear c3b1
             try clear c5
             try clear c5b0
             try clear c5b1
             try clear c6
             try clear c6b0
             try clear c6b1
             try clear p6
             try clear p7
             try clear q7
             try clear hx7
             try clear qi7
             try clear c8
             try clear c8b0
             try clear c8b1
             try clear p9
             try clear q9
             try clear hx9
             try clear qi9
             try clear c10
             try clear c11
             try clear c12
             try clear c12b0
             try clear c12b1
             try clear p13
             try clear q13
             try clear hx13
             try clear qi13
             try clear c14
             try clear c14b0
             try clear c15
             try clear c15b0
             try clear p16
             try clear q16
             try clear hx16
             try clear c18
             try clear c18b0
             try clear c18b1
             try clear c19
             try clear c19b0
             try clear c20
             try clear c22
             try clear c22b0
             try clear c22b1
             try clear c23
             try clear c24
             try clear c24b0
             try clear c26
             try clear c26b0
             try clear c28
             try clear c30
             try clear c30b0
             try clear c30b1
             try clear c31
             try clear p1
             try clear p13
             try clear p16
             try clear p2
             try clear p6
             try clear p7
             try clear p9
             try clear q1
             try clear q13
             try clear q16
             try clear q7
             try clear q9
             obtain ⟨x8_5, x14_5, rfl, rfl, HA, HK5, HB⟩ := hrel
             cases gk with
             | zero => exact absurd HA.out (by simp [isohyetlaw04_units.l1])
             | succ k5 =>
              have H := HA.out
              clear HA
              simp only [isohyetlaw04_units.l1] at H
              by_cases c33 : x14_5 < a1
              ·rw [if_pos c33] at H
               have c33b0 : decide (x14_5 < a1) = true := decide_eq_true c33
               clear c33
               obtain ⟨ji34, hji34⟩ : ∃ j_ : Int, (mn (wrap64 (10 * x8_5)) 1099511627776) = j_ := ⟨_, rfl⟩
               replace H : (isohyetlaw04_units.l1 k5 a1 x7_9 ji34 x11_3 (wrap64 (x14_5 + 1))) = some (r1, r2) := by first | (rw [hji34] at H; exact H) | (simp only [hji34] at H ⊢; exact H)
               have hji34_ : (if 1099511627776 < (wrap64 (10 * x8_5)) then 1099511627776 else (wrap64 (10 * x8_5))) = ji34 := hji34
               have H' := Aside0.mk H
               clear H
               go_wp2
               go_roundg k5
               case measure => have := HJ3.out; have := HJ9.out; have := HK3.out; have := HJ28.out; have := HK5.out; omega
               case rel => exact ⟨(ji34), (wrap64 (x14_5 + 1)), (by first | rfl | (simp; done) | (simp only [← hji34] <;> (first | rfl | simp)) | (simp [*]; done)), (by first | rfl | (simp; done) | (simp [*]; done)), H', ⟨by have := HJ3.out; have := HJ9.out; have := HK3.out; have := HJ28.out; have := HK5.out; omega⟩, ⟨by repeat (first | (with_reducible first | exact HB.out | apply bA | apply bN | apply bD) | exact HB.out)⟩⟩
              ·rw [if_neg c33] at H
               have c33b0 : decide (x14_5 < a1) = false := decide_eq_false c33
               clear c33
               by_cases c35 : x11_3 = true
               ·subst c35
                have H1 : (some (0, 3)) = some (r1, r2) := by rw [if_pos rfl] at H; exact H
                clear H
                have H := H1
                clear H1
                simp only [Option.some.injEq, Prod.mk.injEq] at H
                obtain ⟨rfl, rfl⟩ := H
                go_wp2
                go_ret2
                exact ⟨by first | rfl | (simp [errW_none, errW_some] <;> rfl) | (simp only [← hji32]; first | rfl | (simp [errW_none, errW_some] <;> rfl)) | (simp [*, errW_none, errW_some] <;> rfl), by repeat (first | (with_reducible first | exact HB.out | apply bA | apply bN | apply bD) | exact HB.out)⟩
               ·replace c35 := Bool.eq_false_iff.mpr c35
                subst c35
                have H1 : (if x8_5 > 2147483648 then (some (0, 4)) else (if x7_9 = true then (some (wrap64 (-x8_5), 0)) else (some (x8_5, 0)))) = some (r1, r2) := by rw [if_neg (show ¬ (false = true) by decide)] at H; exact H
                clear H
                have H := H1
                clear H1
                by_cases c36 : x8_5 > 2147483648
                ·rw [if_pos c36] at H
                 have c36b0 : decide (2147483648 < x8_5) = true := decide_eq_true c36
                 clear c36
                 simp only [Option.some.injEq, Prod.mk.injEq] at H
                 obtain ⟨rfl, rfl⟩ := H
                 go_wp2
                 go_ret2
                 exact ⟨by first | rfl | (simp [errW_none, errW_some] <;> rfl) | (simp only [← hji32]; first | rfl | (simp [errW_none, errW_some] <;> rfl)) | (simp [*, errW_none, errW_some] <;> rfl), by repeat (first | (with_reducible first | exact HB.out | apply bA | apply bN | apply bD) | exact HB.out)⟩
                ·rw [if_neg c36] at H
                 have c36b0 : decide (2147483648 < x8_5) = false := decide_eq_false c36
                 clear c36
                 by_cases c37 : x7_9 = true
                 ·subst c37
                  have H1 : (some (wrap64 (-x8_5), 0)) = some (r1, r2) := by rw [if_pos rfl] at H; exact H
                  clear H
                  have H := H1
                  clear H1
                  simp only [Option.some.injEq, Prod.mk.injEq] at H
                  obtain ⟨rfl, rfl⟩ := H
                  go_wp2
                  go_ret2
                  exact ⟨by first | rfl | (simp [errW_none, errW_some] <;> rfl) | (simp only [← hji32]; first | rfl | (simp [errW_none, errW_some] <;> rfl)) | (simp [*, errW_none, errW_some] <;> rfl), by repeat (first | (with_reducible first | exact HB.out | apply bA | apply bN | apply bD) | exact HB.out)⟩
                 ·replace c37 := Bool.eq_false_iff.mpr c37
                  subst c37
                  have H1 : (some (x8_5, 0)) = some (r1, r2) := by rw [if_neg (show ¬ (false = true) by decide)] at H; exact H
                  clear H
                  have H := H1
                  clear H1
                  simp only [Option.some.injEq, Prod.mk.injEq] at H
                  obtain ⟨rfl, rfl⟩ := H
                  go_wp2
                  go_ret2
                  exact ⟨by first | rfl | (simp [errW_none, errW_some] <;> rfl) | (simp only [← hji32]; first | rfl | (simp [errW_none, errW_some] <;> rfl)) | (simp [*, errW_none, errW_some] <;> rfl), by repeat (first | (with_reducible first | exact HB.out | apply bA | apply bN | apply bD) | exact HB.out)⟩

end Go.Proofs.YtpdgjhaimfpacaaDoor.M
