-- By drive.py (this session's program), out of the translation. Lean checks it.
import Derived.Test.YtpdgjhaimfpacaaDoorA0
import Derived.Test.YtpdgjhaimfpacaaDoorA6
import Derived.Test.YtpdgjhaimfpacaaDoorA8
import Derived.Test.YtpdgjhaimfpacaaDoorE3
namespace Go.Proofs.YtpdgjhaimfpacaaDoor.M
open Go.Proofs.YtpdgjhaimfpacaaDoor.MB Go.Proofs.YtpdgjhaimfpacaaDoor
open Go.RowKit Go.Proofs.YtpdgjhaimfpacaaDoorW.PrintWords Go.Proofs.YtpdgjhaimfpacaaDoorW.PrintLast Go.Proofs.YtpdgjhaimfpacaaDoorW.PrintMore
attribute [local go_sem] max2_int min2_int max_two min_two max_three min_three max_four min_four   -- for this text's walks alone
set_option linter.unusedVariables false
set_option linter.unusedSimpArgs false
attribute [local go_sem] add64_run sub64_run

/-! ### isohyetlaw04_DeciZeros: function 5 -/
mutual
def isohyetlaw04_DeciZeros.j0 : Nat → Int → Int → ByteArray → ByteArray → Int → Int → Option (Bool)
 | 0, _, _, _, _, _, _ => none
 | k + 1, x0, x1, x7, x8, x392000, x392001 => isohyetlaw04_DeciZeros.l0 k x0 x1 x7 x8 (Int.tmod x392000 30) 0 x392000 x392001
def isohyetlaw04_DeciZeros.l0 : Nat → Int → Int → ByteArray → ByteArray → Int → Int → Int → Int → Option (Bool)
 | 0, _, _, _, _, _, _, _, _ => none
 | k + 1, x0, x1, x7, x8, x28, x29, x392000, x392001 => if x29 < x28 then (if 1 + x7.size ≤ 9223372036854775807 then (isohyetlaw04_DeciZeros.l0 k x0 x1 ((⟨#[48]⟩ : ByteArray) ++ x7) x8 x28 ((x29 + 1) % 256) x392000 x392001) else (none)) else (if x1 = 0 then (isohyetlaw04_DeciZeros.j2 k x0 x1 x7 x8 (decide ((Int.tmod x392001 30) > 0)) x392000 x392001) else (isohyetlaw04_DeciZeros.j2 k x0 x1 x7 x8 false x392000 x392001))
def isohyetlaw04_DeciZeros.j2 : Nat → Int → Int → ByteArray → ByteArray → Bool → Int → Int → Option (Bool)
 | 0, _, _, _, _, _, _, _ => none
 | k + 1, x0, x1, x7, x8, x41, x392000, x392001 => if x41 = true then (if x7.size + 1 ≤ 9223372036854775807 then (isohyetlaw04_DeciZeros.j3 k x0 x1 (x7 ++ (⟨#[46]⟩ : ByteArray)) x8 x392000 x392001) else (none)) else (isohyetlaw04_DeciZeros.j3 k x0 x1 x7 x8 x392000 x392001)
def isohyetlaw04_DeciZeros.j3 : Nat → Int → Int → ByteArray → ByteArray → Int → Int → Option (Bool)
 | 0, _, _, _, _, _, _ => none
 | k + 1, x0, x1, x7, x8, x392000, x392001 => isohyetlaw04_DeciZeros.l1 k x0 x1 x7 x8 (Int.tmod x392001 30) 0
def isohyetlaw04_DeciZeros.l1 : Nat → Int → Int → ByteArray → ByteArray → Int → Int → Option (Bool)
 | 0, _, _, _, _, _, _ => none
 | k + 1, x0, x1, x7, x8, x46, x47 => if x47 < x46 then (if x7.size + 1 ≤ 9223372036854775807 then (isohyetlaw04_DeciZeros.l1 k x0 x1 (x7 ++ (⟨#[48]⟩ : ByteArray)) x8 x46 ((x47 + 1) % 256)) else (none)) else (if x8.size + x7.size ≤ 9223372036854775807 then ((deci_Parse.f k (x8 ++ x7) x1).bind fun bt394 => (if bt394.2 = 0 then (some (bt394.1 == x0)) else (some false))) else (none))
end
def isohyetlaw04_DeciZeros.f (k : Nat) (a0 : Int) (a1 : Int) (a2_0 : Int) (a2_1 : Int) : Option (Bool) := (isohyetlaw04_fit.f k).bind fun t392 => (if t392 = true then ((isohyetlaw04_text.f k (mn (mx a0 (-2147483648)) 2147483648) (mn (mx a1 0) 9)).bind fun t393 => (if (mn (mx a0 (-2147483648)) 2147483648) < 0 then (if 1 ≤ (t393.size : Int) then (isohyetlaw04_DeciZeros.j0 k (mn (mx a0 (-2147483648)) 2147483648) (mn (mx a1 0) 9) (t393.extract 1 t393.size) (⟨#[45]⟩ : ByteArray) a2_0 a2_1) else (none)) else (isohyetlaw04_DeciZeros.j0 k (mn (mx a0 (-2147483648)) 2147483648) (mn (mx a1 0) 9) t393 (⟨#[43]⟩ : ByteArray) a2_0 a2_1))) else (some false))
theorem isohyetlaw04_DeciZeros.mono_l : ∀ k, (∀ y0 y1 y2 y3 y4 y5, LeO (isohyetlaw04_DeciZeros.j0 k y0 y1 y2 y3 y4 y5) (isohyetlaw04_DeciZeros.j0 (k + 1) y0 y1 y2 y3 y4 y5)) ∧ (∀ y0 y1 y2 y3 y4 y5 y6 y7, LeO (isohyetlaw04_DeciZeros.l0 k y0 y1 y2 y3 y4 y5 y6 y7) (isohyetlaw04_DeciZeros.l0 (k + 1) y0 y1 y2 y3 y4 y5 y6 y7)) ∧ (∀ y0 y1 y2 y3 y4 y5 y6, LeO (isohyetlaw04_DeciZeros.j2 k y0 y1 y2 y3 y4 y5 y6) (isohyetlaw04_DeciZeros.j2 (k + 1) y0 y1 y2 y3 y4 y5 y6)) ∧ (∀ y0 y1 y2 y3 y4 y5, LeO (isohyetlaw04_DeciZeros.j3 k y0 y1 y2 y3 y4 y5) (isohyetlaw04_DeciZeros.j3 (k + 1) y0 y1 y2 y3 y4 y5)) ∧ (∀ y0 y1 y2 y3 y4 y5, LeO (isohyetlaw04_DeciZeros.l1 k y0 y1 y2 y3 y4 y5) (isohyetlaw04_DeciZeros.l1 (k + 1) y0 y1 y2 y3 y4 y5))
 | 0 => ⟨fun _ _ _ _ _ _ r h => by simp [isohyetlaw04_DeciZeros.j0] at h, fun _ _ _ _ _ _ _ _ r h => by simp [isohyetlaw04_DeciZeros.l0] at h, fun _ _ _ _ _ _ _ r h => by simp [isohyetlaw04_DeciZeros.j2] at h, fun _ _ _ _ _ _ r h => by simp [isohyetlaw04_DeciZeros.j3] at h, fun _ _ _ _ _ _ r h => by simp [isohyetlaw04_DeciZeros.l1] at h⟩
 | k + 1 => by
  obtain ⟨ih0, ih1, ih2, ih3, ih4⟩ := isohyetlaw04_DeciZeros.mono_l k
  refine ⟨?_, ?_, ?_, ?_, ?_⟩
  ·intro y0 y1 y2 y3 y4 y5
   unfold isohyetlaw04_DeciZeros.j0
   repeat' first
   | (with_reducible exact ih0 _ _ _ _ _ _)
   | (with_reducible exact ih1 _ _ _ _ _ _ _ _)
   | (with_reducible exact ih2 _ _ _ _ _ _ _)
   | (with_reducible exact ih3 _ _ _ _ _ _)
   | (with_reducible exact ih4 _ _ _ _ _ _)
   | (with_reducible exact deci_Parse.mono _ _ _)
   | (with_reducible exact isohyetlaw04_fit.mono _)
   | (with_reducible exact isohyetlaw04_text.mono _ _ _)
   | (with_reducible exact LeO.refl _)
   | (with_reducible exact LeO.none _)
   | (with_reducible refine LeO.ite ?_ ?_)
   | (with_reducible refine LeO.bind ?_ (fun _ => ?_))
   | exact ih0 _ _ _ _ _ _
   | exact ih1 _ _ _ _ _ _ _ _
   | exact ih2 _ _ _ _ _ _ _
   | exact ih3 _ _ _ _ _ _
   | exact ih4 _ _ _ _ _ _
   | exact deci_Parse.mono _ _ _
   | exact isohyetlaw04_fit.mono _
   | exact isohyetlaw04_text.mono _ _ _
   | exact LeO.none _
   | refine LeO.ite ?_ ?_
   | refine LeO.bind ?_ (fun _ => ?_)
  ·intro y0 y1 y2 y3 y4 y5 y6 y7
   unfold isohyetlaw04_DeciZeros.l0
   repeat' first
   | (with_reducible exact ih0 _ _ _ _ _ _)
   | (with_reducible exact ih1 _ _ _ _ _ _ _ _)
   | (with_reducible exact ih2 _ _ _ _ _ _ _)
   | (with_reducible exact ih3 _ _ _ _ _ _)
   | (with_reducible exact ih4 _ _ _ _ _ _)
   | (with_reducible exact deci_Parse.mono _ _ _)
   | (with_reducible exact isohyetlaw04_fit.mono _)
   | (with_reducible exact isohyetlaw04_text.mono _ _ _)
   | (with_reducible exact LeO.refl _)
   | (with_reducible exact LeO.none _)
   | (with_reducible refine LeO.ite ?_ ?_)
   | (with_reducible refine LeO.bind ?_ (fun _ => ?_))
   | exact ih0 _ _ _ _ _ _
   | exact ih1 _ _ _ _ _ _ _ _
   | exact ih2 _ _ _ _ _ _ _
   | exact ih3 _ _ _ _ _ _
   | exact ih4 _ _ _ _ _ _
   | exact deci_Parse.mono _ _ _
   | exact isohyetlaw04_fit.mono _
   | exact isohyetlaw04_text.mono _ _ _
   | exact LeO.none _
   | refine LeO.ite ?_ ?_
   | refine LeO.bind ?_ (fun _ => ?_)
  ·intro y0 y1 y2 y3 y4 y5 y6
   unfold isohyetlaw04_DeciZeros.j2
   repeat' first
   | (with_reducible exact ih0 _ _ _ _ _ _)
   | (with_reducible exact ih1 _ _ _ _ _ _ _ _)
   | (with_reducible exact ih2 _ _ _ _ _ _ _)
   | (with_reducible exact ih3 _ _ _ _ _ _)
   | (with_reducible exact ih4 _ _ _ _ _ _)
   | (with_reducible exact deci_Parse.mono _ _ _)
   | (with_reducible exact isohyetlaw04_fit.mono _)
   | (with_reducible exact isohyetlaw04_text.mono _ _ _)
   | (with_reducible exact LeO.refl _)
   | (with_reducible exact LeO.none _)
   | (with_reducible refine LeO.ite ?_ ?_)
   | (with_reducible refine LeO.bind ?_ (fun _ => ?_))
   | exact ih0 _ _ _ _ _ _
   | exact ih1 _ _ _ _ _ _ _ _
   | exact ih2 _ _ _ _ _ _ _
   | exact ih3 _ _ _ _ _ _
   | exact ih4 _ _ _ _ _ _
   | exact deci_Parse.mono _ _ _
   | exact isohyetlaw04_fit.mono _
   | exact isohyetlaw04_text.mono _ _ _
   | exact LeO.none _
   | refine LeO.ite ?_ ?_
   | refine LeO.bind ?_ (fun _ => ?_)
  ·intro y0 y1 y2 y3 y4 y5
   unfold isohyetlaw04_DeciZeros.j3
   repeat' first
   | (with_reducible exact ih0 _ _ _ _ _ _)
   | (with_reducible exact ih1 _ _ _ _ _ _ _ _)
   | (with_reducible exact ih2 _ _ _ _ _ _ _)
   | (with_reducible exact ih3 _ _ _ _ _ _)
   | (with_reducible exact ih4 _ _ _ _ _ _)
   | (with_reducible exact deci_Parse.mono _ _ _)
   | (with_reducible exact isohyetlaw04_fit.mono _)
   | (with_reducible exact isohyetlaw04_text.mono _ _ _)
   | (with_reducible exact LeO.refl _)
   | (with_reducible exact LeO.none _)
   | (with_reducible refine LeO.ite ?_ ?_)
   | (with_reducible refine LeO.bind ?_ (fun _ => ?_))
   | exact ih0 _ _ _ _ _ _
   | exact ih1 _ _ _ _ _ _ _ _
   | exact ih2 _ _ _ _ _ _ _
   | exact ih3 _ _ _ _ _ _
   | exact ih4 _ _ _ _ _ _
   | exact deci_Parse.mono _ _ _
   | exact isohyetlaw04_fit.mono _
   | exact isohyetlaw04_text.mono _ _ _
   | exact LeO.none _
   | refine LeO.ite ?_ ?_
   | refine LeO.bind ?_ (fun _ => ?_)
  ·intro y0 y1 y2 y3 y4 y5
   unfold isohyetlaw04_DeciZeros.l1
   repeat' first
   | (with_reducible exact ih0 _ _ _ _ _ _)
   | (with_reducible exact ih1 _ _ _ _ _ _ _ _)
   | (with_reducible exact ih2 _ _ _ _ _ _ _)
   | (with_reducible exact ih3 _ _ _ _ _ _)
   | (with_reducible exact ih4 _ _ _ _ _ _)
   | (with_reducible exact deci_Parse.mono _ _ _)
   | (with_reducible exact isohyetlaw04_fit.mono _)
   | (with_reducible exact isohyetlaw04_text.mono _ _ _)
   | (with_reducible exact LeO.refl _)
   | (with_reducible exact LeO.none _)
   | (with_reducible refine LeO.ite ?_ ?_)
   | (with_reducible refine LeO.bind ?_ (fun _ => ?_))
   | exact ih0 _ _ _ _ _ _
   | exact ih1 _ _ _ _ _ _ _ _
   | exact ih2 _ _ _ _ _ _ _
   | exact ih3 _ _ _ _ _ _
   | exact ih4 _ _ _ _ _ _
   | exact deci_Parse.mono _ _ _
   | exact isohyetlaw04_fit.mono _
   | exact isohyetlaw04_text.mono _ _ _
   | exact LeO.none _
   | refine LeO.ite ?_ ?_
   | refine LeO.bind ?_ (fun _ => ?_)
theorem isohyetlaw04_DeciZeros.mono : ∀ a0 a1 a2 a3 k, LeO (isohyetlaw04_DeciZeros.f k a0 a1 a2 a3) (isohyetlaw04_DeciZeros.f (k + 1) a0 a1 a2 a3) := by
 intro a0 a1 a2 a3 k
 obtain ⟨ih0, ih1, ih2, ih3, ih4⟩ := isohyetlaw04_DeciZeros.mono_l k
 unfold isohyetlaw04_DeciZeros.f
 repeat' first
   | (with_reducible exact ih0 _ _ _ _ _ _)
   | (with_reducible exact ih1 _ _ _ _ _ _ _ _)
   | (with_reducible exact ih2 _ _ _ _ _ _ _)
   | (with_reducible exact ih3 _ _ _ _ _ _)
   | (with_reducible exact ih4 _ _ _ _ _ _)
   | (with_reducible exact deci_Parse.mono _ _ _)
   | (with_reducible exact isohyetlaw04_fit.mono _)
   | (with_reducible exact isohyetlaw04_text.mono _ _ _)
   | (with_reducible exact LeO.refl _)
   | (with_reducible exact LeO.none _)
   | (with_reducible refine LeO.ite ?_ ?_)
   | (with_reducible refine LeO.bind ?_ (fun _ => ?_))
   | exact ih0 _ _ _ _ _ _
   | exact ih1 _ _ _ _ _ _ _ _
   | exact ih2 _ _ _ _ _ _ _
   | exact ih3 _ _ _ _ _ _
   | exact ih4 _ _ _ _ _ _
   | exact deci_Parse.mono _ _ _
   | exact isohyetlaw04_fit.mono _
   | exact isohyetlaw04_text.mono _ _ _
   | exact LeO.none _
   | refine LeO.ite ?_ ?_
   | refine LeO.bind ?_ (fun _ => ?_)
set_option maxHeartbeats 8000000 in
set_option maxRecDepth 100000 in
theorem isohyetlaw04_DeciZeros.calls (k : Nat) (a0 : Int) (a1 : Int) (a2_0 : Int) (a2_1 : Int) (r : Bool) (w : World) (HT0 : MB.TabW w) (HTRUE : r = true) (h : isohyetlaw04_DeciZeros.f k a0 a1 a2_0 a2_1 = some r) :
  Calls Tryd.prog 5 #[.int .i64 a0, .int .i64 a1, .agg #[.int .u8 a2_0, .int .u8 a2_1]] w fun e w' => e = .returned (.bool r) ∧ Below w.heap.size w w' := by
 have hu35 := Tryd.underlying35
 have HB := Aside0.mk (Below.refl w.heap.size w)
 have H : ((isohyetlaw04_fit.f k).bind fun t392 => (if t392 = true then ((isohyetlaw04_text.f k (mn (mx a0 (-2147483648)) 2147483648) (mn (mx a1 0) 9)).bind fun t393 => (if (mn (mx a0 (-2147483648)) 2147483648) < 0 then (if 1 ≤ (t393.size : Int) then (isohyetlaw04_DeciZeros.j0 k (mn (mx a0 (-2147483648)) 2147483648) (mn (mx a1 0) 9) (t393.extract 1 t393.size) (⟨#[45]⟩ : ByteArray) a2_0 a2_1) else (none)) else (isohyetlaw04_DeciZeros.j0 k (mn (mx a0 (-2147483648)) 2147483648) (mn (mx a1 0) 9) t393 (⟨#[43]⟩ : ByteArray) a2_0 a2_1))) else (some false))) = some r := h
 clear h
 replace H := Option.bind_eq_some_iff.mp H
 obtain ⟨t392, A40, H⟩ := H
 replace H : (if t392 = true then ((isohyetlaw04_text.f k (mn (mx a0 (-2147483648)) 2147483648) (mn (mx a1 0) 9)).bind fun t393 => (if (mn (mx a0 (-2147483648)) 2147483648) < 0 then (if 1 ≤ (t393.size : Int) then (isohyetlaw04_DeciZeros.j0 k (mn (mx a0 (-2147483648)) 2147483648) (mn (mx a1 0) 9) (t393.extract 1 t393.size) (⟨#[45]⟩ : ByteArray) a2_0 a2_1) else (none)) else (isohyetlaw04_DeciZeros.j0 k (mn (mx a0 (-2147483648)) 2147483648) (mn (mx a1 0) 9) t393 (⟨#[43]⟩ : ByteArray) a2_0 a2_1))) else (some false)) = some r := H
 have A4 := Aside0.mk A40
 clear A40
 by_cases c5 : t392 = true
 ·subst c5
  have H1 : ((isohyetlaw04_text.f k (mn (mx a0 (-2147483648)) 2147483648) (mn (mx a1 0) 9)).bind fun t393 => (if (mn (mx a0 (-2147483648)) 2147483648) < 0 then (if 1 ≤ (t393.size : Int) then (isohyetlaw04_DeciZeros.j0 k (mn (mx a0 (-2147483648)) 2147483648) (mn (mx a1 0) 9) (t393.extract 1 t393.size) (⟨#[45]⟩ : ByteArray) a2_0 a2_1) else (none)) else (isohyetlaw04_DeciZeros.j0 k (mn (mx a0 (-2147483648)) 2147483648) (mn (mx a1 0) 9) t393 (⟨#[43]⟩ : ByteArray) a2_0 a2_1))) = some r := by rw [if_pos rfl] at H; exact H
  clear H
  have H := H1
  clear H1
  obtain ⟨ji6, hji6⟩ : ∃ j_ : Int, (mx a1 0) = j_ := ⟨_, rfl⟩
  replace H : ((isohyetlaw04_text.f k (mn (mx a0 (-2147483648)) 2147483648) (mn (ji6) 9)).bind fun t393 => (if (mn (mx a0 (-2147483648)) 2147483648) < 0 then (if 1 ≤ (t393.size : Int) then (isohyetlaw04_DeciZeros.j0 k (mn (mx a0 (-2147483648)) 2147483648) (mn (ji6) 9) (t393.extract 1 t393.size) (⟨#[45]⟩ : ByteArray) a2_0 a2_1) else (none)) else (isohyetlaw04_DeciZeros.j0 k (mn (mx a0 (-2147483648)) 2147483648) (mn (ji6) 9) t393 (⟨#[43]⟩ : ByteArray) a2_0 a2_1))) = some r := by first | (rw [hji6] at H; exact H) | (simp only [hji6] at H ⊢; exact H)
  (try rw [hji6] at A4)
  (try (have hji6l : 0 ≤ ji6 := by (rw [← hji6]; unfold mx; (repeat' split) <;> omega)))
  (try (have hji6m : 0 ≤ ji6 := by omega))
  have hji6_ : (if a1 < 0 then 0 else a1) = ji6 := hji6
  obtain ⟨ji7, hji7⟩ : ∃ j_ : Int, (mn (ji6) 9) = j_ := ⟨_, rfl⟩
  replace H : ((isohyetlaw04_text.f k (mn (mx a0 (-2147483648)) 2147483648) (ji7)).bind fun t393 => (if (mn (mx a0 (-2147483648)) 2147483648) < 0 then (if 1 ≤ (t393.size : Int) then (isohyetlaw04_DeciZeros.j0 k (mn (mx a0 (-2147483648)) 2147483648) ji7 (t393.extract 1 t393.size) (⟨#[45]⟩ : ByteArray) a2_0 a2_1) else (none)) else (isohyetlaw04_DeciZeros.j0 k (mn (mx a0 (-2147483648)) 2147483648) ji7 t393 (⟨#[43]⟩ : ByteArray) a2_0 a2_1))) = some r := by first | (rw [hji7] at H; exact H) | (simp only [hji7] at H ⊢; exact H)
  (try rw [hji7] at A4)
  have hji7_ : (if 9 < (ji6) then 9 else (ji6)) = ji7 := hji7
  obtain ⟨ji8, hji8⟩ : ∃ j_ : Int, (mx a0 (-2147483648)) = j_ := ⟨_, rfl⟩
  replace H : ((isohyetlaw04_text.f k (mn (ji8) 2147483648) (ji7)).bind fun t393 => (if (mn (ji8) 2147483648) < 0 then (if 1 ≤ (t393.size : Int) then (isohyetlaw04_DeciZeros.j0 k (mn (ji8) 2147483648) ji7 (t393.extract 1 t393.size) (⟨#[45]⟩ : ByteArray) a2_0 a2_1) else (none)) else (isohyetlaw04_DeciZeros.j0 k (mn (ji8) 2147483648) ji7 t393 (⟨#[43]⟩ : ByteArray) a2_0 a2_1))) = some r := by first | (rw [hji8] at H; exact H) | (simp only [hji8] at H ⊢; exact H)
  (try rw [hji8] at A4)
  have hji8_ : (if a0 < (-2147483648) then (-2147483648) else a0) = ji8 := hji8
  obtain ⟨ji9, hji9⟩ : ∃ j_ : Int, (mn (ji8) 2147483648) = j_ := ⟨_, rfl⟩
  replace H : ((isohyetlaw04_text.f k (ji9) (ji7)).bind fun t393 => (if (ji9) < 0 then (if 1 ≤ (t393.size : Int) then (isohyetlaw04_DeciZeros.j0 k ji9 ji7 (t393.extract 1 t393.size) (⟨#[45]⟩ : ByteArray) a2_0 a2_1) else (none)) else (isohyetlaw04_DeciZeros.j0 k ji9 ji7 t393 (⟨#[43]⟩ : ByteArray) a2_0 a2_1))) = some r := by first | (rw [hji9] at H; exact H) | (simp only [hji9] at H ⊢; exact H)
  (try rw [hji9] at A4)
  have hji9_ : (if 2147483648 < (ji8) then 2147483648 else (ji8)) = ji9 := hji9
  replace H := Option.bind_eq_some_iff.mp H
  obtain ⟨t393, A100, H⟩ := H
  replace H : (if (ji9) < 0 then (if 1 ≤ (t393.size : Int) then (isohyetlaw04_DeciZeros.j0 k ji9 ji7 (t393.extract 1 t393.size) (⟨#[45]⟩ : ByteArray) a2_0 a2_1) else (none)) else (isohyetlaw04_DeciZeros.j0 k ji9 ji7 t393 (⟨#[43]⟩ : ByteArray) a2_0 a2_1)) = some r := H
  have A10 := Aside0.mk A100
  clear A100
  have HC11 := Aside0.mk H
  clear H
  go_enter Tryd.func5, Tryd.ntmps5
  go_upto_if 23 with (first | ((with_reducible refine gate_dst (N := 5) rfl ?_); refine box_event ?hg (N := 5) ?hd (cs := #[.int .u8 a2_0, .int .u8 a2_1]) (t := 35) ?hr ?_; (case hd => rfl); (case hg => rfl); (case hr => first | (go_simp; done) | (go_simp; rfl)); intro gb391 hg w12 hbox hb; have n0_ := Aside0.mk (below_step (gB HB.out) hb); have n1_ := Aside0.mk (hbox); have n2_ := Aside0.mk ((by rw [hg]; exact (below_size (gB HB.out)) : w.heap.size ≤ gb391)); have n3_ := Aside0.mk ((by rw [hg]; exact (below_size (gB HB.out)) : w.heap.size ≤ gb391)); clear HB; have HB := n0_; have BK391 := n1_; have GW391 := n2_; have GE391 := n3_; clear n0_ n1_ n2_ n3_; clear hb hbox hg) | (go_at_call 8; (with_reducible refine (isohyetlaw04_fit.calls k  true _ (MB.tab_below HT0 (gB HB.out)) rfl A4.out).mono ?_); (try clear A4); rintro e w13 ⟨rfl, hb⟩; have n0_ := Aside0.mk (blk_below (gK BK391.out) hb); have n1_ := Aside0.mk (below_step (by repeat (first | (with_reducible first | exact HB.out | apply bA | apply bN | apply bD | refine bS ?_ GE391.out) | exact HB.out)) hb); clear BK391; clear HB; have BK391 := n0_; have HB := n1_; clear n0_ n1_; (try clear hb); (try clear hb2); (try clear hk); (try clear hi)) | (go_at_call 12; (with_reducible refine (isohyetlaw04_text.calls k ji9 ji7 t393 _ A10.out).mono ?_); (try clear A10); rintro e w14 ⟨rfl, hb⟩; have n0_ := Aside0.mk (blk_below (gK BK391.out) hb); have n1_ := Aside0.mk (below_step (by repeat (first | (with_reducible first | exact HB.out | apply bA | apply bN | apply bD | refine bS ?_ GE391.out) | exact HB.out)) hb); clear BK391; clear HB; have BK391 := n0_; have HB := n1_; clear n0_ n1_; (try clear hb); (try clear hb2); (try clear hk); (try clear hi)))
  repeat (go_quiet (first | ((with_reducible refine gate_dst (N := 5) rfl ?_); refine box_event ?hg (N := 5) ?hd (cs := #[.int .u8 a2_0, .int .u8 a2_1]) (t := 35) ?hr ?_; (case hd => rfl); (case hg => rfl); (case hr => first | (go_simp; done) | (go_simp; rfl)); intro gb391 hg w12 hbox hb; have n0_ := Aside0.mk (below_step (gB HB.out) hb); have n1_ := Aside0.mk (hbox); have n2_ := Aside0.mk ((by rw [hg]; exact (below_size (gB HB.out)) : w.heap.size ≤ gb391)); have n3_ := Aside0.mk ((by rw [hg]; exact (below_size (gB HB.out)) : w.heap.size ≤ gb391)); clear HB; have HB := n0_; have BK391 := n1_; have GW391 := n2_; have GE391 := n3_; clear n0_ n1_ n2_ n3_; clear hb hbox hg) | (go_at_call 8; (with_reducible refine (isohyetlaw04_fit.calls k  true _ (MB.tab_below HT0 (gB HB.out)) rfl A4.out).mono ?_); (try clear A4); rintro e w13 ⟨rfl, hb⟩; have n0_ := Aside0.mk (blk_below (gK BK391.out) hb); have n1_ := Aside0.mk (below_step (by repeat (first | (with_reducible first | exact HB.out | apply bA | apply bN | apply bD | refine bS ?_ GE391.out) | exact HB.out)) hb); clear BK391; clear HB; have BK391 := n0_; have HB := n1_; clear n0_ n1_; (try clear hb); (try clear hb2); (try clear hk); (try clear hi)) | (go_at_call 12; (with_reducible refine (isohyetlaw04_text.calls k ji9 ji7 t393 _ A10.out).mono ?_); (try clear A10); rintro e w14 ⟨rfl, hb⟩; have n0_ := Aside0.mk (blk_below (gK BK391.out) hb); have n1_ := Aside0.mk (below_step (by repeat (first | (with_reducible first | exact HB.out | apply bA | apply bN | apply bD | refine bS ?_ GE391.out) | exact HB.out)) hb); clear BK391; clear HB; have BK391 := n0_; have HB := n1_; clear n0_ n1_; (try clear hb); (try clear hb2); (try clear hk); (try clear hi))); go_upto_if 23 with (first | ((with_reducible refine gate_dst (N := 5) rfl ?_); refine box_event ?hg (N := 5) ?hd (cs := #[.int .u8 a2_0, .int .u8 a2_1]) (t := 35) ?hr ?_; (case hd => rfl); (case hg => rfl); (case hr => first | (go_simp; done) | (go_simp; rfl)); intro gb391 hg w12 hbox hb; have n0_ := Aside0.mk (below_step (gB HB.out) hb); have n1_ := Aside0.mk (hbox); have n2_ := Aside0.mk ((by rw [hg]; exact (below_size (gB HB.out)) : w.heap.size ≤ gb391)); have n3_ := Aside0.mk ((by rw [hg]; exact (below_size (gB HB.out)) : w.heap.size ≤ gb391)); clear HB; have HB := n0_; have BK391 := n1_; have GW391 := n2_; have GE391 := n3_; clear n0_ n1_ n2_ n3_; clear hb hbox hg) | (go_at_call 8; (with_reducible refine (isohyetlaw04_fit.calls k  true _ (MB.tab_below HT0 (gB HB.out)) rfl A4.out).mono ?_); (try clear A4); rintro e w13 ⟨rfl, hb⟩; have n0_ := Aside0.mk (blk_below (gK BK391.out) hb); have n1_ := Aside0.mk (below_step (by repeat (first | (with_reducible first | exact HB.out | apply bA | apply bN | apply bD | refine bS ?_ GE391.out) | exact HB.out)) hb); clear BK391; clear HB; have BK391 := n0_; have HB := n1_; clear n0_ n1_; (try clear hb); (try clear hb2); (try clear hk); (try clear hi)) | (go_at_call 12; (with_reducible refine (isohyetlaw04_text.calls k ji9 ji7 t393 _ A10.out).mono ?_); (try clear A10); rintro e w14 ⟨rfl, hb⟩; have n0_ := Aside0.mk (blk_below (gK BK391.out) hb); have n1_ := Aside0.mk (below_step (by repeat (first | (with_reducible first | exact HB.out | apply bA | apply bN | apply bD | refine bS ?_ GE391.out) | exact HB.out)) hb); clear BK391; clear HB; have BK391 := n0_; have HB := n1_; clear n0_ n1_; (try clear hb); (try clear hb2); (try clear hk); (try clear hi))))
  (try simp only [Act.put, List.setIfInBounds_toArray, List.set_cons_zero, List.set_cons_succ])
  go_cut [7, 8] (fun v7 v8 wc => ∃ (kq : Nat) (x7_10 : ByteArray) (x8_10 : ByteArray), v7 = .string x7_10 ∧ v8 = .string x8_10 ∧ Aside0 (isohyetlaw04_DeciZeros.j0 kq ji9 ji7 x7_10 x8_10 a2_0 a2_1 = some r) ∧ Aside0 (kq ≤ k) ∧ Aside0 (wc.heap[gb391]? = some (.cells #[.int .u8 a2_0, .int .u8 a2_1] 35 (0, 0))) ∧ Aside0 (Below w.heap.size w wc))
  case first =>
   have H := HC11.out
   clear HC11
   by_cases c15 : (ji9) < 0
   ·rw [if_pos c15] at H
    have c15b0 : decide ((ji9) < 0) = true := decide_eq_true c15
    clear c15
    (first | rw [c15b0] | rw [c15b1] | (simp only [i64_w, i32_w]; rw [c15b0]) | skip)
    by_cases c16 : 1 ≤ (t393.size : Int)
    ·rw [if_pos c16] at H
     have c16b0 := eq_true c16
     have c16b1 : decide (1 ≤ (t393.size : Int)) = true := decide_eq_true c16
     clear c16
     have H' := Aside0.mk H
     clear H
     go_wp2
     repeat (go_quiet (fail); try go_wp2)
     go_meet
     case rel => exact ⟨_, (t393.extract 1 t393.size), ((⟨#[45]⟩ : ByteArray)), (by first | rfl | (simp; done) | (simp [*]; done)), (by first | rfl | (simp; done) | (simp [*]; done)), H', ⟨by first | omega | exact Nat.le_refl _⟩, ⟨by (with_reducible repeat (first | refine blk_drewN ?_ _ | refine blk_drew ?_ | refine blk_alloc ?_ _)); exact BK391.out⟩, ⟨by repeat (first | (with_reducible first | exact HB.out | apply bA | apply bN | apply bD | refine bS ?_ GE391.out) | exact HB.out)⟩⟩
    ·rw [if_neg c16] at H
     exact absurd H (by simp)
   ·rw [if_neg c15] at H
    have c15b0 : decide ((ji9) < 0) = false := decide_eq_false c15
    clear c15
    (first | rw [c15b0] | rw [c15b1] | (simp only [i64_w, i32_w]; rw [c15b0]) | skip)
    have H' := Aside0.mk H
    clear H
    go_wp2
    repeat (go_quiet (fail); try go_wp2)
    go_meet
    case rel => exact ⟨_, (t393), ((⟨#[43]⟩ : ByteArray)), (by first | rfl | (simp; done) | (simp [*]; done)), (by first | rfl | (simp; done) | (simp [*]; done)), H', ⟨by first | omega | exact Nat.le_refl _⟩, ⟨by (with_reducible repeat (first | refine blk_drewN ?_ _ | refine blk_drew ?_ | refine blk_alloc ?_ _)); exact BK391.out⟩, ⟨by repeat (first | (with_reducible first | exact HB.out | apply bA | apply bN | apply bD | refine bS ?_ GE391.out) | exact HB.out)⟩⟩
  case rest =>
   clear HC11
   try clear c1
   try clear p2
   try clear c5
   try clear c15
   try clear c15b0
   try clear c15b1
   try clear c16
   try clear c16b0
   try clear c16b1
   obtain ⟨kq, x7_10, x8_10, rfl, rfl, HA, HJ10, BK391, HB⟩ := hcut
   cases kq with
   | zero => exact absurd HA.out (by simp [isohyetlaw04_DeciZeros.j0])
   | succ kj10 =>
    have H := HA.out
    clear HA
    simp only [isohyetlaw04_DeciZeros.j0] at H
    have H' := Aside0.mk H
    clear H
    have hcz17_0 : wc.cell? ⟨gb391, 0, none⟩ = some (.int .u8 a2_0) := (blk_cell BK391.out 0).trans rfl
    have hcz17_1 : wc.cell? ⟨gb391, 1, none⟩ = some (.int .u8 a2_1) := (blk_cell BK391.out 1).trans rfl
    have hfz17_0 := blk_frozen BK391.out 0
    have hfz17_1 := blk_frozen BK391.out 1
    go_wp2
    repeat (go_quiet (fail); try go_wp2)
    go_loopg [7, 29] kj10 (fun kq v7 v29 w' => ∃ (x7_2 : ByteArray) (x29_2 : Int), v7 = .string x7_2 ∧ v29 = .int .u8 x29_2 ∧ Aside0 (isohyetlaw04_DeciZeros.l0 kq ji9 ji7 x7_2 x8_10 (Int.tmod a2_0 30) x29_2 a2_0 a2_1 = some r) ∧ Aside0 (kq ≤ kj10) ∧ Aside0 (w'.heap[gb391]? = some (.cells #[.int .u8 a2_0, .int .u8 a2_1] 35 (0, 0))) ∧ Aside0 (Below w.heap.size w w'))
    case atStart => exact ⟨(x7_10), (0), (by first | rfl | (simp; done) | (simp [*]; done)), (by first | rfl | (simp; done) | (simp [*]; done)), H', ⟨Nat.le_refl _⟩, ⟨by (with_reducible repeat (first | refine blk_drewN ?_ _ | refine blk_drew ?_ | refine blk_alloc ?_ _)); exact BK391.out⟩, ⟨by repeat (first | (with_reducible first | exact HB.out | apply bA | apply bN | apply bD | refine bS ?_ GE391.out) | exact HB.out)⟩⟩
    case round =>
     clear H'
     try clear c1
     try clear p2
     try clear c5
     try clear c15
     try clear c15b0
     try clear c15b1
     try clear c16
     try clear c16b0
     try clear c16b1
     try clear hcz17_0
     try clear hcz17_1
     try clear hfz17_0
     try clear hfz17_1
     try clear p2
     obtain ⟨x7_2, x29_2, rfl, rfl, HA, HK2, BK391, HB⟩ := hrel
     cases gk with
     | zero => exact absurd HA.out (by simp [isohyetlaw04_DeciZeros.l0])
     | succ k2 =>
      have H := HA.out
      clear HA
      simp only [isohyetlaw04_DeciZeros.l0] at H
      by_cases c18 : x29_2 < (Int.tmod a2_0 30)
      ·rw [if_pos c18] at H
       have c18b0 : decide (x29_2 < (Int.tmod a2_0 30)) = true := decide_eq_true c18
       clear c18
       by_cases c19 : 1 + x7_2.size ≤ 9223372036854775807
       ·rw [if_pos c19] at H
        have c19b0 := eq_true c19
        have c19b1 : decide (1 + x7_2.size ≤ 9223372036854775807) = true := decide_eq_true c19
        try have c19b2 : (9223372036854775807 < 1 + x7_2.size) = False := eq_false (Nat.not_lt.2 c19)
        have H' := Aside0.mk H
        clear H
        go_wp2
        repeat (go_quiet (fail); try go_wp2)
        go_roundg k2
        case measure => have := HJ10.out; have := HK2.out; omega
        case rel => exact ⟨((⟨#[48]⟩ : ByteArray) ++ x7_2), ((x29_2 + 1) % 256), (by first | rfl | (simp; done) | (simp [*]; done)), (by first | rfl | (simp; done) | (simp [*]; done)), H', ⟨by have := HJ10.out; have := HK2.out; omega⟩, ⟨by (with_reducible repeat (first | refine blk_drewN ?_ _ | refine blk_drew ?_ | refine blk_alloc ?_ _)); exact BK391.out⟩, ⟨by repeat (first | (with_reducible first | exact HB.out | apply bA | apply bN | apply bD | refine bS ?_ GE391.out) | exact HB.out)⟩⟩
       ·rw [if_neg c19] at H
        exact absurd H (by simp)
      ·rw [if_neg c18] at H
       have c18b0 : decide (x29_2 < (Int.tmod a2_0 30)) = false := decide_eq_false c18
       clear c18
       have HC20 := Aside0.mk H
       clear H
       go_upto_region 13 with (fail)
       repeat (go_quiet (fail); go_upto_region 13 with (fail))
       go_cut [41] (fun v41 wc => ∃ (kq : Nat) (x41_19 : Bool), v41 = .bool x41_19 ∧ Aside0 (isohyetlaw04_DeciZeros.j2 kq ji9 ji7 x7_2 x8_10 x41_19 a2_0 a2_1 = some r) ∧ Aside0 (kq ≤ k2) ∧ Aside0 (wc.heap[gb391]? = some (.cells #[.int .u8 a2_0, .int .u8 a2_1] 35 (0, 0))) ∧ Aside0 (Below w.heap.size w wc))
       case first =>
        have H := HC20.out
        clear HC20
        by_cases c21 : ji7 = 0
        ·rw [if_pos c21] at H
         have c21b0 : (ji7 == 0) = true := beq_iff_eq.mpr c21
         have c21b1 : (ji7 != 0) = false := bne_eq_false_iff_eq.mpr c21
         clear c21
         (first | rw [c21b0] | rw [c21b1] | (simp only [i64_w, i32_w]; rw [c21b0]) | skip)
         have H' := Aside0.mk H
         clear H
         have hcz22_0 : wr.cell? ⟨gb391, 0, none⟩ = some (.int .u8 a2_0) := (blk_cell BK391.out 0).trans rfl
         have hcz22_1 : wr.cell? ⟨gb391, 1, none⟩ = some (.int .u8 a2_1) := (blk_cell BK391.out 1).trans rfl
         have hfz22_0 := blk_frozen BK391.out 0
         have hfz22_1 := blk_frozen BK391.out 1
         go_wp2
         repeat (go_quiet (fail); try go_wp2)
         go_meet
         case rel => exact ⟨_, (decide ((Int.tmod a2_1 30) > 0)), (by first | rfl | (simp; done) | (simp [*]; done)), H', ⟨by have := HJ10.out; have := HK2.out; first | omega | exact Nat.le_refl _⟩, ⟨by (with_reducible repeat (first | refine blk_drewN ?_ _ | refine blk_drew ?_ | refine blk_alloc ?_ _)); exact BK391.out⟩, ⟨by repeat (first | (with_reducible first | exact HB.out | apply bA | apply bN | apply bD | refine bS ?_ GE391.out) | exact HB.out)⟩⟩
        ·rw [if_neg c21] at H
         have c21b0 : (ji7 == 0) = false := beq_eq_false_iff_ne.mpr c21
         have c21b1 : (ji7 != 0) = true := bne_iff_ne.mpr c21
         (first | rw [c21b0] | rw [c21b1] | (simp only [i64_w, i32_w]; rw [c21b0]) | skip)
         have H' := Aside0.mk H
         clear H
         go_wp2
         repeat (go_quiet (fail); try go_wp2)
         go_meet
         case rel => exact ⟨_, (false), (by first | rfl | (simp; done) | (simp [*]; done)), H', ⟨by have := HJ10.out; have := HK2.out; first | omega | exact Nat.le_refl _⟩, ⟨by (with_reducible repeat (first | refine blk_drewN ?_ _ | refine blk_drew ?_ | refine blk_alloc ?_ _)); exact BK391.out⟩, ⟨by repeat (first | (with_reducible first | exact HB.out | apply bA | apply bN | apply bD | refine bS ?_ GE391.out) | exact HB.out)⟩⟩
       case rest =>
        clear HC20
        try clear c1
        try clear c2
        try clear p2
        try clear c5
        try clear c15
        try clear c15b0
        try clear c15b1
        try clear c16
        try clear c16b0
        try clear c16b1
        try clear c18
        try clear c18b0
        try clear c19
        try clear c19b0
        try clear c19b1
        try clear c19b2
        try clear c21
        try clear c21b0
        try clear c21b1
        try clear hcz17_0
        try clear hcz17_1
        try clear hcz22_0
        try clear hcz22_1
        try clear hfz17_0
        try clear hfz17_1
        try clear hfz22_0
        try clear hfz22_1
        try clear p2
        obtain ⟨kq, x41_19, rfl, HA, HJ19, BK391, HB⟩ := hcut
        cases kq with
        | zero => exact absurd HA.out (by simp [isohyetlaw04_DeciZeros.j2])
        | succ kj19 =>
         have H := HA.out
         clear HA
         simp only [isohyetlaw04_DeciZeros.j2] at H
         have HC23 := Aside0.mk H
         clear H
         go_upto_if 41 with (fail)
         repeat (go_quiet (fail); go_upto_if 41 with (fail))
         go_cut [7] (fun v7 wc => ∃ (kq : Nat) (x7_22 : ByteArray), v7 = .string x7_22 ∧ Aside0 (isohyetlaw04_DeciZeros.j3 kq ji9 ji7 x7_22 x8_10 a2_0 a2_1 = some r) ∧ Aside0 (kq ≤ kj19) ∧ Aside0 (wc.heap[gb391]? = some (.cells #[.int .u8 a2_0, .int .u8 a2_1] 35 (0, 0))) ∧ Aside0 (Below w.heap.size w wc))
         case first =>
          have H := HC23.out
          clear HC23
          by_cases c24 : x41_19 = true
          ·subst c24
           have H1 : (if x7_2.size + 1 ≤ 9223372036854775807 then (isohyetlaw04_DeciZeros.j3 kj19 ji9 ji7 (x7_2 ++ (⟨#[46]⟩ : ByteArray)) x8_10 a2_0 a2_1) else (none)) = some r := by rw [if_pos rfl] at H; exact H
           clear H
           have H := H1
           clear H1
           by_cases c25 : x7_2.size + 1 ≤ 9223372036854775807
           ·rw [if_pos c25] at H
            have c25b0 := eq_true c25
            have c25b1 : decide (x7_2.size + 1 ≤ 9223372036854775807) = true := decide_eq_true c25
            try have c25b2 : (9223372036854775807 < x7_2.size + 1) = False := eq_false (Nat.not_lt.2 c25)
            have H' := Aside0.mk H
            clear H
            go_wp2
            repeat (go_quiet (fail); try go_wp2)
            go_meet
            case rel => exact ⟨_, (x7_2 ++ (⟨#[46]⟩ : ByteArray)), (by first | rfl | (simp; done) | (simp [*]; done)), H', ⟨by have := HJ10.out; have := HK2.out; have := HJ19.out; first | omega | exact Nat.le_refl _⟩, ⟨by (with_reducible repeat (first | refine blk_drewN ?_ _ | refine blk_drew ?_ | refine blk_alloc ?_ _)); exact BK391.out⟩, ⟨by repeat (first | (with_reducible first | exact HB.out | apply bA | apply bN | apply bD | refine bS ?_ GE391.out) | exact HB.out)⟩⟩
           ·rw [if_neg c25] at H
            exact absurd H (by simp)
          ·replace c24 := Bool.eq_false_iff.mpr c24
           subst c24
           have H1 : (isohyetlaw04_DeciZeros.j3 kj19 ji9 ji7 x7_2 x8_10 a2_0 a2_1) = some r := by rw [if_neg (show ¬ (false = true) by decide)] at H; exact H
           clear H
           have H := H1
           clear H1
           have H' := Aside0.mk H
           clear H
           go_wp2
           repeat (go_quiet (fail); try go_wp2)
           go_meet
           case rel => exact ⟨_, (x7_2), (by first | rfl | (simp; done) | (simp [*]; done)), H', ⟨by have := HJ10.out; have := HK2.out; have := HJ19.out; first | omega | exact Nat.le_refl _⟩, ⟨by (with_reducible repeat (first | refine blk_drewN ?_ _ | refine blk_drew ?_ | refine blk_alloc ?_ _)); exact BK391.out⟩, ⟨by repeat (first | (with_reducible first | exact HB.out | apply bA | apply bN | apply bD | refine bS ?_ GE391.out) | exact HB.out)⟩⟩
         case rest =>
          clear HC23
          try clear c1
          try clear c2
          try clear p2
          try clear c5
          try clear c15
          try clear c15b0
          try clear c15b1
          try clear c16
          try clear c16b0
          try clear c16b1
          try clear c18
          try clear c18b0
          try clear c19
          try clear c19b0
          try clear c19b1
          try clear c19b2
          try clear c21
          try clear c21b0
          try clear c21b1
          try clear c24
          try clear c25
          try clear c25b0
          try clear c25b1
          try clear c25b2
          try clear hcz17_0
          try clear hcz17_1
          try clear hcz22_0
          try clear hcz22_1
          try clear hfz17_0
          try clear hfz17_1
          try clear hfz22_0
          try clear hfz22_1
          try clear p2
          obtain ⟨kq, x7_22, rfl, HA, HJ22, BK391, HB⟩ := hcut
          cases kq with
          | zero => exact absurd HA.out (by simp [isohyetlaw04_DeciZeros.j3])
          | succ kj22 =>
           have H := HA.out
           clear HA
           simp only [isohyetlaw04_DeciZeros.j3] at H
           have H' := Aside0.mk H
           clear H
           have hcz26_0 : wc.cell? ⟨gb391, 0, none⟩ = some (.int .u8 a2_0) := (blk_cell BK391.out 0).trans rfl
           have hcz26_1 : wc.cell? ⟨gb391, 1, none⟩ = some (.int .u8 a2_1) := (blk_cell BK391.out 1).trans rfl
           have hfz26_0 := blk_frozen BK391.out 0
           have hfz26_1 := blk_frozen BK391.out 1
           go_wp2
           repeat (go_quiet (fail); try go_wp2)
           go_loopg [7, 47] kj22 (fun kq v7 v47 w' => ∃ (x7_5 : ByteArray) (x47_5 : Int), v7 = .string x7_5 ∧ v47 = .int .u8 x47_5 ∧ Aside0 (isohyetlaw04_DeciZeros.l1 kq ji9 ji7 x7_5 x8_10 (Int.tmod a2_1 30) x47_5 = some r) ∧ Aside0 (kq ≤ kj22) ∧ Aside0 (w'.heap[gb391]? = some (.cells #[.int .u8 a2_0, .int .u8 a2_1] 35 (0, 0))) ∧ Aside0 (Below w.heap.size w w'))
           case atStart => exact ⟨(x7_22), (0), (by first | rfl | (simp; done) | (simp [*]; done)), (by first | rfl | (simp; done) | (simp [*]; done)), H', ⟨Nat.le_refl _⟩, ⟨by (with_reducible repeat (first | refine blk_drewN ?_ _ | refine blk_drew ?_ | refine blk_alloc ?_ _)); exact BK391.out⟩, ⟨by repeat (first | (with_reducible first | exact HB.out | apply bA | apply bN | apply bD | refine bS ?_ GE391.out) | exact HB.out)⟩⟩
           case round =>
            clear H'
            try clear c1
            try clear c2
            try clear p2
            try clear c5
            try clear c15
            try clear c15b0
            try clear c15b1
            try clear c16
            try clear c16b0
            try clear c16b1
            try clear c18
            try clear c18b0
            try clear c19
            try clear c19b0
            try clear c19b1
            try clear c19b2
            try clear c21
            try clear c21b0
            try clear c21b1
            try clear c24
            try clear c25
            try clear c25b0
            try clear c25b1
            try clear c25b2
            try clear hcz17_0
            try clear hcz17_1
            try clear hcz22_0
            try clear hcz22_1
            try clear hcz26_0
            try clear hcz26_1
            try clear hfz17_0
            try clear hfz17_1
            try clear hfz22_0
            try clear hfz22_1
            try clear hfz26_0
            try clear hfz26_1
            try clear p2
            obtain ⟨x7_5, x47_5, rfl, rfl, HA, HK5, BK391, HB⟩ := hrel
            cases gk with
            | zero => exact absurd HA.out (by simp [isohyetlaw04_DeciZeros.l1])
            | succ k5 =>
             have H := HA.out
             clear HA
             simp only [isohyetlaw04_DeciZeros.l1] at H
             by_cases c27 : x47_5 < (Int.tmod a2_1 30)
             ·rw [if_pos c27] at H
              have c27b0 : decide (x47_5 < (Int.tmod a2_1 30)) = true := decide_eq_true c27
              clear c27
              by_cases c28 : x7_5.size + 1 ≤ 9223372036854775807
              ·rw [if_pos c28] at H
               have c28b0 := eq_true c28
               have c28b1 : decide (x7_5.size + 1 ≤ 9223372036854775807) = true := decide_eq_true c28
               try have c28b2 : (9223372036854775807 < x7_5.size + 1) = False := eq_false (Nat.not_lt.2 c28)
               have H' := Aside0.mk H
               clear H
               go_wp2
               repeat (go_quiet (fail); try go_wp2)
               go_roundg k5
               case measure => have := HJ10.out; have := HK2.out; have := HJ19.out; have := HJ22.out; have := HK5.out; omega
               case rel => exact ⟨(x7_5 ++ (⟨#[48]⟩ : ByteArray)), ((x47_5 + 1) % 256), (by first | rfl | (simp; done) | (simp [*]; done)), (by first | rfl | (simp; done) | (simp [*]; done)), H', ⟨by have := HJ10.out; have := HK2.out; have := HJ19.out; have := HJ22.out; have := HK5.out; omega⟩, ⟨by (with_reducible repeat (first | refine blk_drewN ?_ _ | refine blk_drew ?_ | refine blk_alloc ?_ _)); exact BK391.out⟩, ⟨by repeat (first | (with_reducible first | exact HB.out | apply bA | apply bN | apply bD | refine bS ?_ GE391.out) | exact HB.out)⟩⟩
              ·rw [if_neg c28] at H
               exact absurd H (by simp)
             ·rw [if_neg c27] at H
              have c27b0 : decide (x47_5 < (Int.tmod a2_1 30)) = false := decide_eq_false c27
              clear c27
              by_cases c29 : x8_10.size + x7_5.size ≤ 9223372036854775807
              ·rw [if_pos c29] at H
               have c29b0 := eq_true c29
               have c29b1 : decide (x8_10.size + x7_5.size ≤ 9223372036854775807) = true := decide_eq_true c29
               try have c29b2 : (9223372036854775807 < x8_10.size + x7_5.size) = False := eq_false (Nat.not_lt.2 c29)
               replace H := Option.bind_eq_some_iff.mp H
               obtain ⟨⟨t394, t395⟩, A300, H⟩ := H
               replace H : (if t395 = 0 then (some (t394 == ji9)) else (some false)) = some r := H
               have A30 := Aside0.mk A300
               clear A300
               by_cases c31 : t395 = 0
               ·rw [if_pos c31] at H
                have c31b0 : (t395 == 0) = true := beq_iff_eq.mpr c31
                have c31b1 : (t395 != 0) = false := bne_eq_false_iff_eq.mpr c31
                clear c31
                obtain rfl := Option.some.inj H
                go_wp2_with (first | (go_at_call 9; (with_reducible refine (deci_Parse.calls k5 (x8_10 ++ x7_5) ji7 t394 t395 _ (MB.tab_below HT0 (gB HB.out)) A30.out).mono ?_); (try clear A30); rintro e w32 ⟨rfl, hb⟩; have n0_ := Aside0.mk (blk_below (gK BK391.out) hb); have n1_ := Aside0.mk (below_step (by repeat (first | (with_reducible first | exact HB.out | apply bA | apply bN | apply bD | refine bS ?_ GE391.out) | exact HB.out)) hb); clear BK391; clear HB; have BK391 := n0_; have HB := n1_; clear n0_ n1_; (try clear hb); (try clear hb2); (try clear hk); (try clear hi)))
                repeat (go_quiet (first | (go_at_call 9; (with_reducible refine (deci_Parse.calls k5 (x8_10 ++ x7_5) ji7 t394 t395 _ (MB.tab_below HT0 (gB HB.out)) A30.out).mono ?_); (try clear A30); rintro e w32 ⟨rfl, hb⟩; have n0_ := Aside0.mk (blk_below (gK BK391.out) hb); have n1_ := Aside0.mk (below_step (by repeat (first | (with_reducible first | exact HB.out | apply bA | apply bN | apply bD | refine bS ?_ GE391.out) | exact HB.out)) hb); clear BK391; clear HB; have BK391 := n0_; have HB := n1_; clear n0_ n1_; (try clear hb); (try clear hb2); (try clear hk); (try clear hi))); try go_wp2_with (first | (go_at_call 9; (with_reducible refine (deci_Parse.calls k5 (x8_10 ++ x7_5) ji7 t394 t395 _ (MB.tab_below HT0 (gB HB.out)) A30.out).mono ?_); (try clear A30); rintro e w32 ⟨rfl, hb⟩; have n0_ := Aside0.mk (blk_below (gK BK391.out) hb); have n1_ := Aside0.mk (below_step (by repeat (first | (with_reducible first | exact HB.out | apply bA | apply bN | apply bD | refine bS ?_ GE391.out) | exact HB.out)) hb); clear BK391; clear HB; have BK391 := n0_; have HB := n1_; clear n0_ n1_; (try clear hb); (try clear hb2); (try clear hk); (try clear hi))))
                go_ret
                exact ⟨by first | rfl | (simp [errW_none, errW_some] <;> rfl) | (simp only [← hji6, ← hji7, ← hji8, ← hji9]; first | rfl | (simp [errW_none, errW_some] <;> rfl)) | (simp [*, errW_none, errW_some] <;> rfl), by repeat (first | (with_reducible first | exact HB.out | apply bA | apply bN | apply bD | refine bS ?_ GE391.out) | exact HB.out)⟩
               ·rw [if_neg c31] at H
                have c31b0 : (t395 == 0) = false := beq_eq_false_iff_ne.mpr c31
                have c31b1 : (t395 != 0) = true := bne_iff_ne.mpr c31
                exact absurd ((Option.some.inj H).trans HTRUE) (by decide)
              ·rw [if_neg c29] at H
               exact absurd H (by simp)
 ·replace c5 := Bool.eq_false_iff.mpr c5
  subst c5
  have H1 : (some false) = some r := by rw [if_neg (show ¬ (false = true) by decide)] at H; exact H
  clear H
  have H := H1
  clear H1
  exact absurd ((Option.some.inj H).trans HTRUE) (by decide)

end Go.Proofs.YtpdgjhaimfpacaaDoor.M
