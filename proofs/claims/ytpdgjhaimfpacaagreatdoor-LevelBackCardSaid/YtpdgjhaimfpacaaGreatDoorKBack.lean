-- By drive.py (this session's program), out of the translation. Lean checks it.
import Derived.Test.YtpdgjhaimfpacaaGreatDoorA0
import Derived.Test.YtpdgjhaimfpacaaGreatDoorA6
import Derived.Test.YtpdgjhaimfpacaaGreatDoorA7
import Derived.Test.YtpdgjhaimfpacaaGreatDoorE10
import Derived.Test.YtpdgjhaimfpacaaGreatDoorE12
import Derived.Test.YtpdgjhaimfpacaaGreatDoorE5
import Derived.Test.YtpdgjhaimfpacaaGreatDoorE9
namespace Go.Proofs.YtpdgjhaimfpacaaGreatDoor.M
open Go.Proofs.YtpdgjhaimfpacaaGreatDoor.MB Go.Proofs.YtpdgjhaimfpacaaGreatDoor
open Go.RowKit Go.Proofs.YtpdgjhaimfpacaaGreatDoorW.PrintWords Go.Proofs.YtpdgjhaimfpacaaGreatDoorW.PrintLast Go.Proofs.YtpdgjhaimfpacaaGreatDoorW.PrintMore
attribute [local go_sem] max2_int min2_int max_two min_two max_three min_three max_four min_four   -- for this text's walks alone
set_option linter.unusedVariables false
set_option linter.unusedSimpArgs false
attribute [local go_sem] add64_run sub64_run

/-! ### isohyetlaw18_LevelBack: function 5 -/
mutual
def isohyetlaw18_LevelBack.j0 : Nat → List Int → Int → Bool → Option (Bool)
 | 0, _, _, _ => none
 | k + 1, x0, x1, x22 => if x22 = true then (some true) else (isohyetlaw18_LevelBack.l0 k x1 ([] : List Int) x0 (x0.length : Int) 0)
def isohyetlaw18_LevelBack.l0 : Nat → Int → List Int → List Int → Int → Int → Option (Bool)
 | 0, _, _, _, _, _ => none
 | k + 1, x1, x5, x23, x24, x25 => if x25 < x24 then (if 0 ≤ x25 then (if x25 < (x23.length : Int) then (if x5.length < 17592186044416 then (isohyetlaw18_LevelBack.l0 k x1 (x5 ++ [mn (mx (rd x23 x25) (-2147483648)) 2147483648]) x23 x24 (wrap64 (x25 + 1))) else (none)) else (none)) else (none)) else ((isohyetlaw18_rising.f k x5).bind fun t443 => (isohyetlaw18_LevelBack.l1 k x1 t443 (⟨#[]⟩ : ByteArray) t443 (t443.length : Int) 0))
def isohyetlaw18_LevelBack.l1 : Nat → Int → List Int → ByteArray → List Int → Int → Int → Option (Bool)
 | 0, _, _, _, _, _, _ => none
 | k + 1, x1, x5, x8, x38, x39, x40 => if x40 < x39 then (if 0 ≤ x40 then (if x40 < (x38.length : Int) then (if x40 > 0 then (if x8.size + 1 ≤ 9223372036854775807 then ((deci_Text.f k (rd x38 x40) x1).bind fun t447 => (if (x8 ++ (⟨#[44]⟩ : ByteArray)).size + t447.size ≤ 9223372036854775807 then (isohyetlaw18_LevelBack.l1 k x1 x5 ((x8 ++ (⟨#[44]⟩ : ByteArray)) ++ t447) x38 x39 (wrap64 (x40 + 1))) else (none))) else (none)) else ((deci_Text.f k (rd x38 x40) x1).bind fun t448 => (if x8.size + t448.size ≤ 9223372036854775807 then (isohyetlaw18_LevelBack.l1 k x1 x5 (x8 ++ t448) x38 x39 (wrap64 (x40 + 1))) else (none)))) else (none)) else (none)) else ((level_Parse.f k x8 x1).bind fun bt449 => ((level_Print.f k x5 x1).bind fun t453 => (if t453.toList = x8.toList then (if bt449.2 = 0 then ((isohyetlaw18_same.f k bt449.1 x5).bind fun t454 => (if t454 = true then ((level_Print.f k ([] : List Int) x1).bind fun t455 => (some (t455.toList == ([] : List UInt8)))) else (some false))) else (some false)) else (some false))))
end
def isohyetlaw18_LevelBack.f (k : Nat) (l0 : List Int) (a1 : Int) : Option (Bool) := (isohyetlaw18_fit.f k).bind fun t438 => (if t438 = true then (if (l0.length : Int) = 0 then (isohyetlaw18_LevelBack.j0 k l0 a1 true) else (isohyetlaw18_LevelBack.j0 k l0 a1 (decide ((l0.length : Int) > 60)))) else (some false))
theorem isohyetlaw18_LevelBack.mono_l : ∀ k, (∀ y0 y1 y2, LeO (isohyetlaw18_LevelBack.j0 k y0 y1 y2) (isohyetlaw18_LevelBack.j0 (k + 1) y0 y1 y2)) ∧ (∀ y0 y1 y2 y3 y4, LeO (isohyetlaw18_LevelBack.l0 k y0 y1 y2 y3 y4) (isohyetlaw18_LevelBack.l0 (k + 1) y0 y1 y2 y3 y4)) ∧ (∀ y0 y1 y2 y3 y4 y5, LeO (isohyetlaw18_LevelBack.l1 k y0 y1 y2 y3 y4 y5) (isohyetlaw18_LevelBack.l1 (k + 1) y0 y1 y2 y3 y4 y5))
 | 0 => ⟨fun _ _ _ r h => by simp [isohyetlaw18_LevelBack.j0] at h, fun _ _ _ _ _ r h => by simp [isohyetlaw18_LevelBack.l0] at h, fun _ _ _ _ _ _ r h => by simp [isohyetlaw18_LevelBack.l1] at h⟩
 | k + 1 => by
  obtain ⟨ih0, ih1, ih2⟩ := isohyetlaw18_LevelBack.mono_l k
  refine ⟨?_, ?_, ?_⟩
  ·intro y0 y1 y2
   unfold isohyetlaw18_LevelBack.j0
   repeat' first
   | (with_reducible exact ih0 _ _ _)
   | (with_reducible exact ih1 _ _ _ _ _)
   | (with_reducible exact ih2 _ _ _ _ _ _)
   | (with_reducible exact deci_Text.mono _ _ _)
   | (with_reducible exact isohyetlaw18_fit.mono _)
   | (with_reducible exact isohyetlaw18_rising.mono _ _)
   | (with_reducible exact isohyetlaw18_same.mono _ _ _)
   | (with_reducible exact level_Parse.mono _ _ _)
   | (with_reducible exact level_Print.mono _ _ _)
   | (with_reducible exact LeO.refl _)
   | (with_reducible exact LeO.none _)
   | (with_reducible refine LeO.ite ?_ ?_)
   | (with_reducible refine LeO.bind ?_ (fun _ => ?_))
   | exact ih0 _ _ _
   | exact ih1 _ _ _ _ _
   | exact ih2 _ _ _ _ _ _
   | exact deci_Text.mono _ _ _
   | exact isohyetlaw18_fit.mono _
   | exact isohyetlaw18_rising.mono _ _
   | exact isohyetlaw18_same.mono _ _ _
   | exact level_Parse.mono _ _ _
   | exact level_Print.mono _ _ _
   | exact LeO.none _
   | refine LeO.ite ?_ ?_
   | refine LeO.bind ?_ (fun _ => ?_)
  ·intro y0 y1 y2 y3 y4
   unfold isohyetlaw18_LevelBack.l0
   repeat' first
   | (with_reducible exact ih0 _ _ _)
   | (with_reducible exact ih1 _ _ _ _ _)
   | (with_reducible exact ih2 _ _ _ _ _ _)
   | (with_reducible exact deci_Text.mono _ _ _)
   | (with_reducible exact isohyetlaw18_fit.mono _)
   | (with_reducible exact isohyetlaw18_rising.mono _ _)
   | (with_reducible exact isohyetlaw18_same.mono _ _ _)
   | (with_reducible exact level_Parse.mono _ _ _)
   | (with_reducible exact level_Print.mono _ _ _)
   | (with_reducible exact LeO.refl _)
   | (with_reducible exact LeO.none _)
   | (with_reducible refine LeO.ite ?_ ?_)
   | (with_reducible refine LeO.bind ?_ (fun _ => ?_))
   | exact ih0 _ _ _
   | exact ih1 _ _ _ _ _
   | exact ih2 _ _ _ _ _ _
   | exact deci_Text.mono _ _ _
   | exact isohyetlaw18_fit.mono _
   | exact isohyetlaw18_rising.mono _ _
   | exact isohyetlaw18_same.mono _ _ _
   | exact level_Parse.mono _ _ _
   | exact level_Print.mono _ _ _
   | exact LeO.none _
   | refine LeO.ite ?_ ?_
   | refine LeO.bind ?_ (fun _ => ?_)
  ·intro y0 y1 y2 y3 y4 y5
   unfold isohyetlaw18_LevelBack.l1
   repeat' first
   | (with_reducible exact ih0 _ _ _)
   | (with_reducible exact ih1 _ _ _ _ _)
   | (with_reducible exact ih2 _ _ _ _ _ _)
   | (with_reducible exact deci_Text.mono _ _ _)
   | (with_reducible exact isohyetlaw18_fit.mono _)
   | (with_reducible exact isohyetlaw18_rising.mono _ _)
   | (with_reducible exact isohyetlaw18_same.mono _ _ _)
   | (with_reducible exact level_Parse.mono _ _ _)
   | (with_reducible exact level_Print.mono _ _ _)
   | (with_reducible exact LeO.refl _)
   | (with_reducible exact LeO.none _)
   | (with_reducible refine LeO.ite ?_ ?_)
   | (with_reducible refine LeO.bind ?_ (fun _ => ?_))
   | exact ih0 _ _ _
   | exact ih1 _ _ _ _ _
   | exact ih2 _ _ _ _ _ _
   | exact deci_Text.mono _ _ _
   | exact isohyetlaw18_fit.mono _
   | exact isohyetlaw18_rising.mono _ _
   | exact isohyetlaw18_same.mono _ _ _
   | exact level_Parse.mono _ _ _
   | exact level_Print.mono _ _ _
   | exact LeO.none _
   | refine LeO.ite ?_ ?_
   | refine LeO.bind ?_ (fun _ => ?_)
theorem isohyetlaw18_LevelBack.mono : ∀ a0 a1 k, LeO (isohyetlaw18_LevelBack.f k a0 a1) (isohyetlaw18_LevelBack.f (k + 1) a0 a1) := by
 intro a0 a1 k
 obtain ⟨ih0, ih1, ih2⟩ := isohyetlaw18_LevelBack.mono_l k
 unfold isohyetlaw18_LevelBack.f
 repeat' first
   | (with_reducible exact ih0 _ _ _)
   | (with_reducible exact ih1 _ _ _ _ _)
   | (with_reducible exact ih2 _ _ _ _ _ _)
   | (with_reducible exact deci_Text.mono _ _ _)
   | (with_reducible exact isohyetlaw18_fit.mono _)
   | (with_reducible exact isohyetlaw18_rising.mono _ _)
   | (with_reducible exact isohyetlaw18_same.mono _ _ _)
   | (with_reducible exact level_Parse.mono _ _ _)
   | (with_reducible exact level_Print.mono _ _ _)
   | (with_reducible exact LeO.refl _)
   | (with_reducible exact LeO.none _)
   | (with_reducible refine LeO.ite ?_ ?_)
   | (with_reducible refine LeO.bind ?_ (fun _ => ?_))
   | exact ih0 _ _ _
   | exact ih1 _ _ _ _ _
   | exact ih2 _ _ _ _ _ _
   | exact deci_Text.mono _ _ _
   | exact isohyetlaw18_fit.mono _
   | exact isohyetlaw18_rising.mono _ _
   | exact isohyetlaw18_same.mono _ _ _
   | exact level_Parse.mono _ _ _
   | exact level_Print.mono _ _ _
   | exact LeO.none _
   | refine LeO.ite ?_ ?_
   | refine LeO.bind ?_ (fun _ => ?_)
set_option maxHeartbeats 8000000 in
set_option maxRecDepth 100000 in
theorem isohyetlaw18_LevelBack.calls (k : Nat) (A0 : Option Addr) (c0 : Nat) (l0 : List Int) (a1 : Int) (r : Bool) (w : World) (hr0 : Kd.C (Kd.int .i64) w A0 l0.length l0) (hc0 : l0.length ≤ c0) (HT0 : MB.TabW w) (HTRUE : r = true) (h : isohyetlaw18_LevelBack.f k l0 a1 = some r) :
  Calls Tryz.prog 5 #[.slice A0 l0.length c0, .int .i64 a1] w fun e w' => e = .returned (.bool r) ∧ Below w.heap.size w w' := by
 have HR0 := Aside0.mk hr0
 have HC0 := Aside0.mk hc0
 clear hr0 hc0
 have HB := Aside0.mk (Below.refl w.heap.size w)
 have H : ((isohyetlaw18_fit.f k).bind fun t438 => (if t438 = true then (if (l0.length : Int) = 0 then (isohyetlaw18_LevelBack.j0 k l0 a1 true) else (isohyetlaw18_LevelBack.j0 k l0 a1 (decide ((l0.length : Int) > 60)))) else (some false))) = some r := h
 clear h
 replace H := Option.bind_eq_some_iff.mp H
 obtain ⟨t438, A30, H⟩ := H
 replace H : (if t438 = true then (if (l0.length : Int) = 0 then (isohyetlaw18_LevelBack.j0 k l0 a1 true) else (isohyetlaw18_LevelBack.j0 k l0 a1 (decide ((l0.length : Int) > 60)))) else (some false)) = some r := H
 have A3 := Aside0.mk A30
 clear A30
 by_cases c4 : t438 = true
 ·subst c4
  have H1 : (if (l0.length : Int) = 0 then (isohyetlaw18_LevelBack.j0 k l0 a1 true) else (isohyetlaw18_LevelBack.j0 k l0 a1 (decide ((l0.length : Int) > 60)))) = some r := by rw [if_pos rfl] at H; exact H
  clear H
  have H := H1
  clear H1
  have HC5 := Aside0.mk H
  clear H
  go_enter Tryz.func5, Tryz.ntmps5
  go_upto_region 3 with (first | ((with_reducible refine gate_callee (f := 17) rfl ?_); refine goesL_ (some 13) rfl rfl Tryz.func17 (by kernel_rfl) rfl #[] rfl (by (try simp only [List.map_toArray, List.map_cons, List.map_nil]); first | done | rfl | (simp only [List.length_drop, List.length_take]; rfl)) ?_; (with_reducible refine (isohyetlaw18_fit.calls k  true _ (MB.tab_below HT0 (gB HB.out)) rfl A3.out).mono ?_); (try clear A3); rintro e w6 ⟨rfl, hb⟩; refine ⟨_, rfl, ?_⟩; have n0_ := Aside0.mk (below_step (gB HB.out) hb); clear HB; have HB := n0_; clear n0_; (try clear hb); (try clear hb2); (try clear hk); (try clear hi)))
  (try simp only [Act.put, List.setIfInBounds_toArray, List.set_cons_zero, List.set_cons_succ])
  go_cut [22] (fun v22 wc => ∃ (kq : Nat) (x22_4 : Bool), v22 = .bool x22_4 ∧ Aside0 (isohyetlaw18_LevelBack.j0 kq l0 a1 x22_4 = some r) ∧ Aside0 (kq ≤ k) ∧ Aside0 (Below w.heap.size w wc))
  case first =>
   have H := HC5.out
   clear HC5
   by_cases c7 : (l0.length : Int) = 0
   ·rw [if_pos c7] at H
    have c7b0 : ((l0.length : Int) == 0) = true := beq_iff_eq.mpr c7
    have c7b1 : ((l0.length : Int) != 0) = false := bne_eq_false_iff_eq.mpr c7
    clear c7
    (first | rw [c7b0] | rw [c7b1] | (simp only [i64_w, i32_w]; rw [c7b0]) | skip)
    have H' := Aside0.mk H
    clear H
    go_wp2
    go_meet
    case rel => exact ⟨_, (true), (by first | rfl | (simp; done) | (simp [*]; done)), H', ⟨by first | omega | exact Nat.le_refl _⟩, ⟨by repeat (first | (with_reducible first | exact HB.out | apply bA | apply bN | apply bD) | exact HB.out)⟩⟩
   ·rw [if_neg c7] at H
    have c7b0 : ((l0.length : Int) == 0) = false := beq_eq_false_iff_ne.mpr c7
    have c7b1 : ((l0.length : Int) != 0) = true := bne_iff_ne.mpr c7
    have c7b2 : ¬ (l0 = []) := fun h_ => c7 (by rw [h_]; rfl)
    (first | rw [c7b0] | rw [c7b1] | (simp only [i64_w, i32_w]; rw [c7b0]) | skip)
    have H' := Aside0.mk H
    clear H
    go_wp2
    go_meet
    case rel => exact ⟨_, (decide ((l0.length : Int) > 60)), (by first | rfl | (simp; done) | (simp [*]; done)), H', ⟨by first | omega | exact Nat.le_refl _⟩, ⟨by repeat (first | (with_reducible first | exact HB.out | apply bA | apply bN | apply bD) | exact HB.out)⟩⟩
  case rest =>
   clear HC5
   try clear c1
   try clear p2
   try clear c4
   try clear c5
   try clear c7
   try clear c7b0
   try clear c7b1
   try clear c7b2
   obtain ⟨kq, x22_4, rfl, HA, HJ4, HB⟩ := hcut
   cases kq with
   | zero => exact absurd HA.out (by simp [isohyetlaw18_LevelBack.j0])
   | succ kj4 =>
    have H := HA.out
    clear HA
    simp only [isohyetlaw18_LevelBack.j0] at H
    by_cases c8 : x22_4 = true
    ·subst c8
     have H1 : (some true) = some r := by rw [if_pos rfl] at H; exact H
     clear H
     have H := H1
     clear H1
     obtain rfl := Option.some.inj H
     go_wp2
     go_ret
     exact ⟨by first | rfl | (simp [errW_none, errW_some] <;> rfl) | (simp [*, errW_none, errW_some] <;> rfl), by repeat (first | (with_reducible first | exact HB.out | apply bA | apply bN | apply bD) | exact HB.out)⟩
    ·replace c8 := Bool.eq_false_iff.mpr c8
     subst c8
     have H1 : (isohyetlaw18_LevelBack.l0 kj4 a1 ([] : List Int) l0 (l0.length : Int) 0) = some r := by rw [if_neg (show ¬ (false = true) by decide)] at H; exact H
     clear H
     have H := H1
     clear H1
     have H' := Aside0.mk H
     clear H
     go_wp2
     go_loopg [5, 25] kj4 (fun kq v5 v25 w' => ∃ (x5_2 : List Int) (x25_2 : Int), v25 = .int .i64 x25_2 ∧ Aside0 (isohyetlaw18_LevelBack.l0 kq a1 x5_2 l0 (l0.length : Int) x25_2 = some r) ∧ Aside0 (kq ≤ kj4) ∧ Aside0 (Kd.R (Kd.int .i64) 3 w' w.heap.size (fun _ => True) v5 x5_2) ∧ Aside0 (Below w.heap.size w w'))
     case atStart => exact ⟨(([] : List Int)), (0), (by first | rfl | (simp; done) | (simp [*]; done)), H', ⟨Nat.le_refl _⟩, ⟨by first | exact Kd.R_nil _ _ _ _ _ | exact Kd.N_nil _ _ _ _ _ | exact Kd.V_nil _ _ _ _ _ | exact Kd.Q_nil _ _ _ _ _ | exact Kd.S_nil _ _ _ _ _⟩, ⟨by repeat (first | (with_reducible first | exact HB.out | apply bA | apply bN | apply bD) | exact HB.out)⟩⟩
     case round =>
      clear H'
      try clear c1
      try clear p2
      try clear c4
      try clear c5
      try clear c7
      try clear c7b0
      try clear c7b1
      try clear c7b2
      try clear c8
      try clear p2
      obtain ⟨x5_2, x25_2, rfl, HA, HK2, HO_5, HB⟩ := hrel
      cases gk with
      | zero => exact absurd HA.out (by simp [isohyetlaw18_LevelBack.l0])
      | succ k2 =>
       have H := HA.out
       clear HA
       simp only [isohyetlaw18_LevelBack.l0] at H
       by_cases c9 : x25_2 < (l0.length : Int)
       ·rw [if_pos c9] at H
        have c9b0 : decide (x25_2 < (l0.length : Int)) = true := decide_eq_true c9
        clear c9
        by_cases c10 : 0 ≤ x25_2
        ·rw [if_pos c10] at H
         have c10b0 : decide (0 ≤ x25_2) = true := decide_eq_true c10
         clear c10
         by_cases c11 : x25_2 < (l0.length : Int)
         ·rw [if_pos c11] at H
          have c11b0 : decide (x25_2 < (l0.length : Int)) = true := decide_eq_true c11
          clear c11
          obtain ⟨ji12, hji12⟩ : ∃ j_ : Int, (mx (rd l0 x25_2) (-2147483648)) = j_ := ⟨_, rfl⟩
          replace H : (if x5_2.length < 17592186044416 then (isohyetlaw18_LevelBack.l0 k2 a1 (x5_2 ++ [mn (ji12) 2147483648]) l0 (l0.length : Int) (wrap64 (x25_2 + 1))) else (none)) = some r := by first | (rw [hji12] at H; exact H) | (simp only [hji12] at H ⊢; exact H)
          have hji12_ : (if (rd l0 x25_2) < (-2147483648) then (-2147483648) else (rd l0 x25_2)) = ji12 := hji12
          obtain ⟨ji13, hji13⟩ : ∃ j_ : Int, (mn (ji12) 2147483648) = j_ := ⟨_, rfl⟩
          replace H : (if x5_2.length < 17592186044416 then (isohyetlaw18_LevelBack.l0 k2 a1 (x5_2 ++ [ji13]) l0 (l0.length : Int) (wrap64 (x25_2 + 1))) else (none)) = some r := by first | (rw [hji13] at H; exact H) | (simp only [hji13] at H ⊢; exact H)
          have hji13_ : (if 2147483648 < (ji12) then 2147483648 else (ji12)) = ji13 := hji13
          by_cases c14 : x5_2.length < 17592186044416
          ·rw [if_pos c14] at H
           have LMc14 := Aside0.mk c14
           clear c14
           obtain ⟨y440, hy440⟩ : ∃ y_ : List Int, y_ = (x5_2 ++ [ji13]) := ⟨_, rfl⟩
           replace H : (isohyetlaw18_LevelBack.l0 k2 a1 y440 l0 (l0.length : Int) (wrap64 (x25_2 + 1))) = some r := by first | (rw [hy440]; with_reducible exact H) | (have H2_ := (Option.bind_some _ _).symm.trans H; rw [hy440]; with_reducible exact H2_) | (have H2_ := (Option.bind_some _ _).symm.trans H; with_reducible exact H2_) | with_reducible exact H | (rw [hy440]; exact H) | exact H
           have Ny440 := Aside0.mk hy440
           clear hy440
           have H' := Aside0.mk H
           clear H
           have p439 : 0 ≤ (x25_2 : Int) := of_decide_eq_true (by first | (with_reducible assumption) | assumption)
           have q439 : x25_2 < (l0.length : Int) := of_decide_eq_true (by first | (with_reducible assumption) | assumption)
           obtain ⟨ad439, e439, hx439_0⟩ := Kd.at_int HR0.out x25_2 p439 q439
           cases e439
           replace hx439_0 := (HB.out.cell (World.block_lt_of_cell? w _ hx439_0)).trans hx439_0
           replace p439 := eq_true p439
           replace q439 := eq_true q439
           go_wp2_with (first | ((with_reducible refine gate_builtin (b := .append) (xs := #[.tmp 29, .tmp 33]) rfl ?_); (try (refine gate_guard (by rfl) ?_; dsimp only)); at_builtin; refine Kd.R_append (Kd.int .i64) (w0 := w) w.heap.size rfl (.tmp 29) (.tmp 33) 30 3 (.int .i64 0) 8 rfl Tryz.underlying30 info3 rfl (by decide) (by omega) u5 x5_2 ji13 [.int .i64 ji13] (fun _ => True) (fun _ => False) rfl rfl ?aP (fun _ hk => hk.elim) ?aF ?aO ?aB ?aS ?aL ?_; (case aP => exact rfl); (case aB => exact (gB HB.out)); (case aF => exact (fun _ _ => trivial)); (case aO => exact (gR HO_5.out)); (case aS => exact (below_size (gB HB.out))); (case aL => have := LMc14.out; omega); intro v441 w15 ho hb hg hat; rw [← Ny440.out] at ho; have n0_ := Aside0.mk (hb); have n1_ := Aside0.mk (ho); clear HB; clear HO_5; have HB := n0_; have HO442 := n1_; clear n0_ n1_; clear ho hb hg hat))
           go_roundg k2
           case measure => have := HJ4.out; have := HK2.out; omega
           case rel => exact ⟨(y440), (wrap64 (x25_2 + 1)), (by first | rfl | (simp; done) | (simp [*]; done)), H', ⟨by have := HJ4.out; have := HK2.out; omega⟩, ⟨by (with_reducible repeat (first | apply Kd.R_alloc | apply Kd.R_drewN | apply Kd.R_drew)); exact HO442.out⟩, ⟨by repeat (first | (with_reducible first | exact HB.out | apply bA | apply bN | apply bD) | exact HB.out)⟩⟩
          ·rw [if_neg c14] at H
           exact absurd H (by simp)
         ·rw [if_neg c11] at H
          exact absurd H (by simp)
        ·rw [if_neg c10] at H
         exact absurd H (by simp)
       ·rw [if_neg c9] at H
        have c9b0 : decide (x25_2 < (l0.length : Int)) = false := decide_eq_false c9
        clear c9
        replace H := Option.bind_eq_some_iff.mp H
        obtain ⟨t443, A160, H⟩ := H
        replace H : (isohyetlaw18_LevelBack.l1 k2 a1 t443 (⟨#[]⟩ : ByteArray) t443 (t443.length : Int) 0) = some r := H
        have A16 := Aside0.mk A160
        clear A160
        have H' := Aside0.mk H
        clear H
        obtain ⟨Ao17, co17, eo17⟩ := Kd.R_slice HO_5.out
        subst eo17
        go_wp2_with (first | ((with_reducible refine gate_callee (f := 18) rfl ?_); refine goesL_ (some 37) rfl rfl Tryz.func18 (by kernel_rfl) rfl #[.slice Ao17 x5_2.length co17] rfl (by (try simp only [List.map_toArray, List.map_cons, List.map_nil]); first | done | rfl | (simp only [List.length_drop, List.length_take]; rfl)) ?_; (with_reducible refine (isohyetlaw18_rising.calls k2 _ _ x5_2 t443 _ ?side1 ?side2 A16.out).mono ?_); (case side1 => repeat (first | exact (Kd.R_reads' HO_5.out).2.2 | (with_reducible refine Kd.C_alloc ?_ _) | (with_reducible refine Kd.C_drewN ?_ _) | (with_reducible refine Kd.C_drew ?_))); (case side2 => exact (Kd.R_reads' HO_5.out).2.1); (try clear A16); rintro e w18 ⟨v444, rfl, ho0, hb⟩; refine ⟨_, rfl, ?_⟩; have n0_ := Aside0.mk (Kd.R_elder' (gR HO_5.out) (Kd.R_base ho0) hb); have n1_ := Aside0.mk (Kd.R_lower (Kd.R_new' ho0 (Kd.R_lt (gR HO_5.out))) (below_size (gB HB.out))); have n2_ := Aside0.mk (below_step (gB HB.out) hb); clear HO_5; clear HB; have HO_5 := n0_; have HO445 := n1_; have HB := n2_; clear n0_ n1_ n2_; (try clear hb); (try clear hb2); (try clear hk); (try clear hi); (try clear ho0); obtain ⟨Ao19, co19, eo19⟩ := Kd.R_slice HO445.out; subst eo19))
        go_loopg [8, 40] k2 (fun kq v8 v40 w' => ∃ (x8_3 : ByteArray) (x40_3 : Int), v8 = .string x8_3 ∧ v40 = .int .i64 x40_3 ∧ Aside0 (isohyetlaw18_LevelBack.l1 kq a1 t443 x8_3 t443 (t443.length : Int) x40_3 = some r) ∧ Aside0 (kq ≤ k2) ∧ Aside0 (Kd.R (Kd.int .i64) 3 w' w.heap.size (fun _ => True) (.slice Ao19 t443.length co19) t443) ∧ Aside0 (Kd.R (Kd.int .i64) 3 w' w.heap.size (fun _ => True) (.slice Ao19 t443.length co19) t443) ∧ Aside0 (Below w.heap.size w w'))
        case atStart => exact ⟨((⟨#[]⟩ : ByteArray)), (0), (by first | rfl | (simp; done) | (simp [*]; done)), (by first | rfl | (simp; done) | (simp [*]; done)), H', ⟨Nat.le_refl _⟩, ⟨by (with_reducible repeat (first | apply Kd.R_alloc | apply Kd.R_drewN | apply Kd.R_drew)); exact Kd.R_mono HO445.out (fun _ hk => trivial)⟩, ⟨by (with_reducible repeat (first | apply Kd.R_alloc | apply Kd.R_drewN | apply Kd.R_drew)); exact Kd.R_mono HO445.out (fun _ hk => trivial)⟩, ⟨by repeat (first | (with_reducible first | exact HB.out | apply bA | apply bN | apply bD) | exact HB.out)⟩⟩
        case round =>
         clear H'
         try clear c1
         try clear p2
         try clear c4
         try clear p4
         try clear q4
         try clear hx4
         try clear c5
         try clear p6
         try clear c7
         try clear c7b0
         try clear c7b1
         try clear c7b2
         try clear c8
         try clear c9
         try clear c9b0
         try clear c10
         try clear c10b0
         try clear c11
         try clear c11b0
         try clear c14
         try clear c17
         try clear c18
         try clear hx439_0
         try clear p2
         try clear p439
         try clear q439
         obtain ⟨x8_3, x40_3, rfl, rfl, HA, HK3, HO_5, HO_38, HB⟩ := hrel
         cases gk with
         | zero => exact absurd HA.out (by simp [isohyetlaw18_LevelBack.l1])
         | succ k3 =>
          have H := HA.out
          clear HA
          simp only [isohyetlaw18_LevelBack.l1] at H
          by_cases c20 : x40_3 < (t443.length : Int)
          ·rw [if_pos c20] at H
           have c20b0 : decide (x40_3 < (t443.length : Int)) = true := decide_eq_true c20
           clear c20
           by_cases c21 : 0 ≤ x40_3
           ·rw [if_pos c21] at H
            have c21b0 : decide (0 ≤ x40_3) = true := decide_eq_true c21
            clear c21
            by_cases c22 : x40_3 < (t443.length : Int)
            ·rw [if_pos c22] at H
             have c22b0 : decide (x40_3 < (t443.length : Int)) = true := decide_eq_true c22
             clear c22
             by_cases c23 : x40_3 > 0
             ·rw [if_pos c23] at H
              have c23b0 : decide (0 < x40_3) = true := decide_eq_true c23
              clear c23
              by_cases c24 : x8_3.size + 1 ≤ 9223372036854775807
              ·rw [if_pos c24] at H
               have c24b0 := eq_true c24
               have c24b1 : decide (x8_3.size + 1 ≤ 9223372036854775807) = true := decide_eq_true c24
               try have c24b2 : (9223372036854775807 < x8_3.size + 1) = False := eq_false (Nat.not_lt.2 c24)
               replace H := Option.bind_eq_some_iff.mp H
               obtain ⟨t447, A250, H⟩ := H
               replace H : (if (x8_3 ++ (⟨#[44]⟩ : ByteArray)).size + t447.size ≤ 9223372036854775807 then (isohyetlaw18_LevelBack.l1 k3 a1 t443 ((x8_3 ++ (⟨#[44]⟩ : ByteArray)) ++ t447) t443 (t443.length : Int) (wrap64 (x40_3 + 1))) else (none)) = some r := H
               have A25 := Aside0.mk A250
               clear A250
               by_cases c26 : (x8_3 ++ (⟨#[44]⟩ : ByteArray)).size + t447.size ≤ 9223372036854775807
               ·rw [if_pos c26] at H
                have c26b0 := eq_true c26
                have c26b1 : decide ((x8_3 ++ (⟨#[44]⟩ : ByteArray)).size + t447.size ≤ 9223372036854775807) = true := decide_eq_true c26
                try have c26b2 : (9223372036854775807 < (x8_3 ++ (⟨#[44]⟩ : ByteArray)).size + t447.size) = False := eq_false (Nat.not_lt.2 c26)
                have c26t : (9223372036854775807 < x8_3.size + 1 + t447.size) = False := eq_false (by have h := of_eq_true c26b0; simp only [ByteArray.size_append] at h; have h0_ : (⟨#[44]⟩ : ByteArray).size = 1 := rfl; omega)
                have H' := Aside0.mk H
                clear H
                have p446 : 0 ≤ (x40_3 : Int) := of_decide_eq_true (by first | (with_reducible assumption) | assumption)
                have q446 : x40_3 < (t443.length : Int) := of_decide_eq_true (by first | (with_reducible assumption) | assumption)
                obtain ⟨ad446, e446, hx446_0⟩ := Kd.at_int (Kd.R_reads' HO_38.out).2.2 x40_3 p446 q446
                cases e446
                replace p446 := eq_true p446
                replace q446 := eq_true q446
                go_wp2_with (first | ((with_reducible refine gate_callee (f := 19) rfl ?_); refine goesL_ (some 52) rfl rfl Tryz.func19 (by kernel_rfl) rfl #[.int .i64 (rd t443 x40_3), .int .i64 a1] rfl (by (try simp only [List.map_toArray, List.map_cons, List.map_nil]); first | done | rfl | (simp only [List.length_drop, List.length_take]; rfl)) ?_; (with_reducible refine (deci_Text.calls k3 (rd t443 x40_3) a1 t447 _ A25.out).mono ?_); (try clear A25); rintro e w27 ⟨rfl, hb⟩; refine ⟨_, rfl, ?_⟩; have n0_ := Aside0.mk (Kd.R_below (gR HO_5.out) hb); have n1_ := Aside0.mk (Kd.R_below (gR HO_38.out) hb); have n2_ := Aside0.mk (below_step (gB HB.out) hb); clear HO_5; clear HO_38; clear HB; have HO_5 := n0_; have HO_38 := n1_; have HB := n2_; clear n0_ n1_ n2_; (try clear hb); (try clear hb2); (try clear hk); (try clear hi)))
                go_roundg k3
                case measure => have := HJ4.out; have := HK2.out; have := HK3.out; omega
                case rel => exact ⟨((x8_3 ++ (⟨#[44]⟩ : ByteArray)) ++ t447), (wrap64 (x40_3 + 1)), (by first | rfl | (simp; done) | (simp [*]; done)), (by first | rfl | (simp; done) | (simp [*]; done)), H', ⟨by have := HJ4.out; have := HK2.out; have := HK3.out; omega⟩, ⟨by (with_reducible repeat (first | apply Kd.R_alloc | apply Kd.R_drewN | apply Kd.R_drew)); exact HO_5.out⟩, ⟨by (with_reducible repeat (first | apply Kd.R_alloc | apply Kd.R_drewN | apply Kd.R_drew)); exact HO_38.out⟩, ⟨by repeat (first | (with_reducible first | exact HB.out | apply bA | apply bN | apply bD) | exact HB.out)⟩⟩
               ·rw [if_neg c26] at H
                exact absurd H (by simp)
              ·rw [if_neg c24] at H
               exact absurd H (by simp)
             ·rw [if_neg c23] at H
              have c23b0 : decide (0 < x40_3) = false := decide_eq_false c23
              clear c23
              replace H := Option.bind_eq_some_iff.mp H
              obtain ⟨t448, A280, H⟩ := H
              replace H : (if x8_3.size + t448.size ≤ 9223372036854775807 then (isohyetlaw18_LevelBack.l1 k3 a1 t443 (x8_3 ++ t448) t443 (t443.length : Int) (wrap64 (x40_3 + 1))) else (none)) = some r := H
              have A28 := Aside0.mk A280
              clear A280
              by_cases c29 : x8_3.size + t448.size ≤ 9223372036854775807
              ·rw [if_pos c29] at H
               have c29b0 := eq_true c29
               have c29b1 : decide (x8_3.size + t448.size ≤ 9223372036854775807) = true := decide_eq_true c29
               try have c29b2 : (9223372036854775807 < x8_3.size + t448.size) = False := eq_false (Nat.not_lt.2 c29)
               have H' := Aside0.mk H
               clear H
               have p446 : 0 ≤ (x40_3 : Int) := of_decide_eq_true (by first | (with_reducible assumption) | assumption)
               have q446 : x40_3 < (t443.length : Int) := of_decide_eq_true (by first | (with_reducible assumption) | assumption)
               obtain ⟨ad446, e446, hx446_0⟩ := Kd.at_int (Kd.R_reads' HO_38.out).2.2 x40_3 p446 q446
               cases e446
               replace p446 := eq_true p446
               replace q446 := eq_true q446
               go_wp2_with (first | ((with_reducible refine gate_callee (f := 19) rfl ?_); refine goesL_ (some 52) rfl rfl Tryz.func19 (by kernel_rfl) rfl #[.int .i64 (rd t443 x40_3), .int .i64 a1] rfl (by (try simp only [List.map_toArray, List.map_cons, List.map_nil]); first | done | rfl | (simp only [List.length_drop, List.length_take]; rfl)) ?_; (with_reducible refine (deci_Text.calls k3 (rd t443 x40_3) a1 t448 _ A28.out).mono ?_); (try clear A28); rintro e w30 ⟨rfl, hb⟩; refine ⟨_, rfl, ?_⟩; have n0_ := Aside0.mk (Kd.R_below (gR HO_5.out) hb); have n1_ := Aside0.mk (Kd.R_below (gR HO_38.out) hb); have n2_ := Aside0.mk (below_step (gB HB.out) hb); clear HO_5; clear HO_38; clear HB; have HO_5 := n0_; have HO_38 := n1_; have HB := n2_; clear n0_ n1_ n2_; (try clear hb); (try clear hb2); (try clear hk); (try clear hi)))
               go_roundg k3
               case measure => have := HJ4.out; have := HK2.out; have := HK3.out; omega
               case rel => exact ⟨(x8_3 ++ t448), (wrap64 (x40_3 + 1)), (by first | rfl | (simp; done) | (simp [*]; done)), (by first | rfl | (simp; done) | (simp [*]; done)), H', ⟨by have := HJ4.out; have := HK2.out; have := HK3.out; omega⟩, ⟨by (with_reducible repeat (first | apply Kd.R_alloc | apply Kd.R_drewN | apply Kd.R_drew)); exact HO_5.out⟩, ⟨by (with_reducible repeat (first | apply Kd.R_alloc | apply Kd.R_drewN | apply Kd.R_drew)); exact HO_38.out⟩, ⟨by repeat (first | (with_reducible first | exact HB.out | apply bA | apply bN | apply bD) | exact HB.out)⟩⟩
              ·rw [if_neg c29] at H
               exact absurd H (by simp)
            ·rw [if_neg c22] at H
             exact absurd H (by simp)
           ·rw [if_neg c21] at H
            exact absurd H (by simp)
          ·rw [if_neg c20] at H
           have c20b0 : decide (x40_3 < (t443.length : Int)) = false := decide_eq_false c20
           clear c20
           replace H := Option.bind_eq_some_iff.mp H
           obtain ⟨⟨t449, t450⟩, A310, H⟩ := H
           replace H : ((level_Print.f k3 t443 a1).bind fun t453 => (if t453.toList = x8_3.toList then (if t450 = 0 then ((isohyetlaw18_same.f k3 t449 t443).bind fun t454 => (if t454 = true then ((level_Print.f k3 ([] : List Int) a1).bind fun t455 => (some (t455.toList == ([] : List UInt8)))) else (some false))) else (some false)) else (some false))) = some r := H
           have A31 := Aside0.mk A310
           clear A310
           replace H := Option.bind_eq_some_iff.mp H
           obtain ⟨t453, A320, H⟩ := H
           replace H : (if t453.toList = x8_3.toList then (if t450 = 0 then ((isohyetlaw18_same.f k3 t449 t443).bind fun t454 => (if t454 = true then ((level_Print.f k3 ([] : List Int) a1).bind fun t455 => (some (t455.toList == ([] : List UInt8)))) else (some false))) else (some false)) else (some false)) = some r := H
           have A32 := Aside0.mk A320
           clear A320
           by_cases c33 : t453.toList = x8_3.toList
           ·rw [if_pos c33] at H
            have c33b0 : (t453.toList == x8_3.toList) = true := beq_iff_eq.mpr c33
            have c33b1 : (t453.toList != x8_3.toList) = false := bne_eq_false_iff_eq.mpr c33
            clear c33
            by_cases c34 : t450 = 0
            ·rw [if_pos c34] at H
             have c34b0 : (t450 == 0) = true := beq_iff_eq.mpr c34
             have c34b1 : (t450 != 0) = false := bne_eq_false_iff_eq.mpr c34
             clear c34
             replace H := Option.bind_eq_some_iff.mp H
             obtain ⟨t454, A350, H⟩ := H
             replace H : (if t454 = true then ((level_Print.f k3 ([] : List Int) a1).bind fun t455 => (some (t455.toList == ([] : List UInt8)))) else (some false)) = some r := H
             have A35 := Aside0.mk A350
             clear A350
             by_cases c36 : t454 = true
             ·subst c36
              have H1 : ((level_Print.f k3 ([] : List Int) a1).bind fun t455 => (some (t455.toList == ([] : List UInt8)))) = some r := by rw [if_pos rfl] at H; exact H
              clear H
              have H := H1
              clear H1
              replace H := Option.bind_eq_some_iff.mp H
              obtain ⟨t455, A370, H⟩ := H
              replace H : (some (t455.toList == ([] : List UInt8))) = some r := H
              have A37 := Aside0.mk A370
              clear A370
              obtain rfl := Option.some.inj H
              go_wp2_with (first | ((with_reducible refine gate_callee (f := 20) rfl ?_); refine goesL_ (some 58) rfl rfl Tryz.func20 (by kernel_rfl) rfl #[.string x8_3, .int .i64 a1] rfl (by (try simp only [List.map_toArray, List.map_cons, List.map_nil]); first | done | rfl | (simp only [List.length_drop, List.length_take]; rfl)) ?_; (with_reducible refine (level_Parse.calls k3 x8_3 a1 t449 t450 _ (MB.tab_below HT0 (gB HB.out)) A31.out).mono ?_); (try clear A31); rintro e w38 ⟨v451, rfl, ho0, hb⟩; refine ⟨_, rfl, ?_⟩; have n0_ := Aside0.mk (Kd.R_elder' (gR HO_5.out) (Kd.R_base ho0) hb); have n1_ := Aside0.mk (Kd.R_elder' (gR HO_38.out) (Kd.R_base ho0) hb); have n2_ := Aside0.mk (Kd.R_lower (Kd.R_new' (Kd.R_new' ho0 (Kd.R_lt (gR HO_5.out))) (Kd.R_lt (gR HO_38.out))) (below_size (gB HB.out))); have n3_ := Aside0.mk (below_step (gB HB.out) hb); clear HO_5; clear HO_38; clear HB; have HO_5 := n0_; have HO_38 := n1_; have HO452 := n2_; have HB := n3_; clear n0_ n1_ n2_ n3_; (try clear hb); (try clear hb2); (try clear hk); (try clear hi); (try clear ho0)) | ((with_reducible refine gate_callee (f := 21) rfl ?_); refine goesL_ (some 63) rfl rfl Tryz.func21 (by kernel_rfl) rfl #[.slice Ao19 t443.length co19, .int .i64 a1] rfl (by (try simp only [List.map_toArray, List.map_cons, List.map_nil]); first | done | rfl | (simp only [List.length_drop, List.length_take]; rfl)) ?_; (with_reducible refine (level_Print.calls k3 _ _ t443 a1 t453 _ ?side1 ?side2 A32.out).mono ?_); (case side1 => repeat (first | exact (Kd.R_reads' HO_5.out).2.2 | (with_reducible refine Kd.C_alloc ?_ _) | (with_reducible refine Kd.C_drewN ?_ _) | (with_reducible refine Kd.C_drew ?_))); (case side2 => exact (Kd.R_reads' HO_5.out).2.1); (try clear A32); rintro e w39 ⟨rfl, hb⟩; refine ⟨_, rfl, ?_⟩; have n0_ := Aside0.mk (Kd.R_below (gR HO_5.out) hb); have n1_ := Aside0.mk (Kd.R_below (gR HO_38.out) hb); have n2_ := Aside0.mk (Kd.R_below (gR HO452.out) hb); have n3_ := Aside0.mk (below_step (gB HB.out) hb); clear HO_5; clear HO_38; clear HO452; clear HB; have HO_5 := n0_; have HO_38 := n1_; have HO452 := n2_; have HB := n3_; clear n0_ n1_ n2_ n3_; (try clear hb); (try clear hb2); (try clear hk); (try clear hi); obtain ⟨Ao40, co40, eo40⟩ := Kd.R_slice HO452.out; subst eo40) | (go_at_call 22; (with_reducible refine (isohyetlaw18_same.calls k3 _ _ t449 _ _ t443 true _ ?side1 ?side2 ?side3 ?side4 A35.out).mono ?_); (case side1 => repeat (first | exact (Kd.R_reads' HO452.out).2.2 | (with_reducible refine Kd.C_alloc ?_ _) | (with_reducible refine Kd.C_drewN ?_ _) | (with_reducible refine Kd.C_drew ?_))); (case side2 => exact (Kd.R_reads' HO452.out).2.1); (case side3 => repeat (first | exact (Kd.R_reads' HO_5.out).2.2 | (with_reducible refine Kd.C_alloc ?_ _) | (with_reducible refine Kd.C_drewN ?_ _) | (with_reducible refine Kd.C_drew ?_))); (case side4 => exact (Kd.R_reads' HO_5.out).2.1); (try clear A35); rintro e w' ⟨rfl, ⟨nd, rfl⟩⟩) | (go_at_call 21; (refine (level_Print.calls k3 _ _ ([] : List Int) a1 t455 _ ?side1 ?side2 A37.out).mono ?_); (case side1 => exact Kd.C_nil _ _); (case side2 => exact Nat.le_refl _); (try clear A37); rintro e w41 ⟨rfl, hb⟩; have n0_ := Aside0.mk (Kd.R_below (gR HO_5.out) hb); have n1_ := Aside0.mk (Kd.R_below (gR HO_38.out) hb); have n2_ := Aside0.mk (Kd.R_below (gR HO452.out) hb); have n3_ := Aside0.mk (below_step (gB HB.out) hb); clear HO_5; clear HO_38; clear HO452; clear HB; have HO_5 := n0_; have HO_38 := n1_; have HO452 := n2_; have HB := n3_; clear n0_ n1_ n2_ n3_; (try clear hb); (try clear hb2); (try clear hk); (try clear hi)))
              go_ret
              exact ⟨by first | rfl | (simp [errW_none, errW_some] <;> rfl) | (simp [*, errW_none, errW_some] <;> rfl), by repeat (first | (with_reducible first | exact HB.out | apply bA | apply bN | apply bD) | exact HB.out)⟩
             ·replace c36 := Bool.eq_false_iff.mpr c36
              subst c36
              have H1 : (some false) = some r := by rw [if_neg (show ¬ (false = true) by decide)] at H; exact H
              clear H
              have H := H1
              clear H1
              exact absurd ((Option.some.inj H).trans HTRUE) (by decide)
            ·rw [if_neg c34] at H
             have c34b0 : (t450 == 0) = false := beq_eq_false_iff_ne.mpr c34
             have c34b1 : (t450 != 0) = true := bne_iff_ne.mpr c34
             exact absurd ((Option.some.inj H).trans HTRUE) (by decide)
           ·rw [if_neg c33] at H
            have c33b0 : (t453.toList == x8_3.toList) = false := beq_eq_false_iff_ne.mpr c33
            have c33b1 : (t453.toList != x8_3.toList) = true := bne_iff_ne.mpr c33
            exact absurd ((Option.some.inj H).trans HTRUE) (by decide)
 ·replace c4 := Bool.eq_false_iff.mpr c4
  subst c4
  have H1 : (some false) = some r := by rw [if_neg (show ¬ (false = true) by decide)] at H; exact H
  clear H
  have H := H1
  clear H1
  exact absurd ((Option.some.inj H).trans HTRUE) (by decide)

end Go.Proofs.YtpdgjhaimfpacaaGreatDoor.M
