-- By drive.py (this session's program), out of the translation. Lean checks it.
import Derived.Test.YtpdgjhaimfpacaaGreatDoorA0
import Derived.Test.YtpdgjhaimfpacaaGreatDoorA6
import Derived.Test.YtpdgjhaimfpacaaGreatDoorE11
namespace Go.Proofs.YtpdgjhaimfpacaaGreatDoor.M
open Go.Proofs.YtpdgjhaimfpacaaGreatDoor.MB Go.Proofs.YtpdgjhaimfpacaaGreatDoor
open Go.RowKit Go.Proofs.YtpdgjhaimfpacaaGreatDoorW.PrintWords Go.Proofs.YtpdgjhaimfpacaaGreatDoorW.PrintLast Go.Proofs.YtpdgjhaimfpacaaGreatDoorW.PrintMore
attribute [local go_sem] max2_int min2_int max_two min_two max_three min_three max_four min_four   -- for this text's walks alone
set_option linter.unusedVariables false
set_option linter.unusedSimpArgs false
attribute [local go_sem] add64_run sub64_run

/-! ### isohyetlaw18_LevelFits: function 7 -/
mutual
def isohyetlaw18_LevelFits.l0 : Nat → Int → Int → List Int → List Int → Int → Int → Option (Bool)
 | 0, _, _, _, _, _, _ => none
 | k + 1, x1, x2, x7, x23, x24, x25 => if x25 < x24 then (if 0 ≤ x25 then (if x25 < (x23.length : Int) then (if x7.length < 17592186044416 then (isohyetlaw18_LevelFits.l0 k x1 x2 (x7 ++ [mn (mx (rd x23 x25) (-2147483648)) 2147483648]) x23 x24 (wrap64 (x25 + 1))) else (none)) else (none)) else (none)) else (if (wrap64 ((Go.bits .and .i64 x1 268435455) + 1)) = 0 then (none) else ((level_Fit.f k x7 (wrap64 ((Go.bits .and .i64 x1 268435455) + 1)) (Int.tmod (Go.bits .and .i64 x2 268435455) (wrap64 ((Go.bits .and .i64 x1 268435455) + 1)))).bind fun t389 => (if (x7.length : Int) = 0 then (some ((t389.length : Int) == 0)) else (if 0 < (x7.length : Int) then (isohyetlaw18_LevelFits.l1 k (wrap64 ((Go.bits .and .i64 x1 268435455) + 1)) (Int.tmod (Go.bits .and .i64 x2 268435455) (wrap64 ((Go.bits .and .i64 x1 268435455) + 1))) t389 (rd x7 0) (rd x7 0) x7 (x7.length : Int) 0) else (none)))))
def isohyetlaw18_LevelFits.l1 : Nat → Int → Int → List Int → Int → Int → List Int → Int → Int → Option (Bool)
 | 0, _, _, _, _, _, _, _, _ => none
 | k + 1, x1, x2, x10, x11, x12, x59, x60, x61 => if x61 < x60 then (if 0 ≤ x61 then (if x61 < (x59.length : Int) then (isohyetlaw18_LevelFits.l1 k x1 x2 x10 (mn x11 (rd x59 x61)) (mx x12 (rd x59 x61)) x59 x60 (wrap64 (x61 + 1))) else (none)) else (none)) else (isohyetlaw18_LevelFits.l2 k x1 x2 x10 x11 x12 x10 (x10.length : Int) 0)
def isohyetlaw18_LevelFits.l2 : Nat → Int → Int → List Int → Int → Int → List Int → Int → Int → Option (Bool)
 | 0, _, _, _, _, _, _, _, _ => none
 | k + 1, x1, x2, x10, x11, x12, x72, x73, x74 => if x74 < x73 then (if 0 ≤ x74 then (if x74 < (x72.length : Int) then (if (rd x72 x74) < x11 then (some false) else (if (rd x72 x74) > x12 then (some false) else (if x1 = 0 then (none) else (if (Int.tmod (wrap64 ((rd x72 x74) - x2)) x1) = 0 then (if x74 > 0 then (if 0 ≤ (wrap64 (x74 - 1)) then (if (wrap64 (x74 - 1)) < (x10.length : Int) then (if (wrap64 ((rd x10 (wrap64 (x74 - 1))) + x1)) = (rd x72 x74) then (if x74 = 0 then (if (wrap64 ((rd x72 x74) - x1)) ≥ x11 then (some false) else (isohyetlaw18_LevelFits.l2 k x1 x2 x10 x11 x12 x72 x73 (wrap64 (x74 + 1)))) else (isohyetlaw18_LevelFits.l2 k x1 x2 x10 x11 x12 x72 x73 (wrap64 (x74 + 1)))) else (some false)) else (none)) else (none)) else (if x74 = 0 then (if (wrap64 ((rd x72 x74) - x1)) ≥ x11 then (some false) else (isohyetlaw18_LevelFits.l2 k x1 x2 x10 x11 x12 x72 x73 (wrap64 (x74 + 1)))) else (isohyetlaw18_LevelFits.l2 k x1 x2 x10 x11 x12 x72 x73 (wrap64 (x74 + 1))))) else (some false))))) else (none)) else (none)) else (if (x10.length : Int) = 0 then (if x1 = 0 then (none) else (if (wrap64 (x11 - (Int.tmod (wrap64 ((Int.tmod (wrap64 (x11 - x2)) x1) + x1)) x1))) < x11 then (some (decide ((wrap64 ((wrap64 (x11 - (Int.tmod (wrap64 ((Int.tmod (wrap64 (x11 - x2)) x1) + x1)) x1))) + x1)) > x12))) else (some false))) else (if (x10.length : Int) = 200 then (some true) else (if (x10.length : Int) < 200 then (if 0 ≤ (wrap64 ((x10.length : Int) - 1)) then (if (wrap64 ((x10.length : Int) - 1)) < (x10.length : Int) then (some (decide ((wrap64 ((rd x10 (wrap64 ((x10.length : Int) - 1))) + x1)) > x12))) else (none)) else (none)) else (some false))))
end
def isohyetlaw18_LevelFits.f (k : Nat) (l0 : List Int) (a1 : Int) (a2 : Int) : Option (Bool) := (isohyetlaw18_fit.f k).bind fun t384 => (if t384 = true then (if (l0.length : Int) > 30 then (some true) else (isohyetlaw18_LevelFits.l0 k a1 a2 ([] : List Int) l0 (l0.length : Int) 0)) else (some false))
theorem isohyetlaw18_LevelFits.mono_l : ∀ k, (∀ y0 y1 y2 y3 y4 y5, LeO (isohyetlaw18_LevelFits.l0 k y0 y1 y2 y3 y4 y5) (isohyetlaw18_LevelFits.l0 (k + 1) y0 y1 y2 y3 y4 y5)) ∧ (∀ y0 y1 y2 y3 y4 y5 y6 y7, LeO (isohyetlaw18_LevelFits.l1 k y0 y1 y2 y3 y4 y5 y6 y7) (isohyetlaw18_LevelFits.l1 (k + 1) y0 y1 y2 y3 y4 y5 y6 y7)) ∧ (∀ y0 y1 y2 y3 y4 y5 y6 y7, LeO (isohyetlaw18_LevelFits.l2 k y0 y1 y2 y3 y4 y5 y6 y7) (isohyetlaw18_LevelFits.l2 (k + 1) y0 y1 y2 y3 y4 y5 y6 y7))
 | 0 => ⟨fun _ _ _ _ _ _ r h => by simp [isohyetlaw18_LevelFits.l0] at h, fun _ _ _ _ _ _ _ _ r h => by simp [isohyetlaw18_LevelFits.l1] at h, fun _ _ _ _ _ _ _ _ r h => by simp [isohyetlaw18_LevelFits.l2] at h⟩
 | k + 1 => by
  obtain ⟨ih0, ih1, ih2⟩ := isohyetlaw18_LevelFits.mono_l k
  refine ⟨?_, ?_, ?_⟩
  ·intro y0 y1 y2 y3 y4 y5
   unfold isohyetlaw18_LevelFits.l0
   repeat' first
   | (with_reducible exact ih0 _ _ _ _ _ _)
   | (with_reducible exact ih1 _ _ _ _ _ _ _ _)
   | (with_reducible exact ih2 _ _ _ _ _ _ _ _)
   | (with_reducible exact isohyetlaw18_fit.mono _)
   | (with_reducible exact level_Fit.mono _ _ _ _)
   | (with_reducible exact LeO.refl _)
   | (with_reducible exact LeO.none _)
   | (with_reducible refine LeO.ite ?_ ?_)
   | (with_reducible refine LeO.bind ?_ (fun _ => ?_))
   | exact ih0 _ _ _ _ _ _
   | exact ih1 _ _ _ _ _ _ _ _
   | exact ih2 _ _ _ _ _ _ _ _
   | exact isohyetlaw18_fit.mono _
   | exact level_Fit.mono _ _ _ _
   | exact LeO.none _
   | refine LeO.ite ?_ ?_
   | refine LeO.bind ?_ (fun _ => ?_)
  ·intro y0 y1 y2 y3 y4 y5 y6 y7
   unfold isohyetlaw18_LevelFits.l1
   repeat' first
   | (with_reducible exact ih0 _ _ _ _ _ _)
   | (with_reducible exact ih1 _ _ _ _ _ _ _ _)
   | (with_reducible exact ih2 _ _ _ _ _ _ _ _)
   | (with_reducible exact isohyetlaw18_fit.mono _)
   | (with_reducible exact level_Fit.mono _ _ _ _)
   | (with_reducible exact LeO.refl _)
   | (with_reducible exact LeO.none _)
   | (with_reducible refine LeO.ite ?_ ?_)
   | (with_reducible refine LeO.bind ?_ (fun _ => ?_))
   | exact ih0 _ _ _ _ _ _
   | exact ih1 _ _ _ _ _ _ _ _
   | exact ih2 _ _ _ _ _ _ _ _
   | exact isohyetlaw18_fit.mono _
   | exact level_Fit.mono _ _ _ _
   | exact LeO.none _
   | refine LeO.ite ?_ ?_
   | refine LeO.bind ?_ (fun _ => ?_)
  ·intro y0 y1 y2 y3 y4 y5 y6 y7
   unfold isohyetlaw18_LevelFits.l2
   repeat' first
   | (with_reducible exact ih0 _ _ _ _ _ _)
   | (with_reducible exact ih1 _ _ _ _ _ _ _ _)
   | (with_reducible exact ih2 _ _ _ _ _ _ _ _)
   | (with_reducible exact isohyetlaw18_fit.mono _)
   | (with_reducible exact level_Fit.mono _ _ _ _)
   | (with_reducible exact LeO.refl _)
   | (with_reducible exact LeO.none _)
   | (with_reducible refine LeO.ite ?_ ?_)
   | (with_reducible refine LeO.bind ?_ (fun _ => ?_))
   | exact ih0 _ _ _ _ _ _
   | exact ih1 _ _ _ _ _ _ _ _
   | exact ih2 _ _ _ _ _ _ _ _
   | exact isohyetlaw18_fit.mono _
   | exact level_Fit.mono _ _ _ _
   | exact LeO.none _
   | refine LeO.ite ?_ ?_
   | refine LeO.bind ?_ (fun _ => ?_)
theorem isohyetlaw18_LevelFits.mono : ∀ a0 a1 a2 k, LeO (isohyetlaw18_LevelFits.f k a0 a1 a2) (isohyetlaw18_LevelFits.f (k + 1) a0 a1 a2) := by
 intro a0 a1 a2 k
 obtain ⟨ih0, ih1, ih2⟩ := isohyetlaw18_LevelFits.mono_l k
 unfold isohyetlaw18_LevelFits.f
 repeat' first
   | (with_reducible exact ih0 _ _ _ _ _ _)
   | (with_reducible exact ih1 _ _ _ _ _ _ _ _)
   | (with_reducible exact ih2 _ _ _ _ _ _ _ _)
   | (with_reducible exact isohyetlaw18_fit.mono _)
   | (with_reducible exact level_Fit.mono _ _ _ _)
   | (with_reducible exact LeO.refl _)
   | (with_reducible exact LeO.none _)
   | (with_reducible refine LeO.ite ?_ ?_)
   | (with_reducible refine LeO.bind ?_ (fun _ => ?_))
   | exact ih0 _ _ _ _ _ _
   | exact ih1 _ _ _ _ _ _ _ _
   | exact ih2 _ _ _ _ _ _ _ _
   | exact isohyetlaw18_fit.mono _
   | exact level_Fit.mono _ _ _ _
   | exact LeO.none _
   | refine LeO.ite ?_ ?_
   | refine LeO.bind ?_ (fun _ => ?_)
set_option maxHeartbeats 8000000 in
set_option maxRecDepth 100000 in
theorem isohyetlaw18_LevelFits.calls (k : Nat) (A0 : Option Addr) (c0 : Nat) (l0 : List Int) (a1 : Int) (a2 : Int) (r : Bool) (w : World) (hr0 : Kd.C (Kd.int .i64) w A0 l0.length l0) (hc0 : l0.length ≤ c0) (HT0 : MB.TabW w) (HTRUE : r = true) (h : isohyetlaw18_LevelFits.f k l0 a1 a2 = some r) :
  Calls Tryz.prog 7 #[.slice A0 l0.length c0, .int .i64 a1, .int .i64 a2] w fun e w' => e = .returned (.bool r) ∧ Below w.heap.size w w' := by
 have HR0 := Aside0.mk hr0
 have HC0 := Aside0.mk hc0
 clear hr0 hc0
 have HB := Aside0.mk (Below.refl w.heap.size w)
 have H : ((isohyetlaw18_fit.f k).bind fun t384 => (if t384 = true then (if (l0.length : Int) > 30 then (some true) else (isohyetlaw18_LevelFits.l0 k a1 a2 ([] : List Int) l0 (l0.length : Int) 0)) else (some false))) = some r := h
 clear h
 replace H := Option.bind_eq_some_iff.mp H
 obtain ⟨t384, A40, H⟩ := H
 replace H : (if t384 = true then (if (l0.length : Int) > 30 then (some true) else (isohyetlaw18_LevelFits.l0 k a1 a2 ([] : List Int) l0 (l0.length : Int) 0)) else (some false)) = some r := H
 have A4 := Aside0.mk A40
 clear A40
 by_cases c5 : t384 = true
 ·subst c5
  have H1 : (if (l0.length : Int) > 30 then (some true) else (isohyetlaw18_LevelFits.l0 k a1 a2 ([] : List Int) l0 (l0.length : Int) 0)) = some r := by rw [if_pos rfl] at H; exact H
  clear H
  have H := H1
  clear H1
  by_cases c6 : (l0.length : Int) > 30
  ·rw [if_pos c6] at H
   have c6b0 : decide (30 < (l0.length : Int)) = true := decide_eq_true c6
   have c6b1 : decide (30 < l0.length) = true := decide_eq_true (by omega)
   clear c6
   obtain rfl := Option.some.inj H
   go_enter Tryz.func7, Tryz.ntmps7
   go_wp2_with (first | (go_at_call 17; (with_reducible refine (isohyetlaw18_fit.calls k  true _ (MB.tab_below HT0 (gB HB.out)) rfl A4.out).mono ?_); (try clear A4); rintro e w7 ⟨rfl, hb⟩; have n0_ := Aside0.mk (below_step (gB HB.out) hb); clear HB; have HB := n0_; clear n0_; (try clear hb); (try clear hb2); (try clear hk); (try clear hi)))
   repeat (go_quiet (first | (go_at_call 17; (with_reducible refine (isohyetlaw18_fit.calls k  true _ (MB.tab_below HT0 (gB HB.out)) rfl A4.out).mono ?_); (try clear A4); rintro e w7 ⟨rfl, hb⟩; have n0_ := Aside0.mk (below_step (gB HB.out) hb); clear HB; have HB := n0_; clear n0_; (try clear hb); (try clear hb2); (try clear hk); (try clear hi))); try go_wp2_with (first | (go_at_call 17; (with_reducible refine (isohyetlaw18_fit.calls k  true _ (MB.tab_below HT0 (gB HB.out)) rfl A4.out).mono ?_); (try clear A4); rintro e w7 ⟨rfl, hb⟩; have n0_ := Aside0.mk (below_step (gB HB.out) hb); clear HB; have HB := n0_; clear n0_; (try clear hb); (try clear hb2); (try clear hk); (try clear hi))))
   go_ret
   exact ⟨by first | rfl | (simp [errW_none, errW_some] <;> rfl) | (simp [*, errW_none, errW_some] <;> rfl), by repeat (first | (with_reducible first | exact HB.out | apply bA | apply bN | apply bD) | exact HB.out)⟩
  ·rw [if_neg c6] at H
   have c6b0 : decide (30 < (l0.length : Int)) = false := decide_eq_false c6
   have c6b1 : decide (30 < l0.length) = false := decide_eq_false (by omega)
   clear c6
   have H' := Aside0.mk H
   clear H
   go_enter Tryz.func7, Tryz.ntmps7
   go_wp2_with (first | (go_at_call 17; (with_reducible refine (isohyetlaw18_fit.calls k  true _ (MB.tab_below HT0 (gB HB.out)) rfl A4.out).mono ?_); (try clear A4); rintro e w8 ⟨rfl, hb⟩; have n0_ := Aside0.mk (below_step (gB HB.out) hb); clear HB; have HB := n0_; clear n0_; (try clear hb); (try clear hb2); (try clear hk); (try clear hi)))
   repeat (go_quiet (first | (go_at_call 17; (with_reducible refine (isohyetlaw18_fit.calls k  true _ (MB.tab_below HT0 (gB HB.out)) rfl A4.out).mono ?_); (try clear A4); rintro e w8 ⟨rfl, hb⟩; have n0_ := Aside0.mk (below_step (gB HB.out) hb); clear HB; have HB := n0_; clear n0_; (try clear hb); (try clear hb2); (try clear hk); (try clear hi))); try go_wp2_with (first | (go_at_call 17; (with_reducible refine (isohyetlaw18_fit.calls k  true _ (MB.tab_below HT0 (gB HB.out)) rfl A4.out).mono ?_); (try clear A4); rintro e w8 ⟨rfl, hb⟩; have n0_ := Aside0.mk (below_step (gB HB.out) hb); clear HB; have HB := n0_; clear n0_; (try clear hb); (try clear hb2); (try clear hk); (try clear hi))))
   go_loopg [7, 25] k (fun kq v7 v25 w' => ∃ (x7_1 : List Int) (x25_1 : Int), v25 = .int .i64 x25_1 ∧ Aside0 (isohyetlaw18_LevelFits.l0 kq a1 a2 x7_1 l0 (l0.length : Int) x25_1 = some r) ∧ Aside0 (kq ≤ k) ∧ Aside0 (Kd.R (Kd.int .i64) 3 w' w.heap.size (fun _ => True) v7 x7_1) ∧ Aside0 (Below w.heap.size w w'))
   case atStart => exact ⟨(([] : List Int)), (0), (by first | rfl | (simp; done) | (simp [*]; done)), H', ⟨Nat.le_refl _⟩, ⟨by first | exact Kd.R_nil _ _ _ _ _ | exact Kd.N_nil _ _ _ _ _ | exact Kd.V_nil _ _ _ _ _ | exact Kd.Q_nil _ _ _ _ _ | exact Kd.S_nil _ _ _ _ _⟩, ⟨by repeat (first | (with_reducible first | exact HB.out | apply bA | apply bN | apply bD) | exact HB.out)⟩⟩
   case round =>
    clear H'
    try clear p2
    try clear c5
    try clear c6
    try clear c6b0
    try clear c6b1
    try clear c7
    obtain ⟨x7_1, x25_1, rfl, HA, HK1, HO_7, HB⟩ := hrel
    cases gk with
    | zero => exact absurd HA.out (by simp [isohyetlaw18_LevelFits.l0])
    | succ k1 =>
     have H := HA.out
     clear HA
     simp only [isohyetlaw18_LevelFits.l0] at H
     by_cases c9 : x25_1 < (l0.length : Int)
     ·rw [if_pos c9] at H
      have c9b0 : decide (x25_1 < (l0.length : Int)) = true := decide_eq_true c9
      clear c9
      by_cases c10 : 0 ≤ x25_1
      ·rw [if_pos c10] at H
       have c10b0 : decide (0 ≤ x25_1) = true := decide_eq_true c10
       clear c10
       by_cases c11 : x25_1 < (l0.length : Int)
       ·rw [if_pos c11] at H
        have c11b0 : decide (x25_1 < (l0.length : Int)) = true := decide_eq_true c11
        clear c11
        obtain ⟨ji12, hji12⟩ : ∃ j_ : Int, (mx (rd l0 x25_1) (-2147483648)) = j_ := ⟨_, rfl⟩
        replace H : (if x7_1.length < 17592186044416 then (isohyetlaw18_LevelFits.l0 k1 a1 a2 (x7_1 ++ [mn (ji12) 2147483648]) l0 (l0.length : Int) (wrap64 (x25_1 + 1))) else (none)) = some r := by first | (rw [hji12] at H; exact H) | (simp only [hji12] at H ⊢; exact H)
        have hji12_ : (if (rd l0 x25_1) < (-2147483648) then (-2147483648) else (rd l0 x25_1)) = ji12 := hji12
        obtain ⟨ji13, hji13⟩ : ∃ j_ : Int, (mn (ji12) 2147483648) = j_ := ⟨_, rfl⟩
        replace H : (if x7_1.length < 17592186044416 then (isohyetlaw18_LevelFits.l0 k1 a1 a2 (x7_1 ++ [ji13]) l0 (l0.length : Int) (wrap64 (x25_1 + 1))) else (none)) = some r := by first | (rw [hji13] at H; exact H) | (simp only [hji13] at H ⊢; exact H)
        have hji13_ : (if 2147483648 < (ji12) then 2147483648 else (ji12)) = ji13 := hji13
        by_cases c14 : x7_1.length < 17592186044416
        ·rw [if_pos c14] at H
         have LMc14 := Aside0.mk c14
         clear c14
         obtain ⟨y386, hy386⟩ : ∃ y_ : List Int, y_ = (x7_1 ++ [ji13]) := ⟨_, rfl⟩
         replace H : (isohyetlaw18_LevelFits.l0 k1 a1 a2 y386 l0 (l0.length : Int) (wrap64 (x25_1 + 1))) = some r := by first | (rw [hy386]; with_reducible exact H) | (have H2_ := (Option.bind_some _ _).symm.trans H; rw [hy386]; with_reducible exact H2_) | (have H2_ := (Option.bind_some _ _).symm.trans H; with_reducible exact H2_) | with_reducible exact H | (rw [hy386]; exact H) | exact H
         have Ny386 := Aside0.mk hy386
         clear hy386
         have H' := Aside0.mk H
         clear H
         have p385 : 0 ≤ (x25_1 : Int) := of_decide_eq_true (by first | (with_reducible assumption) | assumption)
         have q385 : x25_1 < (l0.length : Int) := of_decide_eq_true (by first | (with_reducible assumption) | assumption)
         obtain ⟨ad385, e385, hx385_0⟩ := Kd.at_int HR0.out x25_1 p385 q385
         cases e385
         replace hx385_0 := (HB.out.cell (World.block_lt_of_cell? w _ hx385_0)).trans hx385_0
         replace p385 := eq_true p385
         replace q385 := eq_true q385
         go_wp2_with (first | ((with_reducible refine gate_builtin (b := .append) (xs := #[.tmp 29, .tmp 33]) rfl ?_); (try (refine gate_guard (by rfl) ?_; dsimp only)); at_builtin; refine Kd.R_append (Kd.int .i64) (w0 := w) w.heap.size rfl (.tmp 29) (.tmp 33) 30 3 (.int .i64 0) 8 rfl Tryz.underlying30 info3 rfl (by decide) (by omega) u7 x7_1 ji13 [.int .i64 ji13] (fun _ => True) (fun _ => False) rfl rfl ?aP (fun _ hk => hk.elim) ?aF ?aO ?aB ?aS ?aL ?_; (case aP => exact rfl); (case aB => exact (gB HB.out)); (case aF => exact (fun _ _ => trivial)); (case aO => exact (gR HO_7.out)); (case aS => exact (below_size (gB HB.out))); (case aL => have := LMc14.out; omega); intro v387 w15 ho hb hg hat; rw [← Ny386.out] at ho; have n0_ := Aside0.mk (hb); have n1_ := Aside0.mk (ho); clear HB; clear HO_7; have HB := n0_; have HO388 := n1_; clear n0_ n1_; clear ho hb hg hat))
         repeat (go_quiet (first | ((with_reducible refine gate_builtin (b := .append) (xs := #[.tmp 29, .tmp 33]) rfl ?_); (try (refine gate_guard (by rfl) ?_; dsimp only)); at_builtin; refine Kd.R_append (Kd.int .i64) (w0 := w) w.heap.size rfl (.tmp 29) (.tmp 33) 30 3 (.int .i64 0) 8 rfl Tryz.underlying30 info3 rfl (by decide) (by omega) u7 x7_1 ji13 [.int .i64 ji13] (fun _ => True) (fun _ => False) rfl rfl ?aP (fun _ hk => hk.elim) ?aF ?aO ?aB ?aS ?aL ?_; (case aP => exact rfl); (case aB => exact (gB HB.out)); (case aF => exact (fun _ _ => trivial)); (case aO => exact (gR HO_7.out)); (case aS => exact (below_size (gB HB.out))); (case aL => have := LMc14.out; omega); intro v387 w15 ho hb hg hat; rw [← Ny386.out] at ho; have n0_ := Aside0.mk (hb); have n1_ := Aside0.mk (ho); clear HB; clear HO_7; have HB := n0_; have HO388 := n1_; clear n0_ n1_; clear ho hb hg hat)); try go_wp2_with (first | ((with_reducible refine gate_builtin (b := .append) (xs := #[.tmp 29, .tmp 33]) rfl ?_); (try (refine gate_guard (by rfl) ?_; dsimp only)); at_builtin; refine Kd.R_append (Kd.int .i64) (w0 := w) w.heap.size rfl (.tmp 29) (.tmp 33) 30 3 (.int .i64 0) 8 rfl Tryz.underlying30 info3 rfl (by decide) (by omega) u7 x7_1 ji13 [.int .i64 ji13] (fun _ => True) (fun _ => False) rfl rfl ?aP (fun _ hk => hk.elim) ?aF ?aO ?aB ?aS ?aL ?_; (case aP => exact rfl); (case aB => exact (gB HB.out)); (case aF => exact (fun _ _ => trivial)); (case aO => exact (gR HO_7.out)); (case aS => exact (below_size (gB HB.out))); (case aL => have := LMc14.out; omega); intro v387 w15 ho hb hg hat; rw [← Ny386.out] at ho; have n0_ := Aside0.mk (hb); have n1_ := Aside0.mk (ho); clear HB; clear HO_7; have HB := n0_; have HO388 := n1_; clear n0_ n1_; clear ho hb hg hat)))
         go_roundg k1
         case measure => have := HK1.out; omega
         case rel => exact ⟨(y386), (wrap64 (x25_1 + 1)), (by first | rfl | (simp; done) | (simp [*]; done)), H', ⟨by have := HK1.out; omega⟩, ⟨by (with_reducible repeat (first | apply Kd.R_alloc | apply Kd.R_drewN | apply Kd.R_drew)); exact HO388.out⟩, ⟨by repeat (first | (with_reducible first | exact HB.out | apply bA | apply bN | apply bD) | exact HB.out)⟩⟩
        ·rw [if_neg c14] at H
         exact absurd H (by simp)
       ·rw [if_neg c11] at H
        exact absurd H (by simp)
      ·rw [if_neg c10] at H
       exact absurd H (by simp)
     ·rw [if_neg c9] at H
      have c9b0 : decide (x25_1 < (l0.length : Int)) = false := decide_eq_false c9
      clear c9
      by_cases c16 : (wrap64 ((Go.bits .and .i64 a1 268435455) + 1)) = 0
      ·rw [if_pos c16] at H
       exact absurd H (by simp)
      ·rw [if_neg c16] at H
       have c16b0 : ((wrap64 ((Go.bits .and .i64 a1 268435455) + 1)) == 0) = false := beq_eq_false_iff_ne.mpr c16
       have c16b1 : ((wrap64 ((Go.bits .and .i64 a1 268435455) + 1)) != 0) = true := bne_iff_ne.mpr c16
       replace H := Option.bind_eq_some_iff.mp H
       obtain ⟨t389, A170, H⟩ := H
       replace H : (if (x7_1.length : Int) = 0 then (some ((t389.length : Int) == 0)) else (if 0 < (x7_1.length : Int) then (isohyetlaw18_LevelFits.l1 k1 (wrap64 ((Go.bits .and .i64 a1 268435455) + 1)) (Int.tmod (Go.bits .and .i64 a2 268435455) (wrap64 ((Go.bits .and .i64 a1 268435455) + 1))) t389 (rd x7_1 0) (rd x7_1 0) x7_1 (x7_1.length : Int) 0) else (none))) = some r := H
       have A17 := Aside0.mk A170
       clear A170
       by_cases c18 : (x7_1.length : Int) = 0
       ·rw [if_pos c18] at H
        have c18b0 : ((x7_1.length : Int) == 0) = true := beq_iff_eq.mpr c18
        have c18b1 : ((x7_1.length : Int) != 0) = false := bne_eq_false_iff_eq.mpr c18
        clear c18
        obtain rfl := Option.some.inj H
        obtain ⟨Ao19, co19, eo19⟩ := Kd.R_slice HO_7.out
        subst eo19
        go_wp2_with (first | (go_at_call 23; (with_reducible refine (level_Fit.calls k1 _ _ x7_1 (wrap64 ((Go.bits .and .i64 a1 268435455) + 1)) (Int.tmod (Go.bits .and .i64 a2 268435455) (wrap64 ((Go.bits .and .i64 a1 268435455) + 1))) t389 _ ?side1 ?side2 A17.out).mono ?_); (case side1 => repeat (first | exact (Kd.R_reads' HO_7.out).2.2 | (with_reducible refine Kd.C_alloc ?_ _) | (with_reducible refine Kd.C_drewN ?_ _) | (with_reducible refine Kd.C_drew ?_))); (case side2 => exact (Kd.R_reads' HO_7.out).2.1); (try clear A17); rintro e w20 ⟨v390, rfl, ho0, hb⟩; have n0_ := Aside0.mk (Kd.R_elder' (gR HO_7.out) (Kd.R_base ho0) hb); have n1_ := Aside0.mk (Kd.R_lower (Kd.R_new' ho0 (Kd.R_lt (gR HO_7.out))) (below_size (gB HB.out))); have n2_ := Aside0.mk (below_step (gB HB.out) hb); clear HO_7; clear HB; have HO_7 := n0_; have HO391 := n1_; have HB := n2_; clear n0_ n1_ n2_; (try clear hb); (try clear hb2); (try clear hk); (try clear hi); (try clear ho0); obtain ⟨Ao21, co21, eo21⟩ := Kd.R_slice HO391.out; subst eo21))
        repeat (go_quiet (first | (go_at_call 23; (with_reducible refine (level_Fit.calls k1 _ _ x7_1 (wrap64 ((Go.bits .and .i64 a1 268435455) + 1)) (Int.tmod (Go.bits .and .i64 a2 268435455) (wrap64 ((Go.bits .and .i64 a1 268435455) + 1))) t389 _ ?side1 ?side2 A17.out).mono ?_); (case side1 => repeat (first | exact (Kd.R_reads' HO_7.out).2.2 | (with_reducible refine Kd.C_alloc ?_ _) | (with_reducible refine Kd.C_drewN ?_ _) | (with_reducible refine Kd.C_drew ?_))); (case side2 => exact (Kd.R_reads' HO_7.out).2.1); (try clear A17); rintro e w20 ⟨v390, rfl, ho0, hb⟩; have n0_ := Aside0.mk (Kd.R_elder' (gR HO_7.out) (Kd.R_base ho0) hb); have n1_ := Aside0.mk (Kd.R_lower (Kd.R_new' ho0 (Kd.R_lt (gR HO_7.out))) (below_size (gB HB.out))); have n2_ := Aside0.mk (below_step (gB HB.out) hb); clear HO_7; clear HB; have HO_7 := n0_; have HO391 := n1_; have HB := n2_; clear n0_ n1_ n2_; (try clear hb); (try clear hb2); (try clear hk); (try clear hi); (try clear ho0); obtain ⟨Ao21, co21, eo21⟩ := Kd.R_slice HO391.out; subst eo21)); try go_wp2_with (first | (go_at_call 23; (with_reducible refine (level_Fit.calls k1 _ _ x7_1 (wrap64 ((Go.bits .and .i64 a1 268435455) + 1)) (Int.tmod (Go.bits .and .i64 a2 268435455) (wrap64 ((Go.bits .and .i64 a1 268435455) + 1))) t389 _ ?side1 ?side2 A17.out).mono ?_); (case side1 => repeat (first | exact (Kd.R_reads' HO_7.out).2.2 | (with_reducible refine Kd.C_alloc ?_ _) | (with_reducible refine Kd.C_drewN ?_ _) | (with_reducible refine Kd.C_drew ?_))); (case side2 => exact (Kd.R_reads' HO_7.out).2.1); (try clear A17); rintro e w20 ⟨v390, rfl, ho0, hb⟩; have n0_ := Aside0.mk (Kd.R_elder' (gR HO_7.out) (Kd.R_base ho0) hb); have n1_ := Aside0.mk (Kd.R_lower (Kd.R_new' ho0 (Kd.R_lt (gR HO_7.out))) (below_size (gB HB.out))); have n2_ := Aside0.mk (below_step (gB HB.out) hb); clear HO_7; clear HB; have HO_7 := n0_; have HO391 := n1_; have HB := n2_; clear n0_ n1_ n2_; (try clear hb); (try clear hb2); (try clear hk); (try clear hi); (try clear ho0); obtain ⟨Ao21, co21, eo21⟩ := Kd.R_slice HO391.out; subst eo21)))
        go_ret
        exact ⟨by first | rfl | (simp [errW_none, errW_some] <;> rfl) | (simp [*, errW_none, errW_some] <;> rfl), by repeat (first | (with_reducible first | exact HB.out | apply bA | apply bN | apply bD) | exact HB.out)⟩
       ·rw [if_neg c18] at H
        have c18b0 : ((x7_1.length : Int) == 0) = false := beq_eq_false_iff_ne.mpr c18
        have c18b1 : ((x7_1.length : Int) != 0) = true := bne_iff_ne.mpr c18
        have c18b2 : ¬ (x7_1 = []) := fun h_ => c18 (by rw [h_]; rfl)
        by_cases c22 : 0 < (x7_1.length : Int)
        ·rw [if_pos c22] at H
         have c22b0 : decide (0 < (x7_1.length : Int)) = true := decide_eq_true c22
         have c22b1 : decide (0 < x7_1.length) = true := decide_eq_true (by omega)
         clear c22
         have H' := Aside0.mk H
         clear H
         obtain ⟨Ao23, co23, eo23⟩ := Kd.R_slice HO_7.out
         subst eo23
         go_wp2_with (first | (go_at_call 23; (with_reducible refine (level_Fit.calls k1 _ _ x7_1 (wrap64 ((Go.bits .and .i64 a1 268435455) + 1)) (Int.tmod (Go.bits .and .i64 a2 268435455) (wrap64 ((Go.bits .and .i64 a1 268435455) + 1))) t389 _ ?side1 ?side2 A17.out).mono ?_); (case side1 => repeat (first | exact (Kd.R_reads' HO_7.out).2.2 | (with_reducible refine Kd.C_alloc ?_ _) | (with_reducible refine Kd.C_drewN ?_ _) | (with_reducible refine Kd.C_drew ?_))); (case side2 => exact (Kd.R_reads' HO_7.out).2.1); (try clear A17); rintro e w24 ⟨v390, rfl, ho0, hb⟩; have n0_ := Aside0.mk (Kd.R_elder' (gR HO_7.out) (Kd.R_base ho0) hb); have n1_ := Aside0.mk (Kd.R_lower (Kd.R_new' ho0 (Kd.R_lt (gR HO_7.out))) (below_size (gB HB.out))); have n2_ := Aside0.mk (below_step (gB HB.out) hb); clear HO_7; clear HB; have HO_7 := n0_; have HO391 := n1_; have HB := n2_; clear n0_ n1_ n2_; (try clear hb); (try clear hb2); (try clear hk); (try clear hi); (try clear ho0); have p392 : 0 ≤ (0 : Int) := (by omega); have q392 : 0 < (x7_1.length : Int) := of_decide_eq_true (by first | (with_reducible assumption) | assumption); obtain ⟨ad392, e392, hx392_0⟩ := Kd.at_int (Kd.R_reads' HO_7.out).2.2 0 p392 q392; cases e392; have qi392 : (0 < x7_1.length) = True := eq_true (by omega); (try rw [show ((0 : Int)).toNat = 0 from rfl] at hx392_0); (try rw [Addr.add_zero'] at hx392_0); replace p392 := eq_true p392; replace q392 := eq_true q392; have p393 : 0 ≤ (0 : Int) := (by omega); have q393 : 0 < (x7_1.length : Int) := of_decide_eq_true (by first | (with_reducible assumption) | assumption); obtain ⟨ad393, e393, hx393_0⟩ := Kd.at_int (Kd.R_reads' HO_7.out).2.2 0 p393 q393; obtain rfl : ad392 = ad393 := (by injection e393); have qi393 : (0 < x7_1.length) = True := eq_true (by omega); (try rw [show ((0 : Int)).toNat = 0 from rfl] at hx393_0); (try rw [Addr.add_zero'] at hx393_0); replace p393 := eq_true p393; replace q393 := eq_true q393))
         repeat (go_quiet (first | (go_at_call 23; (with_reducible refine (level_Fit.calls k1 _ _ x7_1 (wrap64 ((Go.bits .and .i64 a1 268435455) + 1)) (Int.tmod (Go.bits .and .i64 a2 268435455) (wrap64 ((Go.bits .and .i64 a1 268435455) + 1))) t389 _ ?side1 ?side2 A17.out).mono ?_); (case side1 => repeat (first | exact (Kd.R_reads' HO_7.out).2.2 | (with_reducible refine Kd.C_alloc ?_ _) | (with_reducible refine Kd.C_drewN ?_ _) | (with_reducible refine Kd.C_drew ?_))); (case side2 => exact (Kd.R_reads' HO_7.out).2.1); (try clear A17); rintro e w24 ⟨v390, rfl, ho0, hb⟩; have n0_ := Aside0.mk (Kd.R_elder' (gR HO_7.out) (Kd.R_base ho0) hb); have n1_ := Aside0.mk (Kd.R_lower (Kd.R_new' ho0 (Kd.R_lt (gR HO_7.out))) (below_size (gB HB.out))); have n2_ := Aside0.mk (below_step (gB HB.out) hb); clear HO_7; clear HB; have HO_7 := n0_; have HO391 := n1_; have HB := n2_; clear n0_ n1_ n2_; (try clear hb); (try clear hb2); (try clear hk); (try clear hi); (try clear ho0); have p392 : 0 ≤ (0 : Int) := (by omega); have q392 : 0 < (x7_1.length : Int) := of_decide_eq_true (by first | (with_reducible assumption) | assumption); obtain ⟨ad392, e392, hx392_0⟩ := Kd.at_int (Kd.R_reads' HO_7.out).2.2 0 p392 q392; cases e392; have qi392 : (0 < x7_1.length) = True := eq_true (by omega); (try rw [show ((0 : Int)).toNat = 0 from rfl] at hx392_0); (try rw [Addr.add_zero'] at hx392_0); replace p392 := eq_true p392; replace q392 := eq_true q392; have p393 : 0 ≤ (0 : Int) := (by omega); have q393 : 0 < (x7_1.length : Int) := of_decide_eq_true (by first | (with_reducible assumption) | assumption); obtain ⟨ad393, e393, hx393_0⟩ := Kd.at_int (Kd.R_reads' HO_7.out).2.2 0 p393 q393; obtain rfl : ad392 = ad393 := (by injection e393); have qi393 : (0 < x7_1.length) = True := eq_true (by omega); (try rw [show ((0 : Int)).toNat = 0 from rfl] at hx393_0); (try rw [Addr.add_zero'] at hx393_0); replace p393 := eq_true p393; replace q393 := eq_true q393)); try go_wp2_with (first | (go_at_call 23; (with_reducible refine (level_Fit.calls k1 _ _ x7_1 (wrap64 ((Go.bits .and .i64 a1 268435455) + 1)) (Int.tmod (Go.bits .and .i64 a2 268435455) (wrap64 ((Go.bits .and .i64 a1 268435455) + 1))) t389 _ ?side1 ?side2 A17.out).mono ?_); (case side1 => repeat (first | exact (Kd.R_reads' HO_7.out).2.2 | (with_reducible refine Kd.C_alloc ?_ _) | (with_reducible refine Kd.C_drewN ?_ _) | (with_reducible refine Kd.C_drew ?_))); (case side2 => exact (Kd.R_reads' HO_7.out).2.1); (try clear A17); rintro e w24 ⟨v390, rfl, ho0, hb⟩; have n0_ := Aside0.mk (Kd.R_elder' (gR HO_7.out) (Kd.R_base ho0) hb); have n1_ := Aside0.mk (Kd.R_lower (Kd.R_new' ho0 (Kd.R_lt (gR HO_7.out))) (below_size (gB HB.out))); have n2_ := Aside0.mk (below_step (gB HB.out) hb); clear HO_7; clear HB; have HO_7 := n0_; have HO391 := n1_; have HB := n2_; clear n0_ n1_ n2_; (try clear hb); (try clear hb2); (try clear hk); (try clear hi); (try clear ho0); have p392 : 0 ≤ (0 : Int) := (by omega); have q392 : 0 < (x7_1.length : Int) := of_decide_eq_true (by first | (with_reducible assumption) | assumption); obtain ⟨ad392, e392, hx392_0⟩ := Kd.at_int (Kd.R_reads' HO_7.out).2.2 0 p392 q392; cases e392; have qi392 : (0 < x7_1.length) = True := eq_true (by omega); (try rw [show ((0 : Int)).toNat = 0 from rfl] at hx392_0); (try rw [Addr.add_zero'] at hx392_0); replace p392 := eq_true p392; replace q392 := eq_true q392; have p393 : 0 ≤ (0 : Int) := (by omega); have q393 : 0 < (x7_1.length : Int) := of_decide_eq_true (by first | (with_reducible assumption) | assumption); obtain ⟨ad393, e393, hx393_0⟩ := Kd.at_int (Kd.R_reads' HO_7.out).2.2 0 p393 q393; obtain rfl : ad392 = ad393 := (by injection e393); have qi393 : (0 < x7_1.length) = True := eq_true (by omega); (try rw [show ((0 : Int)).toNat = 0 from rfl] at hx393_0); (try rw [Addr.add_zero'] at hx393_0); replace p393 := eq_true p393; replace q393 := eq_true q393)))
         go_loopg [11, 12, 61] k1 (fun kq v11 v12 v61 w' => ∃ (x11_2 : Int) (x12_2 : Int) (x61_2 : Int), v11 = .int .i64 x11_2 ∧ v12 = .int .i64 x12_2 ∧ v61 = .int .i64 x61_2 ∧ Aside0 (isohyetlaw18_LevelFits.l1 kq (wrap64 ((Go.bits .and .i64 a1 268435455) + 1)) (Int.tmod (Go.bits .and .i64 a2 268435455) (wrap64 ((Go.bits .and .i64 a1 268435455) + 1))) t389 x11_2 x12_2 x7_1 (x7_1.length : Int) x61_2 = some r) ∧ Aside0 (kq ≤ k1) ∧ Aside0 (Kd.R (Kd.int .i64) 3 w' w.heap.size (fun k_ => some k_ ≠ ((.slice (some ad392) x7_1.length co23) : Value).ownBlock) v390 t389) ∧ Aside0 (Kd.R (Kd.int .i64) 3 w' w.heap.size (fun k_ => some k_ ≠ (v390 : Value).ownBlock) (.slice (some ad392) x7_1.length co23) x7_1) ∧ Aside0 (Below w.heap.size w w'))
         case atStart => exact ⟨(rd x7_1 0), (rd x7_1 0), (0), (by first | rfl | (simp; done) | (simp [*]; done)), (by first | rfl | (simp; done) | (simp [*]; done)), (by first | rfl | (simp; done) | (simp [*]; done)), H', ⟨Nat.le_refl _⟩, ⟨by (with_reducible repeat (first | apply Kd.R_alloc | apply Kd.R_drewN | apply Kd.R_drew)); exact Kd.R_mono HO391.out (fun _ hk => hk.2)⟩, ⟨by (with_reducible repeat (first | apply Kd.R_alloc | apply Kd.R_drewN | apply Kd.R_drew)); exact Kd.R_mono HO_7.out (fun _ hk => hk.2)⟩, ⟨by repeat (first | (with_reducible first | exact HB.out | apply bA | apply bN | apply bD) | exact HB.out)⟩⟩
         case round =>
          clear H'
          try clear c1
          try clear c2
          try clear p2
          try clear p3
          try clear q3
          try clear hx3
          try clear qi3
          try clear c5
          try clear c6
          try clear c6b0
          try clear c6b1
          try clear p6
          try clear c7
          try clear c9
          try clear c9b0
          try clear c10
          try clear c10b0
          try clear c11
          try clear c11b0
          try clear c14
          try clear c16
          try clear c16b0
          try clear c16b1
          try clear c18
          try clear c18b0
          try clear c18b1
          try clear c18b2
          try clear c22
          try clear c22b0
          try clear c22b1
          try clear hx385_0
          try clear hx392_0
          try clear hx393_0
          try clear p2
          try clear p385
          try clear p392
          try clear p393
          try clear q385
          try clear q392
          try clear q393
          obtain ⟨x11_2, x12_2, x61_2, rfl, rfl, rfl, HA, HK2, HO_10, HO_59, HB⟩ := hrel
          cases gk with
          | zero => exact absurd HA.out (by simp [isohyetlaw18_LevelFits.l1])
          | succ k2 =>
           have H := HA.out
           clear HA
           simp only [isohyetlaw18_LevelFits.l1] at H
           by_cases c25 : x61_2 < (x7_1.length : Int)
           ·rw [if_pos c25] at H
            have c25b0 : decide (x61_2 < (x7_1.length : Int)) = true := decide_eq_true c25
            clear c25
            by_cases c26 : 0 ≤ x61_2
            ·rw [if_pos c26] at H
             have c26b0 : decide (0 ≤ x61_2) = true := decide_eq_true c26
             clear c26
             by_cases c27 : x61_2 < (x7_1.length : Int)
             ·rw [if_pos c27] at H
              have c27b0 : decide (x61_2 < (x7_1.length : Int)) = true := decide_eq_true c27
              clear c27
              obtain ⟨ji28, hji28⟩ : ∃ j_ : Int, (mn x11_2 (rd x7_1 x61_2)) = j_ := ⟨_, rfl⟩
              replace H : (isohyetlaw18_LevelFits.l1 k2 (wrap64 ((Go.bits .and .i64 a1 268435455) + 1)) (Int.tmod (Go.bits .and .i64 a2 268435455) (wrap64 ((Go.bits .and .i64 a1 268435455) + 1))) t389 ji28 (mx x12_2 (rd x7_1 x61_2)) x7_1 (x7_1.length : Int) (wrap64 (x61_2 + 1))) = some r := by first | (rw [hji28] at H; exact H) | (simp only [hji28] at H ⊢; exact H)
              have hji28_ : (if (rd x7_1 x61_2) < x11_2 then (rd x7_1 x61_2) else x11_2) = ji28 := hji28
              obtain ⟨ji29, hji29⟩ : ∃ j_ : Int, (mx x12_2 (rd x7_1 x61_2)) = j_ := ⟨_, rfl⟩
              replace H : (isohyetlaw18_LevelFits.l1 k2 (wrap64 ((Go.bits .and .i64 a1 268435455) + 1)) (Int.tmod (Go.bits .and .i64 a2 268435455) (wrap64 ((Go.bits .and .i64 a1 268435455) + 1))) t389 ji28 ji29 x7_1 (x7_1.length : Int) (wrap64 (x61_2 + 1))) = some r := by first | (rw [hji29] at H; exact H) | (simp only [hji29] at H ⊢; exact H)
              have hji29_ : (if x12_2 < (rd x7_1 x61_2) then (rd x7_1 x61_2) else x12_2) = ji29 := hji29
              have H' := Aside0.mk H
              clear H
              have p394 : 0 ≤ (x61_2 : Int) := of_decide_eq_true (by first | (with_reducible assumption) | assumption)
              have q394 : x61_2 < (x7_1.length : Int) := of_decide_eq_true (by first | (with_reducible assumption) | assumption)
              obtain ⟨ad394, e394, hx394_0⟩ := Kd.at_int (Kd.R_reads' HO_59.out).2.2 x61_2 p394 q394
              obtain rfl : ad392 = ad394 := (by injection e394)
              replace p394 := eq_true p394
              replace q394 := eq_true q394
              go_wp2
              repeat (go_quiet (fail); try go_wp2)
              go_roundg k2
              case measure => have := HK1.out; have := HK2.out; omega
              case rel => exact ⟨(ji28), (ji29), (wrap64 (x61_2 + 1)), (by first | rfl | (simp; done) | (simp only [← hji28] <;> (first | rfl | simp)) | (simp [*]; done)), (by first | rfl | (simp; done) | (simp only [← hji29] <;> (first | rfl | simp)) | (simp [*]; done)), (by first | rfl | (simp; done) | (simp [*]; done)), H', ⟨by have := HK1.out; have := HK2.out; omega⟩, ⟨by (with_reducible repeat (first | apply Kd.R_alloc | apply Kd.R_drewN | apply Kd.R_drew)); exact HO_10.out⟩, ⟨by (with_reducible repeat (first | apply Kd.R_alloc | apply Kd.R_drewN | apply Kd.R_drew)); exact HO_59.out⟩, ⟨by repeat (first | (with_reducible first | exact HB.out | apply bA | apply bN | apply bD) | exact HB.out)⟩⟩
             ·rw [if_neg c27] at H
              exact absurd H (by simp)
            ·rw [if_neg c26] at H
             exact absurd H (by simp)
           ·rw [if_neg c25] at H
            have c25b0 : decide (x61_2 < (x7_1.length : Int)) = false := decide_eq_false c25
            clear c25
            have H' := Aside0.mk H
            clear H
            obtain ⟨Ao30, co30, eo30⟩ := Kd.R_slice HO_10.out
            subst eo30
            go_wp2
            repeat (go_quiet (fail); try go_wp2)
            go_loopg [74] k2 (fun kq v74 w' => ∃ (x74_3 : Int), v74 = .int .i64 x74_3 ∧ Aside0 (isohyetlaw18_LevelFits.l2 kq (wrap64 ((Go.bits .and .i64 a1 268435455) + 1)) (Int.tmod (Go.bits .and .i64 a2 268435455) (wrap64 ((Go.bits .and .i64 a1 268435455) + 1))) t389 x11_2 x12_2 t389 (t389.length : Int) x74_3 = some r) ∧ Aside0 (kq ≤ k2) ∧ Aside0 (Kd.R (Kd.int .i64) 3 w' w.heap.size (fun _ => True) (.slice Ao30 t389.length co30) t389) ∧ Aside0 (Kd.R (Kd.int .i64) 3 w' w.heap.size (fun _ => True) (.slice Ao30 t389.length co30) t389) ∧ Aside0 (Below w.heap.size w w'))
            case atStart => exact ⟨(0), (by first | rfl | (simp; done) | (simp [*]; done)), H', ⟨Nat.le_refl _⟩, ⟨by (with_reducible repeat (first | apply Kd.R_alloc | apply Kd.R_drewN | apply Kd.R_drew)); exact Kd.R_mono HO_10.out (fun _ hk => trivial)⟩, ⟨by (with_reducible repeat (first | apply Kd.R_alloc | apply Kd.R_drewN | apply Kd.R_drew)); exact Kd.R_mono HO_10.out (fun _ hk => trivial)⟩, ⟨by repeat (first | (with_reducible first | exact HB.out | apply bA | apply bN | apply bD) | exact HB.out)⟩⟩
            case round =>
             clear H'
             try clear c1
             try clear c2
             try clear p2
             try clear p3
             try clear q3
             try clear hx3
             try clear qi3
             try clear c5
             try clear c6
             try clear c6b0
             try clear c6b1
             try clear p6
             try clear c7
             try clear c9
             try clear c9b0
             try clear c10
             try clear c10b0
             try clear c11
             try clear c11b0
             try clear c14
             try clear c16
             try clear c16b0
             try clear c16b1
             try clear c18
             try clear c18b0
             try clear c18b1
             try clear c18b2
             try clear c22
             try clear c22b0
             try clear c22b1
             try clear c25
             try clear c25b0
             try clear c26
             try clear c26b0
             try clear c27
             try clear c27b0
             try clear hx385_0
             try clear hx392_0
             try clear hx393_0
             try clear hx394_0
             try clear p2
             try clear p3
             try clear p385
             try clear p392
             try clear p393
             try clear p394
             try clear p6
             try clear q3
             try clear q385
             try clear q392
             try clear q393
             try clear q394
             obtain ⟨x74_3, rfl, HA, HK3, HO_10, HO_72, HB⟩ := hrel
             cases gk with
             | zero => exact absurd HA.out (by simp [isohyetlaw18_LevelFits.l2])
             | succ k3 =>
              have H := HA.out
              clear HA
              simp only [isohyetlaw18_LevelFits.l2] at H
              by_cases c31 : x74_3 < (t389.length : Int)
              ·rw [if_pos c31] at H
               have c31b0 : decide (x74_3 < (t389.length : Int)) = true := decide_eq_true c31
               clear c31
               by_cases c32 : 0 ≤ x74_3
               ·rw [if_pos c32] at H
                have c32b0 : decide (0 ≤ x74_3) = true := decide_eq_true c32
                clear c32
                by_cases c33 : x74_3 < (t389.length : Int)
                ·rw [if_pos c33] at H
                 have c33b0 : decide (x74_3 < (t389.length : Int)) = true := decide_eq_true c33
                 clear c33
                 by_cases c34 : (rd t389 x74_3) < x11_2
                 ·rw [if_pos c34] at H
                  have c34b0 : decide ((rd t389 x74_3) < x11_2) = true := decide_eq_true c34
                  clear c34
                  exact absurd ((Option.some.inj H).trans HTRUE) (by decide)
                 ·rw [if_neg c34] at H
                  have c34b0 : decide ((rd t389 x74_3) < x11_2) = false := decide_eq_false c34
                  clear c34
                  by_cases c35 : (rd t389 x74_3) > x12_2
                  ·rw [if_pos c35] at H
                   have c35b0 : decide (x12_2 < (rd t389 x74_3)) = true := decide_eq_true c35
                   clear c35
                   exact absurd ((Option.some.inj H).trans HTRUE) (by decide)
                  ·rw [if_neg c35] at H
                   have c35b0 : decide (x12_2 < (rd t389 x74_3)) = false := decide_eq_false c35
                   clear c35
                   by_cases c36 : (wrap64 ((Go.bits .and .i64 a1 268435455) + 1)) = 0
                   ·rw [if_pos c36] at H
                    exact absurd H (by simp)
                   ·rw [if_neg c36] at H
                    have c36b0 : ((wrap64 ((Go.bits .and .i64 a1 268435455) + 1)) == 0) = false := beq_eq_false_iff_ne.mpr c36
                    have c36b1 : ((wrap64 ((Go.bits .and .i64 a1 268435455) + 1)) != 0) = true := bne_iff_ne.mpr c36
                    by_cases c37 : (Int.tmod (wrap64 ((rd t389 x74_3) - (Int.tmod (Go.bits .and .i64 a2 268435455) (wrap64 ((Go.bits .and .i64 a1 268435455) + 1))))) (wrap64 ((Go.bits .and .i64 a1 268435455) + 1))) = 0
                    ·rw [if_pos c37] at H
                     have c37b0 : ((Int.tmod (wrap64 ((rd t389 x74_3) - (Int.tmod (Go.bits .and .i64 a2 268435455) (wrap64 ((Go.bits .and .i64 a1 268435455) + 1))))) (wrap64 ((Go.bits .and .i64 a1 268435455) + 1))) == 0) = true := beq_iff_eq.mpr c37
                     have c37b1 : ((Int.tmod (wrap64 ((rd t389 x74_3) - (Int.tmod (Go.bits .and .i64 a2 268435455) (wrap64 ((Go.bits .and .i64 a1 268435455) + 1))))) (wrap64 ((Go.bits .and .i64 a1 268435455) + 1))) != 0) = false := bne_eq_false_iff_eq.mpr c37
                     clear c37
                     by_cases c38 : x74_3 > 0
                     ·rw [if_pos c38] at H
                      have c38b0 : decide (0 < x74_3) = true := decide_eq_true c38
                      clear c38
                      obtain ⟨ji39, hji39⟩ : ∃ j_ : Int, (wrap64 (x74_3 - 1)) = j_ := ⟨_, rfl⟩
                      replace H : (if 0 ≤ (ji39) then (if (ji39) < (t389.length : Int) then (if (wrap64 ((rd t389 (ji39)) + (wrap64 ((Go.bits .and .i64 a1 268435455) + 1)))) = (rd t389 x74_3) then (if x74_3 = 0 then (if (wrap64 ((rd t389 x74_3) - (wrap64 ((Go.bits .and .i64 a1 268435455) + 1)))) ≥ x11_2 then (some false) else (isohyetlaw18_LevelFits.l2 k3 (wrap64 ((Go.bits .and .i64 a1 268435455) + 1)) (Int.tmod (Go.bits .and .i64 a2 268435455) (wrap64 ((Go.bits .and .i64 a1 268435455) + 1))) t389 x11_2 x12_2 t389 (t389.length : Int) (wrap64 (x74_3 + 1)))) else (isohyetlaw18_LevelFits.l2 k3 (wrap64 ((Go.bits .and .i64 a1 268435455) + 1)) (Int.tmod (Go.bits .and .i64 a2 268435455) (wrap64 ((Go.bits .and .i64 a1 268435455) + 1))) t389 x11_2 x12_2 t389 (t389.length : Int) (wrap64 (x74_3 + 1)))) else (some false)) else (none)) else (none)) = some r := by first | (rw [hji39] at H; exact H) | (simp only [hji39] at H ⊢; exact H)
                      have hji39w : (IntKind.i64.wrap (x74_3 - 1)) = ji39 := (i64_w _).trans hji39
                      by_cases c40 : 0 ≤ (ji39)
                      ·rw [if_pos c40] at H
                       have c40b0 : decide (0 ≤ (ji39)) = true := decide_eq_true c40
                       clear c40
                       by_cases c41 : (ji39) < (t389.length : Int)
                       ·rw [if_pos c41] at H
                        have c41b0 : decide ((ji39) < (t389.length : Int)) = true := decide_eq_true c41
                        clear c41
                        by_cases c42 : (wrap64 ((rd t389 (ji39)) + (wrap64 ((Go.bits .and .i64 a1 268435455) + 1)))) = (rd t389 x74_3)
                        ·rw [if_pos c42] at H
                         have c42b0 : ((wrap64 ((rd t389 (ji39)) + (wrap64 ((Go.bits .and .i64 a1 268435455) + 1)))) == (rd t389 x74_3)) = true := beq_iff_eq.mpr c42
                         have c42b1 : ((wrap64 ((rd t389 (ji39)) + (wrap64 ((Go.bits .and .i64 a1 268435455) + 1)))) != (rd t389 x74_3)) = false := bne_eq_false_iff_eq.mpr c42
                         clear c42
                         by_cases c43 : x74_3 = 0
                         ·rw [if_pos c43] at H
                          have c43b0 : (x74_3 == 0) = true := beq_iff_eq.mpr c43
                          have c43b1 : (x74_3 != 0) = false := bne_eq_false_iff_eq.mpr c43
                          clear c43
                          by_cases c44 : (wrap64 ((rd t389 x74_3) - (wrap64 ((Go.bits .and .i64 a1 268435455) + 1)))) ≥ x11_2
                          ·rw [if_pos c44] at H
                           have c44b0 : decide (x11_2 ≤ (wrap64 ((rd t389 x74_3) - (wrap64 ((Go.bits .and .i64 a1 268435455) + 1))))) = true := decide_eq_true c44
                           clear c44
                           exact absurd ((Option.some.inj H).trans HTRUE) (by decide)
                          ·rw [if_neg c44] at H
                           have c44b0 : decide (x11_2 ≤ (wrap64 ((rd t389 x74_3) - (wrap64 ((Go.bits .and .i64 a1 268435455) + 1))))) = false := decide_eq_false c44
                           clear c44
                           have H' := Aside0.mk H
                           clear H
                           have p395 : 0 ≤ (x74_3 : Int) := of_decide_eq_true (by first | (with_reducible assumption) | assumption)
                           have q395 : x74_3 < (t389.length : Int) := of_decide_eq_true (by first | (with_reducible assumption) | assumption)
                           obtain ⟨ad395, e395, hx395_0⟩ := Kd.at_int (Kd.R_reads' HO_72.out).2.2 x74_3 p395 q395
                           cases e395
                           replace p395 := eq_true p395
                           replace q395 := eq_true q395
                           have p396 : 0 ≤ ((ji39) : Int) := of_decide_eq_true (by first | (with_reducible assumption) | assumption)
                           have q396 : (ji39) < (t389.length : Int) := of_decide_eq_true (by first | (with_reducible assumption) | assumption)
                           obtain ⟨ad396, e396, hx396_0⟩ := Kd.at_int (Kd.R_reads' HO_10.out).2.2 (ji39) p396 q396
                           obtain rfl : ad395 = ad396 := (by injection e396)
                           replace p396 := eq_true p396
                           replace q396 := eq_true q396
                           go_wp2
                           repeat (go_quiet (fail); try go_wp2)
                           go_roundg k3
                           case measure => have := HK1.out; have := HK2.out; have := HK3.out; omega
                           case rel => exact ⟨(wrap64 (x74_3 + 1)), (by first | rfl | (simp; done) | (simp [*]; done)), H', ⟨by have := HK1.out; have := HK2.out; have := HK3.out; omega⟩, ⟨by (with_reducible repeat (first | apply Kd.R_alloc | apply Kd.R_drewN | apply Kd.R_drew)); exact HO_10.out⟩, ⟨by (with_reducible repeat (first | apply Kd.R_alloc | apply Kd.R_drewN | apply Kd.R_drew)); exact HO_72.out⟩, ⟨by repeat (first | (with_reducible first | exact HB.out | apply bA | apply bN | apply bD) | exact HB.out)⟩⟩
                         ·rw [if_neg c43] at H
                          have c43b0 : (x74_3 == 0) = false := beq_eq_false_iff_ne.mpr c43
                          have c43b1 : (x74_3 != 0) = true := bne_iff_ne.mpr c43
                          have H' := Aside0.mk H
                          clear H
                          have p395 : 0 ≤ (x74_3 : Int) := of_decide_eq_true (by first | (with_reducible assumption) | assumption)
                          have q395 : x74_3 < (t389.length : Int) := of_decide_eq_true (by first | (with_reducible assumption) | assumption)
                          obtain ⟨ad395, e395, hx395_0⟩ := Kd.at_int (Kd.R_reads' HO_72.out).2.2 x74_3 p395 q395
                          cases e395
                          replace p395 := eq_true p395
                          replace q395 := eq_true q395
                          have p396 : 0 ≤ ((ji39) : Int) := of_decide_eq_true (by first | (with_reducible assumption) | assumption)
                          have q396 : (ji39) < (t389.length : Int) := of_decide_eq_true (by first | (with_reducible assumption) | assumption)
                          obtain ⟨ad396, e396, hx396_0⟩ := Kd.at_int (Kd.R_reads' HO_10.out).2.2 (ji39) p396 q396
                          obtain rfl : ad395 = ad396 := (by injection e396)
                          replace p396 := eq_true p396
                          replace q396 := eq_true q396
                          go_wp2
                          repeat (go_quiet (fail); try go_wp2)
                          go_roundg k3
                          case measure => have := HK1.out; have := HK2.out; have := HK3.out; omega
                          case rel => exact ⟨(wrap64 (x74_3 + 1)), (by first | rfl | (simp; done) | (simp [*]; done)), H', ⟨by have := HK1.out; have := HK2.out; have := HK3.out; omega⟩, ⟨by (with_reducible repeat (first | apply Kd.R_alloc | apply Kd.R_drewN | apply Kd.R_drew)); exact HO_10.out⟩, ⟨by (with_reducible repeat (first | apply Kd.R_alloc | apply Kd.R_drewN | apply Kd.R_drew)); exact HO_72.out⟩, ⟨by repeat (first | (with_reducible first | exact HB.out | apply bA | apply bN | apply bD) | exact HB.out)⟩⟩
                        ·rw [if_neg c42] at H
                         have c42b0 : ((wrap64 ((rd t389 (ji39)) + (wrap64 ((Go.bits .and .i64 a1 268435455) + 1)))) == (rd t389 x74_3)) = false := beq_eq_false_iff_ne.mpr c42
                         have c42b1 : ((wrap64 ((rd t389 (ji39)) + (wrap64 ((Go.bits .and .i64 a1 268435455) + 1)))) != (rd t389 x74_3)) = true := bne_iff_ne.mpr c42
                         exact absurd ((Option.some.inj H).trans HTRUE) (by decide)
                       ·rw [if_neg c41] at H
                        exact absurd H (by simp)
                      ·rw [if_neg c40] at H
                       exact absurd H (by simp)
                     ·rw [if_neg c38] at H
                      have c38b0 : decide (0 < x74_3) = false := decide_eq_false c38
                      clear c38
                      by_cases c45 : x74_3 = 0
                      ·rw [if_pos c45] at H
                       have c45b0 : (x74_3 == 0) = true := beq_iff_eq.mpr c45
                       have c45b1 : (x74_3 != 0) = false := bne_eq_false_iff_eq.mpr c45
                       clear c45
                       by_cases c46 : (wrap64 ((rd t389 x74_3) - (wrap64 ((Go.bits .and .i64 a1 268435455) + 1)))) ≥ x11_2
                       ·rw [if_pos c46] at H
                        have c46b0 : decide (x11_2 ≤ (wrap64 ((rd t389 x74_3) - (wrap64 ((Go.bits .and .i64 a1 268435455) + 1))))) = true := decide_eq_true c46
                        clear c46
                        exact absurd ((Option.some.inj H).trans HTRUE) (by decide)
                       ·rw [if_neg c46] at H
                        have c46b0 : decide (x11_2 ≤ (wrap64 ((rd t389 x74_3) - (wrap64 ((Go.bits .and .i64 a1 268435455) + 1))))) = false := decide_eq_false c46
                        clear c46
                        have H' := Aside0.mk H
                        clear H
                        have p395 : 0 ≤ (x74_3 : Int) := of_decide_eq_true (by first | (with_reducible assumption) | assumption)
                        have q395 : x74_3 < (t389.length : Int) := of_decide_eq_true (by first | (with_reducible assumption) | assumption)
                        obtain ⟨ad395, e395, hx395_0⟩ := Kd.at_int (Kd.R_reads' HO_72.out).2.2 x74_3 p395 q395
                        cases e395
                        replace p395 := eq_true p395
                        replace q395 := eq_true q395
                        go_wp2
                        repeat (go_quiet (fail); try go_wp2)
                        go_roundg k3
                        case measure => have := HK1.out; have := HK2.out; have := HK3.out; omega
                        case rel => exact ⟨(wrap64 (x74_3 + 1)), (by first | rfl | (simp; done) | (simp [*]; done)), H', ⟨by have := HK1.out; have := HK2.out; have := HK3.out; omega⟩, ⟨by (with_reducible repeat (first | apply Kd.R_alloc | apply Kd.R_drewN | apply Kd.R_drew)); exact HO_10.out⟩, ⟨by (with_reducible repeat (first | apply Kd.R_alloc | apply Kd.R_drewN | apply Kd.R_drew)); exact HO_72.out⟩, ⟨by repeat (first | (with_reducible first | exact HB.out | apply bA | apply bN | apply bD) | exact HB.out)⟩⟩
                      ·rw [if_neg c45] at H
                       have c45b0 : (x74_3 == 0) = false := beq_eq_false_iff_ne.mpr c45
                       have c45b1 : (x74_3 != 0) = true := bne_iff_ne.mpr c45
                       have H' := Aside0.mk H
                       clear H
                       have p395 : 0 ≤ (x74_3 : Int) := of_decide_eq_true (by first | (with_reducible assumption) | assumption)
                       have q395 : x74_3 < (t389.length : Int) := of_decide_eq_true (by first | (with_reducible assumption) | assumption)
                       obtain ⟨ad395, e395, hx395_0⟩ := Kd.at_int (Kd.R_reads' HO_72.out).2.2 x74_3 p395 q395
                       cases e395
                       replace p395 := eq_true p395
                       replace q395 := eq_true q395
                       go_wp2
                       repeat (go_quiet (fail); try go_wp2)
                       go_roundg k3
                       case measure => have := HK1.out; have := HK2.out; have := HK3.out; omega
                       case rel => exact ⟨(wrap64 (x74_3 + 1)), (by first | rfl | (simp; done) | (simp [*]; done)), H', ⟨by have := HK1.out; have := HK2.out; have := HK3.out; omega⟩, ⟨by (with_reducible repeat (first | apply Kd.R_alloc | apply Kd.R_drewN | apply Kd.R_drew)); exact HO_10.out⟩, ⟨by (with_reducible repeat (first | apply Kd.R_alloc | apply Kd.R_drewN | apply Kd.R_drew)); exact HO_72.out⟩, ⟨by repeat (first | (with_reducible first | exact HB.out | apply bA | apply bN | apply bD) | exact HB.out)⟩⟩
                    ·rw [if_neg c37] at H
                     have c37b0 : ((Int.tmod (wrap64 ((rd t389 x74_3) - (Int.tmod (Go.bits .and .i64 a2 268435455) (wrap64 ((Go.bits .and .i64 a1 268435455) + 1))))) (wrap64 ((Go.bits .and .i64 a1 268435455) + 1))) == 0) = false := beq_eq_false_iff_ne.mpr c37
                     have c37b1 : ((Int.tmod (wrap64 ((rd t389 x74_3) - (Int.tmod (Go.bits .and .i64 a2 268435455) (wrap64 ((Go.bits .and .i64 a1 268435455) + 1))))) (wrap64 ((Go.bits .and .i64 a1 268435455) + 1))) != 0) = true := bne_iff_ne.mpr c37
                     exact absurd ((Option.some.inj H).trans HTRUE) (by decide)
                ·rw [if_neg c33] at H
                 exact absurd H (by simp)
               ·rw [if_neg c32] at H
                exact absurd H (by simp)
              ·rw [if_neg c31] at H
               have c31b0 : decide (x74_3 < (t389.length : Int)) = false := decide_eq_false c31
               clear c31
               by_cases c47 : (t389.length : Int) = 0
               ·rw [if_pos c47] at H
                have c47b0 : ((t389.length : Int) == 0) = true := beq_iff_eq.mpr c47
                have c47b1 : ((t389.length : Int) != 0) = false := bne_eq_false_iff_eq.mpr c47
                clear c47
                by_cases c48 : (wrap64 ((Go.bits .and .i64 a1 268435455) + 1)) = 0
                ·rw [if_pos c48] at H
                 exact absurd H (by simp)
                ·rw [if_neg c48] at H
                 have c48b0 : ((wrap64 ((Go.bits .and .i64 a1 268435455) + 1)) == 0) = false := beq_eq_false_iff_ne.mpr c48
                 have c48b1 : ((wrap64 ((Go.bits .and .i64 a1 268435455) + 1)) != 0) = true := bne_iff_ne.mpr c48
                 by_cases c49 : (wrap64 (x11_2 - (Int.tmod (wrap64 ((Int.tmod (wrap64 (x11_2 - (Int.tmod (Go.bits .and .i64 a2 268435455) (wrap64 ((Go.bits .and .i64 a1 268435455) + 1))))) (wrap64 ((Go.bits .and .i64 a1 268435455) + 1))) + (wrap64 ((Go.bits .and .i64 a1 268435455) + 1)))) (wrap64 ((Go.bits .and .i64 a1 268435455) + 1))))) < x11_2
                 ·rw [if_pos c49] at H
                  have c49b0 : decide ((wrap64 (x11_2 - (Int.tmod (wrap64 ((Int.tmod (wrap64 (x11_2 - (Int.tmod (Go.bits .and .i64 a2 268435455) (wrap64 ((Go.bits .and .i64 a1 268435455) + 1))))) (wrap64 ((Go.bits .and .i64 a1 268435455) + 1))) + (wrap64 ((Go.bits .and .i64 a1 268435455) + 1)))) (wrap64 ((Go.bits .and .i64 a1 268435455) + 1))))) < x11_2) = true := decide_eq_true c49
                  clear c49
                  obtain rfl := Option.some.inj H
                  go_wp2
                  repeat (go_quiet (fail); try go_wp2)
                  go_ret
                  exact ⟨by first | rfl | (simp [errW_none, errW_some] <;> rfl) | (simp [*, errW_none, errW_some] <;> rfl), by repeat (first | (with_reducible first | exact HB.out | apply bA | apply bN | apply bD) | exact HB.out)⟩
                 ·rw [if_neg c49] at H
                  have c49b0 : decide ((wrap64 (x11_2 - (Int.tmod (wrap64 ((Int.tmod (wrap64 (x11_2 - (Int.tmod (Go.bits .and .i64 a2 268435455) (wrap64 ((Go.bits .and .i64 a1 268435455) + 1))))) (wrap64 ((Go.bits .and .i64 a1 268435455) + 1))) + (wrap64 ((Go.bits .and .i64 a1 268435455) + 1)))) (wrap64 ((Go.bits .and .i64 a1 268435455) + 1))))) < x11_2) = false := decide_eq_false c49
                  clear c49
                  exact absurd ((Option.some.inj H).trans HTRUE) (by decide)
               ·rw [if_neg c47] at H
                have c47b0 : ((t389.length : Int) == 0) = false := beq_eq_false_iff_ne.mpr c47
                have c47b1 : ((t389.length : Int) != 0) = true := bne_iff_ne.mpr c47
                have c47b2 : ¬ (t389 = []) := fun h_ => c47 (by rw [h_]; rfl)
                by_cases c50 : (t389.length : Int) = 200
                ·rw [if_pos c50] at H
                 have c50b0 : ((t389.length : Int) == 200) = true := beq_iff_eq.mpr c50
                 have c50b1 : ((t389.length : Int) != 200) = false := bne_eq_false_iff_eq.mpr c50
                 clear c50
                 obtain rfl := Option.some.inj H
                 go_wp2
                 repeat (go_quiet (fail); try go_wp2)
                 go_ret
                 exact ⟨by first | rfl | (simp [errW_none, errW_some] <;> rfl) | (simp [*, errW_none, errW_some] <;> rfl), by repeat (first | (with_reducible first | exact HB.out | apply bA | apply bN | apply bD) | exact HB.out)⟩
                ·rw [if_neg c50] at H
                 have c50b0 : ((t389.length : Int) == 200) = false := beq_eq_false_iff_ne.mpr c50
                 have c50b1 : ((t389.length : Int) != 200) = true := bne_iff_ne.mpr c50
                 by_cases c51 : (t389.length : Int) < 200
                 ·rw [if_pos c51] at H
                  have c51b0 : decide ((t389.length : Int) < 200) = true := decide_eq_true c51
                  have c51b1 : decide (t389.length < 200) = true := decide_eq_true (by omega)
                  clear c51
                  obtain ⟨ji52, hji52⟩ : ∃ j_ : Int, (wrap64 ((t389.length : Int) - 1)) = j_ := ⟨_, rfl⟩
                  replace H : (if 0 ≤ (ji52) then (if (ji52) < (t389.length : Int) then (some (decide ((wrap64 ((rd t389 (ji52)) + (wrap64 ((Go.bits .and .i64 a1 268435455) + 1)))) > x12_2))) else (none)) else (none)) = some r := by first | (rw [hji52] at H; exact H) | (simp only [hji52] at H ⊢; exact H)
                  have hji52w : (IntKind.i64.wrap ((t389.length : Int) - 1)) = ji52 := (i64_w _).trans hji52
                  by_cases c53 : 0 ≤ (ji52)
                  ·rw [if_pos c53] at H
                   have c53b0 : decide (0 ≤ (ji52)) = true := decide_eq_true c53
                   clear c53
                   by_cases c54 : (ji52) < (t389.length : Int)
                   ·rw [if_pos c54] at H
                    have c54b0 : decide ((ji52) < (t389.length : Int)) = true := decide_eq_true c54
                    clear c54
                    obtain rfl := Option.some.inj H
                    have p397 : 0 ≤ ((ji52) : Int) := of_decide_eq_true (by first | (with_reducible assumption) | assumption)
                    have q397 : (ji52) < (t389.length : Int) := of_decide_eq_true (by first | (with_reducible assumption) | assumption)
                    obtain ⟨ad397, e397, hx397_0⟩ := Kd.at_int (Kd.R_reads' HO_10.out).2.2 (ji52) p397 q397
                    cases e397
                    replace p397 := eq_true p397
                    replace q397 := eq_true q397
                    go_wp2
                    repeat (go_quiet (fail); try go_wp2)
                    go_ret
                    exact ⟨by first | rfl | (simp [errW_none, errW_some] <;> rfl) | (simp only [← hji52]; first | rfl | (simp [errW_none, errW_some] <;> rfl)) | (simp [*, errW_none, errW_some] <;> rfl), by repeat (first | (with_reducible first | exact HB.out | apply bA | apply bN | apply bD) | exact HB.out)⟩
                   ·rw [if_neg c54] at H
                    exact absurd H (by simp)
                  ·rw [if_neg c53] at H
                   exact absurd H (by simp)
                 ·rw [if_neg c51] at H
                  have c51b0 : decide ((t389.length : Int) < 200) = false := decide_eq_false c51
                  have c51b1 : decide (t389.length < 200) = false := decide_eq_false (by omega)
                  clear c51
                  exact absurd ((Option.some.inj H).trans HTRUE) (by decide)
        ·rw [if_neg c22] at H
         exact absurd H (by simp)
 ·replace c5 := Bool.eq_false_iff.mpr c5
  subst c5
  have H1 : (some false) = some r := by rw [if_neg (show ¬ (false = true) by decide)] at H; exact H
  clear H
  have H := H1
  clear H1
  exact absurd ((Option.some.inj H).trans HTRUE) (by decide)

end Go.Proofs.YtpdgjhaimfpacaaGreatDoor.M
