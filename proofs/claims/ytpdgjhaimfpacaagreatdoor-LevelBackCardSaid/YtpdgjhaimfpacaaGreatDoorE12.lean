-- By drive.py (this session's program), out of the translation. Lean checks it.
import Derived.Test.YtpdgjhaimfpacaaGreatDoorA0
import Derived.Test.YtpdgjhaimfpacaaGreatDoorSR
namespace Go.Proofs.YtpdgjhaimfpacaaGreatDoor.M
open Go.Proofs.YtpdgjhaimfpacaaGreatDoor.MB Go.Proofs.YtpdgjhaimfpacaaGreatDoor
open Go.RowKit Go.Proofs.YtpdgjhaimfpacaaGreatDoorW.PrintWords Go.Proofs.YtpdgjhaimfpacaaGreatDoorW.PrintLast Go.Proofs.YtpdgjhaimfpacaaGreatDoorW.PrintMore
attribute [local go_sem] max2_int min2_int max_two min_two max_three min_three max_four min_four   -- for this text's walks alone
set_option linter.unusedVariables false
set_option linter.unusedSimpArgs false
attribute [local go_sem] add64_run sub64_run

/-! ### isohyetlaw18_rising: function 18 -/
mutual
def isohyetlaw18_rising.l0 : Nat → List Int → List Int → Int → Int → Option (List Int)
 | 0, _, _, _, _ => none
 | k + 1, x3, x7, x8, x9 => if x9 < x8 then (if 0 ≤ x9 then (if x9 < (x7.length : Int) then (isohyetlaw18_rising.l1 k x3 (rd x7 x9) 0 x7 x8 x9) else (none)) else (none)) else (some x3)
def isohyetlaw18_rising.l1 : Nat → List Int → Int → Int → List Int → Int → Int → Option (List Int)
 | 0, _, _, _, _, _, _ => none
 | k + 1, x3, x5, x6, x7, x8, x9 => if x6 < (x3.length : Int) then (if 0 ≤ x6 then (if (rd x3 x6) < x5 then (isohyetlaw18_rising.l1 k x3 x5 (wrap64 (x6 + 1)) x7 x8 x9) else (if x6 = (x3.length : Int) then (if x6 ≤ (x3.length : Int) then ((some (([x5] : List Int) : List Int)).bind fun y390 => ((some (x3.drop (x6 : Int).toNat : List Int)).bind fun y393 => (if y390.length + y393.length < 17592186044416 then ((row_concat.f (x3.take (x6 : Int).toNat) (y390 ++ y393)).bind fun t400 => (isohyetlaw18_rising.l0 k t400 x7 x8 (wrap64 (x9 + 1)))) else (none)))) else (none)) else (if (rd x3 x6) = x5 then (isohyetlaw18_rising.l0 k x3 x7 x8 (wrap64 (x9 + 1))) else (if x6 ≤ (x3.length : Int) then ((some (([x5] : List Int) : List Int)).bind fun y408 => ((some (x3.drop (x6 : Int).toNat : List Int)).bind fun y411 => (if y408.length + y411.length < 17592186044416 then ((row_concat.f (x3.take (x6 : Int).toNat) (y408 ++ y411)).bind fun t418 => (isohyetlaw18_rising.l0 k t418 x7 x8 (wrap64 (x9 + 1)))) else (none)))) else (none))))) else (none)) else (if x6 = (x3.length : Int) then (if 0 ≤ x6 then (if x6 ≤ (x3.length : Int) then ((some (([x5] : List Int) : List Int)).bind fun y425 => ((some (x3.drop (x6 : Int).toNat : List Int)).bind fun y428 => (if y425.length + y428.length < 17592186044416 then ((row_concat.f (x3.take (x6 : Int).toNat) (y425 ++ y428)).bind fun t435 => (isohyetlaw18_rising.l0 k t435 x7 x8 (wrap64 (x9 + 1)))) else (none)))) else (none)) else (none)) else (if 0 ≤ x6 then (none) else (none)))
end
def isohyetlaw18_rising.f (k : Nat) (l0 : List Int) : Option (List Int) := isohyetlaw18_rising.l0 k ([] : List Int) l0 (l0.length : Int) 0
theorem isohyetlaw18_rising.mono_l : ∀ k, (∀ y0 y1 y2 y3, LeO (isohyetlaw18_rising.l0 k y0 y1 y2 y3) (isohyetlaw18_rising.l0 (k + 1) y0 y1 y2 y3)) ∧ (∀ y0 y1 y2 y3 y4 y5, LeO (isohyetlaw18_rising.l1 k y0 y1 y2 y3 y4 y5) (isohyetlaw18_rising.l1 (k + 1) y0 y1 y2 y3 y4 y5))
 | 0 => ⟨fun _ _ _ _ r h => by simp [isohyetlaw18_rising.l0] at h, fun _ _ _ _ _ _ r h => by simp [isohyetlaw18_rising.l1] at h⟩
 | k + 1 => by
  obtain ⟨ih0, ih1⟩ := isohyetlaw18_rising.mono_l k
  refine ⟨?_, ?_⟩
  ·intro y0 y1 y2 y3
   unfold isohyetlaw18_rising.l0
   repeat' first
   | (with_reducible exact ih0 _ _ _ _)
   | (with_reducible exact ih1 _ _ _ _ _ _)
   | (with_reducible exact LeO.refl _)
   | (with_reducible exact LeO.none _)
   | (with_reducible refine LeO.ite ?_ ?_)
   | (with_reducible refine LeO.bind ?_ (fun _ => ?_))
   | exact ih0 _ _ _ _
   | exact ih1 _ _ _ _ _ _
   | exact LeO.none _
   | refine LeO.ite ?_ ?_
   | refine LeO.bind ?_ (fun _ => ?_)
  ·intro y0 y1 y2 y3 y4 y5
   unfold isohyetlaw18_rising.l1
   repeat' first
   | (with_reducible exact ih0 _ _ _ _)
   | (with_reducible exact ih1 _ _ _ _ _ _)
   | (with_reducible exact LeO.refl _)
   | (with_reducible exact LeO.none _)
   | (with_reducible refine LeO.ite ?_ ?_)
   | (with_reducible refine LeO.bind ?_ (fun _ => ?_))
   | exact ih0 _ _ _ _
   | exact ih1 _ _ _ _ _ _
   | exact LeO.none _
   | refine LeO.ite ?_ ?_
   | refine LeO.bind ?_ (fun _ => ?_)
theorem isohyetlaw18_rising.mono : ∀ a0 k, LeO (isohyetlaw18_rising.f k a0) (isohyetlaw18_rising.f (k + 1) a0) := by
 intro a0 k
 obtain ⟨ih0, ih1⟩ := isohyetlaw18_rising.mono_l k
 unfold isohyetlaw18_rising.f
 repeat' first
   | (with_reducible exact ih0 _ _ _ _)
   | (with_reducible exact ih1 _ _ _ _ _ _)
   | (with_reducible exact LeO.refl _)
   | (with_reducible exact LeO.none _)
   | (with_reducible refine LeO.ite ?_ ?_)
   | (with_reducible refine LeO.bind ?_ (fun _ => ?_))
   | exact ih0 _ _ _ _
   | exact ih1 _ _ _ _ _ _
   | exact LeO.none _
   | refine LeO.ite ?_ ?_
   | refine LeO.bind ?_ (fun _ => ?_)
def isohyetlaw18_rising.T9 : Bool × List (List Nat × List Nat) := (true, [([], []), ([], []), ([], []), ([0, 1, 2], [0, 1, 2]), ([], []), ([4], [4]), ([], []), ([], []), ([6, 7], [6, 7]), ([5, 8], [5, 8]), ([3, 9, 9], [3, 9]), ([10, 10, 0, 1, 2, 3, 4, 5, 6, 7, 8, 9, 10], [0, 6, 10])])
def isohyetlaw18_rising.B9 : List Nat := [0, 0, 0, 7, 0, 16, 0, 0, 192, 496, 1023, 2047]
theorem isohyetlaw18_rising.tab9 : rtab .any (opsOf Tryz.f18 9) = isohyetlaw18_rising.T9 := by kernel_rfl
theorem isohyetlaw18_rising.bits9 : waitsOk isohyetlaw18_rising.T9.2 isohyetlaw18_rising.B9 = true := by kernel_rfl
set_option maxHeartbeats 8000000 in
set_option maxRecDepth 100000 in
theorem isohyetlaw18_rising.calls (k : Nat) (A0 : Option Addr) (c0 : Nat) (l0 : List Int) (r : List Int) (w : World) (hr0 : Kd.C (Kd.int .i64) w A0 l0.length l0) (hc0 : l0.length ≤ c0) (h : isohyetlaw18_rising.f k l0 = some r) :
  Calls Tryz.prog 18 #[.slice A0 l0.length c0] w fun e w' => ∃ v0_ : Value, e = .returned (v0_) ∧ Kd.R (Kd.int .i64) 3 w' w.heap.size (fun _ => True) v0_ r ∧ Below w.heap.size w w' := by
 have HR0 := Aside0.mk hr0
 have HC0 := Aside0.mk hc0
 clear hr0 hc0
 have HB := Aside0.mk (Below.refl w.heap.size w)
 have H : (isohyetlaw18_rising.l0 k ([] : List Int) l0 (l0.length : Int) 0) = some r := h
 clear h
 have H' := Aside0.mk H
 clear H
 go_enter Tryz.func18, Tryz.ntmps18
 go_wp2
 go_loopg [3, 9] k (fun kq v3 v9 w' => ∃ (x3_1 : List Int) (x9_1 : Int), v9 = .int .i64 x9_1 ∧ Aside0 (isohyetlaw18_rising.l0 kq x3_1 l0 (l0.length : Int) x9_1 = some r) ∧ Aside0 (kq ≤ k) ∧ Aside0 (Kd.R (Kd.int .i64) 3 w' w.heap.size (fun _ => True) v3 x3_1) ∧ Aside0 (Below w.heap.size w w'))
 case atStart => exact ⟨(([] : List Int)), (0), (by first | rfl | (simp; done) | (simp [*]; done)), H', ⟨Nat.le_refl _⟩, ⟨by first | exact Kd.R_nil _ _ _ _ _ | exact Kd.N_nil _ _ _ _ _ | exact Kd.V_nil _ _ _ _ _ | exact Kd.Q_nil _ _ _ _ _ | exact Kd.S_nil _ _ _ _ _⟩, ⟨by repeat (first | (with_reducible first | exact HB.out | apply bA | apply bN | apply bD) | exact HB.out)⟩⟩
 case round =>
  clear H'
  try clear c1
  obtain ⟨x3_1, x9_1, rfl, HA, HK1, HO_3, HB⟩ := hrel
  cases gk with
  | zero => exact absurd HA.out (by simp [isohyetlaw18_rising.l0])
  | succ k1 =>
   have H := HA.out
   clear HA
   simp only [isohyetlaw18_rising.l0] at H
   by_cases c2 : x9_1 < (l0.length : Int)
   ·rw [if_pos c2] at H
    have c2b0 : decide (x9_1 < (l0.length : Int)) = true := decide_eq_true c2
    clear c2
    by_cases c3 : 0 ≤ x9_1
    ·rw [if_pos c3] at H
     have c3b0 : decide (0 ≤ x9_1) = true := decide_eq_true c3
     clear c3
     by_cases c4 : x9_1 < (l0.length : Int)
     ·rw [if_pos c4] at H
      have c4b0 : decide (x9_1 < (l0.length : Int)) = true := decide_eq_true c4
      clear c4
      have H' := Aside0.mk H
      clear H
      have p384 : 0 ≤ (x9_1 : Int) := of_decide_eq_true (by first | (with_reducible assumption) | assumption)
      have q384 : x9_1 < (l0.length : Int) := of_decide_eq_true (by first | (with_reducible assumption) | assumption)
      obtain ⟨ad384, e384, hx384_0⟩ := Kd.at_int HR0.out x9_1 p384 q384
      cases e384
      replace hx384_0 := (HB.out.cell (World.block_lt_of_cell? w _ hx384_0)).trans hx384_0
      replace p384 := eq_true p384
      replace q384 := eq_true q384
      go_wp2
      go_loopg [6] k1 (fun kq v6 w' => ∃ (x6_2 : Int), v6 = .int .i64 x6_2 ∧ Aside0 (isohyetlaw18_rising.l1 kq x3_1 (rd l0 x9_1) x6_2 l0 (l0.length : Int) x9_1 = some r) ∧ Aside0 (kq ≤ k1) ∧ Aside0 (Kd.R (Kd.int .i64) 3 w' w.heap.size (fun _ => True) u3 x3_1) ∧ Aside0 (Below w.heap.size w w'))
      case atStart => exact ⟨(0), (by first | rfl | (simp; done) | (simp [*]; done)), H', ⟨Nat.le_refl _⟩, ⟨by (with_reducible repeat (first | apply Kd.R_alloc | apply Kd.R_drewN | apply Kd.R_drew)); exact HO_3.out⟩, ⟨by repeat (first | (with_reducible first | exact HB.out | apply bA | apply bN | apply bD) | exact HB.out)⟩⟩
      case round =>
       clear H'
       try clear c1
       try clear c2
       try clear c2b0
       try clear p2
       try clear c3
       try clear c3b0
       try clear p3
       try clear q3
       try clear hx3
       try clear c4
       try clear c4b0
       try clear hx384_0
       try clear p384
       try clear q384
       obtain ⟨x6_2, rfl, HA, HK2, HO_3, HB⟩ := hrel
       cases gk with
       | zero => exact absurd HA.out (by simp [isohyetlaw18_rising.l1])
       | succ k2 =>
        have H := HA.out
        clear HA
        simp only [isohyetlaw18_rising.l1] at H
        by_cases c5 : x6_2 < (x3_1.length : Int)
        ·rw [if_pos c5] at H
         have c5b0 : decide (x6_2 < (x3_1.length : Int)) = true := decide_eq_true c5
         clear c5
         by_cases c6 : 0 ≤ x6_2
         ·rw [if_pos c6] at H
          have c6b0 : decide (0 ≤ x6_2) = true := decide_eq_true c6
          clear c6
          by_cases c7 : (rd x3_1 x6_2) < (rd l0 x9_1)
          ·rw [if_pos c7] at H
           have c7b0 : decide ((rd x3_1 x6_2) < (rd l0 x9_1)) = true := decide_eq_true c7
           clear c7
           have H' := Aside0.mk H
           clear H
           obtain ⟨Ao8, co8, eo8⟩ := Kd.R_slice HO_3.out
           subst eo8
           have p385 : 0 ≤ (x6_2 : Int) := of_decide_eq_true (by first | (with_reducible assumption) | assumption)
           have q385 : x6_2 < (x3_1.length : Int) := of_decide_eq_true (by first | (with_reducible assumption) | assumption)
           obtain ⟨ad385, e385, hx385_0⟩ := Kd.at_int (Kd.R_reads' HO_3.out).2.2 x6_2 p385 q385
           cases e385
           replace p385 := eq_true p385
           replace q385 := eq_true q385
           go_wp2
           go_roundg k2
           case measure => have := HK1.out; have := HK2.out; omega
           case rel => exact ⟨(wrap64 (x6_2 + 1)), (by first | rfl | (simp; done) | (simp [*]; done)), H', ⟨by have := HK1.out; have := HK2.out; omega⟩, ⟨by (with_reducible repeat (first | apply Kd.R_alloc | apply Kd.R_drewN | apply Kd.R_drew)); exact HO_3.out⟩, ⟨by repeat (first | (with_reducible first | exact HB.out | apply bA | apply bN | apply bD) | exact HB.out)⟩⟩
          ·rw [if_neg c7] at H
           have c7b0 : decide ((rd x3_1 x6_2) < (rd l0 x9_1)) = false := decide_eq_false c7
           clear c7
           by_cases c9 : x6_2 = (x3_1.length : Int)
           ·rw [if_pos c9] at H
            have c9b0 : (x6_2 == (x3_1.length : Int)) = true := beq_iff_eq.mpr c9
            have c9b1 : (x6_2 != (x3_1.length : Int)) = false := bne_eq_false_iff_eq.mpr c9
            clear c9
            have c10b0 := eq_true (of_decide_eq_true (by first | (with_reducible assumption) | assumption) : 0 ≤ x6_2)
            by_cases c11 : x6_2 ≤ (x3_1.length : Int)
            ·rw [if_pos c11] at H
             have c11b0 := eq_true c11
             have c11b1 : decide (x6_2 ≤ (x3_1.length : Int)) = true := decide_eq_true c11
             clear c11
             obtain ⟨y386, hy386⟩ : ∃ y_ : List Int, y_ = (x3_1.take (x6_2 : Int).toNat) := ⟨_, rfl⟩
             replace H : ((some (([(rd l0 x9_1)] : List Int) : List Int)).bind fun y390 => ((some (x3_1.drop (x6_2 : Int).toNat : List Int)).bind fun y393 => (if y390.length + y393.length < 17592186044416 then ((row_concat.f y386 (y390 ++ y393)).bind fun t400 => (isohyetlaw18_rising.l0 k2 t400 l0 (l0.length : Int) (wrap64 (x9_1 + 1)))) else (none)))) = some r := by first | (rw [hy386]; with_reducible exact H) | (have H2_ := (Option.bind_some _ _).symm.trans H; rw [hy386]; with_reducible exact H2_) | (have H2_ := (Option.bind_some _ _).symm.trans H; with_reducible exact H2_) | with_reducible exact H | (rw [hy386]; exact H) | exact H
             have Ny386 := Aside0.mk hy386
             clear hy386
             obtain ⟨y390, hy390⟩ : ∃ y_ : List Int, y_ = (([(rd l0 x9_1)] : List Int)) := ⟨_, rfl⟩
             replace H : ((some (x3_1.drop (x6_2 : Int).toNat : List Int)).bind fun y393 => (if y390.length + y393.length < 17592186044416 then ((row_concat.f y386 (y390 ++ y393)).bind fun t400 => (isohyetlaw18_rising.l0 k2 t400 l0 (l0.length : Int) (wrap64 (x9_1 + 1)))) else (none))) = some r := by first | (rw [hy390]; with_reducible exact H) | (have H2_ := (Option.bind_some _ _).symm.trans H; rw [hy390]; with_reducible exact H2_) | (have H2_ := (Option.bind_some _ _).symm.trans H; with_reducible exact H2_) | with_reducible exact H | (rw [hy390]; exact H) | exact H
             have Ny390 := Aside0.mk hy390
             clear hy390
             have c12b0 := eq_true (of_decide_eq_true (by first | (with_reducible assumption) | assumption) : 0 ≤ x6_2)
             have c13b0 := eq_true (of_decide_eq_true (by first | (with_reducible assumption) | assumption) : x6_2 ≤ (x3_1.length : Int))
             obtain ⟨y393, hy393⟩ : ∃ y_ : List Int, y_ = (x3_1.drop (x6_2 : Int).toNat) := ⟨_, rfl⟩
             replace H : (if y390.length + y393.length < 17592186044416 then ((row_concat.f y386 (y390 ++ y393)).bind fun t400 => (isohyetlaw18_rising.l0 k2 t400 l0 (l0.length : Int) (wrap64 (x9_1 + 1)))) else (none)) = some r := by first | (rw [hy393]; with_reducible exact H) | (have H2_ := (Option.bind_some _ _).symm.trans H; rw [hy393]; with_reducible exact H2_) | (have H2_ := (Option.bind_some _ _).symm.trans H; with_reducible exact H2_) | with_reducible exact H | (rw [hy393]; exact H) | exact H
             have Ny393 := Aside0.mk hy393
             clear hy393
             by_cases c14 : y390.length + y393.length < 17592186044416
             ·rw [if_pos c14] at H
              have LMc14 := Aside0.mk c14
              clear c14
              obtain ⟨y397, hy397⟩ : ∃ y_ : List Int, y_ = (y390 ++ y393) := ⟨_, rfl⟩
              replace H : ((row_concat.f y386 y397).bind fun t400 => (isohyetlaw18_rising.l0 k2 t400 l0 (l0.length : Int) (wrap64 (x9_1 + 1)))) = some r := by first | (rw [hy397]; with_reducible exact H) | (have H2_ := (Option.bind_some _ _).symm.trans H; rw [hy397]; with_reducible exact H2_) | (have H2_ := (Option.bind_some _ _).symm.trans H; with_reducible exact H2_) | with_reducible exact H | (rw [hy397]; exact H) | exact H
              have Ny397 := Aside0.mk hy397
              clear hy397
              replace H := Option.bind_eq_some_iff.mp H
              obtain ⟨t400, A150, H⟩ := H
              replace H : (isohyetlaw18_rising.l0 k2 t400 l0 (l0.length : Int) (wrap64 (x9_1 + 1))) = some r := H
              have A15 := Aside0.mk A150
              clear A150
              have H' := Aside0.mk H
              clear H
              obtain ⟨Ao16, co16, eo16⟩ := Kd.R_slice HO_3.out
              subst eo16
              have p385 : 0 ≤ (x6_2 : Int) := of_decide_eq_true (by first | (with_reducible assumption) | assumption)
              have q385 : x6_2 < (x3_1.length : Int) := of_decide_eq_true (by first | (with_reducible assumption) | assumption)
              obtain ⟨ad385, e385, hx385_0⟩ := Kd.at_int (Kd.R_reads' HO_3.out).2.2 x6_2 p385 q385
              cases e385
              replace p385 := eq_true p385
              replace q385 := eq_true q385
              try go_wp2
              have n0_ := Aside0.mk (Kd.R_drew HO_3.out)
              have n1_ := Aside0.mk (bD HB.out)
              clear HO_3
              clear HB
              have HO_3 := n0_
              have HB := n1_
              clear n0_ n1_
              have q18 : (x6_2 : Int) ≤ ((x3_1.length : Int) : Int) := of_decide_eq_true (by first | (with_reducible assumption) | assumption)
              obtain ⟨i018, hi018, _, hsz18, _⟩ := info_parts info3
              have hroom18 : x3_1.length ≤ co16 := (Kd.R_reads' HO_3.out).2.1
              have hC18 : Kd.C (Kd.int .i64) _ (some ad385) x3_1.length x3_1 := (Kd.R_reads' HO_3.out).2.2
              have hcut18 := MB.cut_full (P := Tryz.prog) 30 3 .i64 Tryz.underlying30 hi018 (some ad385) x3_1.length co16 x6_2 (of_decide_eq_true (by first | (with_reducible assumption) | assumption)) q18 hroom18
              have hr18 := Kd.C_take (m := (x6_2 : Int).toNat) hC18 (by omega)
              have hy18 : y386.length = (x6_2 : Int).toNat := (by rw [Ny386.out, List.length_take]; omega)
              rw [← Ny386.out] at hr18
              rw [← hy18] at hcut18
              have HR389 := Aside0.mk hr18
              have HC389 := Aside0.mk (show y386.length ≤ co16 from by omega)
              clear hr18 hC18 hroom18 hi018 hsz18
              have KY18 := Aside0.mk hy18
              clear hy18
              have KL18 := Aside0.mk (show (x6_2 : Int).toNat ≤ x3_1.length from by omega)
              replace q18 := eq_true q18
              have q19 : (x6_2 : Int) ≤ ((x3_1.length : Int) : Int) := of_decide_eq_true (by first | (with_reducible assumption) | assumption)
              obtain ⟨i019, hi019, _, hsz19, _⟩ := info_parts info3
              have hroom19 : x3_1.length ≤ co16 := (Kd.R_reads' HO_3.out).2.1
              have hC19 : Kd.C (Kd.int .i64) _ (some ad385) x3_1.length x3_1 := (Kd.R_reads' HO_3.out).2.2
              have q019 : (0 : Int) ≤ (x6_2 : Int) := of_decide_eq_true (by first | (with_reducible assumption) | assumption)
              have hcut19 := cut_from (P := Tryz.prog) 30 3 .i64 Tryz.underlying30 hi019 1 hsz19 (some ad385) x3_1.length co16 x6_2 q019 q19
              have hr19 := Kd.C_drop (m := (x6_2 : Int).toNat) (c := co16) hC19 (by omega) hroom19
              obtain ⟨A19, hA19⟩ : ∃ A1, A1 = (if co16 = (x6_2 : Int).toNat then (some ad385) else ((some ad385) : Option Addr).map (·.add ((x6_2 : Int).toNat * 1))) := ⟨_, rfl⟩
              obtain ⟨c19, hc19⟩ : ∃ c1, c1 = co16 - (x6_2 : Int).toNat := ⟨_, rfl⟩
              have hy19 : y393.length = x3_1.length - (x6_2 : Int).toNat := (by rw [Ny393.out, List.length_drop] <;> omega)
              rw [show (x3_1).drop (x6_2 : Int).toNat = y393 from Ny393.out.symm] at hr19
              replace hr19 : Kd.C (Kd.int .i64) _ A19 y393.length y393 := (by rw [hA19]; exact hr19)
              rw [← hy19, ← hA19, ← hc19] at hcut19
              have HR396 := Aside0.mk hr19
              have HC396 := Aside0.mk (show y393.length ≤ c19 from by rw [hy19, hc19]; exact Nat.sub_le_sub_right hroom19 _)
              clear hr19 hC19 hroom19 hi019 hsz19 hc19
              have KY19 := Aside0.mk hy19
              have KA19 := Aside0.mk hA19
              clear hy19 hA19
              have KL19 := Aside0.mk (show (x6_2 : Int).toNat ≤ x3_1.length from by omega)
              replace q19 := eq_true q19
              refine start_ (n := 12) (S := fun w' => True) (ds := []) #[false, false, false, false, false, false, false, false, false, false, false, false] (by kernel_rfl) rfl rfl trivial (fun hHeld => ?_); refine with_tabW isohyetlaw18_rising.tab9 isohyetlaw18_rising.bits9 (fun HT_ HW_ => ?_)
              generalize wr.drew = w17 at HO_3 HB HR389 HR396 hHeld ⊢
              refine pure_ (i := 0) (N := some 39) (v := ?_) (a' := ?_) #[true, false, false, false, false, false, false, false, false, false, false, false] rfl rfl (any_of HT_.out (by kernel_rfl)) (fun _ _ _ h => h) (Or.inl ⟨by rfl, ?_⟩) ?_ ?_
              rotate_left
              ·intro w'
               go_simp
               with_reducible rfl
              rotate_left
              ·simp only [Act.put, List.setIfInBounds_toArray, List.set_cons_zero, List.set_cons_succ, i64_w, i32_w]
               rfl
              refine pure_ (i := 1) (N := some 40) (v := ?_) (a' := ?_) #[true, true, false, false, false, false, false, false, false, false, false, false] rfl rfl (any_of HT_.out (by kernel_rfl)) (fun _ _ _ h => h) (Or.inl ⟨by rfl, ?_⟩) ?_ ?_
              rotate_left
              ·intro w'
               go_simp
               with_reducible rfl
              rotate_left
              ·simp only [Act.put, List.setIfInBounds_toArray, List.set_cons_zero, List.set_cons_succ, i64_w, i32_w]
               rfl
              refine pure_ (i := 2) (N := some 41) (v := ?_) (a' := ?_) #[true, true, true, false, false, false, false, false, false, false, false, false] rfl rfl (any_of HT_.out (by kernel_rfl)) (fun _ _ _ h => h) (Or.inl ⟨by rfl, ?_⟩) ?_ ?_
              rotate_left
              ·intro w'
               go_simp
               with_reducible rfl
              rotate_left
              ·simp only [Act.put, List.setIfInBounds_toArray, List.set_cons_zero, List.set_cons_succ, i64_w, i32_w]
               rfl
              refine pure_ (i := 3) (N := some 42) (v := ?_) (a' := ?_) #[true, true, true, true, false, false, false, false, false, false, false, false] rfl rfl (any_of HT_.out (by kernel_rfl)) (fun _ _ _ h => h) (Or.inl ⟨by rfl, ?_⟩) ?_ ?_
              rotate_left
              ·intro w'
               go_simp
               with_reducible rfl
              rotate_left
              ·simp only [Act.put, List.setIfInBounds_toArray, List.set_cons_zero, List.set_cons_succ, i64_w, i32_w]
               rfl
              refine pure_ (i := 4) (N := some 43) (v := ?_) (a' := ?_) #[true, true, true, true, true, false, false, false, false, false, false, false] rfl rfl (any_of HT_.out (by kernel_rfl)) (fun _ _ _ h => h) (Or.inl ⟨by rfl, ?_⟩) ?_ ?_
              rotate_left
              ·intro w'
               go_simp
               with_reducible rfl
              rotate_left
              ·simp only [Act.put, List.setIfInBounds_toArray, List.set_cons_zero, List.set_cons_succ, i64_w, i32_w]
               rfl
              refine pure_ (i := 6) (N := some 45) (v := ?_) (a' := ?_) #[true, true, true, true, true, false, true, false, false, false, false, false] rfl rfl (any_of HT_.out (by kernel_rfl)) (fun _ _ _ h => h) (Or.inl ⟨by rfl, ?_⟩) ?_ ?_
              rotate_left
              ·intro w'
               go_simp
               with_reducible rfl
              rotate_left
              ·simp only [Act.put, List.setIfInBounds_toArray, List.set_cons_zero, List.set_cons_succ, i64_w, i32_w]
               rfl
              refine pure_ (i := 7) (N := some 46) (v := ?_) (a' := ?_) #[true, true, true, true, true, false, true, true, false, false, false, false] rfl rfl (any_of HT_.out (by kernel_rfl)) (fun _ _ _ h => h) (Or.inl ⟨by rfl, ?_⟩) ?_ ?_
              rotate_left
              ·intro w'
               go_simp
               with_reducible rfl
              rotate_left
              ·simp only [Act.put, List.setIfInBounds_toArray, List.set_cons_zero, List.set_cons_succ, i64_w, i32_w]
               rfl
              refine pure_ (i := 8) (N := some 47) (v := ?_) (a' := ?_) #[true, true, true, true, true, false, true, true, true, false, false, false] rfl rfl (any_of HT_.out (by kernel_rfl)) (fun _ _ _ h => h) (Or.inl ⟨by rfl, ?_⟩) ?_ ?_
              rotate_left
              ·intro w'
               go_simp
               with_reducible rfl
              rotate_left
              ·simp only [Act.put, List.setIfInBounds_toArray, List.set_cons_zero, List.set_cons_succ, i64_w, i32_w]
               rfl
              refine one_ (i := 5) (N := some 44) #[true, true, true, true, true, true, true, true, true, false, false, false] rfl rfl (one_of HT_.out (by kernel_rfl)) (by decide) (fun K hK => ?_)
              refine Kd.R_lit_step (Kd.int .i64) _ 3 ?hg (N := 44) ?hd (xs := ([(rd l0 x9_1)] : List Int)) (inner := [.int .i64 (rd l0 x9_1)]) (ok := fun _ => True) (okp := fun _ => True) ?hr ?hp (fun _ hk => hk) trivial (Below.refl _ _) (Nat.le_refl _) (by simp) ?_; (case hd => rfl); (case hg => rfl); (case hr => first | (go_simp; done) | (go_simp; rfl)); (case hp => exact (Reps.one (show Kd.M (Kd.int .i64) _ _ _ (rd l0 x9_1) [.int .i64 (rd l0 x9_1)] from rfl) (Reps.none _ _)))
              intro v391 w20 ho21 hb hg_ hnew_
              clear hg_ hnew_
              (first | rw [← Ny390.out] at ho21 | (simp only [Int.reduceToNat] at ho21; rw [← Ny390.out] at ho21))
              have n0_ := Aside0.mk (Kd.R_elder' (gR HO_3.out) (Kd.R_base ho21) hb)
              have n1_ := Aside0.mk (Kd.R_lower (Kd.R_new' ho21 (Kd.R_lt (gR HO_3.out))) (below_size (gB HB.out)))
              have n2_ := Aside0.mk (Kd.C_below (by repeat (first | (with_reducible exact HR389.out) | (with_reducible refine Kd.C_alloc ?_ _) | (with_reducible refine Kd.C_drewN ?_ _) | (with_reducible refine Kd.C_drew ?_) | exact HR389.out)) hb)
              have n3_ := Aside0.mk (Kd.C_below (by repeat (first | (with_reducible exact HR396.out) | (with_reducible refine Kd.C_alloc ?_ _) | (with_reducible refine Kd.C_drewN ?_ _) | (with_reducible refine Kd.C_drew ?_) | exact HR396.out)) hb)
              have n4_ := Aside0.mk (below_step (gB HB.out) hb)
              clear HO_3
              clear HR389
              clear HR396
              clear HB
              have HO_3 := n0_
              have HO392 := n1_
              have HR389 := n2_
              have HR396 := n3_
              have HB := n4_
              clear n0_ n1_ n2_ n3_ n4_
              clear hb ho21
              refine hK.out _ _ trivial (fun hHeld => ?_)
              clear hK K
              refine norm_ (a' := ?_) ?_ ?_
              rotate_left
              ·show Act.put _ (some 44) _ = _
               simp only [Act.put, List.setIfInBounds_toArray, List.set_cons_zero, List.set_cons_succ, i64_w, i32_w]
               rfl
              refine one_ (i := 9) (N := some 48) #[true, true, true, true, true, true, true, true, true, true, false, false] rfl rfl (one_of HT_.out (by kernel_rfl)) (by decide) (fun K hK => ?_)
              refine Kd.R_append_rows_step (Kd.int .i64) (w0 := w) w.heap.size (by rfl) (.tmp 44) (.tmp 47) 30 3 (.int .i64 0) 8 rfl Tryz.underlying30 info3 rfl (by decide) (by omega) v391 y390 y393 _ _ _ (fun k_ => some k_ ≠ (.slice (some ad385) x3_1.length co16 : Value).ownBlock) (fun _ => False) rfl rfl ?aO ?aR (fun _ _ h => h) (fun _ h => h.elim) ?aF ?aB ?aS ?aL ?_
              (case aR => repeat (first | exact (by repeat (first | (with_reducible exact HR396.out) | (with_reducible refine Kd.C_alloc ?_ _) | (with_reducible refine Kd.C_drewN ?_ _) | (with_reducible refine Kd.C_drew ?_) | exact HR396.out)) | (with_reducible refine Kd.C_alloc ?_ _) | (with_reducible refine Kd.C_drewN ?_ _) | (with_reducible refine Kd.C_drew ?_)))
              (case aB => exact (gB HB.out))
              (case aF => exact (fun k_ hk => Kd.fresh' (Kd.R_lt (gR HO_3.out)) k_ hk))
              (case aO => exact (gR (Kd.R_mono HO392.out (fun _ hk => hk.2))))
              (case aS => exact (below_size (gB HB.out)))
              (case aL => have := LMc14.out; omega)
              intro v398 w22 ho hb hg hat
              rw [← Ny397.out] at ho
              have n0_ := Aside0.mk (Kd.R_after (ok := (fun _ => True)) (gR HO_3.out) hg hat)
              have n1_ := Aside0.mk (hb)
              have n2_ := Aside0.mk ((show Kd.C (Kd.int .i64) w22 (some ad385) y386.length y386 from by rw [Ny386.out]; exact Kd.C_take (m := (x6_2 : Int).toNat) ((Kd.R_reads' (Kd.R_after (ok := (fun _ => True)) (gR HO_3.out) hg hat)).2.2) KL18.out))
              have n3_ := Aside0.mk ((show Kd.C (Kd.int .i64) w22 A19 y393.length y393 from by rw [Ny393.out, KA19.out]; exact Kd.C_drop (m := (x6_2 : Int).toNat) (c := co16) ((Kd.R_reads' (Kd.R_after (ok := (fun _ => True)) (gR HO_3.out) hg hat)).2.2) KL19.out ((Kd.R_reads' (Kd.R_after (ok := (fun _ => True)) (gR HO_3.out) hg hat)).2.1)))
              have n4_ := Aside0.mk (ho)
              clear HO_3
              clear HB
              clear HR389
              clear HR396
              clear HO392
              have HO_3 := n0_
              have HB := n1_
              have HR389 := n2_
              have HR396 := n3_
              have HO399 := n4_
              clear n0_ n1_ n2_ n3_ n4_
              clear ho hb hg hat
              obtain ⟨Ao23, co23, eo23⟩ := Kd.R_slice HO399.out
              (first | subst eo23 | (injection eo23 with f1_ f2_ f3_; have f4_ := f1_.symm; have f5_ := f3_.symm; clear f1_ f2_ f3_; subst f4_; subst f5_))
              refine hK.out _ _ trivial (fun hHeld => ?_)
              clear hK K
              refine norm_ (a' := ?_) ?_ ?_
              rotate_left
              ·show Act.put _ (some 48) _ = _
               simp only [Act.put, List.setIfInBounds_toArray, List.set_cons_zero, List.set_cons_succ, i64_w, i32_w]
               rfl
              refine one_ (i := 10) (N := some 49) #[true, true, true, true, true, true, true, true, true, true, true, false] rfl rfl (one_of HT_.out (by kernel_rfl)) (by decide) (fun K hK => ?_)
              refine concat_step rfl (.tmp 42) (.tmp 48) 30 3 rfl Tryz.underlying30 info3 (some ad385) (Ao23) y386 y397 t400 co23 rfl rfl ?side1 ?side3 A15.out ?_
              (case side1 => repeat (first | exact (by repeat (first | (with_reducible exact HR389.out) | (with_reducible refine Kd.C_alloc ?_ _) | (with_reducible refine Kd.C_drewN ?_ _) | (with_reducible refine Kd.C_drew ?_) | exact HR389.out)) | (with_reducible refine Kd.C_alloc ?_ _) | (with_reducible refine Kd.C_drewN ?_ _) | (with_reducible refine Kd.C_drew ?_)))
              (case side3 => repeat (first | exact (Kd.R_reads' HO399.out).2.2 | (with_reducible refine Kd.C_alloc ?_ _) | (with_reducible refine Kd.C_drewN ?_ _) | (with_reducible refine Kd.C_drew ?_)))
              intro v401 w24 ho0 hb
              have n0_ := Aside0.mk (Kd.R_elder' (gR HO_3.out) (Kd.R_base ho0) hb)
              have n1_ := Aside0.mk (Kd.R_elder' (gR HO399.out) (Kd.R_base ho0) hb)
              have n2_ := Aside0.mk (Kd.R_lower (Kd.R_new' (Kd.R_new' ho0 (Kd.R_lt (gR HO_3.out))) (Kd.R_lt (gR HO399.out))) (below_size (gB HB.out)))
              have n3_ := Aside0.mk (Kd.C_below (by repeat (first | (with_reducible exact HR389.out) | (with_reducible refine Kd.C_alloc ?_ _) | (with_reducible refine Kd.C_drewN ?_ _) | (with_reducible refine Kd.C_drew ?_) | exact HR389.out)) hb)
              have n4_ := Aside0.mk (Kd.C_below (by repeat (first | (with_reducible exact HR396.out) | (with_reducible refine Kd.C_alloc ?_ _) | (with_reducible refine Kd.C_drewN ?_ _) | (with_reducible refine Kd.C_drew ?_) | exact HR396.out)) hb)
              have n5_ := Aside0.mk (below_step (gB HB.out) hb)
              clear HO_3
              clear HO399
              clear HR389
              clear HR396
              clear HB
              have HO_3 := n0_
              have HO399 := n1_
              have HO402 := n2_
              have HR389 := n3_
              have HR396 := n4_
              have HB := n5_
              clear n0_ n1_ n2_ n3_ n4_ n5_
              (try clear hb)
              (try clear hb2)
              (try clear hk)
              (try clear hi)
              (try clear ho0)
              refine hK.out _ _ trivial (fun hHeld => ?_)
              clear hK K
              refine norm_ (a' := ?_) ?_ ?_
              rotate_left
              ·show Act.put _ (some 49) _ = _
               simp only [Act.put, List.setIfInBounds_toArray, List.set_cons_zero, List.set_cons_succ, i64_w, i32_w]
               rfl
              refine pure_ (i := 11) (N := some 3) (v := ?_) (a' := ?_) #[true, true, true, true, true, true, true, true, true, true, true, true] rfl rfl (any_of HT_.out (by kernel_rfl)) (fun _ _ _ h => h) (Or.inl ⟨by rfl, ?_⟩) ?_ ?_
              rotate_left
              ·intro w'
               go_simp
               with_reducible rfl
              rotate_left
              ·simp only [Act.put, List.setIfInBounds_toArray, List.set_cons_zero, List.set_cons_succ, i64_w, i32_w]
               rfl
              refine done_ (done_of HT_.out (by kernel_rfl)) ?_
              try go_wp2
              go_roundg k2
              case measure => have := HK1.out; have := HK2.out; omega
              case rel => exact ⟨(t400), (wrap64 (x9_1 + 1)), (by first | rfl | (simp; done) | (simp [*]; done)), H', ⟨by have := HK1.out; have := HK2.out; omega⟩, ⟨by (with_reducible repeat (first | apply Kd.R_alloc | apply Kd.R_drewN | apply Kd.R_drew)); exact Kd.R_mono HO402.out (fun _ hk => trivial)⟩, ⟨by repeat (first | (with_reducible first | exact HB.out | apply bA | apply bN | apply bD) | exact HB.out)⟩⟩
             ·rw [if_neg c14] at H
              exact absurd H (by simp)
            ·rw [if_neg c11] at H
             exact absurd H (by simp)
           ·rw [if_neg c9] at H
            have c9b0 : (x6_2 == (x3_1.length : Int)) = false := beq_eq_false_iff_ne.mpr c9
            have c9b1 : (x6_2 != (x3_1.length : Int)) = true := bne_iff_ne.mpr c9
            by_cases c25 : (rd x3_1 x6_2) = (rd l0 x9_1)
            ·rw [if_pos c25] at H
             have c25b0 : ((rd x3_1 x6_2) == (rd l0 x9_1)) = true := beq_iff_eq.mpr c25
             have c25b1 : ((rd x3_1 x6_2) != (rd l0 x9_1)) = false := bne_eq_false_iff_eq.mpr c25
             clear c25
             have H' := Aside0.mk H
             clear H
             obtain ⟨Ao26, co26, eo26⟩ := Kd.R_slice HO_3.out
             subst eo26
             have p385 : 0 ≤ (x6_2 : Int) := of_decide_eq_true (by first | (with_reducible assumption) | assumption)
             have q385 : x6_2 < (x3_1.length : Int) := of_decide_eq_true (by first | (with_reducible assumption) | assumption)
             obtain ⟨ad385, e385, hx385_0⟩ := Kd.at_int (Kd.R_reads' HO_3.out).2.2 x6_2 p385 q385
             cases e385
             replace p385 := eq_true p385
             replace q385 := eq_true q385
             have p403 : 0 ≤ (x6_2 : Int) := of_decide_eq_true (by first | (with_reducible assumption) | assumption)
             have q403 : x6_2 < (x3_1.length : Int) := of_decide_eq_true (by first | (with_reducible assumption) | assumption)
             obtain ⟨ad403, e403, hx403_0⟩ := Kd.at_int (Kd.R_reads' HO_3.out).2.2 x6_2 p403 q403
             obtain rfl : ad385 = ad403 := (by injection e403)
             replace p403 := eq_true p403
             replace q403 := eq_true q403
             go_wp2
             go_roundg k2
             case measure => have := HK1.out; have := HK2.out; omega
             case rel => exact ⟨(x3_1), (wrap64 (x9_1 + 1)), (by first | rfl | (simp; done) | (simp [*]; done)), H', ⟨by have := HK1.out; have := HK2.out; omega⟩, ⟨by (with_reducible repeat (first | apply Kd.R_alloc | apply Kd.R_drewN | apply Kd.R_drew)); exact HO_3.out⟩, ⟨by repeat (first | (with_reducible first | exact HB.out | apply bA | apply bN | apply bD) | exact HB.out)⟩⟩
            ·rw [if_neg c25] at H
             have c25b0 : ((rd x3_1 x6_2) == (rd l0 x9_1)) = false := beq_eq_false_iff_ne.mpr c25
             have c25b1 : ((rd x3_1 x6_2) != (rd l0 x9_1)) = true := bne_iff_ne.mpr c25
             have c27b0 := eq_true (of_decide_eq_true (by first | (with_reducible assumption) | assumption) : 0 ≤ x6_2)
             by_cases c28 : x6_2 ≤ (x3_1.length : Int)
             ·rw [if_pos c28] at H
              have c28b0 := eq_true c28
              have c28b1 : decide (x6_2 ≤ (x3_1.length : Int)) = true := decide_eq_true c28
              clear c28
              obtain ⟨y404, hy404⟩ : ∃ y_ : List Int, y_ = (x3_1.take (x6_2 : Int).toNat) := ⟨_, rfl⟩
              replace H : ((some (([(rd l0 x9_1)] : List Int) : List Int)).bind fun y408 => ((some (x3_1.drop (x6_2 : Int).toNat : List Int)).bind fun y411 => (if y408.length + y411.length < 17592186044416 then ((row_concat.f y404 (y408 ++ y411)).bind fun t418 => (isohyetlaw18_rising.l0 k2 t418 l0 (l0.length : Int) (wrap64 (x9_1 + 1)))) else (none)))) = some r := by first | (rw [hy404]; with_reducible exact H) | (have H2_ := (Option.bind_some _ _).symm.trans H; rw [hy404]; with_reducible exact H2_) | (have H2_ := (Option.bind_some _ _).symm.trans H; with_reducible exact H2_) | with_reducible exact H | (rw [hy404]; exact H) | exact H
              have Ny404 := Aside0.mk hy404
              clear hy404
              obtain ⟨y408, hy408⟩ : ∃ y_ : List Int, y_ = (([(rd l0 x9_1)] : List Int)) := ⟨_, rfl⟩
              replace H : ((some (x3_1.drop (x6_2 : Int).toNat : List Int)).bind fun y411 => (if y408.length + y411.length < 17592186044416 then ((row_concat.f y404 (y408 ++ y411)).bind fun t418 => (isohyetlaw18_rising.l0 k2 t418 l0 (l0.length : Int) (wrap64 (x9_1 + 1)))) else (none))) = some r := by first | (rw [hy408]; with_reducible exact H) | (have H2_ := (Option.bind_some _ _).symm.trans H; rw [hy408]; with_reducible exact H2_) | (have H2_ := (Option.bind_some _ _).symm.trans H; with_reducible exact H2_) | with_reducible exact H | (rw [hy408]; exact H) | exact H
              have Ny408 := Aside0.mk hy408
              clear hy408
              have c29b0 := eq_true (of_decide_eq_true (by first | (with_reducible assumption) | assumption) : 0 ≤ x6_2)
              have c30b0 := eq_true (of_decide_eq_true (by first | (with_reducible assumption) | assumption) : x6_2 ≤ (x3_1.length : Int))
              obtain ⟨y411, hy411⟩ : ∃ y_ : List Int, y_ = (x3_1.drop (x6_2 : Int).toNat) := ⟨_, rfl⟩
              replace H : (if y408.length + y411.length < 17592186044416 then ((row_concat.f y404 (y408 ++ y411)).bind fun t418 => (isohyetlaw18_rising.l0 k2 t418 l0 (l0.length : Int) (wrap64 (x9_1 + 1)))) else (none)) = some r := by first | (rw [hy411]; with_reducible exact H) | (have H2_ := (Option.bind_some _ _).symm.trans H; rw [hy411]; with_reducible exact H2_) | (have H2_ := (Option.bind_some _ _).symm.trans H; with_reducible exact H2_) | with_reducible exact H | (rw [hy411]; exact H) | exact H
              have Ny411 := Aside0.mk hy411
              clear hy411
              by_cases c31 : y408.length + y411.length < 17592186044416
              ·rw [if_pos c31] at H
               have LMc31 := Aside0.mk c31
               clear c31
               obtain ⟨y415, hy415⟩ : ∃ y_ : List Int, y_ = (y408 ++ y411) := ⟨_, rfl⟩
               replace H : ((row_concat.f y404 y415).bind fun t418 => (isohyetlaw18_rising.l0 k2 t418 l0 (l0.length : Int) (wrap64 (x9_1 + 1)))) = some r := by first | (rw [hy415]; with_reducible exact H) | (have H2_ := (Option.bind_some _ _).symm.trans H; rw [hy415]; with_reducible exact H2_) | (have H2_ := (Option.bind_some _ _).symm.trans H; with_reducible exact H2_) | with_reducible exact H | (rw [hy415]; exact H) | exact H
               have Ny415 := Aside0.mk hy415
               clear hy415
               replace H := Option.bind_eq_some_iff.mp H
               obtain ⟨t418, A320, H⟩ := H
               replace H : (isohyetlaw18_rising.l0 k2 t418 l0 (l0.length : Int) (wrap64 (x9_1 + 1))) = some r := H
               have A32 := Aside0.mk A320
               clear A320
               have H' := Aside0.mk H
               clear H
               obtain ⟨Ao33, co33, eo33⟩ := Kd.R_slice HO_3.out
               subst eo33
               have p385 : 0 ≤ (x6_2 : Int) := of_decide_eq_true (by first | (with_reducible assumption) | assumption)
               have q385 : x6_2 < (x3_1.length : Int) := of_decide_eq_true (by first | (with_reducible assumption) | assumption)
               obtain ⟨ad385, e385, hx385_0⟩ := Kd.at_int (Kd.R_reads' HO_3.out).2.2 x6_2 p385 q385
               cases e385
               replace p385 := eq_true p385
               replace q385 := eq_true q385
               have p403 : 0 ≤ (x6_2 : Int) := of_decide_eq_true (by first | (with_reducible assumption) | assumption)
               have q403 : x6_2 < (x3_1.length : Int) := of_decide_eq_true (by first | (with_reducible assumption) | assumption)
               obtain ⟨ad403, e403, hx403_0⟩ := Kd.at_int (Kd.R_reads' HO_3.out).2.2 x6_2 p403 q403
               obtain rfl : ad385 = ad403 := (by injection e403)
               replace p403 := eq_true p403
               replace q403 := eq_true q403
               try go_wp2
               have n0_ := Aside0.mk (Kd.R_drew HO_3.out)
               have n1_ := Aside0.mk (bD HB.out)
               clear HO_3
               clear HB
               have HO_3 := n0_
               have HB := n1_
               clear n0_ n1_
               have q35 : (x6_2 : Int) ≤ ((x3_1.length : Int) : Int) := of_decide_eq_true (by first | (with_reducible assumption) | assumption)
               obtain ⟨i035, hi035, _, hsz35, _⟩ := info_parts info3
               have hroom35 : x3_1.length ≤ co33 := (Kd.R_reads' HO_3.out).2.1
               have hC35 : Kd.C (Kd.int .i64) _ (some ad385) x3_1.length x3_1 := (Kd.R_reads' HO_3.out).2.2
               have hcut35 := MB.cut_full (P := Tryz.prog) 30 3 .i64 Tryz.underlying30 hi035 (some ad385) x3_1.length co33 x6_2 (of_decide_eq_true (by first | (with_reducible assumption) | assumption)) q35 hroom35
               have hr35 := Kd.C_take (m := (x6_2 : Int).toNat) hC35 (by omega)
               have hy35 : y404.length = (x6_2 : Int).toNat := (by rw [Ny404.out, List.length_take]; omega)
               rw [← Ny404.out] at hr35
               rw [← hy35] at hcut35
               have HR407 := Aside0.mk hr35
               have HC407 := Aside0.mk (show y404.length ≤ co33 from by omega)
               clear hr35 hC35 hroom35 hi035 hsz35
               have KY35 := Aside0.mk hy35
               clear hy35
               have KL35 := Aside0.mk (show (x6_2 : Int).toNat ≤ x3_1.length from by omega)
               replace q35 := eq_true q35
               have q36 : (x6_2 : Int) ≤ ((x3_1.length : Int) : Int) := of_decide_eq_true (by first | (with_reducible assumption) | assumption)
               obtain ⟨i036, hi036, _, hsz36, _⟩ := info_parts info3
               have hroom36 : x3_1.length ≤ co33 := (Kd.R_reads' HO_3.out).2.1
               have hC36 : Kd.C (Kd.int .i64) _ (some ad385) x3_1.length x3_1 := (Kd.R_reads' HO_3.out).2.2
               have q036 : (0 : Int) ≤ (x6_2 : Int) := of_decide_eq_true (by first | (with_reducible assumption) | assumption)
               have hcut36 := cut_from (P := Tryz.prog) 30 3 .i64 Tryz.underlying30 hi036 1 hsz36 (some ad385) x3_1.length co33 x6_2 q036 q36
               have hr36 := Kd.C_drop (m := (x6_2 : Int).toNat) (c := co33) hC36 (by omega) hroom36
               obtain ⟨A36, hA36⟩ : ∃ A1, A1 = (if co33 = (x6_2 : Int).toNat then (some ad385) else ((some ad385) : Option Addr).map (·.add ((x6_2 : Int).toNat * 1))) := ⟨_, rfl⟩
               obtain ⟨c36, hc36⟩ : ∃ c1, c1 = co33 - (x6_2 : Int).toNat := ⟨_, rfl⟩
               have hy36 : y411.length = x3_1.length - (x6_2 : Int).toNat := (by rw [Ny411.out, List.length_drop] <;> omega)
               rw [show (x3_1).drop (x6_2 : Int).toNat = y411 from Ny411.out.symm] at hr36
               replace hr36 : Kd.C (Kd.int .i64) _ A36 y411.length y411 := (by rw [hA36]; exact hr36)
               rw [← hy36, ← hA36, ← hc36] at hcut36
               have HR414 := Aside0.mk hr36
               have HC414 := Aside0.mk (show y411.length ≤ c36 from by rw [hy36, hc36]; exact Nat.sub_le_sub_right hroom36 _)
               clear hr36 hC36 hroom36 hi036 hsz36 hc36
               have KY36 := Aside0.mk hy36
               have KA36 := Aside0.mk hA36
               clear hy36 hA36
               have KL36 := Aside0.mk (show (x6_2 : Int).toNat ≤ x3_1.length from by omega)
               replace q36 := eq_true q36
               refine start_ (n := 12) (S := fun w' => True) (ds := []) #[false, false, false, false, false, false, false, false, false, false, false, false] (by kernel_rfl) rfl rfl trivial (fun hHeld => ?_); refine with_tabW isohyetlaw18_rising.tab9 isohyetlaw18_rising.bits9 (fun HT_ HW_ => ?_)
               generalize wr.drew = w34 at HO_3 HB HR407 HR414 hHeld ⊢
               refine pure_ (i := 0) (N := some 39) (v := ?_) (a' := ?_) #[true, false, false, false, false, false, false, false, false, false, false, false] rfl rfl (any_of HT_.out (by kernel_rfl)) (fun _ _ _ h => h) (Or.inl ⟨by rfl, ?_⟩) ?_ ?_
               rotate_left
               ·intro w'
                go_simp
                with_reducible rfl
               rotate_left
               ·simp only [Act.put, List.setIfInBounds_toArray, List.set_cons_zero, List.set_cons_succ, i64_w, i32_w]
                rfl
               refine pure_ (i := 1) (N := some 40) (v := ?_) (a' := ?_) #[true, true, false, false, false, false, false, false, false, false, false, false] rfl rfl (any_of HT_.out (by kernel_rfl)) (fun _ _ _ h => h) (Or.inl ⟨by rfl, ?_⟩) ?_ ?_
               rotate_left
               ·intro w'
                go_simp
                with_reducible rfl
               rotate_left
               ·simp only [Act.put, List.setIfInBounds_toArray, List.set_cons_zero, List.set_cons_succ, i64_w, i32_w]
                rfl
               refine pure_ (i := 2) (N := some 41) (v := ?_) (a' := ?_) #[true, true, true, false, false, false, false, false, false, false, false, false] rfl rfl (any_of HT_.out (by kernel_rfl)) (fun _ _ _ h => h) (Or.inl ⟨by rfl, ?_⟩) ?_ ?_
               rotate_left
               ·intro w'
                go_simp
                with_reducible rfl
               rotate_left
               ·simp only [Act.put, List.setIfInBounds_toArray, List.set_cons_zero, List.set_cons_succ, i64_w, i32_w]
                rfl
               refine pure_ (i := 3) (N := some 42) (v := ?_) (a' := ?_) #[true, true, true, true, false, false, false, false, false, false, false, false] rfl rfl (any_of HT_.out (by kernel_rfl)) (fun _ _ _ h => h) (Or.inl ⟨by rfl, ?_⟩) ?_ ?_
               rotate_left
               ·intro w'
                go_simp
                with_reducible rfl
               rotate_left
               ·simp only [Act.put, List.setIfInBounds_toArray, List.set_cons_zero, List.set_cons_succ, i64_w, i32_w]
                rfl
               refine pure_ (i := 4) (N := some 43) (v := ?_) (a' := ?_) #[true, true, true, true, true, false, false, false, false, false, false, false] rfl rfl (any_of HT_.out (by kernel_rfl)) (fun _ _ _ h => h) (Or.inl ⟨by rfl, ?_⟩) ?_ ?_
               rotate_left
               ·intro w'
                go_simp
                with_reducible rfl
               rotate_left
               ·simp only [Act.put, List.setIfInBounds_toArray, List.set_cons_zero, List.set_cons_succ, i64_w, i32_w]
                rfl
               refine pure_ (i := 6) (N := some 45) (v := ?_) (a' := ?_) #[true, true, true, true, true, false, true, false, false, false, false, false] rfl rfl (any_of HT_.out (by kernel_rfl)) (fun _ _ _ h => h) (Or.inl ⟨by rfl, ?_⟩) ?_ ?_
               rotate_left
               ·intro w'
                go_simp
                with_reducible rfl
               rotate_left
               ·simp only [Act.put, List.setIfInBounds_toArray, List.set_cons_zero, List.set_cons_succ, i64_w, i32_w]
                rfl
               refine pure_ (i := 7) (N := some 46) (v := ?_) (a' := ?_) #[true, true, true, true, true, false, true, true, false, false, false, false] rfl rfl (any_of HT_.out (by kernel_rfl)) (fun _ _ _ h => h) (Or.inl ⟨by rfl, ?_⟩) ?_ ?_
               rotate_left
               ·intro w'
                go_simp
                with_reducible rfl
               rotate_left
               ·simp only [Act.put, List.setIfInBounds_toArray, List.set_cons_zero, List.set_cons_succ, i64_w, i32_w]
                rfl
               refine pure_ (i := 8) (N := some 47) (v := ?_) (a' := ?_) #[true, true, true, true, true, false, true, true, true, false, false, false] rfl rfl (any_of HT_.out (by kernel_rfl)) (fun _ _ _ h => h) (Or.inl ⟨by rfl, ?_⟩) ?_ ?_
               rotate_left
               ·intro w'
                go_simp
                with_reducible rfl
               rotate_left
               ·simp only [Act.put, List.setIfInBounds_toArray, List.set_cons_zero, List.set_cons_succ, i64_w, i32_w]
                rfl
               refine one_ (i := 5) (N := some 44) #[true, true, true, true, true, true, true, true, true, false, false, false] rfl rfl (one_of HT_.out (by kernel_rfl)) (by decide) (fun K hK => ?_)
               refine Kd.R_lit_step (Kd.int .i64) _ 3 ?hg (N := 44) ?hd (xs := ([(rd l0 x9_1)] : List Int)) (inner := [.int .i64 (rd l0 x9_1)]) (ok := fun _ => True) (okp := fun _ => True) ?hr ?hp (fun _ hk => hk) trivial (Below.refl _ _) (Nat.le_refl _) (by simp) ?_; (case hd => rfl); (case hg => rfl); (case hr => first | (go_simp; done) | (go_simp; rfl)); (case hp => exact (Reps.one (show Kd.M (Kd.int .i64) _ _ _ (rd l0 x9_1) [.int .i64 (rd l0 x9_1)] from rfl) (Reps.none _ _)))
               intro v409 w37 ho38 hb hg_ hnew_
               clear hg_ hnew_
               (first | rw [← Ny408.out] at ho38 | (simp only [Int.reduceToNat] at ho38; rw [← Ny408.out] at ho38))
               have n0_ := Aside0.mk (Kd.R_elder' (gR HO_3.out) (Kd.R_base ho38) hb)
               have n1_ := Aside0.mk (Kd.R_lower (Kd.R_new' ho38 (Kd.R_lt (gR HO_3.out))) (below_size (gB HB.out)))
               have n2_ := Aside0.mk (Kd.C_below (by repeat (first | (with_reducible exact HR407.out) | (with_reducible refine Kd.C_alloc ?_ _) | (with_reducible refine Kd.C_drewN ?_ _) | (with_reducible refine Kd.C_drew ?_) | exact HR407.out)) hb)
               have n3_ := Aside0.mk (Kd.C_below (by repeat (first | (with_reducible exact HR414.out) | (with_reducible refine Kd.C_alloc ?_ _) | (with_reducible refine Kd.C_drewN ?_ _) | (with_reducible refine Kd.C_drew ?_) | exact HR414.out)) hb)
               have n4_ := Aside0.mk (below_step (gB HB.out) hb)
               clear HO_3
               clear HR407
               clear HR414
               clear HB
               have HO_3 := n0_
               have HO410 := n1_
               have HR407 := n2_
               have HR414 := n3_
               have HB := n4_
               clear n0_ n1_ n2_ n3_ n4_
               clear hb ho38
               refine hK.out _ _ trivial (fun hHeld => ?_)
               clear hK K
               refine norm_ (a' := ?_) ?_ ?_
               rotate_left
               ·show Act.put _ (some 44) _ = _
                simp only [Act.put, List.setIfInBounds_toArray, List.set_cons_zero, List.set_cons_succ, i64_w, i32_w]
                rfl
               refine one_ (i := 9) (N := some 48) #[true, true, true, true, true, true, true, true, true, true, false, false] rfl rfl (one_of HT_.out (by kernel_rfl)) (by decide) (fun K hK => ?_)
               refine Kd.R_append_rows_step (Kd.int .i64) (w0 := w) w.heap.size (by rfl) (.tmp 44) (.tmp 47) 30 3 (.int .i64 0) 8 rfl Tryz.underlying30 info3 rfl (by decide) (by omega) v409 y408 y411 _ _ _ (fun k_ => some k_ ≠ (.slice (some ad385) x3_1.length co33 : Value).ownBlock) (fun _ => False) rfl rfl ?aO ?aR (fun _ _ h => h) (fun _ h => h.elim) ?aF ?aB ?aS ?aL ?_
               (case aR => repeat (first | exact (by repeat (first | (with_reducible exact HR414.out) | (with_reducible refine Kd.C_alloc ?_ _) | (with_reducible refine Kd.C_drewN ?_ _) | (with_reducible refine Kd.C_drew ?_) | exact HR414.out)) | (with_reducible refine Kd.C_alloc ?_ _) | (with_reducible refine Kd.C_drewN ?_ _) | (with_reducible refine Kd.C_drew ?_)))
               (case aB => exact (gB HB.out))
               (case aF => exact (fun k_ hk => Kd.fresh' (Kd.R_lt (gR HO_3.out)) k_ hk))
               (case aO => exact (gR (Kd.R_mono HO410.out (fun _ hk => hk.2))))
               (case aS => exact (below_size (gB HB.out)))
               (case aL => have := LMc31.out; omega)
               intro v416 w39 ho hb hg hat
               rw [← Ny415.out] at ho
               have n0_ := Aside0.mk (Kd.R_after (ok := (fun _ => True)) (gR HO_3.out) hg hat)
               have n1_ := Aside0.mk (hb)
               have n2_ := Aside0.mk ((show Kd.C (Kd.int .i64) w39 (some ad385) y404.length y404 from by rw [Ny404.out]; exact Kd.C_take (m := (x6_2 : Int).toNat) ((Kd.R_reads' (Kd.R_after (ok := (fun _ => True)) (gR HO_3.out) hg hat)).2.2) KL35.out))
               have n3_ := Aside0.mk ((show Kd.C (Kd.int .i64) w39 A36 y411.length y411 from by rw [Ny411.out, KA36.out]; exact Kd.C_drop (m := (x6_2 : Int).toNat) (c := co33) ((Kd.R_reads' (Kd.R_after (ok := (fun _ => True)) (gR HO_3.out) hg hat)).2.2) KL36.out ((Kd.R_reads' (Kd.R_after (ok := (fun _ => True)) (gR HO_3.out) hg hat)).2.1)))
               have n4_ := Aside0.mk (ho)
               clear HO_3
               clear HB
               clear HR407
               clear HR414
               clear HO410
               have HO_3 := n0_
               have HB := n1_
               have HR407 := n2_
               have HR414 := n3_
               have HO417 := n4_
               clear n0_ n1_ n2_ n3_ n4_
               clear ho hb hg hat
               obtain ⟨Ao40, co40, eo40⟩ := Kd.R_slice HO417.out
               (first | subst eo40 | (injection eo40 with f1_ f2_ f3_; have f4_ := f1_.symm; have f5_ := f3_.symm; clear f1_ f2_ f3_; subst f4_; subst f5_))
               refine hK.out _ _ trivial (fun hHeld => ?_)
               clear hK K
               refine norm_ (a' := ?_) ?_ ?_
               rotate_left
               ·show Act.put _ (some 48) _ = _
                simp only [Act.put, List.setIfInBounds_toArray, List.set_cons_zero, List.set_cons_succ, i64_w, i32_w]
                rfl
               refine one_ (i := 10) (N := some 49) #[true, true, true, true, true, true, true, true, true, true, true, false] rfl rfl (one_of HT_.out (by kernel_rfl)) (by decide) (fun K hK => ?_)
               refine concat_step rfl (.tmp 42) (.tmp 48) 30 3 rfl Tryz.underlying30 info3 (some ad385) (Ao40) y404 y415 t418 co40 rfl rfl ?side1 ?side3 A32.out ?_
               (case side1 => repeat (first | exact (by repeat (first | (with_reducible exact HR407.out) | (with_reducible refine Kd.C_alloc ?_ _) | (with_reducible refine Kd.C_drewN ?_ _) | (with_reducible refine Kd.C_drew ?_) | exact HR407.out)) | (with_reducible refine Kd.C_alloc ?_ _) | (with_reducible refine Kd.C_drewN ?_ _) | (with_reducible refine Kd.C_drew ?_)))
               (case side3 => repeat (first | exact (Kd.R_reads' HO417.out).2.2 | (with_reducible refine Kd.C_alloc ?_ _) | (with_reducible refine Kd.C_drewN ?_ _) | (with_reducible refine Kd.C_drew ?_)))
               intro v419 w41 ho0 hb
               have n0_ := Aside0.mk (Kd.R_elder' (gR HO_3.out) (Kd.R_base ho0) hb)
               have n1_ := Aside0.mk (Kd.R_elder' (gR HO417.out) (Kd.R_base ho0) hb)
               have n2_ := Aside0.mk (Kd.R_lower (Kd.R_new' (Kd.R_new' ho0 (Kd.R_lt (gR HO_3.out))) (Kd.R_lt (gR HO417.out))) (below_size (gB HB.out)))
               have n3_ := Aside0.mk (Kd.C_below (by repeat (first | (with_reducible exact HR407.out) | (with_reducible refine Kd.C_alloc ?_ _) | (with_reducible refine Kd.C_drewN ?_ _) | (with_reducible refine Kd.C_drew ?_) | exact HR407.out)) hb)
               have n4_ := Aside0.mk (Kd.C_below (by repeat (first | (with_reducible exact HR414.out) | (with_reducible refine Kd.C_alloc ?_ _) | (with_reducible refine Kd.C_drewN ?_ _) | (with_reducible refine Kd.C_drew ?_) | exact HR414.out)) hb)
               have n5_ := Aside0.mk (below_step (gB HB.out) hb)
               clear HO_3
               clear HO417
               clear HR407
               clear HR414
               clear HB
               have HO_3 := n0_
               have HO417 := n1_
               have HO420 := n2_
               have HR407 := n3_
               have HR414 := n4_
               have HB := n5_
               clear n0_ n1_ n2_ n3_ n4_ n5_
               (try clear hb)
               (try clear hb2)
               (try clear hk)
               (try clear hi)
               (try clear ho0)
               refine hK.out _ _ trivial (fun hHeld => ?_)
               clear hK K
               refine norm_ (a' := ?_) ?_ ?_
               rotate_left
               ·show Act.put _ (some 49) _ = _
                simp only [Act.put, List.setIfInBounds_toArray, List.set_cons_zero, List.set_cons_succ, i64_w, i32_w]
                rfl
               refine pure_ (i := 11) (N := some 3) (v := ?_) (a' := ?_) #[true, true, true, true, true, true, true, true, true, true, true, true] rfl rfl (any_of HT_.out (by kernel_rfl)) (fun _ _ _ h => h) (Or.inl ⟨by rfl, ?_⟩) ?_ ?_
               rotate_left
               ·intro w'
                go_simp
                with_reducible rfl
               rotate_left
               ·simp only [Act.put, List.setIfInBounds_toArray, List.set_cons_zero, List.set_cons_succ, i64_w, i32_w]
                rfl
               refine done_ (done_of HT_.out (by kernel_rfl)) ?_
               try go_wp2
               go_roundg k2
               case measure => have := HK1.out; have := HK2.out; omega
               case rel => exact ⟨(t418), (wrap64 (x9_1 + 1)), (by first | rfl | (simp; done) | (simp [*]; done)), H', ⟨by have := HK1.out; have := HK2.out; omega⟩, ⟨by (with_reducible repeat (first | apply Kd.R_alloc | apply Kd.R_drewN | apply Kd.R_drew)); exact Kd.R_mono HO420.out (fun _ hk => trivial)⟩, ⟨by repeat (first | (with_reducible first | exact HB.out | apply bA | apply bN | apply bD) | exact HB.out)⟩⟩
              ·rw [if_neg c31] at H
               exact absurd H (by simp)
             ·rw [if_neg c28] at H
              exact absurd H (by simp)
         ·rw [if_neg c6] at H
          exact absurd H (by simp)
        ·rw [if_neg c5] at H
         have c5b0 : decide (x6_2 < (x3_1.length : Int)) = false := decide_eq_false c5
         clear c5
         by_cases c42 : x6_2 = (x3_1.length : Int)
         ·rw [if_pos c42] at H
          have c42b0 : (x6_2 == (x3_1.length : Int)) = true := beq_iff_eq.mpr c42
          have c42b1 : (x6_2 != (x3_1.length : Int)) = false := bne_eq_false_iff_eq.mpr c42
          clear c42
          by_cases c43 : 0 ≤ x6_2
          ·rw [if_pos c43] at H
           have c43b0 := eq_true c43
           have c43b1 : decide (0 ≤ x6_2) = true := decide_eq_true c43
           clear c43
           by_cases c44 : x6_2 ≤ (x3_1.length : Int)
           ·rw [if_pos c44] at H
            have c44b0 := eq_true c44
            have c44b1 : decide (x6_2 ≤ (x3_1.length : Int)) = true := decide_eq_true c44
            clear c44
            obtain ⟨y421, hy421⟩ : ∃ y_ : List Int, y_ = (x3_1.take (x6_2 : Int).toNat) := ⟨_, rfl⟩
            replace H : ((some (([(rd l0 x9_1)] : List Int) : List Int)).bind fun y425 => ((some (x3_1.drop (x6_2 : Int).toNat : List Int)).bind fun y428 => (if y425.length + y428.length < 17592186044416 then ((row_concat.f y421 (y425 ++ y428)).bind fun t435 => (isohyetlaw18_rising.l0 k2 t435 l0 (l0.length : Int) (wrap64 (x9_1 + 1)))) else (none)))) = some r := by first | (rw [hy421]; with_reducible exact H) | (have H2_ := (Option.bind_some _ _).symm.trans H; rw [hy421]; with_reducible exact H2_) | (have H2_ := (Option.bind_some _ _).symm.trans H; with_reducible exact H2_) | with_reducible exact H | (rw [hy421]; exact H) | exact H
            have Ny421 := Aside0.mk hy421
            clear hy421
            obtain ⟨y425, hy425⟩ : ∃ y_ : List Int, y_ = (([(rd l0 x9_1)] : List Int)) := ⟨_, rfl⟩
            replace H : ((some (x3_1.drop (x6_2 : Int).toNat : List Int)).bind fun y428 => (if y425.length + y428.length < 17592186044416 then ((row_concat.f y421 (y425 ++ y428)).bind fun t435 => (isohyetlaw18_rising.l0 k2 t435 l0 (l0.length : Int) (wrap64 (x9_1 + 1)))) else (none))) = some r := by first | (rw [hy425]; with_reducible exact H) | (have H2_ := (Option.bind_some _ _).symm.trans H; rw [hy425]; with_reducible exact H2_) | (have H2_ := (Option.bind_some _ _).symm.trans H; with_reducible exact H2_) | with_reducible exact H | (rw [hy425]; exact H) | exact H
            have Ny425 := Aside0.mk hy425
            clear hy425
            have c45b0 := eq_true (of_decide_eq_true (by first | (with_reducible assumption) | assumption) : 0 ≤ x6_2)
            have c46b0 := eq_true (of_decide_eq_true (by first | (with_reducible assumption) | assumption) : x6_2 ≤ (x3_1.length : Int))
            obtain ⟨y428, hy428⟩ : ∃ y_ : List Int, y_ = (x3_1.drop (x6_2 : Int).toNat) := ⟨_, rfl⟩
            replace H : (if y425.length + y428.length < 17592186044416 then ((row_concat.f y421 (y425 ++ y428)).bind fun t435 => (isohyetlaw18_rising.l0 k2 t435 l0 (l0.length : Int) (wrap64 (x9_1 + 1)))) else (none)) = some r := by first | (rw [hy428]; with_reducible exact H) | (have H2_ := (Option.bind_some _ _).symm.trans H; rw [hy428]; with_reducible exact H2_) | (have H2_ := (Option.bind_some _ _).symm.trans H; with_reducible exact H2_) | with_reducible exact H | (rw [hy428]; exact H) | exact H
            have Ny428 := Aside0.mk hy428
            clear hy428
            by_cases c47 : y425.length + y428.length < 17592186044416
            ·rw [if_pos c47] at H
             have LMc47 := Aside0.mk c47
             clear c47
             obtain ⟨y432, hy432⟩ : ∃ y_ : List Int, y_ = (y425 ++ y428) := ⟨_, rfl⟩
             replace H : ((row_concat.f y421 y432).bind fun t435 => (isohyetlaw18_rising.l0 k2 t435 l0 (l0.length : Int) (wrap64 (x9_1 + 1)))) = some r := by first | (rw [hy432]; with_reducible exact H) | (have H2_ := (Option.bind_some _ _).symm.trans H; rw [hy432]; with_reducible exact H2_) | (have H2_ := (Option.bind_some _ _).symm.trans H; with_reducible exact H2_) | with_reducible exact H | (rw [hy432]; exact H) | exact H
             have Ny432 := Aside0.mk hy432
             clear hy432
             replace H := Option.bind_eq_some_iff.mp H
             obtain ⟨t435, A480, H⟩ := H
             replace H : (isohyetlaw18_rising.l0 k2 t435 l0 (l0.length : Int) (wrap64 (x9_1 + 1))) = some r := H
             have A48 := Aside0.mk A480
             clear A480
             have H' := Aside0.mk H
             clear H
             obtain ⟨Ao49, co49, eo49⟩ := Kd.R_slice HO_3.out
             subst eo49
             try go_wp2
             have n0_ := Aside0.mk (Kd.R_drew HO_3.out)
             have n1_ := Aside0.mk (bD HB.out)
             clear HO_3
             clear HB
             have HO_3 := n0_
             have HB := n1_
             clear n0_ n1_
             have q51 : (x6_2 : Int) ≤ ((x3_1.length : Int) : Int) := of_decide_eq_true (by first | (with_reducible assumption) | assumption)
             obtain ⟨i051, hi051, _, hsz51, _⟩ := info_parts info3
             have hroom51 : x3_1.length ≤ co49 := (Kd.R_reads' HO_3.out).2.1
             have hC51 : Kd.C (Kd.int .i64) _ Ao49 x3_1.length x3_1 := (Kd.R_reads' HO_3.out).2.2
             have hcut51 := MB.cut_full (P := Tryz.prog) 30 3 .i64 Tryz.underlying30 hi051 Ao49 x3_1.length co49 x6_2 (of_decide_eq_true (by first | (with_reducible assumption) | assumption)) q51 hroom51
             have hr51 := Kd.C_take (m := (x6_2 : Int).toNat) hC51 (by omega)
             have hy51 : y421.length = (x6_2 : Int).toNat := (by rw [Ny421.out, List.length_take]; omega)
             rw [← Ny421.out] at hr51
             rw [← hy51] at hcut51
             have HR424 := Aside0.mk hr51
             have HC424 := Aside0.mk (show y421.length ≤ co49 from by omega)
             clear hr51 hC51 hroom51 hi051 hsz51
             have KY51 := Aside0.mk hy51
             clear hy51
             have KL51 := Aside0.mk (show (x6_2 : Int).toNat ≤ x3_1.length from by omega)
             replace q51 := eq_true q51
             have q52 : (x6_2 : Int) ≤ ((x3_1.length : Int) : Int) := of_decide_eq_true (by first | (with_reducible assumption) | assumption)
             obtain ⟨i052, hi052, _, hsz52, _⟩ := info_parts info3
             have hroom52 : x3_1.length ≤ co49 := (Kd.R_reads' HO_3.out).2.1
             have hC52 : Kd.C (Kd.int .i64) _ Ao49 x3_1.length x3_1 := (Kd.R_reads' HO_3.out).2.2
             have q052 : (0 : Int) ≤ (x6_2 : Int) := of_decide_eq_true (by first | (with_reducible assumption) | assumption)
             have hcut52 := cut_from (P := Tryz.prog) 30 3 .i64 Tryz.underlying30 hi052 1 hsz52 Ao49 x3_1.length co49 x6_2 q052 q52
             have hr52 := Kd.C_drop (m := (x6_2 : Int).toNat) (c := co49) hC52 (by omega) hroom52
             obtain ⟨A52, hA52⟩ : ∃ A1, A1 = (if co49 = (x6_2 : Int).toNat then Ao49 else (Ao49 : Option Addr).map (·.add ((x6_2 : Int).toNat * 1))) := ⟨_, rfl⟩
             obtain ⟨c52, hc52⟩ : ∃ c1, c1 = co49 - (x6_2 : Int).toNat := ⟨_, rfl⟩
             have hy52 : y428.length = x3_1.length - (x6_2 : Int).toNat := (by rw [Ny428.out, List.length_drop] <;> omega)
             rw [show (x3_1).drop (x6_2 : Int).toNat = y428 from Ny428.out.symm] at hr52
             replace hr52 : Kd.C (Kd.int .i64) _ A52 y428.length y428 := (by rw [hA52]; exact hr52)
             rw [← hy52, ← hA52, ← hc52] at hcut52
             have HR431 := Aside0.mk hr52
             have HC431 := Aside0.mk (show y428.length ≤ c52 from by rw [hy52, hc52]; exact Nat.sub_le_sub_right hroom52 _)
             clear hr52 hC52 hroom52 hi052 hsz52 hc52
             have KY52 := Aside0.mk hy52
             have KA52 := Aside0.mk hA52
             clear hy52 hA52
             have KL52 := Aside0.mk (show (x6_2 : Int).toNat ≤ x3_1.length from by omega)
             replace q52 := eq_true q52
             refine start_ (n := 12) (S := fun w' => True) (ds := []) #[false, false, false, false, false, false, false, false, false, false, false, false] (by kernel_rfl) rfl rfl trivial (fun hHeld => ?_); refine with_tabW isohyetlaw18_rising.tab9 isohyetlaw18_rising.bits9 (fun HT_ HW_ => ?_)
             generalize wr.drew = w50 at HO_3 HB HR424 HR431 hHeld ⊢
             refine pure_ (i := 0) (N := some 39) (v := ?_) (a' := ?_) #[true, false, false, false, false, false, false, false, false, false, false, false] rfl rfl (any_of HT_.out (by kernel_rfl)) (fun _ _ _ h => h) (Or.inl ⟨by rfl, ?_⟩) ?_ ?_
             rotate_left
             ·intro w'
              go_simp
              with_reducible rfl
             rotate_left
             ·simp only [Act.put, List.setIfInBounds_toArray, List.set_cons_zero, List.set_cons_succ, i64_w, i32_w]
              rfl
             refine pure_ (i := 1) (N := some 40) (v := ?_) (a' := ?_) #[true, true, false, false, false, false, false, false, false, false, false, false] rfl rfl (any_of HT_.out (by kernel_rfl)) (fun _ _ _ h => h) (Or.inl ⟨by rfl, ?_⟩) ?_ ?_
             rotate_left
             ·intro w'
              go_simp
              with_reducible rfl
             rotate_left
             ·simp only [Act.put, List.setIfInBounds_toArray, List.set_cons_zero, List.set_cons_succ, i64_w, i32_w]
              rfl
             refine pure_ (i := 2) (N := some 41) (v := ?_) (a' := ?_) #[true, true, true, false, false, false, false, false, false, false, false, false] rfl rfl (any_of HT_.out (by kernel_rfl)) (fun _ _ _ h => h) (Or.inl ⟨by rfl, ?_⟩) ?_ ?_
             rotate_left
             ·intro w'
              go_simp
              with_reducible rfl
             rotate_left
             ·simp only [Act.put, List.setIfInBounds_toArray, List.set_cons_zero, List.set_cons_succ, i64_w, i32_w]
              rfl
             refine pure_ (i := 3) (N := some 42) (v := ?_) (a' := ?_) #[true, true, true, true, false, false, false, false, false, false, false, false] rfl rfl (any_of HT_.out (by kernel_rfl)) (fun _ _ _ h => h) (Or.inl ⟨by rfl, ?_⟩) ?_ ?_
             rotate_left
             ·intro w'
              go_simp
              with_reducible rfl
             rotate_left
             ·simp only [Act.put, List.setIfInBounds_toArray, List.set_cons_zero, List.set_cons_succ, i64_w, i32_w]
              rfl
             refine pure_ (i := 4) (N := some 43) (v := ?_) (a' := ?_) #[true, true, true, true, true, false, false, false, false, false, false, false] rfl rfl (any_of HT_.out (by kernel_rfl)) (fun _ _ _ h => h) (Or.inl ⟨by rfl, ?_⟩) ?_ ?_
             rotate_left
             ·intro w'
              go_simp
              with_reducible rfl
             rotate_left
             ·simp only [Act.put, List.setIfInBounds_toArray, List.set_cons_zero, List.set_cons_succ, i64_w, i32_w]
              rfl
             refine pure_ (i := 6) (N := some 45) (v := ?_) (a' := ?_) #[true, true, true, true, true, false, true, false, false, false, false, false] rfl rfl (any_of HT_.out (by kernel_rfl)) (fun _ _ _ h => h) (Or.inl ⟨by rfl, ?_⟩) ?_ ?_
             rotate_left
             ·intro w'
              go_simp
              with_reducible rfl
             rotate_left
             ·simp only [Act.put, List.setIfInBounds_toArray, List.set_cons_zero, List.set_cons_succ, i64_w, i32_w]
              rfl
             refine pure_ (i := 7) (N := some 46) (v := ?_) (a' := ?_) #[true, true, true, true, true, false, true, true, false, false, false, false] rfl rfl (any_of HT_.out (by kernel_rfl)) (fun _ _ _ h => h) (Or.inl ⟨by rfl, ?_⟩) ?_ ?_
             rotate_left
             ·intro w'
              go_simp
              with_reducible rfl
             rotate_left
             ·simp only [Act.put, List.setIfInBounds_toArray, List.set_cons_zero, List.set_cons_succ, i64_w, i32_w]
              rfl
             refine pure_ (i := 8) (N := some 47) (v := ?_) (a' := ?_) #[true, true, true, true, true, false, true, true, true, false, false, false] rfl rfl (any_of HT_.out (by kernel_rfl)) (fun _ _ _ h => h) (Or.inl ⟨by rfl, ?_⟩) ?_ ?_
             rotate_left
             ·intro w'
              go_simp
              with_reducible rfl
             rotate_left
             ·simp only [Act.put, List.setIfInBounds_toArray, List.set_cons_zero, List.set_cons_succ, i64_w, i32_w]
              rfl
             refine one_ (i := 5) (N := some 44) #[true, true, true, true, true, true, true, true, true, false, false, false] rfl rfl (one_of HT_.out (by kernel_rfl)) (by decide) (fun K hK => ?_)
             refine Kd.R_lit_step (Kd.int .i64) _ 3 ?hg (N := 44) ?hd (xs := ([(rd l0 x9_1)] : List Int)) (inner := [.int .i64 (rd l0 x9_1)]) (ok := fun _ => True) (okp := fun _ => True) ?hr ?hp (fun _ hk => hk) trivial (Below.refl _ _) (Nat.le_refl _) (by simp) ?_; (case hd => rfl); (case hg => rfl); (case hr => first | (go_simp; done) | (go_simp; rfl)); (case hp => exact (Reps.one (show Kd.M (Kd.int .i64) _ _ _ (rd l0 x9_1) [.int .i64 (rd l0 x9_1)] from rfl) (Reps.none _ _)))
             intro v426 w53 ho54 hb hg_ hnew_
             clear hg_ hnew_
             (first | rw [← Ny425.out] at ho54 | (simp only [Int.reduceToNat] at ho54; rw [← Ny425.out] at ho54))
             have n0_ := Aside0.mk (Kd.R_elder' (gR HO_3.out) (Kd.R_base ho54) hb)
             have n1_ := Aside0.mk (Kd.R_lower (Kd.R_new' ho54 (Kd.R_lt (gR HO_3.out))) (below_size (gB HB.out)))
             have n2_ := Aside0.mk (Kd.C_below (by repeat (first | (with_reducible exact HR424.out) | (with_reducible refine Kd.C_alloc ?_ _) | (with_reducible refine Kd.C_drewN ?_ _) | (with_reducible refine Kd.C_drew ?_) | exact HR424.out)) hb)
             have n3_ := Aside0.mk (Kd.C_below (by repeat (first | (with_reducible exact HR431.out) | (with_reducible refine Kd.C_alloc ?_ _) | (with_reducible refine Kd.C_drewN ?_ _) | (with_reducible refine Kd.C_drew ?_) | exact HR431.out)) hb)
             have n4_ := Aside0.mk (below_step (gB HB.out) hb)
             clear HO_3
             clear HR424
             clear HR431
             clear HB
             have HO_3 := n0_
             have HO427 := n1_
             have HR424 := n2_
             have HR431 := n3_
             have HB := n4_
             clear n0_ n1_ n2_ n3_ n4_
             clear hb ho54
             refine hK.out _ _ trivial (fun hHeld => ?_)
             clear hK K
             refine norm_ (a' := ?_) ?_ ?_
             rotate_left
             ·show Act.put _ (some 44) _ = _
              simp only [Act.put, List.setIfInBounds_toArray, List.set_cons_zero, List.set_cons_succ, i64_w, i32_w]
              rfl
             refine one_ (i := 9) (N := some 48) #[true, true, true, true, true, true, true, true, true, true, false, false] rfl rfl (one_of HT_.out (by kernel_rfl)) (by decide) (fun K hK => ?_)
             refine Kd.R_append_rows_step (Kd.int .i64) (w0 := w) w.heap.size (by rfl) (.tmp 44) (.tmp 47) 30 3 (.int .i64 0) 8 rfl Tryz.underlying30 info3 rfl (by decide) (by omega) v426 y425 y428 _ _ _ (fun k_ => some k_ ≠ (.slice Ao49 x3_1.length co49 : Value).ownBlock) (fun _ => False) rfl rfl ?aO ?aR (fun _ _ h => h) (fun _ h => h.elim) ?aF ?aB ?aS ?aL ?_
             (case aR => repeat (first | exact (by repeat (first | (with_reducible exact HR431.out) | (with_reducible refine Kd.C_alloc ?_ _) | (with_reducible refine Kd.C_drewN ?_ _) | (with_reducible refine Kd.C_drew ?_) | exact HR431.out)) | (with_reducible refine Kd.C_alloc ?_ _) | (with_reducible refine Kd.C_drewN ?_ _) | (with_reducible refine Kd.C_drew ?_)))
             (case aB => exact (gB HB.out))
             (case aF => exact (fun k_ hk => Kd.fresh' (Kd.R_lt (gR HO_3.out)) k_ hk))
             (case aO => exact (gR (Kd.R_mono HO427.out (fun _ hk => hk.2))))
             (case aS => exact (below_size (gB HB.out)))
             (case aL => have := LMc47.out; omega)
             intro v433 w55 ho hb hg hat
             rw [← Ny432.out] at ho
             have n0_ := Aside0.mk (Kd.R_after (ok := (fun _ => True)) (gR HO_3.out) hg hat)
             have n1_ := Aside0.mk (hb)
             have n2_ := Aside0.mk ((show Kd.C (Kd.int .i64) w55 Ao49 y421.length y421 from by rw [Ny421.out]; exact Kd.C_take (m := (x6_2 : Int).toNat) ((Kd.R_reads' (Kd.R_after (ok := (fun _ => True)) (gR HO_3.out) hg hat)).2.2) KL51.out))
             have n3_ := Aside0.mk ((show Kd.C (Kd.int .i64) w55 A52 y428.length y428 from by rw [Ny428.out, KA52.out]; exact Kd.C_drop (m := (x6_2 : Int).toNat) (c := co49) ((Kd.R_reads' (Kd.R_after (ok := (fun _ => True)) (gR HO_3.out) hg hat)).2.2) KL52.out ((Kd.R_reads' (Kd.R_after (ok := (fun _ => True)) (gR HO_3.out) hg hat)).2.1)))
             have n4_ := Aside0.mk (ho)
             clear HO_3
             clear HB
             clear HR424
             clear HR431
             clear HO427
             have HO_3 := n0_
             have HB := n1_
             have HR424 := n2_
             have HR431 := n3_
             have HO434 := n4_
             clear n0_ n1_ n2_ n3_ n4_
             clear ho hb hg hat
             obtain ⟨Ao56, co56, eo56⟩ := Kd.R_slice HO434.out
             (first | subst eo56 | (injection eo56 with f1_ f2_ f3_; have f4_ := f1_.symm; have f5_ := f3_.symm; clear f1_ f2_ f3_; subst f4_; subst f5_))
             refine hK.out _ _ trivial (fun hHeld => ?_)
             clear hK K
             refine norm_ (a' := ?_) ?_ ?_
             rotate_left
             ·show Act.put _ (some 48) _ = _
              simp only [Act.put, List.setIfInBounds_toArray, List.set_cons_zero, List.set_cons_succ, i64_w, i32_w]
              rfl
             refine one_ (i := 10) (N := some 49) #[true, true, true, true, true, true, true, true, true, true, true, false] rfl rfl (one_of HT_.out (by kernel_rfl)) (by decide) (fun K hK => ?_)
             refine concat_step rfl (.tmp 42) (.tmp 48) 30 3 rfl Tryz.underlying30 info3 (Ao49) (Ao56) y421 y432 t435 co56 rfl rfl ?side1 ?side3 A48.out ?_
             (case side1 => repeat (first | exact (by repeat (first | (with_reducible exact HR424.out) | (with_reducible refine Kd.C_alloc ?_ _) | (with_reducible refine Kd.C_drewN ?_ _) | (with_reducible refine Kd.C_drew ?_) | exact HR424.out)) | (with_reducible refine Kd.C_alloc ?_ _) | (with_reducible refine Kd.C_drewN ?_ _) | (with_reducible refine Kd.C_drew ?_)))
             (case side3 => repeat (first | exact (Kd.R_reads' HO434.out).2.2 | (with_reducible refine Kd.C_alloc ?_ _) | (with_reducible refine Kd.C_drewN ?_ _) | (with_reducible refine Kd.C_drew ?_)))
             intro v436 w57 ho0 hb
             have n0_ := Aside0.mk (Kd.R_elder' (gR HO_3.out) (Kd.R_base ho0) hb)
             have n1_ := Aside0.mk (Kd.R_elder' (gR HO434.out) (Kd.R_base ho0) hb)
             have n2_ := Aside0.mk (Kd.R_lower (Kd.R_new' (Kd.R_new' ho0 (Kd.R_lt (gR HO_3.out))) (Kd.R_lt (gR HO434.out))) (below_size (gB HB.out)))
             have n3_ := Aside0.mk (Kd.C_below (by repeat (first | (with_reducible exact HR424.out) | (with_reducible refine Kd.C_alloc ?_ _) | (with_reducible refine Kd.C_drewN ?_ _) | (with_reducible refine Kd.C_drew ?_) | exact HR424.out)) hb)
             have n4_ := Aside0.mk (Kd.C_below (by repeat (first | (with_reducible exact HR431.out) | (with_reducible refine Kd.C_alloc ?_ _) | (with_reducible refine Kd.C_drewN ?_ _) | (with_reducible refine Kd.C_drew ?_) | exact HR431.out)) hb)
             have n5_ := Aside0.mk (below_step (gB HB.out) hb)
             clear HO_3
             clear HO434
             clear HR424
             clear HR431
             clear HB
             have HO_3 := n0_
             have HO434 := n1_
             have HO437 := n2_
             have HR424 := n3_
             have HR431 := n4_
             have HB := n5_
             clear n0_ n1_ n2_ n3_ n4_ n5_
             (try clear hb)
             (try clear hb2)
             (try clear hk)
             (try clear hi)
             (try clear ho0)
             refine hK.out _ _ trivial (fun hHeld => ?_)
             clear hK K
             refine norm_ (a' := ?_) ?_ ?_
             rotate_left
             ·show Act.put _ (some 49) _ = _
              simp only [Act.put, List.setIfInBounds_toArray, List.set_cons_zero, List.set_cons_succ, i64_w, i32_w]
              rfl
             refine pure_ (i := 11) (N := some 3) (v := ?_) (a' := ?_) #[true, true, true, true, true, true, true, true, true, true, true, true] rfl rfl (any_of HT_.out (by kernel_rfl)) (fun _ _ _ h => h) (Or.inl ⟨by rfl, ?_⟩) ?_ ?_
             rotate_left
             ·intro w'
              go_simp
              with_reducible rfl
             rotate_left
             ·simp only [Act.put, List.setIfInBounds_toArray, List.set_cons_zero, List.set_cons_succ, i64_w, i32_w]
              rfl
             refine done_ (done_of HT_.out (by kernel_rfl)) ?_
             try go_wp2
             go_roundg k2
             case measure => have := HK1.out; have := HK2.out; omega
             case rel => exact ⟨(t435), (wrap64 (x9_1 + 1)), (by first | rfl | (simp; done) | (simp [*]; done)), H', ⟨by have := HK1.out; have := HK2.out; omega⟩, ⟨by (with_reducible repeat (first | apply Kd.R_alloc | apply Kd.R_drewN | apply Kd.R_drew)); exact Kd.R_mono HO437.out (fun _ hk => trivial)⟩, ⟨by repeat (first | (with_reducible first | exact HB.out | apply bA | apply bN | apply bD) | exact HB.out)⟩⟩
            ·rw [if_neg c47] at H
             exact absurd H (by simp)
           ·rw [if_neg c44] at H
            exact absurd H (by simp)
          ·rw [if_neg c43] at H
           exact absurd H (by simp)
         ·rw [if_neg c42] at H
          have c42b0 : (x6_2 == (x3_1.length : Int)) = false := beq_eq_false_iff_ne.mpr c42
          have c42b1 : (x6_2 != (x3_1.length : Int)) = true := bne_iff_ne.mpr c42
          by_cases c58 : 0 ≤ x6_2
          ·rw [if_pos c58] at H
           exact absurd H (by simp)
          ·rw [if_neg c58] at H
           exact absurd H (by simp)
     ·rw [if_neg c4] at H
      exact absurd H (by simp)
    ·rw [if_neg c3] at H
     exact absurd H (by simp)
   ·rw [if_neg c2] at H
    have c2b0 : decide (x9_1 < (l0.length : Int)) = false := decide_eq_false c2
    clear c2
    obtain rfl := Option.some.inj H
    go_wp2
    go_ret
    exact ⟨_, by first | rfl | (simp [errW_none, errW_some] <;> rfl) | (simp [*, errW_none, errW_some] <;> rfl), by (with_reducible repeat (first | apply Kd.R_alloc | apply Kd.R_drewN | apply Kd.R_drew)); exact HO_3.out, by repeat (first | (with_reducible first | exact HB.out | apply bA | apply bN | apply bD) | exact HB.out)⟩

end Go.Proofs.YtpdgjhaimfpacaaGreatDoor.M
