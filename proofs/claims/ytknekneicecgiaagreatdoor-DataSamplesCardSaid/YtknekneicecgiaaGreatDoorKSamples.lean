-- By drive.py (this session's program), out of the translation. Lean checks it.
import Derived.Test.YtknekneicecgiaaGreatDoorA0
import Derived.Test.YtknekneicecgiaaGreatDoorE7
import Derived.Test.YtknekneicecgiaaGreatDoorE8
import Derived.Test.YtknekneicecgiaaGreatDoorHS
import Derived.Test.YtknekneicecgiaaGreatDoorHF
namespace Go.Proofs.YtknekneicecgiaaGreatDoor.M
open Go.Proofs.YtknekneicecgiaaGreatDoor.MB Go.Proofs.YtknekneicecgiaaGreatDoor
open Go.RowKit Go.Proofs.YtknekneicecgiaaGreatDoorW.PrintWords Go.Proofs.YtknekneicecgiaaGreatDoorW.PrintLast Go.Proofs.YtknekneicecgiaaGreatDoorW.PrintMore
attribute [local go_sem] max2_int min2_int max_two min_two max_three min_three max_four min_four   -- for this text's walks alone
set_option linter.unusedVariables false
set_option linter.unusedSimpArgs false
attribute [local go_sem] add64_run sub64_run

attribute [local go_sem high] eqA34

/-! ### isohyetlaw25_DataSamples: function 3 -/
def isohyetlaw25_DataSamples.l0 : Nat → Int → Int → List (S34) → Int → Int → Int → List (List ByteArray) → Int → Int → Option (Bool)
 | 0, _, _, _, _, _, _, _, _, _ => none
 | k + 1, x1, x2, x7, x8, x9, x10, x29, x30, x31 => if x31 < x30 then (if 0 ≤ x31 then (if x31 < (x29.length : Int) then (if ((rd_L4 x29 x31).length : Int) = 0 then (isohyetlaw25_DataSamples.l0 k x1 x2 x7 x8 x9 x10 x29 x30 (wrap64 (x31 + 1))) else ((isohyetlaw25_decimals.f k (rd_L4 x29 x31) (([x1, x1, x2] : List Int))).bind fun bt370 => (if bt370.2 = 0 then (if x9 = 0 then (if x10 ≥ (x7.length : Int) then (some false) else (if 0 ≤ x10 then (if x10 < (x7.length : Int) then (if 0 < (bt370.1.length : Int) then (if 1 < (bt370.1.length : Int) then (if 2 < (bt370.1.length : Int) then (if (!(((rd_T34 x7 x10).f0) == (rd bt370.1 0)) || (!(((rd_T34 x7 x10).f1) == (rd bt370.1 1)) || (!(((rd_T34 x7 x10).f2) == (rd bt370.1 2))))) = true then (some false) else (isohyetlaw25_DataSamples.l0 k x1 x2 x7 x8 x9 (wrap64 (x10 + 1)) x29 x30 (wrap64 (x31 + 1)))) else (none)) else (none)) else (none)) else (none)) else (none))) else (isohyetlaw25_DataSamples.l0 k x1 x2 x7 x8 x9 (wrap64 (x10 + 1)) x29 x30 (wrap64 (x31 + 1)))) else (if x9 = bt370.2 then (if x8 = (wrap64 (x31 + 1)) then (some ((x7.length : Int) == 0)) else (some false)) else (some false))))) else (none)) else (none)) else (if x9 = 0 then (if x8 = 0 then (some (x10 == (x7.length : Int))) else (some false)) else (some false))
def isohyetlaw25_DataSamples.f (k : Nat) (a0 : ByteArray) (a1 : Int) (a2 : Int) : Option (Bool) := (isohyetlaw25_fit.f).bind fun t357 => (if t357 = true then (if (a0.size : Int) > 1500 then (some true) else ((data_Samples.f k a0 a1 a2).bind fun bt358 => ((isohyetlaw25_lines.f k a0).bind fun t363 => (isohyetlaw25_DataSamples.l0 k a1 a2 bt358.1 bt358.2.1 bt358.2.2 0 t363 (t363.length : Int) 0)))) else (some false))
theorem isohyetlaw25_DataSamples.mono_l : ∀ k, (∀ y0 y1 y2 y3 y4 y5 y6 y7 y8, LeO (isohyetlaw25_DataSamples.l0 k y0 y1 y2 y3 y4 y5 y6 y7 y8) (isohyetlaw25_DataSamples.l0 (k + 1) y0 y1 y2 y3 y4 y5 y6 y7 y8))
 | 0 => fun _ _ _ _ _ _ _ _ _ r h => by simp [isohyetlaw25_DataSamples.l0] at h
 | k + 1 => by
  have ih0 := isohyetlaw25_DataSamples.mono_l k
  ·intro y0 y1 y2 y3 y4 y5 y6 y7 y8
   unfold isohyetlaw25_DataSamples.l0
   repeat' first
   | (with_reducible exact ih0 _ _ _ _ _ _ _ _ _)
   | (with_reducible exact data_Samples.mono _ _ _ _)
   | (with_reducible exact isohyetlaw25_decimals.mono _ _ _)
   | (with_reducible exact isohyetlaw25_lines.mono _ _)
   | (with_reducible exact LeO.refl _)
   | (with_reducible exact LeO.none _)
   | (with_reducible refine LeO.ite ?_ ?_)
   | (with_reducible refine LeO.bind ?_ (fun _ => ?_))
   | exact ih0 _ _ _ _ _ _ _ _ _
   | exact data_Samples.mono _ _ _ _
   | exact isohyetlaw25_decimals.mono _ _ _
   | exact isohyetlaw25_lines.mono _ _
   | exact LeO.none _
   | refine LeO.ite ?_ ?_
   | refine LeO.bind ?_ (fun _ => ?_)
theorem isohyetlaw25_DataSamples.mono : ∀ a0 a1 a2 k, LeO (isohyetlaw25_DataSamples.f k a0 a1 a2) (isohyetlaw25_DataSamples.f (k + 1) a0 a1 a2) := by
 intro a0 a1 a2 k
 have ih0 := isohyetlaw25_DataSamples.mono_l k
 unfold isohyetlaw25_DataSamples.f
 repeat' first
   | (with_reducible exact ih0 _ _ _ _ _ _ _ _ _)
   | (with_reducible exact data_Samples.mono _ _ _ _)
   | (with_reducible exact isohyetlaw25_decimals.mono _ _ _)
   | (with_reducible exact isohyetlaw25_lines.mono _ _)
   | (with_reducible exact LeO.refl _)
   | (with_reducible exact LeO.none _)
   | (with_reducible refine LeO.ite ?_ ?_)
   | (with_reducible refine LeO.bind ?_ (fun _ => ?_))
   | exact ih0 _ _ _ _ _ _ _ _ _
   | exact data_Samples.mono _ _ _ _
   | exact isohyetlaw25_decimals.mono _ _ _
   | exact isohyetlaw25_lines.mono _ _
   | exact LeO.none _
   | refine LeO.ite ?_ ?_
   | refine LeO.bind ?_ (fun _ => ?_)
set_option maxHeartbeats 8000000 in
set_option maxRecDepth 100000 in
theorem isohyetlaw25_DataSamples.calls (k : Nat) (a0 : ByteArray) (a1 : Int) (a2 : Int) (r : Bool) (w : World) (HT0 : MB.TabW w) (HTRUE : r = true) (h : isohyetlaw25_DataSamples.f k a0 a1 a2 = some r) :
  Calls Tryz.prog 3 #[.string a0, .int .i64 a1, .int .i64 a2] w fun e w' => e = .returned (.bool r) ∧ Below w.heap.size w w' := by
 have hu34 := Tryz.underlying34
 have HB := Aside0.mk (Below.refl w.heap.size w)
 have H : ((isohyetlaw25_fit.f).bind fun t357 => (if t357 = true then (if (a0.size : Int) > 1500 then (some true) else ((data_Samples.f k a0 a1 a2).bind fun bt358 => ((isohyetlaw25_lines.f k a0).bind fun t363 => (isohyetlaw25_DataSamples.l0 k a1 a2 bt358.1 bt358.2.1 bt358.2.2 0 t363 (t363.length : Int) 0)))) else (some false))) = some r := h
 clear h
 replace H := Option.bind_eq_some_iff.mp H
 obtain ⟨t357, A40, H⟩ := H
 replace H : (if t357 = true then (if (a0.size : Int) > 1500 then (some true) else ((data_Samples.f k a0 a1 a2).bind fun bt358 => ((isohyetlaw25_lines.f k a0).bind fun t363 => (isohyetlaw25_DataSamples.l0 k a1 a2 bt358.1 bt358.2.1 bt358.2.2 0 t363 (t363.length : Int) 0)))) else (some false)) = some r := H
 have A4 := Aside0.mk A40
 clear A40
 by_cases c5 : t357 = true
 ·subst c5
  have H1 : (if (a0.size : Int) > 1500 then (some true) else ((data_Samples.f k a0 a1 a2).bind fun bt358 => ((isohyetlaw25_lines.f k a0).bind fun t363 => (isohyetlaw25_DataSamples.l0 k a1 a2 bt358.1 bt358.2.1 bt358.2.2 0 t363 (t363.length : Int) 0)))) = some r := by rw [if_pos rfl] at H; exact H
  clear H
  have H := H1
  clear H1
  by_cases c6 : (a0.size : Int) > 1500
  ·rw [if_pos c6] at H
   have c6b0 : decide (1500 < (a0.size : Int)) = true := decide_eq_true c6
   have c6b1 : decide (1500 < a0.size) = true := decide_eq_true (by omega)
   clear c6
   obtain rfl := Option.some.inj H
   go_enter Tryz.func3, Tryz.ntmps3
   go_wp2_with (first | (go_at_call 8; (with_reducible refine (isohyetlaw25_fit.calls  true _ (MB.tab_below HT0 (gB HB.out)) rfl A4.out).mono ?_); (try clear A4); rintro e w7 ⟨rfl, hb⟩; have n0_ := Aside0.mk (below_step (gB HB.out) hb); clear HB; have HB := n0_; clear n0_; (try clear hb); (try clear hb2); (try clear hk); (try clear hi)))
   repeat (go_quiet (first | (go_at_call 8; (with_reducible refine (isohyetlaw25_fit.calls  true _ (MB.tab_below HT0 (gB HB.out)) rfl A4.out).mono ?_); (try clear A4); rintro e w7 ⟨rfl, hb⟩; have n0_ := Aside0.mk (below_step (gB HB.out) hb); clear HB; have HB := n0_; clear n0_; (try clear hb); (try clear hb2); (try clear hk); (try clear hi))); try go_wp2_with (first | (go_at_call 8; (with_reducible refine (isohyetlaw25_fit.calls  true _ (MB.tab_below HT0 (gB HB.out)) rfl A4.out).mono ?_); (try clear A4); rintro e w7 ⟨rfl, hb⟩; have n0_ := Aside0.mk (below_step (gB HB.out) hb); clear HB; have HB := n0_; clear n0_; (try clear hb); (try clear hb2); (try clear hk); (try clear hi))))
   go_ret
   exact ⟨by first | rfl | (simp [errW_none, errW_some] <;> rfl) | (simp [*, errW_none, errW_some] <;> rfl), by repeat (first | (with_reducible first | exact HB.out | apply bA | apply bN | apply bD) | exact HB.out)⟩
  ·rw [if_neg c6] at H
   have c6b0 : decide (1500 < (a0.size : Int)) = false := decide_eq_false c6
   have c6b1 : decide (1500 < a0.size) = false := decide_eq_false (by omega)
   clear c6
   replace H := Option.bind_eq_some_iff.mp H
   obtain ⟨⟨t358, t359, t360⟩, A80, H⟩ := H
   replace H : ((isohyetlaw25_lines.f k a0).bind fun t363 => (isohyetlaw25_DataSamples.l0 k a1 a2 t358 t359 t360 0 t363 (t363.length : Int) 0)) = some r := H
   have A8 := Aside0.mk A80
   clear A80
   replace H := Option.bind_eq_some_iff.mp H
   obtain ⟨t363, A90, H⟩ := H
   replace H : (isohyetlaw25_DataSamples.l0 k a1 a2 t358 t359 t360 0 t363 (t363.length : Int) 0) = some r := H
   have A9 := Aside0.mk A90
   clear A90
   have H' := Aside0.mk H
   clear H
   go_enter Tryz.func3, Tryz.ntmps3
   go_wp2_with (first | (go_at_call 8; (with_reducible refine (isohyetlaw25_fit.calls  true _ (MB.tab_below HT0 (gB HB.out)) rfl A4.out).mono ?_); (try clear A4); rintro e w10 ⟨rfl, hb⟩; have n0_ := Aside0.mk (below_step (gB HB.out) hb); clear HB; have HB := n0_; clear n0_; (try clear hb); (try clear hb2); (try clear hk); (try clear hi)) | (go_at_call 9; (with_reducible refine (data_Samples.calls k a0 a1 a2 t358 t359 t360 _ (MB.tab_below HT0 (gB HB.out)) A8.out).mono ?_); (try clear A8); rintro e w11 ⟨v361, rfl, ho0, hb⟩; have n0_ := Aside0.mk (Kd.R_lower ho0 (below_size (gB HB.out))); have n1_ := Aside0.mk (below_step (gB HB.out) hb); clear HB; have HO362 := n0_; have HB := n1_; clear n0_ n1_; (try clear hb); (try clear hb2); (try clear hk); (try clear hi); (try clear ho0)) | (go_at_call 10; (with_reducible refine (isohyetlaw25_lines.calls k a0 t363 _ A9.out).mono ?_); (try clear A9); rintro e w12 ⟨v364, rfl, ho0, hb⟩; have n0_ := Aside0.mk (Kd.R_below (gR HO362.out) hb); have n1_ := Aside0.mk (Kd.S_lower ho0 (below_size (gB HB.out))); have n2_ := Aside0.mk (below_step (gB HB.out) hb); clear HO362; clear HB; have HO362 := n0_; have HO365 := n1_; have HB := n2_; clear n0_ n1_ n2_; (try clear hb); (try clear hb2); (try clear hk); (try clear hi); (try clear ho0); obtain ⟨Ao13, co13, eo13⟩ := Kd.S_slice HO365.out; subst eo13))
   repeat (go_quiet (first | (go_at_call 8; (with_reducible refine (isohyetlaw25_fit.calls  true _ (MB.tab_below HT0 (gB HB.out)) rfl A4.out).mono ?_); (try clear A4); rintro e w10 ⟨rfl, hb⟩; have n0_ := Aside0.mk (below_step (gB HB.out) hb); clear HB; have HB := n0_; clear n0_; (try clear hb); (try clear hb2); (try clear hk); (try clear hi)) | (go_at_call 9; (with_reducible refine (data_Samples.calls k a0 a1 a2 t358 t359 t360 _ (MB.tab_below HT0 (gB HB.out)) A8.out).mono ?_); (try clear A8); rintro e w11 ⟨v361, rfl, ho0, hb⟩; have n0_ := Aside0.mk (Kd.R_lower ho0 (below_size (gB HB.out))); have n1_ := Aside0.mk (below_step (gB HB.out) hb); clear HB; have HO362 := n0_; have HB := n1_; clear n0_ n1_; (try clear hb); (try clear hb2); (try clear hk); (try clear hi); (try clear ho0)) | (go_at_call 10; (with_reducible refine (isohyetlaw25_lines.calls k a0 t363 _ A9.out).mono ?_); (try clear A9); rintro e w12 ⟨v364, rfl, ho0, hb⟩; have n0_ := Aside0.mk (Kd.R_below (gR HO362.out) hb); have n1_ := Aside0.mk (Kd.S_lower ho0 (below_size (gB HB.out))); have n2_ := Aside0.mk (below_step (gB HB.out) hb); clear HO362; clear HB; have HO362 := n0_; have HO365 := n1_; have HB := n2_; clear n0_ n1_ n2_; (try clear hb); (try clear hb2); (try clear hk); (try clear hi); (try clear ho0); obtain ⟨Ao13, co13, eo13⟩ := Kd.S_slice HO365.out; subst eo13)); try go_wp2_with (first | (go_at_call 8; (with_reducible refine (isohyetlaw25_fit.calls  true _ (MB.tab_below HT0 (gB HB.out)) rfl A4.out).mono ?_); (try clear A4); rintro e w10 ⟨rfl, hb⟩; have n0_ := Aside0.mk (below_step (gB HB.out) hb); clear HB; have HB := n0_; clear n0_; (try clear hb); (try clear hb2); (try clear hk); (try clear hi)) | (go_at_call 9; (with_reducible refine (data_Samples.calls k a0 a1 a2 t358 t359 t360 _ (MB.tab_below HT0 (gB HB.out)) A8.out).mono ?_); (try clear A8); rintro e w11 ⟨v361, rfl, ho0, hb⟩; have n0_ := Aside0.mk (Kd.R_lower ho0 (below_size (gB HB.out))); have n1_ := Aside0.mk (below_step (gB HB.out) hb); clear HB; have HO362 := n0_; have HB := n1_; clear n0_ n1_; (try clear hb); (try clear hb2); (try clear hk); (try clear hi); (try clear ho0)) | (go_at_call 10; (with_reducible refine (isohyetlaw25_lines.calls k a0 t363 _ A9.out).mono ?_); (try clear A9); rintro e w12 ⟨v364, rfl, ho0, hb⟩; have n0_ := Aside0.mk (Kd.R_below (gR HO362.out) hb); have n1_ := Aside0.mk (Kd.S_lower ho0 (below_size (gB HB.out))); have n2_ := Aside0.mk (below_step (gB HB.out) hb); clear HO362; clear HB; have HO362 := n0_; have HO365 := n1_; have HB := n2_; clear n0_ n1_ n2_; (try clear hb); (try clear hb2); (try clear hk); (try clear hi); (try clear ho0); obtain ⟨Ao13, co13, eo13⟩ := Kd.S_slice HO365.out; subst eo13)))
   go_loopg [10, 31] k (fun kq v10 v31 w' => ∃ (x10_1 : Int) (x31_1 : Int), v10 = .int .i64 x10_1 ∧ v31 = .int .i64 x31_1 ∧ Aside0 (isohyetlaw25_DataSamples.l0 kq a1 a2 t358 t359 t360 x10_1 t363 (t363.length : Int) x31_1 = some r) ∧ Aside0 (kq ≤ k) ∧ Aside0 (Kd.R k34 34 w' w.heap.size (fun _ => True) v361 t358) ∧ Aside0 (Kd.S (Kd.slice 9 Kd.string) 29 w' w.heap.size (fun _ => True) (.slice Ao13 t363.length co13) t363) ∧ Aside0 (Below w.heap.size w w'))
   case atStart => exact ⟨(0), (0), (by first | rfl | (simp; done) | (simp [*]; done)), (by first | rfl | (simp; done) | (simp [*]; done)), H', ⟨Nat.le_refl _⟩, ⟨by (with_reducible repeat (first | apply Kd.R_alloc | apply Kd.R_drewN | apply Kd.R_drew)); exact HO362.out⟩, ⟨by (with_reducible repeat (first | apply Kd.S_alloc | apply Kd.S_drewN | apply Kd.S_drew)); exact HO365.out⟩, ⟨by repeat (first | (with_reducible first | exact HB.out | apply bA | apply bN | apply bD) | exact HB.out)⟩⟩
   case round =>
    clear H'
    try clear p2
    try clear c3
    try clear c5
    try clear c6
    try clear c6b0
    try clear c6b1
    obtain ⟨x10_1, x31_1, rfl, rfl, HA, HK1, HO_7, HO_29, HB⟩ := hrel
    cases gk with
    | zero => exact absurd HA.out (by simp [isohyetlaw25_DataSamples.l0])
    | succ k1 =>
     have H := HA.out
     clear HA
     simp only [isohyetlaw25_DataSamples.l0] at H
     by_cases c14 : x31_1 < (t363.length : Int)
     ·rw [if_pos c14] at H
      have c14b0 : decide (x31_1 < (t363.length : Int)) = true := decide_eq_true c14
      clear c14
      by_cases c15 : 0 ≤ x31_1
      ·rw [if_pos c15] at H
       have c15b0 : decide (0 ≤ x31_1) = true := decide_eq_true c15
       clear c15
       by_cases c16 : x31_1 < (t363.length : Int)
       ·rw [if_pos c16] at H
        have c16b0 : decide (x31_1 < (t363.length : Int)) = true := decide_eq_true c16
        clear c16
        by_cases c17 : ((rd_L4 t363 x31_1).length : Int) = 0
        ·rw [if_pos c17] at H
         have c17b0 : (((rd_L4 t363 x31_1).length : Int) == 0) = true := beq_iff_eq.mpr c17
         have c17b1 : (((rd_L4 t363 x31_1).length : Int) != 0) = false := bne_eq_false_iff_eq.mpr c17
         clear c17
         have H' := Aside0.mk H
         clear H
         have p366 : 0 ≤ (x31_1 : Int) := of_decide_eq_true (by first | (with_reducible assumption) | assumption)
         have q366 : x31_1 < (t363.length : Int) := of_decide_eq_true (by first | (with_reducible assumption) | assumption)
         obtain ⟨ad366, A366_0, c366_0, e366, hx366_0, hl366_0, hi366_0⟩ := at_L4 (Kd.S_reads' HO_29.out).2.2 x31_1 p366 q366
         cases e366
         obtain ⟨ce366, hce366, hMe366, hcc366⟩ := Kd.S_get HO_29.out [] x31_1 p366 (by first | exact q366 | exact of_decide_eq_true (by first | (with_reducible assumption) | assumption) | (have e_ := (Kd.S_reads' HO_29.out).1; omega))
         obtain ⟨ve366_0, rfl, ge366_0⟩ := hMe366
         have hv366_0 := hcc366 0 _ rfl
         rw [Nat.add_zero, show ((Kd.slice 9 Kd.string)).sz = 1 from rfl, Nat.mul_one] at hv366_0
         replace hv366_0 := Option.some.inj (hv366_0.symm.trans hx366_0)
         rw [hv366_0] at ge366_0
         have HL366_0 := Aside0.mk (show Kd.R Kd.string 9 _ _ _ _ (rd_L4 t363 x31_1) from ge366_0)
         clear hv366_0 ge366_0
         clear hcc366 hce366
         have HR366_0 := Aside0.mk hi366_0
         have HC366_0 := Aside0.mk hl366_0
         clear hi366_0 hl366_0
         replace p366 := eq_true p366
         replace q366 := eq_true q366
         go_wp2
         repeat (go_quiet (fail); try go_wp2)
         go_roundg k1
         case measure => have := HK1.out; omega
         case rel => exact ⟨(x10_1), (wrap64 (x31_1 + 1)), (by first | rfl | (simp; done) | (simp [*]; done)), (by first | rfl | (simp; done) | (simp [*]; done)), H', ⟨by have := HK1.out; omega⟩, ⟨by (with_reducible repeat (first | apply Kd.R_alloc | apply Kd.R_drewN | apply Kd.R_drew)); exact HO_7.out⟩, ⟨by (with_reducible repeat (first | apply Kd.S_alloc | apply Kd.S_drewN | apply Kd.S_drew)); exact HO_29.out⟩, ⟨by repeat (first | (with_reducible first | exact HB.out | apply bA | apply bN | apply bD) | exact HB.out)⟩⟩
        ·rw [if_neg c17] at H
         have c17b0 : (((rd_L4 t363 x31_1).length : Int) == 0) = false := beq_eq_false_iff_ne.mpr c17
         have c17b1 : (((rd_L4 t363 x31_1).length : Int) != 0) = true := bne_iff_ne.mpr c17
         have c17b2 : ¬ ((rd_L4 t363 x31_1) = []) := fun h_ => c17 (by rw [h_]; rfl)
         obtain ⟨y367, hy367⟩ : ∃ y_ : List Int, y_ = (([a1, a1, a2] : List Int)) := ⟨_, rfl⟩
         replace H : ((isohyetlaw25_decimals.f k1 (rd_L4 t363 x31_1) y367).bind fun bt370 => (if bt370.2 = 0 then (if t360 = 0 then (if x10_1 ≥ (t358.length : Int) then (some false) else (if 0 ≤ x10_1 then (if x10_1 < (t358.length : Int) then (if 0 < (bt370.1.length : Int) then (if 1 < (bt370.1.length : Int) then (if 2 < (bt370.1.length : Int) then (if (!(((rd_T34 t358 x10_1).f0) == (rd bt370.1 0)) || (!(((rd_T34 t358 x10_1).f1) == (rd bt370.1 1)) || (!(((rd_T34 t358 x10_1).f2) == (rd bt370.1 2))))) = true then (some false) else (isohyetlaw25_DataSamples.l0 k1 a1 a2 t358 t359 t360 (wrap64 (x10_1 + 1)) t363 (t363.length : Int) (wrap64 (x31_1 + 1)))) else (none)) else (none)) else (none)) else (none)) else (none))) else (isohyetlaw25_DataSamples.l0 k1 a1 a2 t358 t359 t360 (wrap64 (x10_1 + 1)) t363 (t363.length : Int) (wrap64 (x31_1 + 1)))) else (if t360 = bt370.2 then (if t359 = (wrap64 (x31_1 + 1)) then (some ((t358.length : Int) == 0)) else (some false)) else (some false)))) = some r := by first | (rw [hy367]; with_reducible exact H) | (have H2_ := (Option.bind_some _ _).symm.trans H; rw [hy367]; with_reducible exact H2_) | (have H2_ := (Option.bind_some _ _).symm.trans H; with_reducible exact H2_) | with_reducible exact H | (rw [hy367]; exact H) | exact H
         have Ny367 := Aside0.mk hy367
         clear hy367
         replace H := Option.bind_eq_some_iff.mp H
         obtain ⟨⟨t370, t371⟩, A180, H⟩ := H
         replace H : (if t371 = 0 then (if t360 = 0 then (if x10_1 ≥ (t358.length : Int) then (some false) else (if 0 ≤ x10_1 then (if x10_1 < (t358.length : Int) then (if 0 < (t370.length : Int) then (if 1 < (t370.length : Int) then (if 2 < (t370.length : Int) then (if (!(((rd_T34 t358 x10_1).f0) == (rd t370 0)) || (!(((rd_T34 t358 x10_1).f1) == (rd t370 1)) || (!(((rd_T34 t358 x10_1).f2) == (rd t370 2))))) = true then (some false) else (isohyetlaw25_DataSamples.l0 k1 a1 a2 t358 t359 t360 (wrap64 (x10_1 + 1)) t363 (t363.length : Int) (wrap64 (x31_1 + 1)))) else (none)) else (none)) else (none)) else (none)) else (none))) else (isohyetlaw25_DataSamples.l0 k1 a1 a2 t358 t359 t360 (wrap64 (x10_1 + 1)) t363 (t363.length : Int) (wrap64 (x31_1 + 1)))) else (if t360 = t371 then (if t359 = (wrap64 (x31_1 + 1)) then (some ((t358.length : Int) == 0)) else (some false)) else (some false))) = some r := H
         have A18 := Aside0.mk A180
         clear A180
         by_cases c19 : t371 = 0
         ·rw [if_pos c19] at H
          have c19b0 : (t371 == 0) = true := beq_iff_eq.mpr c19
          have c19b1 : (t371 != 0) = false := bne_eq_false_iff_eq.mpr c19
          clear c19
          by_cases c20 : t360 = 0
          ·rw [if_pos c20] at H
           have c20b0 : (t360 == 0) = true := beq_iff_eq.mpr c20
           have c20b1 : (t360 != 0) = false := bne_eq_false_iff_eq.mpr c20
           clear c20
           by_cases c21 : x10_1 ≥ (t358.length : Int)
           ·rw [if_pos c21] at H
            have c21b0 : decide ((t358.length : Int) ≤ x10_1) = true := decide_eq_true c21
            clear c21
            exact absurd ((Option.some.inj H).trans HTRUE) (by decide)
           ·rw [if_neg c21] at H
            have c21b0 : decide ((t358.length : Int) ≤ x10_1) = false := decide_eq_false c21
            clear c21
            by_cases c22 : 0 ≤ x10_1
            ·rw [if_pos c22] at H
             have c22b0 : decide (0 ≤ x10_1) = true := decide_eq_true c22
             clear c22
             by_cases c23 : x10_1 < (t358.length : Int)
             ·rw [if_pos c23] at H
              have c23b0 : decide (x10_1 < (t358.length : Int)) = true := decide_eq_true c23
              clear c23
              by_cases c24 : 0 < (t370.length : Int)
              ·rw [if_pos c24] at H
               have c24b0 : decide (0 < (t370.length : Int)) = true := decide_eq_true c24
               have c24b1 : decide (0 < t370.length) = true := decide_eq_true (by omega)
               clear c24
               by_cases c25 : 1 < (t370.length : Int)
               ·rw [if_pos c25] at H
                have c25b0 : decide (1 < (t370.length : Int)) = true := decide_eq_true c25
                have c25b1 : decide (1 < t370.length) = true := decide_eq_true (by omega)
                clear c25
                by_cases c26 : 2 < (t370.length : Int)
                ·rw [if_pos c26] at H
                 have c26b0 : decide (2 < (t370.length : Int)) = true := decide_eq_true c26
                 have c26b1 : decide (2 < t370.length) = true := decide_eq_true (by omega)
                 clear c26
                 by_cases c27 : (!(((rd_T34 t358 x10_1).f0) == (rd t370 0)) || (!(((rd_T34 t358 x10_1).f1) == (rd t370 1)) || (!(((rd_T34 t358 x10_1).f2) == (rd t370 2))))) = true
                 ·rw [if_pos c27] at H
                  have c27b0 : (!(((rd_T34 t358 x10_1).f0) == (rd t370 0)) || (!(((rd_T34 t358 x10_1).f1) == (rd t370 1)) || (!(((rd_T34 t358 x10_1).f2) == (rd t370 2))))) = true := c27
                  clear c27
                  exact absurd ((Option.some.inj H).trans HTRUE) (by decide)
                 ·rw [if_neg c27] at H
                  have c27b0 : (!(((rd_T34 t358 x10_1).f0) == (rd t370 0)) || (!(((rd_T34 t358 x10_1).f1) == (rd t370 1)) || (!(((rd_T34 t358 x10_1).f2) == (rd t370 2))))) = false := by simpa using c27
                  clear c27
                  have H' := Aside0.mk H
                  clear H
                  have p366 : 0 ≤ (x31_1 : Int) := of_decide_eq_true (by first | (with_reducible assumption) | assumption)
                  have q366 : x31_1 < (t363.length : Int) := of_decide_eq_true (by first | (with_reducible assumption) | assumption)
                  obtain ⟨ad366, A366_0, c366_0, e366, hx366_0, hl366_0, hi366_0⟩ := at_L4 (Kd.S_reads' HO_29.out).2.2 x31_1 p366 q366
                  cases e366
                  obtain ⟨ce366, hce366, hMe366, hcc366⟩ := Kd.S_get HO_29.out [] x31_1 p366 (by first | exact q366 | exact of_decide_eq_true (by first | (with_reducible assumption) | assumption) | (have e_ := (Kd.S_reads' HO_29.out).1; omega))
                  obtain ⟨ve366_0, rfl, ge366_0⟩ := hMe366
                  have hv366_0 := hcc366 0 _ rfl
                  rw [Nat.add_zero, show ((Kd.slice 9 Kd.string)).sz = 1 from rfl, Nat.mul_one] at hv366_0
                  replace hv366_0 := Option.some.inj (hv366_0.symm.trans hx366_0)
                  rw [hv366_0] at ge366_0
                  have HL366_0 := Aside0.mk (show Kd.R Kd.string 9 _ _ _ _ (rd_L4 t363 x31_1) from ge366_0)
                  clear hv366_0 ge366_0
                  clear hcc366 hce366
                  have HR366_0 := Aside0.mk hi366_0
                  have HC366_0 := Aside0.mk hl366_0
                  clear hi366_0 hl366_0
                  replace p366 := eq_true p366
                  replace q366 := eq_true q366
                  go_wp2_with (first | ((with_reducible refine gate_dst (N := 44) rfl ?_); (try (refine gate_guard (by rfl) ?_; dsimp only)); refine Kd.R_lit (Kd.int .i64) _ 3 ?hg (N := 44) ?hd (xs := ([a1, a1, a2] : List Int)) (inner := [.int .i64 a1, .int .i64 a1, .int .i64 a2]) (ok := fun _ => True) (okp := fun _ => True) ?hr ?hp (fun _ hk => hk) trivial (Below.refl _ _) (Nat.le_refl _) (by simp) ?_; (case hd => rfl); (case hg => rfl); (case hr => first | (go_simp; done) | (go_simp; rfl)); (case hp => exact (Reps.one (show Kd.M (Kd.int .i64) _ _ _ a1 [.int .i64 a1] from rfl) (Reps.one (show Kd.M (Kd.int .i64) _ _ _ a1 [.int .i64 a1] from rfl) (Reps.one (show Kd.M (Kd.int .i64) _ _ _ a2 [.int .i64 a2] from rfl) (Reps.none _ _))))); intro v368 w28 ho29 hb hg_ hnew_; clear hg_ hnew_; (first | rw [← Ny367.out] at ho29 | (simp only [Int.reduceToNat] at ho29; rw [← Ny367.out] at ho29)); have n0_ := Aside0.mk (Kd.R_below (gR HO_7.out) hb); have n1_ := Aside0.mk (Kd.S_below (by (with_reducible repeat (first | apply Kd.S_alloc | apply Kd.S_drewN | apply Kd.S_drew)); exact HO_29.out) hb); have n2_ := Aside0.mk (Kd.R_below (gR HL366_0.out) hb); have n3_ := Aside0.mk (Kd.R_lower ho29 (below_size (gB HB.out))); have n4_ := Aside0.mk (Kd.C_below (by repeat (first | (with_reducible exact HR366_0.out) | (with_reducible refine Kd.C_alloc ?_ _) | (with_reducible refine Kd.C_drewN ?_ _) | (with_reducible refine Kd.C_drew ?_) | exact HR366_0.out)) hb); have n5_ := Aside0.mk (below_step (gB HB.out) hb); clear HO_7; clear HO_29; clear HL366_0; clear HR366_0; clear HB; have HO_7 := n0_; have HO_29 := n1_; have HL366_0 := n2_; have HO369 := n3_; have HR366_0 := n4_; have HB := n5_; clear n0_ n1_ n2_ n3_ n4_ n5_; clear hb ho29; obtain ⟨Ao30, co30, eo30⟩ := Kd.R_slice HO369.out; subst eo30) | (go_at_call 11; (with_reducible refine (isohyetlaw25_decimals.calls k1 _ _ (rd_L4 t363 x31_1) _ _ y367 t370 t371 _ ?side1 ?side2 ?side3 ?side4 (MB.tab_below HT0 (gB HB.out)) A18.out).mono ?_); (case side1 => repeat (first | exact (by repeat (first | (with_reducible exact HR366_0.out) | (with_reducible refine Kd.C_alloc ?_ _) | (with_reducible refine Kd.C_drewN ?_ _) | (with_reducible refine Kd.C_drew ?_) | exact HR366_0.out)) | (with_reducible refine Kd.C_alloc ?_ _) | (with_reducible refine Kd.C_drewN ?_ _) | (with_reducible refine Kd.C_drew ?_))); (case side2 => exact HC366_0.out); (case side3 => repeat (first | exact (Kd.R_reads' HO369.out).2.2 | (with_reducible refine Kd.C_alloc ?_ _) | (with_reducible refine Kd.C_drewN ?_ _) | (with_reducible refine Kd.C_drew ?_))); (case side4 => exact (Kd.R_reads' HO369.out).2.1); (try clear A18); rintro e w31 ⟨v372, rfl, ho0, hb⟩; have n0_ := Aside0.mk (Kd.R_below (gR HO_7.out) hb); have n1_ := Aside0.mk (Kd.S_below (by (with_reducible repeat (first | apply Kd.S_alloc | apply Kd.S_drewN | apply Kd.S_drew)); exact HO_29.out) hb); have n2_ := Aside0.mk (Kd.R_below (gR HL366_0.out) hb); have n3_ := Aside0.mk (Kd.R_elder' (gR HO369.out) (Kd.R_base ho0) hb); have n4_ := Aside0.mk (Kd.R_lower (Kd.R_new' ho0 (Kd.R_lt (gR HO369.out))) (below_size (gB HB.out))); have n5_ := Aside0.mk (Kd.C_below (by repeat (first | (with_reducible exact HR366_0.out) | (with_reducible refine Kd.C_alloc ?_ _) | (with_reducible refine Kd.C_drewN ?_ _) | (with_reducible refine Kd.C_drew ?_) | exact HR366_0.out)) hb); have n6_ := Aside0.mk (below_step (gB HB.out) hb); clear HO_7; clear HO_29; clear HL366_0; clear HO369; clear HR366_0; clear HB; have HO_7 := n0_; have HO_29 := n1_; have HL366_0 := n2_; have HO369 := n3_; have HO373 := n4_; have HR366_0 := n5_; have HB := n6_; clear n0_ n1_ n2_ n3_ n4_ n5_ n6_; (try clear hb); (try clear hb2); (try clear hk); (try clear hi); (try clear ho0); obtain ⟨Ao32, co32, eo32⟩ := Kd.R_slice HO_7.out; subst eo32; have p374 : 0 ≤ (x10_1 : Int) := of_decide_eq_true (by first | (with_reducible assumption) | assumption); have q374 : x10_1 < (t358.length : Int) := of_decide_eq_true (by first | (with_reducible assumption) | assumption); obtain ⟨ad374, e374, hx374_0, hx374_1, hx374_2⟩ := at_T34 (Kd.R_reads' HO_7.out).2.2 x10_1 p374 q374; cases e374; replace p374 := eq_true p374; replace q374 := eq_true q374; obtain ⟨Ao33, co33, eo33⟩ := Kd.R_slice HO373.out; subst eo33; have p375 : 0 ≤ (0 : Int) := (by omega); have q375 : 0 < (t370.length : Int) := of_decide_eq_true (by first | (with_reducible assumption) | assumption); obtain ⟨ad375, e375, hx375_0⟩ := Kd.at_int (Kd.R_reads' HO373.out).2.2 0 p375 q375; cases e375; have qi375 : (0 < t370.length) = True := eq_true (by omega); (try rw [show ((0 : Int)).toNat = 0 from rfl] at hx375_0); (try rw [Addr.add_zero'] at hx375_0); replace p375 := eq_true p375; replace q375 := eq_true q375; have p376 : 0 ≤ (1 : Int) := (by omega); have q376 : 1 < (t370.length : Int) := of_decide_eq_true (by first | (with_reducible assumption) | assumption); obtain ⟨ad376, e376, hx376_0⟩ := Kd.at_int (Kd.R_reads' HO373.out).2.2 1 p376 q376; obtain rfl : ad375 = ad376 := (by injection e376); (try simp only [show (1 : Int).toNat = 1 from rfl, Nat.reduceMul, Nat.reduceEqDiff, Go.Addr.add, ↓reduceIte] at hx376_0); have qi376 : (1 < t370.length) = True := eq_true (by omega); (try rw [show ((1 : Int)).toNat = 1 from rfl] at hx376_0); replace p376 := eq_true p376; replace q376 := eq_true q376; have p377 : 0 ≤ (2 : Int) := (by omega); have q377 : 2 < (t370.length : Int) := of_decide_eq_true (by first | (with_reducible assumption) | assumption); obtain ⟨ad377, e377, hx377_0⟩ := Kd.at_int (Kd.R_reads' HO373.out).2.2 2 p377 q377; obtain rfl : ad375 = ad377 := (by injection e377); (try simp only [show (2 : Int).toNat = 2 from rfl, Nat.reduceMul, Nat.reduceEqDiff, Go.Addr.add, ↓reduceIte] at hx377_0); have qi377 : (2 < t370.length) = True := eq_true (by omega); (try rw [show ((2 : Int)).toNat = 2 from rfl] at hx377_0); replace p377 := eq_true p377; replace q377 := eq_true q377))
                  repeat (go_quiet (first | ((with_reducible refine gate_dst (N := 44) rfl ?_); (try (refine gate_guard (by rfl) ?_; dsimp only)); refine Kd.R_lit (Kd.int .i64) _ 3 ?hg (N := 44) ?hd (xs := ([a1, a1, a2] : List Int)) (inner := [.int .i64 a1, .int .i64 a1, .int .i64 a2]) (ok := fun _ => True) (okp := fun _ => True) ?hr ?hp (fun _ hk => hk) trivial (Below.refl _ _) (Nat.le_refl _) (by simp) ?_; (case hd => rfl); (case hg => rfl); (case hr => first | (go_simp; done) | (go_simp; rfl)); (case hp => exact (Reps.one (show Kd.M (Kd.int .i64) _ _ _ a1 [.int .i64 a1] from rfl) (Reps.one (show Kd.M (Kd.int .i64) _ _ _ a1 [.int .i64 a1] from rfl) (Reps.one (show Kd.M (Kd.int .i64) _ _ _ a2 [.int .i64 a2] from rfl) (Reps.none _ _))))); intro v368 w28 ho29 hb hg_ hnew_; clear hg_ hnew_; (first | rw [← Ny367.out] at ho29 | (simp only [Int.reduceToNat] at ho29; rw [← Ny367.out] at ho29)); have n0_ := Aside0.mk (Kd.R_below (gR HO_7.out) hb); have n1_ := Aside0.mk (Kd.S_below (by (with_reducible repeat (first | apply Kd.S_alloc | apply Kd.S_drewN | apply Kd.S_drew)); exact HO_29.out) hb); have n2_ := Aside0.mk (Kd.R_below (gR HL366_0.out) hb); have n3_ := Aside0.mk (Kd.R_lower ho29 (below_size (gB HB.out))); have n4_ := Aside0.mk (Kd.C_below (by repeat (first | (with_reducible exact HR366_0.out) | (with_reducible refine Kd.C_alloc ?_ _) | (with_reducible refine Kd.C_drewN ?_ _) | (with_reducible refine Kd.C_drew ?_) | exact HR366_0.out)) hb); have n5_ := Aside0.mk (below_step (gB HB.out) hb); clear HO_7; clear HO_29; clear HL366_0; clear HR366_0; clear HB; have HO_7 := n0_; have HO_29 := n1_; have HL366_0 := n2_; have HO369 := n3_; have HR366_0 := n4_; have HB := n5_; clear n0_ n1_ n2_ n3_ n4_ n5_; clear hb ho29; obtain ⟨Ao30, co30, eo30⟩ := Kd.R_slice HO369.out; subst eo30) | (go_at_call 11; (with_reducible refine (isohyetlaw25_decimals.calls k1 _ _ (rd_L4 t363 x31_1) _ _ y367 t370 t371 _ ?side1 ?side2 ?side3 ?side4 (MB.tab_below HT0 (gB HB.out)) A18.out).mono ?_); (case side1 => repeat (first | exact (by repeat (first | (with_reducible exact HR366_0.out) | (with_reducible refine Kd.C_alloc ?_ _) | (with_reducible refine Kd.C_drewN ?_ _) | (with_reducible refine Kd.C_drew ?_) | exact HR366_0.out)) | (with_reducible refine Kd.C_alloc ?_ _) | (with_reducible refine Kd.C_drewN ?_ _) | (with_reducible refine Kd.C_drew ?_))); (case side2 => exact HC366_0.out); (case side3 => repeat (first | exact (Kd.R_reads' HO369.out).2.2 | (with_reducible refine Kd.C_alloc ?_ _) | (with_reducible refine Kd.C_drewN ?_ _) | (with_reducible refine Kd.C_drew ?_))); (case side4 => exact (Kd.R_reads' HO369.out).2.1); (try clear A18); rintro e w31 ⟨v372, rfl, ho0, hb⟩; have n0_ := Aside0.mk (Kd.R_below (gR HO_7.out) hb); have n1_ := Aside0.mk (Kd.S_below (by (with_reducible repeat (first | apply Kd.S_alloc | apply Kd.S_drewN | apply Kd.S_drew)); exact HO_29.out) hb); have n2_ := Aside0.mk (Kd.R_below (gR HL366_0.out) hb); have n3_ := Aside0.mk (Kd.R_elder' (gR HO369.out) (Kd.R_base ho0) hb); have n4_ := Aside0.mk (Kd.R_lower (Kd.R_new' ho0 (Kd.R_lt (gR HO369.out))) (below_size (gB HB.out))); have n5_ := Aside0.mk (Kd.C_below (by repeat (first | (with_reducible exact HR366_0.out) | (with_reducible refine Kd.C_alloc ?_ _) | (with_reducible refine Kd.C_drewN ?_ _) | (with_reducible refine Kd.C_drew ?_) | exact HR366_0.out)) hb); have n6_ := Aside0.mk (below_step (gB HB.out) hb); clear HO_7; clear HO_29; clear HL366_0; clear HO369; clear HR366_0; clear HB; have HO_7 := n0_; have HO_29 := n1_; have HL366_0 := n2_; have HO369 := n3_; have HO373 := n4_; have HR366_0 := n5_; have HB := n6_; clear n0_ n1_ n2_ n3_ n4_ n5_ n6_; (try clear hb); (try clear hb2); (try clear hk); (try clear hi); (try clear ho0); obtain ⟨Ao32, co32, eo32⟩ := Kd.R_slice HO_7.out; subst eo32; have p374 : 0 ≤ (x10_1 : Int) := of_decide_eq_true (by first | (with_reducible assumption) | assumption); have q374 : x10_1 < (t358.length : Int) := of_decide_eq_true (by first | (with_reducible assumption) | assumption); obtain ⟨ad374, e374, hx374_0, hx374_1, hx374_2⟩ := at_T34 (Kd.R_reads' HO_7.out).2.2 x10_1 p374 q374; cases e374; replace p374 := eq_true p374; replace q374 := eq_true q374; obtain ⟨Ao33, co33, eo33⟩ := Kd.R_slice HO373.out; subst eo33; have p375 : 0 ≤ (0 : Int) := (by omega); have q375 : 0 < (t370.length : Int) := of_decide_eq_true (by first | (with_reducible assumption) | assumption); obtain ⟨ad375, e375, hx375_0⟩ := Kd.at_int (Kd.R_reads' HO373.out).2.2 0 p375 q375; cases e375; have qi375 : (0 < t370.length) = True := eq_true (by omega); (try rw [show ((0 : Int)).toNat = 0 from rfl] at hx375_0); (try rw [Addr.add_zero'] at hx375_0); replace p375 := eq_true p375; replace q375 := eq_true q375; have p376 : 0 ≤ (1 : Int) := (by omega); have q376 : 1 < (t370.length : Int) := of_decide_eq_true (by first | (with_reducible assumption) | assumption); obtain ⟨ad376, e376, hx376_0⟩ := Kd.at_int (Kd.R_reads' HO373.out).2.2 1 p376 q376; obtain rfl : ad375 = ad376 := (by injection e376); (try simp only [show (1 : Int).toNat = 1 from rfl, Nat.reduceMul, Nat.reduceEqDiff, Go.Addr.add, ↓reduceIte] at hx376_0); have qi376 : (1 < t370.length) = True := eq_true (by omega); (try rw [show ((1 : Int)).toNat = 1 from rfl] at hx376_0); replace p376 := eq_true p376; replace q376 := eq_true q376; have p377 : 0 ≤ (2 : Int) := (by omega); have q377 : 2 < (t370.length : Int) := of_decide_eq_true (by first | (with_reducible assumption) | assumption); obtain ⟨ad377, e377, hx377_0⟩ := Kd.at_int (Kd.R_reads' HO373.out).2.2 2 p377 q377; obtain rfl : ad375 = ad377 := (by injection e377); (try simp only [show (2 : Int).toNat = 2 from rfl, Nat.reduceMul, Nat.reduceEqDiff, Go.Addr.add, ↓reduceIte] at hx377_0); have qi377 : (2 < t370.length) = True := eq_true (by omega); (try rw [show ((2 : Int)).toNat = 2 from rfl] at hx377_0); replace p377 := eq_true p377; replace q377 := eq_true q377)); try go_wp2_with (first | ((with_reducible refine gate_dst (N := 44) rfl ?_); (try (refine gate_guard (by rfl) ?_; dsimp only)); refine Kd.R_lit (Kd.int .i64) _ 3 ?hg (N := 44) ?hd (xs := ([a1, a1, a2] : List Int)) (inner := [.int .i64 a1, .int .i64 a1, .int .i64 a2]) (ok := fun _ => True) (okp := fun _ => True) ?hr ?hp (fun _ hk => hk) trivial (Below.refl _ _) (Nat.le_refl _) (by simp) ?_; (case hd => rfl); (case hg => rfl); (case hr => first | (go_simp; done) | (go_simp; rfl)); (case hp => exact (Reps.one (show Kd.M (Kd.int .i64) _ _ _ a1 [.int .i64 a1] from rfl) (Reps.one (show Kd.M (Kd.int .i64) _ _ _ a1 [.int .i64 a1] from rfl) (Reps.one (show Kd.M (Kd.int .i64) _ _ _ a2 [.int .i64 a2] from rfl) (Reps.none _ _))))); intro v368 w28 ho29 hb hg_ hnew_; clear hg_ hnew_; (first | rw [← Ny367.out] at ho29 | (simp only [Int.reduceToNat] at ho29; rw [← Ny367.out] at ho29)); have n0_ := Aside0.mk (Kd.R_below (gR HO_7.out) hb); have n1_ := Aside0.mk (Kd.S_below (by (with_reducible repeat (first | apply Kd.S_alloc | apply Kd.S_drewN | apply Kd.S_drew)); exact HO_29.out) hb); have n2_ := Aside0.mk (Kd.R_below (gR HL366_0.out) hb); have n3_ := Aside0.mk (Kd.R_lower ho29 (below_size (gB HB.out))); have n4_ := Aside0.mk (Kd.C_below (by repeat (first | (with_reducible exact HR366_0.out) | (with_reducible refine Kd.C_alloc ?_ _) | (with_reducible refine Kd.C_drewN ?_ _) | (with_reducible refine Kd.C_drew ?_) | exact HR366_0.out)) hb); have n5_ := Aside0.mk (below_step (gB HB.out) hb); clear HO_7; clear HO_29; clear HL366_0; clear HR366_0; clear HB; have HO_7 := n0_; have HO_29 := n1_; have HL366_0 := n2_; have HO369 := n3_; have HR366_0 := n4_; have HB := n5_; clear n0_ n1_ n2_ n3_ n4_ n5_; clear hb ho29; obtain ⟨Ao30, co30, eo30⟩ := Kd.R_slice HO369.out; subst eo30) | (go_at_call 11; (with_reducible refine (isohyetlaw25_decimals.calls k1 _ _ (rd_L4 t363 x31_1) _ _ y367 t370 t371 _ ?side1 ?side2 ?side3 ?side4 (MB.tab_below HT0 (gB HB.out)) A18.out).mono ?_); (case side1 => repeat (first | exact (by repeat (first | (with_reducible exact HR366_0.out) | (with_reducible refine Kd.C_alloc ?_ _) | (with_reducible refine Kd.C_drewN ?_ _) | (with_reducible refine Kd.C_drew ?_) | exact HR366_0.out)) | (with_reducible refine Kd.C_alloc ?_ _) | (with_reducible refine Kd.C_drewN ?_ _) | (with_reducible refine Kd.C_drew ?_))); (case side2 => exact HC366_0.out); (case side3 => repeat (first | exact (Kd.R_reads' HO369.out).2.2 | (with_reducible refine Kd.C_alloc ?_ _) | (with_reducible refine Kd.C_drewN ?_ _) | (with_reducible refine Kd.C_drew ?_))); (case side4 => exact (Kd.R_reads' HO369.out).2.1); (try clear A18); rintro e w31 ⟨v372, rfl, ho0, hb⟩; have n0_ := Aside0.mk (Kd.R_below (gR HO_7.out) hb); have n1_ := Aside0.mk (Kd.S_below (by (with_reducible repeat (first | apply Kd.S_alloc | apply Kd.S_drewN | apply Kd.S_drew)); exact HO_29.out) hb); have n2_ := Aside0.mk (Kd.R_below (gR HL366_0.out) hb); have n3_ := Aside0.mk (Kd.R_elder' (gR HO369.out) (Kd.R_base ho0) hb); have n4_ := Aside0.mk (Kd.R_lower (Kd.R_new' ho0 (Kd.R_lt (gR HO369.out))) (below_size (gB HB.out))); have n5_ := Aside0.mk (Kd.C_below (by repeat (first | (with_reducible exact HR366_0.out) | (with_reducible refine Kd.C_alloc ?_ _) | (with_reducible refine Kd.C_drewN ?_ _) | (with_reducible refine Kd.C_drew ?_) | exact HR366_0.out)) hb); have n6_ := Aside0.mk (below_step (gB HB.out) hb); clear HO_7; clear HO_29; clear HL366_0; clear HO369; clear HR366_0; clear HB; have HO_7 := n0_; have HO_29 := n1_; have HL366_0 := n2_; have HO369 := n3_; have HO373 := n4_; have HR366_0 := n5_; have HB := n6_; clear n0_ n1_ n2_ n3_ n4_ n5_ n6_; (try clear hb); (try clear hb2); (try clear hk); (try clear hi); (try clear ho0); obtain ⟨Ao32, co32, eo32⟩ := Kd.R_slice HO_7.out; subst eo32; have p374 : 0 ≤ (x10_1 : Int) := of_decide_eq_true (by first | (with_reducible assumption) | assumption); have q374 : x10_1 < (t358.length : Int) := of_decide_eq_true (by first | (with_reducible assumption) | assumption); obtain ⟨ad374, e374, hx374_0, hx374_1, hx374_2⟩ := at_T34 (Kd.R_reads' HO_7.out).2.2 x10_1 p374 q374; cases e374; replace p374 := eq_true p374; replace q374 := eq_true q374; obtain ⟨Ao33, co33, eo33⟩ := Kd.R_slice HO373.out; subst eo33; have p375 : 0 ≤ (0 : Int) := (by omega); have q375 : 0 < (t370.length : Int) := of_decide_eq_true (by first | (with_reducible assumption) | assumption); obtain ⟨ad375, e375, hx375_0⟩ := Kd.at_int (Kd.R_reads' HO373.out).2.2 0 p375 q375; cases e375; have qi375 : (0 < t370.length) = True := eq_true (by omega); (try rw [show ((0 : Int)).toNat = 0 from rfl] at hx375_0); (try rw [Addr.add_zero'] at hx375_0); replace p375 := eq_true p375; replace q375 := eq_true q375; have p376 : 0 ≤ (1 : Int) := (by omega); have q376 : 1 < (t370.length : Int) := of_decide_eq_true (by first | (with_reducible assumption) | assumption); obtain ⟨ad376, e376, hx376_0⟩ := Kd.at_int (Kd.R_reads' HO373.out).2.2 1 p376 q376; obtain rfl : ad375 = ad376 := (by injection e376); (try simp only [show (1 : Int).toNat = 1 from rfl, Nat.reduceMul, Nat.reduceEqDiff, Go.Addr.add, ↓reduceIte] at hx376_0); have qi376 : (1 < t370.length) = True := eq_true (by omega); (try rw [show ((1 : Int)).toNat = 1 from rfl] at hx376_0); replace p376 := eq_true p376; replace q376 := eq_true q376; have p377 : 0 ≤ (2 : Int) := (by omega); have q377 : 2 < (t370.length : Int) := of_decide_eq_true (by first | (with_reducible assumption) | assumption); obtain ⟨ad377, e377, hx377_0⟩ := Kd.at_int (Kd.R_reads' HO373.out).2.2 2 p377 q377; obtain rfl : ad375 = ad377 := (by injection e377); (try simp only [show (2 : Int).toNat = 2 from rfl, Nat.reduceMul, Nat.reduceEqDiff, Go.Addr.add, ↓reduceIte] at hx377_0); have qi377 : (2 < t370.length) = True := eq_true (by omega); (try rw [show ((2 : Int)).toNat = 2 from rfl] at hx377_0); replace p377 := eq_true p377; replace q377 := eq_true q377)))
                  go_roundg k1
                  case measure => have := HK1.out; omega
                  case rel => exact ⟨(wrap64 (x10_1 + 1)), (wrap64 (x31_1 + 1)), (by first | rfl | (simp; done) | (simp [*]; done)), (by first | rfl | (simp; done) | (simp [*]; done)), H', ⟨by have := HK1.out; omega⟩, ⟨by (with_reducible repeat (first | apply Kd.R_alloc | apply Kd.R_drewN | apply Kd.R_drew)); exact HO_7.out⟩, ⟨by (with_reducible repeat (first | apply Kd.S_alloc | apply Kd.S_drewN | apply Kd.S_drew)); exact HO_29.out⟩, ⟨by repeat (first | (with_reducible first | exact HB.out | apply bA | apply bN | apply bD) | exact HB.out)⟩⟩
                ·rw [if_neg c26] at H
                 exact absurd H (by simp)
               ·rw [if_neg c25] at H
                exact absurd H (by simp)
              ·rw [if_neg c24] at H
               exact absurd H (by simp)
             ·rw [if_neg c23] at H
              exact absurd H (by simp)
            ·rw [if_neg c22] at H
             exact absurd H (by simp)
          ·rw [if_neg c20] at H
           have c20b0 : (t360 == 0) = false := beq_eq_false_iff_ne.mpr c20
           have c20b1 : (t360 != 0) = true := bne_iff_ne.mpr c20
           have H' := Aside0.mk H
           clear H
           have p366 : 0 ≤ (x31_1 : Int) := of_decide_eq_true (by first | (with_reducible assumption) | assumption)
           have q366 : x31_1 < (t363.length : Int) := of_decide_eq_true (by first | (with_reducible assumption) | assumption)
           obtain ⟨ad366, A366_0, c366_0, e366, hx366_0, hl366_0, hi366_0⟩ := at_L4 (Kd.S_reads' HO_29.out).2.2 x31_1 p366 q366
           cases e366
           obtain ⟨ce366, hce366, hMe366, hcc366⟩ := Kd.S_get HO_29.out [] x31_1 p366 (by first | exact q366 | exact of_decide_eq_true (by first | (with_reducible assumption) | assumption) | (have e_ := (Kd.S_reads' HO_29.out).1; omega))
           obtain ⟨ve366_0, rfl, ge366_0⟩ := hMe366
           have hv366_0 := hcc366 0 _ rfl
           rw [Nat.add_zero, show ((Kd.slice 9 Kd.string)).sz = 1 from rfl, Nat.mul_one] at hv366_0
           replace hv366_0 := Option.some.inj (hv366_0.symm.trans hx366_0)
           rw [hv366_0] at ge366_0
           have HL366_0 := Aside0.mk (show Kd.R Kd.string 9 _ _ _ _ (rd_L4 t363 x31_1) from ge366_0)
           clear hv366_0 ge366_0
           clear hcc366 hce366
           have HR366_0 := Aside0.mk hi366_0
           have HC366_0 := Aside0.mk hl366_0
           clear hi366_0 hl366_0
           replace p366 := eq_true p366
           replace q366 := eq_true q366
           go_wp2_with (first | ((with_reducible refine gate_dst (N := 44) rfl ?_); (try (refine gate_guard (by rfl) ?_; dsimp only)); refine Kd.R_lit (Kd.int .i64) _ 3 ?hg (N := 44) ?hd (xs := ([a1, a1, a2] : List Int)) (inner := [.int .i64 a1, .int .i64 a1, .int .i64 a2]) (ok := fun _ => True) (okp := fun _ => True) ?hr ?hp (fun _ hk => hk) trivial (Below.refl _ _) (Nat.le_refl _) (by simp) ?_; (case hd => rfl); (case hg => rfl); (case hr => first | (go_simp; done) | (go_simp; rfl)); (case hp => exact (Reps.one (show Kd.M (Kd.int .i64) _ _ _ a1 [.int .i64 a1] from rfl) (Reps.one (show Kd.M (Kd.int .i64) _ _ _ a1 [.int .i64 a1] from rfl) (Reps.one (show Kd.M (Kd.int .i64) _ _ _ a2 [.int .i64 a2] from rfl) (Reps.none _ _))))); intro v368 w34 ho35 hb hg_ hnew_; clear hg_ hnew_; (first | rw [← Ny367.out] at ho35 | (simp only [Int.reduceToNat] at ho35; rw [← Ny367.out] at ho35)); have n0_ := Aside0.mk (Kd.R_below (gR HO_7.out) hb); have n1_ := Aside0.mk (Kd.S_below (by (with_reducible repeat (first | apply Kd.S_alloc | apply Kd.S_drewN | apply Kd.S_drew)); exact HO_29.out) hb); have n2_ := Aside0.mk (Kd.R_below (gR HL366_0.out) hb); have n3_ := Aside0.mk (Kd.R_lower ho35 (below_size (gB HB.out))); have n4_ := Aside0.mk (Kd.C_below (by repeat (first | (with_reducible exact HR366_0.out) | (with_reducible refine Kd.C_alloc ?_ _) | (with_reducible refine Kd.C_drewN ?_ _) | (with_reducible refine Kd.C_drew ?_) | exact HR366_0.out)) hb); have n5_ := Aside0.mk (below_step (gB HB.out) hb); clear HO_7; clear HO_29; clear HL366_0; clear HR366_0; clear HB; have HO_7 := n0_; have HO_29 := n1_; have HL366_0 := n2_; have HO369 := n3_; have HR366_0 := n4_; have HB := n5_; clear n0_ n1_ n2_ n3_ n4_ n5_; clear hb ho35; obtain ⟨Ao36, co36, eo36⟩ := Kd.R_slice HO369.out; subst eo36) | (go_at_call 11; (with_reducible refine (isohyetlaw25_decimals.calls k1 _ _ (rd_L4 t363 x31_1) _ _ y367 t370 t371 _ ?side1 ?side2 ?side3 ?side4 (MB.tab_below HT0 (gB HB.out)) A18.out).mono ?_); (case side1 => repeat (first | exact (by repeat (first | (with_reducible exact HR366_0.out) | (with_reducible refine Kd.C_alloc ?_ _) | (with_reducible refine Kd.C_drewN ?_ _) | (with_reducible refine Kd.C_drew ?_) | exact HR366_0.out)) | (with_reducible refine Kd.C_alloc ?_ _) | (with_reducible refine Kd.C_drewN ?_ _) | (with_reducible refine Kd.C_drew ?_))); (case side2 => exact HC366_0.out); (case side3 => repeat (first | exact (Kd.R_reads' HO369.out).2.2 | (with_reducible refine Kd.C_alloc ?_ _) | (with_reducible refine Kd.C_drewN ?_ _) | (with_reducible refine Kd.C_drew ?_))); (case side4 => exact (Kd.R_reads' HO369.out).2.1); (try clear A18); rintro e w37 ⟨v372, rfl, ho0, hb⟩; have n0_ := Aside0.mk (Kd.R_below (gR HO_7.out) hb); have n1_ := Aside0.mk (Kd.S_below (by (with_reducible repeat (first | apply Kd.S_alloc | apply Kd.S_drewN | apply Kd.S_drew)); exact HO_29.out) hb); have n2_ := Aside0.mk (Kd.R_below (gR HL366_0.out) hb); have n3_ := Aside0.mk (Kd.R_elder' (gR HO369.out) (Kd.R_base ho0) hb); have n4_ := Aside0.mk (Kd.R_lower (Kd.R_new' ho0 (Kd.R_lt (gR HO369.out))) (below_size (gB HB.out))); have n5_ := Aside0.mk (Kd.C_below (by repeat (first | (with_reducible exact HR366_0.out) | (with_reducible refine Kd.C_alloc ?_ _) | (with_reducible refine Kd.C_drewN ?_ _) | (with_reducible refine Kd.C_drew ?_) | exact HR366_0.out)) hb); have n6_ := Aside0.mk (below_step (gB HB.out) hb); clear HO_7; clear HO_29; clear HL366_0; clear HO369; clear HR366_0; clear HB; have HO_7 := n0_; have HO_29 := n1_; have HL366_0 := n2_; have HO369 := n3_; have HO373 := n4_; have HR366_0 := n5_; have HB := n6_; clear n0_ n1_ n2_ n3_ n4_ n5_ n6_; (try clear hb); (try clear hb2); (try clear hk); (try clear hi); (try clear ho0)))
           repeat (go_quiet (first | ((with_reducible refine gate_dst (N := 44) rfl ?_); (try (refine gate_guard (by rfl) ?_; dsimp only)); refine Kd.R_lit (Kd.int .i64) _ 3 ?hg (N := 44) ?hd (xs := ([a1, a1, a2] : List Int)) (inner := [.int .i64 a1, .int .i64 a1, .int .i64 a2]) (ok := fun _ => True) (okp := fun _ => True) ?hr ?hp (fun _ hk => hk) trivial (Below.refl _ _) (Nat.le_refl _) (by simp) ?_; (case hd => rfl); (case hg => rfl); (case hr => first | (go_simp; done) | (go_simp; rfl)); (case hp => exact (Reps.one (show Kd.M (Kd.int .i64) _ _ _ a1 [.int .i64 a1] from rfl) (Reps.one (show Kd.M (Kd.int .i64) _ _ _ a1 [.int .i64 a1] from rfl) (Reps.one (show Kd.M (Kd.int .i64) _ _ _ a2 [.int .i64 a2] from rfl) (Reps.none _ _))))); intro v368 w34 ho35 hb hg_ hnew_; clear hg_ hnew_; (first | rw [← Ny367.out] at ho35 | (simp only [Int.reduceToNat] at ho35; rw [← Ny367.out] at ho35)); have n0_ := Aside0.mk (Kd.R_below (gR HO_7.out) hb); have n1_ := Aside0.mk (Kd.S_below (by (with_reducible repeat (first | apply Kd.S_alloc | apply Kd.S_drewN | apply Kd.S_drew)); exact HO_29.out) hb); have n2_ := Aside0.mk (Kd.R_below (gR HL366_0.out) hb); have n3_ := Aside0.mk (Kd.R_lower ho35 (below_size (gB HB.out))); have n4_ := Aside0.mk (Kd.C_below (by repeat (first | (with_reducible exact HR366_0.out) | (with_reducible refine Kd.C_alloc ?_ _) | (with_reducible refine Kd.C_drewN ?_ _) | (with_reducible refine Kd.C_drew ?_) | exact HR366_0.out)) hb); have n5_ := Aside0.mk (below_step (gB HB.out) hb); clear HO_7; clear HO_29; clear HL366_0; clear HR366_0; clear HB; have HO_7 := n0_; have HO_29 := n1_; have HL366_0 := n2_; have HO369 := n3_; have HR366_0 := n4_; have HB := n5_; clear n0_ n1_ n2_ n3_ n4_ n5_; clear hb ho35; obtain ⟨Ao36, co36, eo36⟩ := Kd.R_slice HO369.out; subst eo36) | (go_at_call 11; (with_reducible refine (isohyetlaw25_decimals.calls k1 _ _ (rd_L4 t363 x31_1) _ _ y367 t370 t371 _ ?side1 ?side2 ?side3 ?side4 (MB.tab_below HT0 (gB HB.out)) A18.out).mono ?_); (case side1 => repeat (first | exact (by repeat (first | (with_reducible exact HR366_0.out) | (with_reducible refine Kd.C_alloc ?_ _) | (with_reducible refine Kd.C_drewN ?_ _) | (with_reducible refine Kd.C_drew ?_) | exact HR366_0.out)) | (with_reducible refine Kd.C_alloc ?_ _) | (with_reducible refine Kd.C_drewN ?_ _) | (with_reducible refine Kd.C_drew ?_))); (case side2 => exact HC366_0.out); (case side3 => repeat (first | exact (Kd.R_reads' HO369.out).2.2 | (with_reducible refine Kd.C_alloc ?_ _) | (with_reducible refine Kd.C_drewN ?_ _) | (with_reducible refine Kd.C_drew ?_))); (case side4 => exact (Kd.R_reads' HO369.out).2.1); (try clear A18); rintro e w37 ⟨v372, rfl, ho0, hb⟩; have n0_ := Aside0.mk (Kd.R_below (gR HO_7.out) hb); have n1_ := Aside0.mk (Kd.S_below (by (with_reducible repeat (first | apply Kd.S_alloc | apply Kd.S_drewN | apply Kd.S_drew)); exact HO_29.out) hb); have n2_ := Aside0.mk (Kd.R_below (gR HL366_0.out) hb); have n3_ := Aside0.mk (Kd.R_elder' (gR HO369.out) (Kd.R_base ho0) hb); have n4_ := Aside0.mk (Kd.R_lower (Kd.R_new' ho0 (Kd.R_lt (gR HO369.out))) (below_size (gB HB.out))); have n5_ := Aside0.mk (Kd.C_below (by repeat (first | (with_reducible exact HR366_0.out) | (with_reducible refine Kd.C_alloc ?_ _) | (with_reducible refine Kd.C_drewN ?_ _) | (with_reducible refine Kd.C_drew ?_) | exact HR366_0.out)) hb); have n6_ := Aside0.mk (below_step (gB HB.out) hb); clear HO_7; clear HO_29; clear HL366_0; clear HO369; clear HR366_0; clear HB; have HO_7 := n0_; have HO_29 := n1_; have HL366_0 := n2_; have HO369 := n3_; have HO373 := n4_; have HR366_0 := n5_; have HB := n6_; clear n0_ n1_ n2_ n3_ n4_ n5_ n6_; (try clear hb); (try clear hb2); (try clear hk); (try clear hi); (try clear ho0))); try go_wp2_with (first | ((with_reducible refine gate_dst (N := 44) rfl ?_); (try (refine gate_guard (by rfl) ?_; dsimp only)); refine Kd.R_lit (Kd.int .i64) _ 3 ?hg (N := 44) ?hd (xs := ([a1, a1, a2] : List Int)) (inner := [.int .i64 a1, .int .i64 a1, .int .i64 a2]) (ok := fun _ => True) (okp := fun _ => True) ?hr ?hp (fun _ hk => hk) trivial (Below.refl _ _) (Nat.le_refl _) (by simp) ?_; (case hd => rfl); (case hg => rfl); (case hr => first | (go_simp; done) | (go_simp; rfl)); (case hp => exact (Reps.one (show Kd.M (Kd.int .i64) _ _ _ a1 [.int .i64 a1] from rfl) (Reps.one (show Kd.M (Kd.int .i64) _ _ _ a1 [.int .i64 a1] from rfl) (Reps.one (show Kd.M (Kd.int .i64) _ _ _ a2 [.int .i64 a2] from rfl) (Reps.none _ _))))); intro v368 w34 ho35 hb hg_ hnew_; clear hg_ hnew_; (first | rw [← Ny367.out] at ho35 | (simp only [Int.reduceToNat] at ho35; rw [← Ny367.out] at ho35)); have n0_ := Aside0.mk (Kd.R_below (gR HO_7.out) hb); have n1_ := Aside0.mk (Kd.S_below (by (with_reducible repeat (first | apply Kd.S_alloc | apply Kd.S_drewN | apply Kd.S_drew)); exact HO_29.out) hb); have n2_ := Aside0.mk (Kd.R_below (gR HL366_0.out) hb); have n3_ := Aside0.mk (Kd.R_lower ho35 (below_size (gB HB.out))); have n4_ := Aside0.mk (Kd.C_below (by repeat (first | (with_reducible exact HR366_0.out) | (with_reducible refine Kd.C_alloc ?_ _) | (with_reducible refine Kd.C_drewN ?_ _) | (with_reducible refine Kd.C_drew ?_) | exact HR366_0.out)) hb); have n5_ := Aside0.mk (below_step (gB HB.out) hb); clear HO_7; clear HO_29; clear HL366_0; clear HR366_0; clear HB; have HO_7 := n0_; have HO_29 := n1_; have HL366_0 := n2_; have HO369 := n3_; have HR366_0 := n4_; have HB := n5_; clear n0_ n1_ n2_ n3_ n4_ n5_; clear hb ho35; obtain ⟨Ao36, co36, eo36⟩ := Kd.R_slice HO369.out; subst eo36) | (go_at_call 11; (with_reducible refine (isohyetlaw25_decimals.calls k1 _ _ (rd_L4 t363 x31_1) _ _ y367 t370 t371 _ ?side1 ?side2 ?side3 ?side4 (MB.tab_below HT0 (gB HB.out)) A18.out).mono ?_); (case side1 => repeat (first | exact (by repeat (first | (with_reducible exact HR366_0.out) | (with_reducible refine Kd.C_alloc ?_ _) | (with_reducible refine Kd.C_drewN ?_ _) | (with_reducible refine Kd.C_drew ?_) | exact HR366_0.out)) | (with_reducible refine Kd.C_alloc ?_ _) | (with_reducible refine Kd.C_drewN ?_ _) | (with_reducible refine Kd.C_drew ?_))); (case side2 => exact HC366_0.out); (case side3 => repeat (first | exact (Kd.R_reads' HO369.out).2.2 | (with_reducible refine Kd.C_alloc ?_ _) | (with_reducible refine Kd.C_drewN ?_ _) | (with_reducible refine Kd.C_drew ?_))); (case side4 => exact (Kd.R_reads' HO369.out).2.1); (try clear A18); rintro e w37 ⟨v372, rfl, ho0, hb⟩; have n0_ := Aside0.mk (Kd.R_below (gR HO_7.out) hb); have n1_ := Aside0.mk (Kd.S_below (by (with_reducible repeat (first | apply Kd.S_alloc | apply Kd.S_drewN | apply Kd.S_drew)); exact HO_29.out) hb); have n2_ := Aside0.mk (Kd.R_below (gR HL366_0.out) hb); have n3_ := Aside0.mk (Kd.R_elder' (gR HO369.out) (Kd.R_base ho0) hb); have n4_ := Aside0.mk (Kd.R_lower (Kd.R_new' ho0 (Kd.R_lt (gR HO369.out))) (below_size (gB HB.out))); have n5_ := Aside0.mk (Kd.C_below (by repeat (first | (with_reducible exact HR366_0.out) | (with_reducible refine Kd.C_alloc ?_ _) | (with_reducible refine Kd.C_drewN ?_ _) | (with_reducible refine Kd.C_drew ?_) | exact HR366_0.out)) hb); have n6_ := Aside0.mk (below_step (gB HB.out) hb); clear HO_7; clear HO_29; clear HL366_0; clear HO369; clear HR366_0; clear HB; have HO_7 := n0_; have HO_29 := n1_; have HL366_0 := n2_; have HO369 := n3_; have HO373 := n4_; have HR366_0 := n5_; have HB := n6_; clear n0_ n1_ n2_ n3_ n4_ n5_ n6_; (try clear hb); (try clear hb2); (try clear hk); (try clear hi); (try clear ho0))))
           go_roundg k1
           case measure => have := HK1.out; omega
           case rel => exact ⟨(wrap64 (x10_1 + 1)), (wrap64 (x31_1 + 1)), (by first | rfl | (simp; done) | (simp [*]; done)), (by first | rfl | (simp; done) | (simp [*]; done)), H', ⟨by have := HK1.out; omega⟩, ⟨by (with_reducible repeat (first | apply Kd.R_alloc | apply Kd.R_drewN | apply Kd.R_drew)); exact HO_7.out⟩, ⟨by (with_reducible repeat (first | apply Kd.S_alloc | apply Kd.S_drewN | apply Kd.S_drew)); exact HO_29.out⟩, ⟨by repeat (first | (with_reducible first | exact HB.out | apply bA | apply bN | apply bD) | exact HB.out)⟩⟩
         ·rw [if_neg c19] at H
          have c19b0 : (t371 == 0) = false := beq_eq_false_iff_ne.mpr c19
          have c19b1 : (t371 != 0) = true := bne_iff_ne.mpr c19
          by_cases c38 : t360 = t371
          ·rw [if_pos c38] at H
           have c38b0 : (t360 == t371) = true := beq_iff_eq.mpr c38
           have c38b1 : (t360 != t371) = false := bne_eq_false_iff_eq.mpr c38
           clear c38
           by_cases c39 : t359 = (wrap64 (x31_1 + 1))
           ·rw [if_pos c39] at H
            have c39b0 : (t359 == (wrap64 (x31_1 + 1))) = true := beq_iff_eq.mpr c39
            have c39b1 : (t359 != (wrap64 (x31_1 + 1))) = false := bne_eq_false_iff_eq.mpr c39
            clear c39
            obtain rfl := Option.some.inj H
            have p366 : 0 ≤ (x31_1 : Int) := of_decide_eq_true (by first | (with_reducible assumption) | assumption)
            have q366 : x31_1 < (t363.length : Int) := of_decide_eq_true (by first | (with_reducible assumption) | assumption)
            obtain ⟨ad366, A366_0, c366_0, e366, hx366_0, hl366_0, hi366_0⟩ := at_L4 (Kd.S_reads' HO_29.out).2.2 x31_1 p366 q366
            cases e366
            obtain ⟨ce366, hce366, hMe366, hcc366⟩ := Kd.S_get HO_29.out [] x31_1 p366 (by first | exact q366 | exact of_decide_eq_true (by first | (with_reducible assumption) | assumption) | (have e_ := (Kd.S_reads' HO_29.out).1; omega))
            obtain ⟨ve366_0, rfl, ge366_0⟩ := hMe366
            have hv366_0 := hcc366 0 _ rfl
            rw [Nat.add_zero, show ((Kd.slice 9 Kd.string)).sz = 1 from rfl, Nat.mul_one] at hv366_0
            replace hv366_0 := Option.some.inj (hv366_0.symm.trans hx366_0)
            rw [hv366_0] at ge366_0
            have HL366_0 := Aside0.mk (show Kd.R Kd.string 9 _ _ _ _ (rd_L4 t363 x31_1) from ge366_0)
            clear hv366_0 ge366_0
            clear hcc366 hce366
            have HR366_0 := Aside0.mk hi366_0
            have HC366_0 := Aside0.mk hl366_0
            clear hi366_0 hl366_0
            replace p366 := eq_true p366
            replace q366 := eq_true q366
            go_wp2_with (first | ((with_reducible refine gate_dst (N := 44) rfl ?_); (try (refine gate_guard (by rfl) ?_; dsimp only)); refine Kd.R_lit (Kd.int .i64) _ 3 ?hg (N := 44) ?hd (xs := ([a1, a1, a2] : List Int)) (inner := [.int .i64 a1, .int .i64 a1, .int .i64 a2]) (ok := fun _ => True) (okp := fun _ => True) ?hr ?hp (fun _ hk => hk) trivial (Below.refl _ _) (Nat.le_refl _) (by simp) ?_; (case hd => rfl); (case hg => rfl); (case hr => first | (go_simp; done) | (go_simp; rfl)); (case hp => exact (Reps.one (show Kd.M (Kd.int .i64) _ _ _ a1 [.int .i64 a1] from rfl) (Reps.one (show Kd.M (Kd.int .i64) _ _ _ a1 [.int .i64 a1] from rfl) (Reps.one (show Kd.M (Kd.int .i64) _ _ _ a2 [.int .i64 a2] from rfl) (Reps.none _ _))))); intro v368 w40 ho41 hb hg_ hnew_; clear hg_ hnew_; (first | rw [← Ny367.out] at ho41 | (simp only [Int.reduceToNat] at ho41; rw [← Ny367.out] at ho41)); have n0_ := Aside0.mk (Kd.R_below (gR HO_7.out) hb); have n1_ := Aside0.mk (Kd.S_below (by (with_reducible repeat (first | apply Kd.S_alloc | apply Kd.S_drewN | apply Kd.S_drew)); exact HO_29.out) hb); have n2_ := Aside0.mk (Kd.R_below (gR HL366_0.out) hb); have n3_ := Aside0.mk (Kd.R_lower ho41 (below_size (gB HB.out))); have n4_ := Aside0.mk (Kd.C_below (by repeat (first | (with_reducible exact HR366_0.out) | (with_reducible refine Kd.C_alloc ?_ _) | (with_reducible refine Kd.C_drewN ?_ _) | (with_reducible refine Kd.C_drew ?_) | exact HR366_0.out)) hb); have n5_ := Aside0.mk (below_step (gB HB.out) hb); clear HO_7; clear HO_29; clear HL366_0; clear HR366_0; clear HB; have HO_7 := n0_; have HO_29 := n1_; have HL366_0 := n2_; have HO369 := n3_; have HR366_0 := n4_; have HB := n5_; clear n0_ n1_ n2_ n3_ n4_ n5_; clear hb ho41; obtain ⟨Ao42, co42, eo42⟩ := Kd.R_slice HO369.out; subst eo42) | (go_at_call 11; (with_reducible refine (isohyetlaw25_decimals.calls k1 _ _ (rd_L4 t363 x31_1) _ _ y367 t370 t371 _ ?side1 ?side2 ?side3 ?side4 (MB.tab_below HT0 (gB HB.out)) A18.out).mono ?_); (case side1 => repeat (first | exact (by repeat (first | (with_reducible exact HR366_0.out) | (with_reducible refine Kd.C_alloc ?_ _) | (with_reducible refine Kd.C_drewN ?_ _) | (with_reducible refine Kd.C_drew ?_) | exact HR366_0.out)) | (with_reducible refine Kd.C_alloc ?_ _) | (with_reducible refine Kd.C_drewN ?_ _) | (with_reducible refine Kd.C_drew ?_))); (case side2 => exact HC366_0.out); (case side3 => repeat (first | exact (Kd.R_reads' HO369.out).2.2 | (with_reducible refine Kd.C_alloc ?_ _) | (with_reducible refine Kd.C_drewN ?_ _) | (with_reducible refine Kd.C_drew ?_))); (case side4 => exact (Kd.R_reads' HO369.out).2.1); (try clear A18); rintro e w43 ⟨v372, rfl, ho0, hb⟩; have n0_ := Aside0.mk (Kd.R_below (gR HO_7.out) hb); have n1_ := Aside0.mk (Kd.S_below (by (with_reducible repeat (first | apply Kd.S_alloc | apply Kd.S_drewN | apply Kd.S_drew)); exact HO_29.out) hb); have n2_ := Aside0.mk (Kd.R_below (gR HL366_0.out) hb); have n3_ := Aside0.mk (Kd.R_elder' (gR HO369.out) (Kd.R_base ho0) hb); have n4_ := Aside0.mk (Kd.R_lower (Kd.R_new' ho0 (Kd.R_lt (gR HO369.out))) (below_size (gB HB.out))); have n5_ := Aside0.mk (Kd.C_below (by repeat (first | (with_reducible exact HR366_0.out) | (with_reducible refine Kd.C_alloc ?_ _) | (with_reducible refine Kd.C_drewN ?_ _) | (with_reducible refine Kd.C_drew ?_) | exact HR366_0.out)) hb); have n6_ := Aside0.mk (below_step (gB HB.out) hb); clear HO_7; clear HO_29; clear HL366_0; clear HO369; clear HR366_0; clear HB; have HO_7 := n0_; have HO_29 := n1_; have HL366_0 := n2_; have HO369 := n3_; have HO373 := n4_; have HR366_0 := n5_; have HB := n6_; clear n0_ n1_ n2_ n3_ n4_ n5_ n6_; (try clear hb); (try clear hb2); (try clear hk); (try clear hi); (try clear ho0); obtain ⟨Ao44, co44, eo44⟩ := Kd.R_slice HO_7.out; subst eo44))
            repeat (go_quiet (first | ((with_reducible refine gate_dst (N := 44) rfl ?_); (try (refine gate_guard (by rfl) ?_; dsimp only)); refine Kd.R_lit (Kd.int .i64) _ 3 ?hg (N := 44) ?hd (xs := ([a1, a1, a2] : List Int)) (inner := [.int .i64 a1, .int .i64 a1, .int .i64 a2]) (ok := fun _ => True) (okp := fun _ => True) ?hr ?hp (fun _ hk => hk) trivial (Below.refl _ _) (Nat.le_refl _) (by simp) ?_; (case hd => rfl); (case hg => rfl); (case hr => first | (go_simp; done) | (go_simp; rfl)); (case hp => exact (Reps.one (show Kd.M (Kd.int .i64) _ _ _ a1 [.int .i64 a1] from rfl) (Reps.one (show Kd.M (Kd.int .i64) _ _ _ a1 [.int .i64 a1] from rfl) (Reps.one (show Kd.M (Kd.int .i64) _ _ _ a2 [.int .i64 a2] from rfl) (Reps.none _ _))))); intro v368 w40 ho41 hb hg_ hnew_; clear hg_ hnew_; (first | rw [← Ny367.out] at ho41 | (simp only [Int.reduceToNat] at ho41; rw [← Ny367.out] at ho41)); have n0_ := Aside0.mk (Kd.R_below (gR HO_7.out) hb); have n1_ := Aside0.mk (Kd.S_below (by (with_reducible repeat (first | apply Kd.S_alloc | apply Kd.S_drewN | apply Kd.S_drew)); exact HO_29.out) hb); have n2_ := Aside0.mk (Kd.R_below (gR HL366_0.out) hb); have n3_ := Aside0.mk (Kd.R_lower ho41 (below_size (gB HB.out))); have n4_ := Aside0.mk (Kd.C_below (by repeat (first | (with_reducible exact HR366_0.out) | (with_reducible refine Kd.C_alloc ?_ _) | (with_reducible refine Kd.C_drewN ?_ _) | (with_reducible refine Kd.C_drew ?_) | exact HR366_0.out)) hb); have n5_ := Aside0.mk (below_step (gB HB.out) hb); clear HO_7; clear HO_29; clear HL366_0; clear HR366_0; clear HB; have HO_7 := n0_; have HO_29 := n1_; have HL366_0 := n2_; have HO369 := n3_; have HR366_0 := n4_; have HB := n5_; clear n0_ n1_ n2_ n3_ n4_ n5_; clear hb ho41; obtain ⟨Ao42, co42, eo42⟩ := Kd.R_slice HO369.out; subst eo42) | (go_at_call 11; (with_reducible refine (isohyetlaw25_decimals.calls k1 _ _ (rd_L4 t363 x31_1) _ _ y367 t370 t371 _ ?side1 ?side2 ?side3 ?side4 (MB.tab_below HT0 (gB HB.out)) A18.out).mono ?_); (case side1 => repeat (first | exact (by repeat (first | (with_reducible exact HR366_0.out) | (with_reducible refine Kd.C_alloc ?_ _) | (with_reducible refine Kd.C_drewN ?_ _) | (with_reducible refine Kd.C_drew ?_) | exact HR366_0.out)) | (with_reducible refine Kd.C_alloc ?_ _) | (with_reducible refine Kd.C_drewN ?_ _) | (with_reducible refine Kd.C_drew ?_))); (case side2 => exact HC366_0.out); (case side3 => repeat (first | exact (Kd.R_reads' HO369.out).2.2 | (with_reducible refine Kd.C_alloc ?_ _) | (with_reducible refine Kd.C_drewN ?_ _) | (with_reducible refine Kd.C_drew ?_))); (case side4 => exact (Kd.R_reads' HO369.out).2.1); (try clear A18); rintro e w43 ⟨v372, rfl, ho0, hb⟩; have n0_ := Aside0.mk (Kd.R_below (gR HO_7.out) hb); have n1_ := Aside0.mk (Kd.S_below (by (with_reducible repeat (first | apply Kd.S_alloc | apply Kd.S_drewN | apply Kd.S_drew)); exact HO_29.out) hb); have n2_ := Aside0.mk (Kd.R_below (gR HL366_0.out) hb); have n3_ := Aside0.mk (Kd.R_elder' (gR HO369.out) (Kd.R_base ho0) hb); have n4_ := Aside0.mk (Kd.R_lower (Kd.R_new' ho0 (Kd.R_lt (gR HO369.out))) (below_size (gB HB.out))); have n5_ := Aside0.mk (Kd.C_below (by repeat (first | (with_reducible exact HR366_0.out) | (with_reducible refine Kd.C_alloc ?_ _) | (with_reducible refine Kd.C_drewN ?_ _) | (with_reducible refine Kd.C_drew ?_) | exact HR366_0.out)) hb); have n6_ := Aside0.mk (below_step (gB HB.out) hb); clear HO_7; clear HO_29; clear HL366_0; clear HO369; clear HR366_0; clear HB; have HO_7 := n0_; have HO_29 := n1_; have HL366_0 := n2_; have HO369 := n3_; have HO373 := n4_; have HR366_0 := n5_; have HB := n6_; clear n0_ n1_ n2_ n3_ n4_ n5_ n6_; (try clear hb); (try clear hb2); (try clear hk); (try clear hi); (try clear ho0); obtain ⟨Ao44, co44, eo44⟩ := Kd.R_slice HO_7.out; subst eo44)); try go_wp2_with (first | ((with_reducible refine gate_dst (N := 44) rfl ?_); (try (refine gate_guard (by rfl) ?_; dsimp only)); refine Kd.R_lit (Kd.int .i64) _ 3 ?hg (N := 44) ?hd (xs := ([a1, a1, a2] : List Int)) (inner := [.int .i64 a1, .int .i64 a1, .int .i64 a2]) (ok := fun _ => True) (okp := fun _ => True) ?hr ?hp (fun _ hk => hk) trivial (Below.refl _ _) (Nat.le_refl _) (by simp) ?_; (case hd => rfl); (case hg => rfl); (case hr => first | (go_simp; done) | (go_simp; rfl)); (case hp => exact (Reps.one (show Kd.M (Kd.int .i64) _ _ _ a1 [.int .i64 a1] from rfl) (Reps.one (show Kd.M (Kd.int .i64) _ _ _ a1 [.int .i64 a1] from rfl) (Reps.one (show Kd.M (Kd.int .i64) _ _ _ a2 [.int .i64 a2] from rfl) (Reps.none _ _))))); intro v368 w40 ho41 hb hg_ hnew_; clear hg_ hnew_; (first | rw [← Ny367.out] at ho41 | (simp only [Int.reduceToNat] at ho41; rw [← Ny367.out] at ho41)); have n0_ := Aside0.mk (Kd.R_below (gR HO_7.out) hb); have n1_ := Aside0.mk (Kd.S_below (by (with_reducible repeat (first | apply Kd.S_alloc | apply Kd.S_drewN | apply Kd.S_drew)); exact HO_29.out) hb); have n2_ := Aside0.mk (Kd.R_below (gR HL366_0.out) hb); have n3_ := Aside0.mk (Kd.R_lower ho41 (below_size (gB HB.out))); have n4_ := Aside0.mk (Kd.C_below (by repeat (first | (with_reducible exact HR366_0.out) | (with_reducible refine Kd.C_alloc ?_ _) | (with_reducible refine Kd.C_drewN ?_ _) | (with_reducible refine Kd.C_drew ?_) | exact HR366_0.out)) hb); have n5_ := Aside0.mk (below_step (gB HB.out) hb); clear HO_7; clear HO_29; clear HL366_0; clear HR366_0; clear HB; have HO_7 := n0_; have HO_29 := n1_; have HL366_0 := n2_; have HO369 := n3_; have HR366_0 := n4_; have HB := n5_; clear n0_ n1_ n2_ n3_ n4_ n5_; clear hb ho41; obtain ⟨Ao42, co42, eo42⟩ := Kd.R_slice HO369.out; subst eo42) | (go_at_call 11; (with_reducible refine (isohyetlaw25_decimals.calls k1 _ _ (rd_L4 t363 x31_1) _ _ y367 t370 t371 _ ?side1 ?side2 ?side3 ?side4 (MB.tab_below HT0 (gB HB.out)) A18.out).mono ?_); (case side1 => repeat (first | exact (by repeat (first | (with_reducible exact HR366_0.out) | (with_reducible refine Kd.C_alloc ?_ _) | (with_reducible refine Kd.C_drewN ?_ _) | (with_reducible refine Kd.C_drew ?_) | exact HR366_0.out)) | (with_reducible refine Kd.C_alloc ?_ _) | (with_reducible refine Kd.C_drewN ?_ _) | (with_reducible refine Kd.C_drew ?_))); (case side2 => exact HC366_0.out); (case side3 => repeat (first | exact (Kd.R_reads' HO369.out).2.2 | (with_reducible refine Kd.C_alloc ?_ _) | (with_reducible refine Kd.C_drewN ?_ _) | (with_reducible refine Kd.C_drew ?_))); (case side4 => exact (Kd.R_reads' HO369.out).2.1); (try clear A18); rintro e w43 ⟨v372, rfl, ho0, hb⟩; have n0_ := Aside0.mk (Kd.R_below (gR HO_7.out) hb); have n1_ := Aside0.mk (Kd.S_below (by (with_reducible repeat (first | apply Kd.S_alloc | apply Kd.S_drewN | apply Kd.S_drew)); exact HO_29.out) hb); have n2_ := Aside0.mk (Kd.R_below (gR HL366_0.out) hb); have n3_ := Aside0.mk (Kd.R_elder' (gR HO369.out) (Kd.R_base ho0) hb); have n4_ := Aside0.mk (Kd.R_lower (Kd.R_new' ho0 (Kd.R_lt (gR HO369.out))) (below_size (gB HB.out))); have n5_ := Aside0.mk (Kd.C_below (by repeat (first | (with_reducible exact HR366_0.out) | (with_reducible refine Kd.C_alloc ?_ _) | (with_reducible refine Kd.C_drewN ?_ _) | (with_reducible refine Kd.C_drew ?_) | exact HR366_0.out)) hb); have n6_ := Aside0.mk (below_step (gB HB.out) hb); clear HO_7; clear HO_29; clear HL366_0; clear HO369; clear HR366_0; clear HB; have HO_7 := n0_; have HO_29 := n1_; have HL366_0 := n2_; have HO369 := n3_; have HO373 := n4_; have HR366_0 := n5_; have HB := n6_; clear n0_ n1_ n2_ n3_ n4_ n5_ n6_; (try clear hb); (try clear hb2); (try clear hk); (try clear hi); (try clear ho0); obtain ⟨Ao44, co44, eo44⟩ := Kd.R_slice HO_7.out; subst eo44)))
            go_ret
            exact ⟨by first | rfl | (simp [errW_none, errW_some] <;> rfl) | (simp [*, errW_none, errW_some] <;> rfl), by repeat (first | (with_reducible first | exact HB.out | apply bA | apply bN | apply bD) | exact HB.out)⟩
           ·rw [if_neg c39] at H
            have c39b0 : (t359 == (wrap64 (x31_1 + 1))) = false := beq_eq_false_iff_ne.mpr c39
            have c39b1 : (t359 != (wrap64 (x31_1 + 1))) = true := bne_iff_ne.mpr c39
            exact absurd ((Option.some.inj H).trans HTRUE) (by decide)
          ·rw [if_neg c38] at H
           have c38b0 : (t360 == t371) = false := beq_eq_false_iff_ne.mpr c38
           have c38b1 : (t360 != t371) = true := bne_iff_ne.mpr c38
           exact absurd ((Option.some.inj H).trans HTRUE) (by decide)
       ·rw [if_neg c16] at H
        exact absurd H (by simp)
      ·rw [if_neg c15] at H
       exact absurd H (by simp)
     ·rw [if_neg c14] at H
      have c14b0 : decide (x31_1 < (t363.length : Int)) = false := decide_eq_false c14
      clear c14
      by_cases c45 : t360 = 0
      ·rw [if_pos c45] at H
       have c45b0 : (t360 == 0) = true := beq_iff_eq.mpr c45
       have c45b1 : (t360 != 0) = false := bne_eq_false_iff_eq.mpr c45
       clear c45
       by_cases c46 : t359 = 0
       ·rw [if_pos c46] at H
        have c46b0 : (t359 == 0) = true := beq_iff_eq.mpr c46
        have c46b1 : (t359 != 0) = false := bne_eq_false_iff_eq.mpr c46
        clear c46
        obtain rfl := Option.some.inj H
        obtain ⟨Ao47, co47, eo47⟩ := Kd.R_slice HO_7.out
        subst eo47
        go_wp2
        repeat (go_quiet (fail); try go_wp2)
        go_ret
        exact ⟨by first | rfl | (simp [errW_none, errW_some] <;> rfl) | (simp [*, errW_none, errW_some] <;> rfl), by repeat (first | (with_reducible first | exact HB.out | apply bA | apply bN | apply bD) | exact HB.out)⟩
       ·rw [if_neg c46] at H
        have c46b0 : (t359 == 0) = false := beq_eq_false_iff_ne.mpr c46
        have c46b1 : (t359 != 0) = true := bne_iff_ne.mpr c46
        exact absurd ((Option.some.inj H).trans HTRUE) (by decide)
      ·rw [if_neg c45] at H
       have c45b0 : (t360 == 0) = false := beq_eq_false_iff_ne.mpr c45
       have c45b1 : (t360 != 0) = true := bne_iff_ne.mpr c45
       exact absurd ((Option.some.inj H).trans HTRUE) (by decide)
 ·replace c5 := Bool.eq_false_iff.mpr c5
  subst c5
  have H1 : (some false) = some r := by rw [if_neg (show ¬ (false = true) by decide)] at H; exact H
  clear H
  have H := H1
  clear H1
  exact absurd ((Option.some.inj H).trans HTRUE) (by decide)

end Go.Proofs.YtknekneicecgiaaGreatDoor.M
