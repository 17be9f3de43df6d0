-- By drive.py (this session's program), out of the translation. Lean checks it.
import Derived.Test.YtknekneicecgiaaGreatDoorA0
import Derived.Test.YtknekneicecgiaaGreatDoorB1
import Derived.Test.YtknekneicecgiaaGreatDoorB3
namespace Go.Proofs.YtknekneicecgiaaGreatDoor.M
open Go.Proofs.YtknekneicecgiaaGreatDoor.MB Go.Proofs.YtknekneicecgiaaGreatDoor
open Go.RowKit Go.Proofs.YtknekneicecgiaaGreatDoorW.PrintWords Go.Proofs.YtknekneicecgiaaGreatDoorW.PrintLast Go.Proofs.YtknekneicecgiaaGreatDoorW.PrintMore
attribute [local go_sem] max2_int min2_int max_two min_two max_three min_three max_four min_four   -- for this text's walks alone
set_option linter.unusedVariables false
set_option linter.unusedSimpArgs false
attribute [local go_sem] add64_run sub64_run

/-! ### deci_magnitude: function 48 -/
mutual
def deci_magnitude.l0 : Nat → ByteArray → List Int → Option (List Int)
 | 0, _, _ => none
 | k + 1, x0, x3 => if (x0.size : Int) > 0 then (deci_magnitude.l1 k x0 x3 (wrap64 ((Int.tmod (wrap64 ((x0.size : Int) - 1)) 18) + 1)) 0 1 (wrap64 ((Int.tmod (wrap64 ((x0.size : Int) - 1)) 18) + 1)) 0) else (some x3)
def deci_magnitude.l1 : Nat → ByteArray → List Int → Int → Int → Int → Int → Int → Option (List Int)
 | 0, _, _, _, _, _, _, _ => none
 | k + 1, x0, x3, x4, x5, x6, x16, x17 => if x17 < x16 then (if 0 ≤ x17 then (if x17 < (x0.size : Int) then (deci_magnitude.l1 k x0 x3 x4 (IntKind.u64.wrap ((IntKind.u64.wrap (10 * x5)) + (((bt x0 x17) - 48) % 256))) (IntKind.u64.wrap (x6 * 10)) x16 (wrap64 (x17 + 1))) else (none)) else (none)) else ((mag_Mul.f k x3 (([x6] : List Int))).bind fun t314 => ((mag_Add.f k t314 (([x5] : List Int))).bind fun t320 => (if 0 ≤ x4 then (if x4 ≤ (x0.size : Int) then (deci_magnitude.l0 k (x0.extract (x4 : Int).toNat x0.size) t320) else (none)) else (none))))
end
def deci_magnitude.f (k : Nat) (a0 : ByteArray) : Option (List Int) := deci_magnitude.l0 k a0 ([] : List Int)
theorem deci_magnitude.mono_l : ∀ k, (∀ y0 y1, LeO (deci_magnitude.l0 k y0 y1) (deci_magnitude.l0 (k + 1) y0 y1)) ∧ (∀ y0 y1 y2 y3 y4 y5 y6, LeO (deci_magnitude.l1 k y0 y1 y2 y3 y4 y5 y6) (deci_magnitude.l1 (k + 1) y0 y1 y2 y3 y4 y5 y6))
 | 0 => ⟨fun _ _ r h => by simp [deci_magnitude.l0] at h, fun _ _ _ _ _ _ _ r h => by simp [deci_magnitude.l1] at h⟩
 | k + 1 => by
  obtain ⟨ih0, ih1⟩ := deci_magnitude.mono_l k
  refine ⟨?_, ?_⟩
  ·intro y0 y1
   unfold deci_magnitude.l0
   repeat' first
   | (with_reducible exact ih0 _ _)
   | (with_reducible exact ih1 _ _ _ _ _ _ _)
   | (with_reducible exact mag_Add.mono _ _ _)
   | (with_reducible exact mag_Mul.mono _ _ _)
   | (with_reducible exact LeO.refl _)
   | (with_reducible exact LeO.none _)
   | (with_reducible refine LeO.ite ?_ ?_)
   | (with_reducible refine LeO.bind ?_ (fun _ => ?_))
   | exact ih0 _ _
   | exact ih1 _ _ _ _ _ _ _
   | exact mag_Add.mono _ _ _
   | exact mag_Mul.mono _ _ _
   | exact LeO.none _
   | refine LeO.ite ?_ ?_
   | refine LeO.bind ?_ (fun _ => ?_)
  ·intro y0 y1 y2 y3 y4 y5 y6
   unfold deci_magnitude.l1
   repeat' first
   | (with_reducible exact ih0 _ _)
   | (with_reducible exact ih1 _ _ _ _ _ _ _)
   | (with_reducible exact mag_Add.mono _ _ _)
   | (with_reducible exact mag_Mul.mono _ _ _)
   | (with_reducible exact LeO.refl _)
   | (with_reducible exact LeO.none _)
   | (with_reducible refine LeO.ite ?_ ?_)
   | (with_reducible refine LeO.bind ?_ (fun _ => ?_))
   | exact ih0 _ _
   | exact ih1 _ _ _ _ _ _ _
   | exact mag_Add.mono _ _ _
   | exact mag_Mul.mono _ _ _
   | exact LeO.none _
   | refine LeO.ite ?_ ?_
   | refine LeO.bind ?_ (fun _ => ?_)
theorem deci_magnitude.mono : ∀ a0 k, LeO (deci_magnitude.f k a0) (deci_magnitude.f (k + 1) a0) := by
 intro a0 k
 obtain ⟨ih0, ih1⟩ := deci_magnitude.mono_l k
 unfold deci_magnitude.f
 repeat' first
   | (with_reducible exact ih0 _ _)
   | (with_reducible exact ih1 _ _ _ _ _ _ _)
   | (with_reducible exact mag_Add.mono _ _ _)
   | (with_reducible exact mag_Mul.mono _ _ _)
   | (with_reducible exact LeO.refl _)
   | (with_reducible exact LeO.none _)
   | (with_reducible refine LeO.ite ?_ ?_)
   | (with_reducible refine LeO.bind ?_ (fun _ => ?_))
   | exact ih0 _ _
   | exact ih1 _ _ _ _ _ _ _
   | exact mag_Add.mono _ _ _
   | exact mag_Mul.mono _ _ _
   | exact LeO.none _
   | refine LeO.ite ?_ ?_
   | refine LeO.bind ?_ (fun _ => ?_)
set_option maxHeartbeats 8000000 in
set_option maxRecDepth 100000 in
theorem deci_magnitude.calls (k : Nat) (a0 : ByteArray) (r : List Int) (w : World) (h : deci_magnitude.f k a0 = some r) :
  Calls Tryz.prog 48 #[.string a0] w fun e w' => ∃ v0_ : Value, e = .returned (v0_) ∧ Kd.V (Kd.int .u64) 110 w' w.heap.size (fun k_ => (w.heap.size ≤ k_)) v0_ r ∧ Below w.heap.size w w' := by
 have HB := Aside0.mk (Below.refl w.heap.size w)
 have H : (deci_magnitude.l0 k a0 ([] : List Int)) = some r := h
 clear h
 have H' := Aside0.mk H
 clear H
 go_enter Tryz.func48, Tryz.ntmps48
 go_wp2
 go_loopg [0, 3] k (fun kq v0 v3 w' => ∃ (x0_1 : ByteArray) (x3_1 : List Int), v0 = .string x0_1 ∧ Aside0 (deci_magnitude.l0 kq x0_1 x3_1 = some r) ∧ Aside0 (kq ≤ k) ∧ Aside0 (Kd.V (Kd.int .u64) 110 w' w.heap.size (fun k_ => (w.heap.size ≤ k_)) v3 x3_1) ∧ Aside0 (Below w.heap.size w w'))
 case atStart => exact ⟨(a0), (([] : List Int)), (by first | rfl | (simp; done) | (simp [*]; done)), H', ⟨Nat.le_refl _⟩, ⟨Kd.V_nil _ _ _ _ _⟩, ⟨by repeat (first | (with_reducible first | exact HB.out | apply bA | apply bN | apply bD) | exact HB.out)⟩⟩
 case round =>
  clear H'
  obtain ⟨x0_1, x3_1, rfl, HA, HK1, HO_3, HB⟩ := hrel
  cases gk with
  | zero => exact absurd HA.out (by simp [deci_magnitude.l0])
  | succ k1 =>
   have H := HA.out
   clear HA
   simp only [deci_magnitude.l0] at H
   by_cases c2 : (x0_1.size : Int) > 0
   ·rw [if_pos c2] at H
    have c2b0 : decide (0 < (x0_1.size : Int)) = true := decide_eq_true c2
    have c2b1 : decide (0 < x0_1.size) = true := decide_eq_true (by omega)
    clear c2
    have H' := Aside0.mk H
    clear H
    go_wp2
    go_loopg [5, 6, 17] k1 (fun kq v5 v6 v17 w' => ∃ (x5_2 : Int) (x6_2 : Int) (x17_2 : Int), v5 = .int .u64 x5_2 ∧ v6 = .int .u64 x6_2 ∧ v17 = .int .i64 x17_2 ∧ Aside0 (deci_magnitude.l1 kq x0_1 x3_1 (wrap64 ((Int.tmod (wrap64 ((x0_1.size : Int) - 1)) 18) + 1)) x5_2 x6_2 (wrap64 ((Int.tmod (wrap64 ((x0_1.size : Int) - 1)) 18) + 1)) x17_2 = some r) ∧ Aside0 (kq ≤ k1) ∧ Aside0 (Kd.V (Kd.int .u64) 110 w' w.heap.size (fun k_ => (w.heap.size ≤ k_)) u3 x3_1) ∧ Aside0 (Below w.heap.size w w'))
    case atStart => exact ⟨(0), (1), (0), (by first | rfl | (simp; done) | (simp [*]; done)), (by first | rfl | (simp; done) | (simp [*]; done)), (by first | rfl | (simp; done) | (simp [*]; done)), H', ⟨Nat.le_refl _⟩, ⟨by (with_reducible repeat (first | apply Kd.V_alloc | apply Kd.V_drewN | apply Kd.V_drew)); exact HO_3.out⟩, ⟨by repeat (first | (with_reducible first | exact HB.out | apply bA | apply bN | apply bD) | exact HB.out)⟩⟩
    case round =>
     clear H'
     try clear c2
     try clear c2b0
     try clear c2b1
     try clear p2
     obtain ⟨x5_2, x6_2, x17_2, rfl, rfl, rfl, HA, HK2, HO_3, HB⟩ := hrel
     cases gk with
     | zero => exact absurd HA.out (by simp [deci_magnitude.l1])
     | succ k2 =>
      have H := HA.out
      clear HA
      simp only [deci_magnitude.l1] at H
      by_cases c3 : x17_2 < (wrap64 ((Int.tmod (wrap64 ((x0_1.size : Int) - 1)) 18) + 1))
      ·rw [if_pos c3] at H
       have c3b0 : decide (x17_2 < (wrap64 ((Int.tmod (wrap64 ((x0_1.size : Int) - 1)) 18) + 1))) = true := decide_eq_true c3
       clear c3
       by_cases c4 : 0 ≤ x17_2
       ·rw [if_pos c4] at H
        have c4b0 : decide (0 ≤ x17_2) = true := decide_eq_true c4
        clear c4
        by_cases c5 : x17_2 < (x0_1.size : Int)
        ·rw [if_pos c5] at H
         have c5b0 : decide (x17_2 < (x0_1.size : Int)) = true := decide_eq_true c5
         clear c5
         have H' := Aside0.mk H
         clear H
         have p6 : 0 ≤ (x17_2 : Int) := of_decide_eq_true (by first | (with_reducible assumption) | assumption)
         have q6 : x17_2 < (x0_1.size : Int) := of_decide_eq_true (by first | (with_reducible assumption) | assumption)
         have hx6 := bt_at x0_1 x17_2
         replace p6 := eq_true p6
         replace q6 := eq_true q6
         go_wp2
         go_roundg k2
         case measure => have := HK1.out; have := HK2.out; omega
         case rel => exact ⟨(IntKind.u64.wrap ((IntKind.u64.wrap (10 * x5_2)) + (((bt x0_1 x17_2) - 48) % 256))), (IntKind.u64.wrap (x6_2 * 10)), (wrap64 (x17_2 + 1)), (by first | rfl | (simp; done) | (simp [*]; done)), (by first | rfl | (simp; done) | (simp [*]; done)), (by first | rfl | (simp; done) | (simp [*]; done)), H', ⟨by have := HK1.out; have := HK2.out; omega⟩, ⟨by (with_reducible repeat (first | apply Kd.V_alloc | apply Kd.V_drewN | apply Kd.V_drew)); exact HO_3.out⟩, ⟨by repeat (first | (with_reducible first | exact HB.out | apply bA | apply bN | apply bD) | exact HB.out)⟩⟩
        ·rw [if_neg c5] at H
         exact absurd H (by simp)
       ·rw [if_neg c4] at H
        exact absurd H (by simp)
      ·rw [if_neg c3] at H
       have c3b0 : decide (x17_2 < (wrap64 ((Int.tmod (wrap64 ((x0_1.size : Int) - 1)) 18) + 1))) = false := decide_eq_false c3
       clear c3
       obtain ⟨y311, hy311⟩ : ∃ y_ : List Int, y_ = (([x6_2] : List Int)) := ⟨_, rfl⟩
       replace H : ((mag_Mul.f k2 x3_1 y311).bind fun t314 => ((mag_Add.f k2 t314 (([x5_2] : List Int))).bind fun t320 => (if 0 ≤ (wrap64 ((Int.tmod (wrap64 ((x0_1.size : Int) - 1)) 18) + 1)) then (if (wrap64 ((Int.tmod (wrap64 ((x0_1.size : Int) - 1)) 18) + 1)) ≤ (x0_1.size : Int) then (deci_magnitude.l0 k2 (x0_1.extract ((wrap64 ((Int.tmod (wrap64 ((x0_1.size : Int) - 1)) 18) + 1)) : Int).toNat x0_1.size) t320) else (none)) else (none)))) = some r := by first | (rw [hy311]; with_reducible exact H) | (have H2_ := (Option.bind_some _ _).symm.trans H; rw [hy311]; with_reducible exact H2_) | (have H2_ := (Option.bind_some _ _).symm.trans H; with_reducible exact H2_) | with_reducible exact H | (rw [hy311]; exact H) | exact H
       have Ny311 := Aside0.mk hy311
       clear hy311
       replace H := Option.bind_eq_some_iff.mp H
       obtain ⟨t314, A70, H⟩ := H
       replace H : ((mag_Add.f k2 t314 (([x5_2] : List Int))).bind fun t320 => (if 0 ≤ (wrap64 ((Int.tmod (wrap64 ((x0_1.size : Int) - 1)) 18) + 1)) then (if (wrap64 ((Int.tmod (wrap64 ((x0_1.size : Int) - 1)) 18) + 1)) ≤ (x0_1.size : Int) then (deci_magnitude.l0 k2 (x0_1.extract ((wrap64 ((Int.tmod (wrap64 ((x0_1.size : Int) - 1)) 18) + 1)) : Int).toNat x0_1.size) t320) else (none)) else (none))) = some r := H
       have A7 := Aside0.mk A70
       clear A70
       obtain ⟨y317, hy317⟩ : ∃ y_ : List Int, y_ = (([x5_2] : List Int)) := ⟨_, rfl⟩
       replace H : ((mag_Add.f k2 t314 y317).bind fun t320 => (if 0 ≤ (wrap64 ((Int.tmod (wrap64 ((x0_1.size : Int) - 1)) 18) + 1)) then (if (wrap64 ((Int.tmod (wrap64 ((x0_1.size : Int) - 1)) 18) + 1)) ≤ (x0_1.size : Int) then (deci_magnitude.l0 k2 (x0_1.extract ((wrap64 ((Int.tmod (wrap64 ((x0_1.size : Int) - 1)) 18) + 1)) : Int).toNat x0_1.size) t320) else (none)) else (none))) = some r := by first | (rw [hy317]; with_reducible exact H) | (have H2_ := (Option.bind_some _ _).symm.trans H; rw [hy317]; with_reducible exact H2_) | (have H2_ := (Option.bind_some _ _).symm.trans H; with_reducible exact H2_) | with_reducible exact H | (rw [hy317]; exact H) | exact H
       have Ny317 := Aside0.mk hy317
       clear hy317
       replace H := Option.bind_eq_some_iff.mp H
       obtain ⟨t320, A80, H⟩ := H
       replace H : (if 0 ≤ (wrap64 ((Int.tmod (wrap64 ((x0_1.size : Int) - 1)) 18) + 1)) then (if (wrap64 ((Int.tmod (wrap64 ((x0_1.size : Int) - 1)) 18) + 1)) ≤ (x0_1.size : Int) then (deci_magnitude.l0 k2 (x0_1.extract ((wrap64 ((Int.tmod (wrap64 ((x0_1.size : Int) - 1)) 18) + 1)) : Int).toNat x0_1.size) t320) else (none)) else (none)) = some r := H
       have A8 := Aside0.mk A80
       clear A80
       obtain ⟨ji9, hji9⟩ : ∃ j_ : Int, (wrap64 ((Int.tmod (wrap64 ((x0_1.size : Int) - 1)) 18) + 1)) = j_ := ⟨_, rfl⟩
       replace H : (if 0 ≤ (ji9) then (if (ji9) ≤ (x0_1.size : Int) then (deci_magnitude.l0 k2 (x0_1.extract ((ji9) : Int).toNat x0_1.size) t320) else (none)) else (none)) = some r := by first | (rw [hji9] at H; exact H) | (simp only [hji9] at H ⊢; exact H)
       (try rw [hji9] at c3b0)
       (try rw [hji9] at A7)
       (try rw [hji9] at A8)
       have hji9w : (IntKind.i64.wrap ((Int.tmod (wrap64 ((x0_1.size : Int) - 1)) 18) + 1)) = ji9 := (i64_w _).trans hji9
       by_cases c10 : 0 ≤ (ji9)
       ·rw [if_pos c10] at H
        have c10b0 := eq_true c10
        have c10b1 : decide (0 ≤ (ji9)) = true := decide_eq_true c10
        clear c10
        by_cases c11 : (ji9) ≤ (x0_1.size : Int)
        ·rw [if_pos c11] at H
         have c11b0 := eq_true c11
         have c11b1 : decide ((ji9) ≤ (x0_1.size : Int)) = true := decide_eq_true c11
         clear c11
         have H' := Aside0.mk H
         clear H
         go_wp2_with (first | ((with_reducible refine gate_dst (N := 33) rfl ?_); refine Kd.R_lit (Kd.int .u64) _ 110 ?hg (N := 33) ?hd (xs := ([x6_2] : List Int)) (inner := [.int .u64 x6_2]) (ok := fun _ => True) (okp := fun _ => True) ?hr ?hp (fun _ hk => hk) trivial (Below.refl _ _) (Nat.le_refl _) (by simp) ?_; (case hd => rfl); (case hg => rfl); (case hr => first | (go_simp; done) | (go_simp; rfl)); (case hp => exact (Reps.one (show Kd.M (Kd.int .u64) _ _ _ x6_2 [.int .u64 x6_2] from rfl) (Reps.none _ _))); intro v312 w12 ho13 hb hg_ hnew_; clear hg_ hnew_; (first | rw [← Ny311.out] at ho13 | (simp only [Int.reduceToNat] at ho13; rw [← Ny311.out] at ho13)); have n0_ := Aside0.mk (Kd.V_elder' (gV HO_3.out) (Kd.R_base ho13) hb); have n1_ := Aside0.mk (Kd.R_lower (Kd.R_newM (M := fun k_ => (w.heap.size ≤ k_)) ho13 (below_size (gB HB.out)) (fun k_ h_ => h_)) (below_size (gB HB.out))); have n2_ := Aside0.mk (below_step (gB HB.out) hb); clear HO_3; clear HB; have HO_3 := n0_; have HO313 := n1_; have HB := n2_; clear n0_ n1_ n2_; clear hb ho13; obtain ⟨Ao14, co14, eo14⟩ := Kd.V_slice HO_3.out; subst eo14; obtain ⟨Ao15, co15, eo15⟩ := Kd.R_slice HO313.out; subst eo15) | ((with_reducible refine gate_callee (f := 74) rfl ?_); refine goesL_ (some 34) rfl rfl Tryz.func74 (by kernel_rfl) rfl #[.slice Ao14 x3_1.length co14, .slice Ao15 y311.length co15] rfl (by (try simp only [List.map_toArray, List.map_cons, List.map_nil]); first | done | rfl | (simp only [List.length_drop, List.length_take]; rfl)) ?_; (with_reducible refine (mag_Mul.calls k2 _ _ x3_1 _ _ y311 t314 _ ?side1 ?side2 ?side3 ?side4 A7.out).mono ?_); (case side1 => repeat (first | exact (Kd.V_reads' HO_3.out).2.2 | (with_reducible refine Kd.C_alloc ?_ _) | (with_reducible refine Kd.C_drewN ?_ _) | (with_reducible refine Kd.C_drew ?_))); (case side2 => exact (Kd.V_reads' HO_3.out).2.1); (case side3 => repeat (first | exact (Kd.R_reads' HO313.out).2.2 | (with_reducible refine Kd.C_alloc ?_ _) | (with_reducible refine Kd.C_drewN ?_ _) | (with_reducible refine Kd.C_drew ?_))); (case side4 => exact (Kd.R_reads' HO313.out).2.1); rintro e w16 ⟨v315, rfl, ho0, hb⟩; refine ⟨_, rfl, ?_⟩; have n0_ := Aside0.mk (Kd.V_below (gV HO_3.out) hb); have n1_ := Aside0.mk (Kd.R_below (gR HO313.out) hb); have n2_ := Aside0.mk (Kd.V_lower (Kd.V_mono (ok' := fun k_ => (w.heap.size ≤ k_) ∧ some k_ ≠ (.slice Ao15 y311.length co15 : Value).ownBlock) ho0 (fun k_ hk_ => ⟨(Nat.le_trans (below_size (gB HB.out)) hk_), (Kd.fresh' (Kd.R_lt (gR HO313.out)) k_ hk_)⟩)) (below_size (gB HB.out))); have n3_ := Aside0.mk (below_step (gB HB.out) hb); clear HO_3; clear HO313; clear HB; have HO_3 := n0_; have HO313 := n1_; have HO316 := n2_; have HB := n3_; clear n0_ n1_ n2_ n3_; (try clear hb); (try clear hb2); (try clear hk); (try clear hi); (try clear ho0)) | ((with_reducible refine gate_dst (N := 36) rfl ?_); refine Kd.R_lit (Kd.int .u64) _ 110 ?hg (N := 36) ?hd (xs := ([x5_2] : List Int)) (inner := [.int .u64 x5_2]) (ok := fun _ => True) (okp := fun _ => True) ?hr ?hp (fun _ hk => hk) trivial (Below.refl _ _) (Nat.le_refl _) (by simp) ?_; (case hd => rfl); (case hg => rfl); (case hr => first | (go_simp; done) | (go_simp; rfl)); (case hp => exact (Reps.one (show Kd.M (Kd.int .u64) _ _ _ x5_2 [.int .u64 x5_2] from rfl) (Reps.none _ _))); intro v318 w17 ho18 hb hg_ hnew_; clear hg_ hnew_; (first | rw [← Ny317.out] at ho18 | (simp only [Int.reduceToNat] at ho18; rw [← Ny317.out] at ho18)); have n0_ := Aside0.mk (Kd.V_elder' (gV HO_3.out) (Kd.R_base ho18) hb); have n1_ := Aside0.mk (Kd.R_elder' (gR HO313.out) (Kd.R_base ho18) hb); have n2_ := Aside0.mk (Kd.V_elder' (gV HO316.out) (Kd.R_base ho18) hb); have n3_ := Aside0.mk (Kd.R_lower (Kd.R_new' (Kd.R_newM (M := fun k_ => (w.heap.size ≤ k_)) ho18 (below_size (gB HB.out)) (fun k_ h_ => h_)) (Kd.R_lt (gR HO313.out))) (below_size (gB HB.out))); have n4_ := Aside0.mk (below_step (gB HB.out) hb); clear HO_3; clear HO313; clear HO316; clear HB; have HO_3 := n0_; have HO313 := n1_; have HO316 := n2_; have HO319 := n3_; have HB := n4_; clear n0_ n1_ n2_ n3_ n4_; clear hb ho18; obtain ⟨Ao19, co19, eo19⟩ := Kd.V_slice HO316.out; subst eo19; obtain ⟨Ao20, co20, eo20⟩ := Kd.R_slice HO319.out; subst eo20) | ((with_reducible refine gate_callee (f := 73) rfl ?_); refine goesL_ (some 37) rfl rfl Tryz.func73 (by kernel_rfl) rfl #[.slice Ao19 t314.length co19, .slice Ao20 y317.length co20] rfl (by (try simp only [List.map_toArray, List.map_cons, List.map_nil]); first | done | rfl | (simp only [List.length_drop, List.length_take]; rfl)) ?_; (with_reducible refine (mag_Add.calls k2 (fun k_ => (((w.heap.size ≤ k_) ∧ some k_ ≠ (.slice Ao15 y311.length co15 : Value).ownBlock) ∧ some k_ ≠ (.slice Ao20 y317.length co20 : Value).ownBlock)) _ _ t314 (fun k_ => some k_ = (.slice Ao20 y317.length co20 : Value).ownBlock) _ _ y317 t320 _ ?side1 ?side2 A8.out).mono ?_); (case side1 => exact HO316.out); (case side2 => exact Kd.R_V (Kd.R_tight rfl (HO319.out))); rintro e w21 ⟨v321, rfl, ho0, hb⟩; refine ⟨_, rfl, ?_⟩; have n0_ := Aside0.mk (Kd.V_below (gV HO_3.out) hb); have n1_ := Aside0.mk (Kd.R_below (gR HO313.out) hb); have n2_ := Aside0.mk (Kd.V_below (gV HO316.out) hb); have n3_ := Aside0.mk (Kd.R_below (gR HO319.out) hb); have n4_ := Aside0.mk (Kd.V_lower (Kd.V_mono (ok' := fun k_ => (w.heap.size ≤ k_) ∧ some k_ ≠ (.slice Ao15 y311.length co15 : Value).ownBlock) ho0 (fun k_ hk_ => ⟨Or.elim hk_ (fun hs_ => Or.elim hs_ (fun hs_ => hs_.1.1) (fun hs_ => ((HO319.out).1 k_ hs_.symm).1.1)) (fun hn_ => (Nat.le_trans (below_size (gB HB.out)) hn_)), Or.elim hk_ (fun hs_ => Or.elim hs_ (fun hs_ => hs_.1.2) (fun hs_ => ((HO319.out).1 k_ hs_.symm).2)) (fun hn_ => (Kd.fresh' (Kd.R_lt (gR HO313.out)) k_ hn_))⟩)) (below_size (gB HB.out))); have n5_ := Aside0.mk (below_step (gB HB.out) hb); clear HO_3; clear HO313; clear HO316; clear HO319; clear HB; have HO_3 := n0_; have HO313 := n1_; have HO316 := n2_; have HO319 := n3_; have HO322 := n4_; have HB := n5_; clear n0_ n1_ n2_ n3_ n4_ n5_; (try clear hb); (try clear hb2); (try clear hk); (try clear hi); (try clear ho0)))
         go_roundg k2
         case measure => have := HK1.out; have := HK2.out; omega
         case rel => exact ⟨(x0_1.extract ((ji9) : Int).toNat x0_1.size), (t320), (by first | rfl | (simp; done) | (simp only [← hji9] <;> (first | rfl | simp)) | (simp [*]; done)), H', ⟨by have := HK1.out; have := HK2.out; omega⟩, ⟨by (with_reducible repeat (first | apply Kd.V_alloc | apply Kd.V_drewN | apply Kd.V_drew)); exact Kd.V_mono HO322.out (fun _ hk => hk.1)⟩, ⟨by repeat (first | (with_reducible first | exact HB.out | apply bA | apply bN | apply bD) | exact HB.out)⟩⟩
        ·rw [if_neg c11] at H
         exact absurd H (by simp)
       ·rw [if_neg c10] at H
        exact absurd H (by simp)
   ·rw [if_neg c2] at H
    have c2b0 : decide (0 < (x0_1.size : Int)) = false := decide_eq_false c2
    have c2b1 : decide (0 < x0_1.size) = false := decide_eq_false (by omega)
    clear c2
    obtain rfl := Option.some.inj H
    go_wp2
    go_ret
    exact ⟨_, by first | rfl | (simp [errW_none, errW_some] <;> rfl) | (simp [*, errW_none, errW_some] <;> rfl), by (with_reducible repeat (first | apply Kd.V_alloc | apply Kd.V_drewN | apply Kd.V_drew)); exact HO_3.out, by repeat (first | (with_reducible first | exact HB.out | apply bA | apply bN | apply bD) | exact HB.out)⟩

end Go.Proofs.YtknekneicecgiaaGreatDoor.M
