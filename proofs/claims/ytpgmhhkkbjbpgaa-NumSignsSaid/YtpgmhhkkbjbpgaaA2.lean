-- By drive.py (this session's program), out of the translation. Lean checks it.
import Derived.Test.YtpgmhhkkbjbpgaaA0
import Derived.Test.YtpgmhhkkbjbpgaaA1
namespace Go.Proofs.Ytpgmhhkkbjbpgaa.M
open Go.Proofs.Ytpgmhhkkbjbpgaa.MB Go.Proofs.Ytpgmhhkkbjbpgaa
open Go.RowKit Go.Proofs.YtpgmhhkkbjbpgaaW.PrintWords Go.Proofs.YtpgmhhkkbjbpgaaW.PrintLast Go.Proofs.YtpgmhhkkbjbpgaaW.PrintMore
attribute [local go_sem] max2_int min2_int max_two min_two max_three min_three max_four min_four   -- for this text's walks alone
set_option linter.unusedVariables false
set_option linter.unusedSimpArgs false
attribute [local go_sem] add64_run sub64_run

/-! ### mag_Up: function 49 -/
def mag_Up.l0 : Nat → Int → List Int → Int → List Int → Int → Int → Option (List Int)
 | 0, _, _, _, _, _, _ => none
 | k + 1, x1, x5, x6, x27, x28, x29 => if x29 < x28 then (if 0 ≤ x29 then (if x29 < (x27.length : Int) then (if 0 ≤ (wrap64 ((x1 / 64) + x29)) then (if (wrap64 ((x1 / 64) + x29)) < (x5.length : Int) then ((some (x5.set ((wrap64 ((x1 / 64) + x29)) : Int).toNat (Go.bits .or .u64 (rd x5 (wrap64 ((x1 / 64) + x29))) (IntKind.u64.wrap ((rd x27 x29) * 2 ^ x6.toNat))) : List Int)).bind fun y166 => (if x6 > 0 then (if 0 ≤ (wrap64 ((wrap64 ((x1 / 64) + x29)) + 1)) then (if (wrap64 ((wrap64 ((x1 / 64) + x29)) + 1)) < (x5.length : Int) then (mag_Up.l0 k x1 (y166.set ((wrap64 ((wrap64 ((x1 / 64) + x29)) + 1)) : Int).toNat ((rd x27 x29) / 2 ^ (64 - x6).toNat)) x6 x27 x28 (wrap64 (x29 + 1))) else (none)) else (none)) else (mag_Up.l0 k x1 y166 x6 x27 x28 (wrap64 (x29 + 1))))) else (none)) else (none)) else (none)) else (none)) else ((mag_right.f k x5).bind fun t168 => (some t168))
def mag_Up.f (k : Nat) (l0 : List Int) (a1 : Int) : Option (List Int) := (mag_right.f k l0).bind fun t158 => (if (t158.length : Int) = 0 then (some ([] : List Int)) else (if 0 ≤ (wrap64 ((wrap64 (((mn (mx a1 0) 8192) / 64) + (t158.length : Int))) + 1)) then (if (wrap64 ((wrap64 (((mn (mx a1 0) 8192) / 64) + (t158.length : Int))) + 1) : Int).toNat ≤ 35184372088832 then (mag_Up.l0 k (mn (mx a1 0) 8192) (List.replicate (wrap64 ((wrap64 (((mn (mx a1 0) 8192) / 64) + (t158.length : Int))) + 1) : Int).toNat 0) ((mn (mx a1 0) 8192) % 64) t158 (t158.length : Int) 0) else (none)) else (none)))
theorem mag_Up.mono_l : ∀ k, (∀ y0 y1 y2 y3 y4 y5, LeO (mag_Up.l0 k y0 y1 y2 y3 y4 y5) (mag_Up.l0 (k + 1) y0 y1 y2 y3 y4 y5))
 | 0 => fun _ _ _ _ _ _ r h => by simp [mag_Up.l0] at h
 | k + 1 => by
  have ih0 := mag_Up.mono_l k
  ·intro y0 y1 y2 y3 y4 y5
   unfold mag_Up.l0
   repeat' first
   | (with_reducible exact ih0 _ _ _ _ _ _)
   | (with_reducible exact mag_right.mono _ _)
   | (with_reducible exact LeO.refl _)
   | (with_reducible exact LeO.none _)
   | (with_reducible refine LeO.ite ?_ ?_)
   | (with_reducible refine LeO.bind ?_ (fun _ => ?_))
   | exact ih0 _ _ _ _ _ _
   | exact mag_right.mono _ _
   | exact LeO.none _
   | refine LeO.ite ?_ ?_
   | refine LeO.bind ?_ (fun _ => ?_)
theorem mag_Up.mono : ∀ a0 a1 k, LeO (mag_Up.f k a0 a1) (mag_Up.f (k + 1) a0 a1) := by
 intro a0 a1 k
 have ih0 := mag_Up.mono_l k
 unfold mag_Up.f
 repeat' first
   | (with_reducible exact ih0 _ _ _ _ _ _)
   | (with_reducible exact mag_right.mono _ _)
   | (with_reducible exact LeO.refl _)
   | (with_reducible exact LeO.none _)
   | (with_reducible refine LeO.ite ?_ ?_)
   | (with_reducible refine LeO.bind ?_ (fun _ => ?_))
   | exact ih0 _ _ _ _ _ _
   | exact mag_right.mono _ _
   | exact LeO.none _
   | refine LeO.ite ?_ ?_
   | refine LeO.bind ?_ (fun _ => ?_)
set_option maxHeartbeats 8000000 in
set_option maxRecDepth 100000 in
theorem mag_Up.calls (k : Nat) (P0_ : Nat → Prop) (A0 : Option Addr) (c0 : Nat) (l0 : List Int) (a1 : Int) (r : List Int) (w : World) (hs0 : Kd.V (Kd.int .u64) 54 w w.heap.size (fun k_ => P0_ k_) (.slice A0 l0.length c0) l0) (h : mag_Up.f k l0 a1 = some r) :
  Calls Try.prog 49 #[.slice A0 l0.length c0, .int .i64 a1] w fun e w' => ∃ v0_ : Value, e = .returned (v0_) ∧ Kd.V (Kd.int .u64) 54 w' w.heap.size (fun k_ => (P0_ k_ ∨ w.heap.size ≤ k_)) v0_ r ∧ Below w.heap.size w w' := by
 have HO0 := Aside0.mk (show Kd.V (Kd.int .u64) 54 w w.heap.size (fun k_ => (P0_ k_ ∨ w.heap.size ≤ k_)) (.slice A0 l0.length c0) l0 from Kd.V_mono hs0 (fun k_ hk => .inl hk))
 have HB := Aside0.mk (Below.refl w.heap.size w)
 have H : ((mag_right.f k l0).bind fun t158 => (if (t158.length : Int) = 0 then (some ([] : List Int)) else (if 0 ≤ (wrap64 ((wrap64 (((mn (mx a1 0) 8192) / 64) + (t158.length : Int))) + 1)) then (if (wrap64 ((wrap64 (((mn (mx a1 0) 8192) / 64) + (t158.length : Int))) + 1) : Int).toNat ≤ 35184372088832 then (mag_Up.l0 k (mn (mx a1 0) 8192) (List.replicate (wrap64 ((wrap64 (((mn (mx a1 0) 8192) / 64) + (t158.length : Int))) + 1) : Int).toNat 0) ((mn (mx a1 0) 8192) % 64) t158 (t158.length : Int) 0) else (none)) else (none)))) = some r := h
 clear h
 obtain ⟨ji3, hji3⟩ : ∃ j_ : Int, (mx a1 0) = j_ := ⟨_, rfl⟩
 replace H : ((mag_right.f k l0).bind fun t158 => (if (t158.length : Int) = 0 then (some ([] : List Int)) else (if 0 ≤ (wrap64 ((wrap64 (((mn (ji3) 8192) / 64) + (t158.length : Int))) + 1)) then (if (wrap64 ((wrap64 (((mn (ji3) 8192) / 64) + (t158.length : Int))) + 1) : Int).toNat ≤ 35184372088832 then (mag_Up.l0 k (mn (ji3) 8192) (List.replicate (wrap64 ((wrap64 (((mn (ji3) 8192) / 64) + (t158.length : Int))) + 1) : Int).toNat 0) ((mn (ji3) 8192) % 64) t158 (t158.length : Int) 0) else (none)) else (none)))) = some r := by first | (rw [hji3] at H; exact H) | (simp only [hji3] at H ⊢; exact H)
 (try (have hji3l : 0 ≤ ji3 := by (rw [← hji3]; unfold mx; (repeat' split) <;> omega)))
 (try (have hji3m : 0 ≤ ji3 := by omega))
 have hji3_ : (if a1 < 0 then 0 else a1) = ji3 := hji3
 obtain ⟨ji4, hji4⟩ : ∃ j_ : Int, (mn (ji3) 8192) = j_ := ⟨_, rfl⟩
 replace H : ((mag_right.f k l0).bind fun t158 => (if (t158.length : Int) = 0 then (some ([] : List Int)) else (if 0 ≤ (wrap64 ((wrap64 (((ji4) / 64) + (t158.length : Int))) + 1)) then (if (wrap64 ((wrap64 (((ji4) / 64) + (t158.length : Int))) + 1) : Int).toNat ≤ 35184372088832 then (mag_Up.l0 k ji4 (List.replicate (wrap64 ((wrap64 (((ji4) / 64) + (t158.length : Int))) + 1) : Int).toNat 0) ((ji4) % 64) t158 (t158.length : Int) 0) else (none)) else (none)))) = some r := by first | (rw [hji4] at H; exact H) | (simp only [hji4] at H ⊢; exact H)
 have hji4_ : (if 8192 < (ji3) then 8192 else (ji3)) = ji4 := hji4
 replace H := Option.bind_eq_some_iff.mp H
 obtain ⟨t158, A50, H⟩ := H
 replace H : (if (t158.length : Int) = 0 then (some ([] : List Int)) else (if 0 ≤ (wrap64 ((wrap64 (((ji4) / 64) + (t158.length : Int))) + 1)) then (if (wrap64 ((wrap64 (((ji4) / 64) + (t158.length : Int))) + 1) : Int).toNat ≤ 35184372088832 then (mag_Up.l0 k ji4 (List.replicate (wrap64 ((wrap64 (((ji4) / 64) + (t158.length : Int))) + 1) : Int).toNat 0) ((ji4) % 64) t158 (t158.length : Int) 0) else (none)) else (none))) = some r := H
 have A5 := Aside0.mk A50
 clear A50
 by_cases c6 : (t158.length : Int) = 0
 ·rw [if_pos c6] at H
  have c6b0 : ((t158.length : Int) == 0) = true := beq_iff_eq.mpr c6
  have c6b1 : ((t158.length : Int) != 0) = false := bne_eq_false_iff_eq.mpr c6
  clear c6
  obtain rfl := Option.some.inj H
  go_enter Try.func49, Try.ntmps49
  go_wp2_with (first | ((with_reducible refine gate_callee (f := 44) rfl ?_); refine goesL_ (some 13) rfl rfl Try.func44 (by kernel_rfl) rfl #[.slice A0 l0.length c0] rfl (by (try simp only [List.map_toArray, List.map_cons, List.map_nil]); first | done | rfl | (simp only [List.length_drop, List.length_take]; rfl)) ?_; (with_reducible refine (mag_right.calls k (fun k_ => (P0_ k_ ∨ w.heap.size ≤ k_)) _ _ l0 t158 _ ?side1 A5.out).mono ?_); (case side1 => exact HO0.out); rintro e w7 ⟨v159, rfl, ho0, hb⟩; refine ⟨_, rfl, ?_⟩; have n0_ := Aside0.mk (Kd.V_below (gV HO0.out) hb); have n1_ := Aside0.mk (Kd.V_lower (Kd.V_mono (ok' := fun k_ => (P0_ k_ ∨ w.heap.size ≤ k_)) ho0 (fun k_ hk_ => Or.elim hk_ (fun hs_ => hs_) (fun hn_ => (.inr (Nat.le_trans (below_size (gB HB.out)) hn_))))) (below_size (gB HB.out))); have n2_ := Aside0.mk (below_step (gB HB.out) hb); clear HO0; clear HB; have HO0 := n0_; have HO160 := n1_; have HB := n2_; clear n0_ n1_ n2_; (try clear hb); (try clear hb2); (try clear hk); (try clear hi); (try clear ho0); obtain ⟨Ao8, co8, eo8⟩ := Kd.V_slice HO160.out; subst eo8))
  go_ret
  exact ⟨_, by first | rfl | (simp [errW_none, errW_some] <;> rfl) | (simp only [← hji3, ← hji4]; first | rfl | (simp [errW_none, errW_some] <;> rfl)) | (simp [*, errW_none, errW_some] <;> rfl), Kd.V_nil _ _ _ _ _, by repeat (first | (with_reducible first | exact HB.out | apply bA | apply bN | apply bD) | exact HB.out)⟩
 ·rw [if_neg c6] at H
  have c6b0 : ((t158.length : Int) == 0) = false := beq_eq_false_iff_ne.mpr c6
  have c6b1 : ((t158.length : Int) != 0) = true := bne_iff_ne.mpr c6
  have c6b2 : ¬ (t158 = []) := fun h_ => c6 (by rw [h_]; rfl)
  obtain ⟨ji9, hji9⟩ : ∃ j_ : Int, (wrap64 ((wrap64 (((ji4) / 64) + (t158.length : Int))) + 1)) = j_ := ⟨_, rfl⟩
  replace H : (if 0 ≤ (ji9) then (if (ji9 : Int).toNat ≤ 35184372088832 then (mag_Up.l0 k ji4 (List.replicate (ji9 : Int).toNat 0) ((ji4) % 64) t158 (t158.length : Int) 0) else (none)) else (none)) = some r := by first | (rw [hji9] at H; exact H) | (simp only [hji9] at H ⊢; exact H)
  (try rw [hji9] at A5)
  have hji9w : (IntKind.i64.wrap ((wrap64 (((ji4) / 64) + (t158.length : Int))) + 1)) = ji9 := (i64_w _).trans hji9
  by_cases c10 : 0 ≤ (ji9)
  ·rw [if_pos c10] at H
   have c10b0 := eq_true c10
   have c10b1 : decide (0 ≤ (ji9)) = true := decide_eq_true c10
   clear c10
   by_cases c11 : (ji9 : Int).toNat ≤ 35184372088832
   ·rw [if_pos c11] at H
    have c11b0 := eq_true c11
    have c11b1 : decide ((ji9 : Int).toNat ≤ 35184372088832) = true := decide_eq_true c11
    clear c11
    obtain ⟨y161, hy161⟩ : ∃ y_ : List Int, y_ = (List.replicate (ji9 : Int).toNat 0) := ⟨_, rfl⟩
    replace H : (mag_Up.l0 k ji4 y161 ((ji4) % 64) t158 (t158.length : Int) 0) = some r := by first | (rw [hy161]; with_reducible exact H) | (have H2_ := (Option.bind_some _ _).symm.trans H; rw [hy161]; with_reducible exact H2_) | (have H2_ := (Option.bind_some _ _).symm.trans H; with_reducible exact H2_) | with_reducible exact H | (rw [hy161]; exact H) | exact H
    have Ny161 := Aside0.mk hy161
    clear hy161
    have H' := Aside0.mk H
    clear H
    go_enter Try.func49, Try.ntmps49
    go_wp2_with (first | ((with_reducible refine gate_callee (f := 44) rfl ?_); refine goesL_ (some 13) rfl rfl Try.func44 (by kernel_rfl) rfl #[.slice A0 l0.length c0] rfl (by (try simp only [List.map_toArray, List.map_cons, List.map_nil]); first | done | rfl | (simp only [List.length_drop, List.length_take]; rfl)) ?_; (with_reducible refine (mag_right.calls k (fun k_ => (P0_ k_ ∨ w.heap.size ≤ k_)) _ _ l0 t158 _ ?side1 A5.out).mono ?_); (case side1 => exact HO0.out); rintro e w12 ⟨v159, rfl, ho0, hb⟩; refine ⟨_, rfl, ?_⟩; have n0_ := Aside0.mk (Kd.V_below (gV HO0.out) hb); have n1_ := Aside0.mk (Kd.V_lower (Kd.V_mono (ok' := fun k_ => (P0_ k_ ∨ w.heap.size ≤ k_)) ho0 (fun k_ hk_ => Or.elim hk_ (fun hs_ => hs_) (fun hn_ => (.inr (Nat.le_trans (below_size (gB HB.out)) hn_))))) (below_size (gB HB.out))); have n2_ := Aside0.mk (below_step (gB HB.out) hb); clear HO0; clear HB; have HO0 := n0_; have HO160 := n1_; have HB := n2_; clear n0_ n1_ n2_; (try clear hb); (try clear hb2); (try clear hk); (try clear hi); (try clear ho0); obtain ⟨Ao13, co13, eo13⟩ := Kd.V_slice HO160.out; subst eo13) | ((with_reducible refine gate_dst (N := 23) rfl ?_); refine Kd.R_make (Kd.int .u64) _ 54 rfl (N := 23) rfl 23 _ _ rfl ji9 rfl rfl Try.underlying23 (.int .u64 0) 8 info54 rfl (by decide) (by omega) 0 (ok := fun _ => True) (okp := fun _ => True) rfl (fun _ hk => hk) trivial (of_decide_eq_true (by first | (with_reducible assumption) | assumption)) (Nat.le_trans (Nat.mul_le_mul_right _ (of_decide_eq_true (by first | (with_reducible assumption) | assumption) : ji9.toNat ≤ 35184372088832)) (by omega)) (Below.refl _ _) (Nat.le_refl _) ?_; intro v162 w14 ho15 hb hg_ hnew_; clear hg_ hnew_; (first | rw [← Ny161.out] at ho15 | (simp only [Int.reduceToNat] at ho15; rw [← Ny161.out] at ho15)); have n0_ := Aside0.mk (Kd.V_elder' (gV HO0.out) (Kd.R_base ho15) hb); have n1_ := Aside0.mk (Kd.V_elder' (gV HO160.out) (Kd.R_base ho15) hb); have n2_ := Aside0.mk (Kd.R_lower (Kd.R_newM (M := fun k_ => (w.heap.size ≤ k_)) ho15 (below_size (gB HB.out)) (fun k_ h_ => h_)) (below_size (gB HB.out))); have n3_ := Aside0.mk (below_step (gB HB.out) hb); clear HO0; clear HO160; clear HB; have HO0 := n0_; have HO160 := n1_; have HO163 := n2_; have HB := n3_; clear n0_ n1_ n2_ n3_; clear hb ho15))
    go_loopg [29] k (fun kq v29 w' => ∃ (x5_1 : List Int) (x29_1 : Int), v29 = .int .i64 x29_1 ∧ Aside0 (mag_Up.l0 kq ji4 x5_1 ((ji4) % 64) t158 (t158.length : Int) x29_1 = some r) ∧ Aside0 (kq ≤ k) ∧ Aside0 (Kd.R (Kd.int .u64) 54 w' w.heap.size (fun k_ => (w.heap.size ≤ k_)) v162 x5_1) ∧ Aside0 (Kd.V (Kd.int .u64) 54 w' w.heap.size (fun k_ => (P0_ k_ ∨ w.heap.size ≤ k_) ∧ some k_ ≠ (v162 : Value).ownBlock) (.slice Ao13 t158.length co13) t158) ∧ Aside0 (Below w.heap.size w w'))
    case atStart => exact ⟨(y161), (0), (by first | rfl | (simp; done) | (simp [*]; done)), H', ⟨Nat.le_refl _⟩, ⟨by (with_reducible repeat (first | apply Kd.R_alloc | apply Kd.R_drewN | apply Kd.R_drew)); exact Kd.R_mono HO163.out (fun _ hk => hk.1)⟩, ⟨by (with_reducible repeat (first | apply Kd.V_alloc | apply Kd.V_drewN | apply Kd.V_drew)); exact HO160.out⟩, ⟨by repeat (first | (with_reducible first | exact HB.out | apply bA | apply bN | apply bD) | exact HB.out)⟩⟩
    case round =>
     clear H'
     try clear c1
     try clear p2
     try clear c4
     try clear c6
     try clear c6b0
     try clear c6b1
     try clear c6b2
     try clear p6
     try clear c10
     try clear c10b0
     try clear c10b1
     try clear c11
     try clear c11b0
     try clear c11b1
     obtain ⟨x5_1, x29_1, rfl, HA, HK1, HO_5, HO_27, HB⟩ := hrel
     cases gk with
     | zero => exact absurd HA.out (by simp [mag_Up.l0])
     | succ k1 =>
      have H := HA.out
      clear HA
      simp only [mag_Up.l0] at H
      by_cases c16 : x29_1 < (t158.length : Int)
      ·rw [if_pos c16] at H
       have c16b0 : decide (x29_1 < (t158.length : Int)) = true := decide_eq_true c16
       clear c16
       by_cases c17 : 0 ≤ x29_1
       ·rw [if_pos c17] at H
        have c17b0 : decide (0 ≤ x29_1) = true := decide_eq_true c17
        clear c17
        by_cases c18 : x29_1 < (t158.length : Int)
        ·rw [if_pos c18] at H
         have c18b0 : decide (x29_1 < (t158.length : Int)) = true := decide_eq_true c18
         clear c18
         obtain ⟨ji19, hji19⟩ : ∃ j_ : Int, (wrap64 ((ji4 / 64) + x29_1)) = j_ := ⟨_, rfl⟩
         replace H : (if 0 ≤ (ji19) then (if (ji19) < (x5_1.length : Int) then ((some (x5_1.set ((ji19) : Int).toNat (Go.bits .or .u64 (rd x5_1 (ji19)) (IntKind.u64.wrap ((rd t158 x29_1) * 2 ^ ((ji4) % 64).toNat))) : List Int)).bind fun y166 => (if ((ji4) % 64) > 0 then (if 0 ≤ (wrap64 ((ji19) + 1)) then (if (wrap64 ((ji19) + 1)) < (x5_1.length : Int) then (mag_Up.l0 k1 ji4 (y166.set ((wrap64 ((ji19) + 1)) : Int).toNat ((rd t158 x29_1) / 2 ^ (64 - ((ji4) % 64)).toNat)) ((ji4) % 64) t158 (t158.length : Int) (wrap64 (x29_1 + 1))) else (none)) else (none)) else (mag_Up.l0 k1 ji4 y166 ((ji4) % 64) t158 (t158.length : Int) (wrap64 (x29_1 + 1))))) else (none)) else (none)) = some r := by first | (rw [hji19] at H; exact H) | (simp only [hji19] at H ⊢; exact H)
         have hji19w : (IntKind.i64.wrap ((ji4 / 64) + x29_1)) = ji19 := (i64_w _).trans hji19
         by_cases c20 : 0 ≤ (ji19)
         ·rw [if_pos c20] at H
          have c20b0 : decide (0 ≤ (ji19)) = true := decide_eq_true c20
          clear c20
          by_cases c21 : (ji19) < (x5_1.length : Int)
          ·rw [if_pos c21] at H
           have c21b0 : decide ((ji19) < (x5_1.length : Int)) = true := decide_eq_true c21
           clear c21
           obtain ⟨y166, hy166⟩ : ∃ y_ : List Int, y_ = (x5_1.set ((ji19) : Int).toNat (Go.bits .or .u64 (rd x5_1 (ji19)) (IntKind.u64.wrap ((rd t158 x29_1) * 2 ^ ((ji4) % 64).toNat)))) := ⟨_, rfl⟩
           replace H : (if ((ji4) % 64) > 0 then (if 0 ≤ (wrap64 ((ji19) + 1)) then (if (wrap64 ((ji19) + 1)) < (x5_1.length : Int) then (mag_Up.l0 k1 ji4 (y166.set ((wrap64 ((ji19) + 1)) : Int).toNat ((rd t158 x29_1) / 2 ^ (64 - ((ji4) % 64)).toNat)) ((ji4) % 64) t158 (t158.length : Int) (wrap64 (x29_1 + 1))) else (none)) else (none)) else (mag_Up.l0 k1 ji4 y166 ((ji4) % 64) t158 (t158.length : Int) (wrap64 (x29_1 + 1)))) = some r := by first | (rw [hy166]; with_reducible exact H) | (have H2_ := (Option.bind_some _ _).symm.trans H; rw [hy166]; with_reducible exact H2_) | (have H2_ := (Option.bind_some _ _).symm.trans H; with_reducible exact H2_) | with_reducible exact H | (rw [hy166]; exact H) | exact H
           have Ny166 := Aside0.mk hy166
           clear hy166
           by_cases c23 : ((ji4) % 64) > 0
           ·rw [if_pos c23] at H
            have c23b0 : decide (0 < ((ji4) % 64)) = true := decide_eq_true c23
            clear c23
            obtain ⟨ji24, hji24⟩ : ∃ j_ : Int, (wrap64 ((ji19) + 1)) = j_ := ⟨_, rfl⟩
            replace H : (if 0 ≤ (ji24) then (if (ji24) < (x5_1.length : Int) then (mag_Up.l0 k1 ji4 (y166.set ((ji24) : Int).toNat ((rd t158 x29_1) / 2 ^ (64 - ((ji4) % 64)).toNat)) ((ji4) % 64) t158 (t158.length : Int) (wrap64 (x29_1 + 1))) else (none)) else (none)) = some r := by first | (rw [hji24] at H; exact H) | (simp only [hji24] at H ⊢; exact H)
            have hji24w : (IntKind.i64.wrap ((ji19) + 1)) = ji24 := (i64_w _).trans hji24
            by_cases c25 : 0 ≤ (ji24)
            ·rw [if_pos c25] at H
             have c25b0 : decide (0 ≤ (ji24)) = true := decide_eq_true c25
             clear c25
             by_cases c26 : (ji24) < (x5_1.length : Int)
             ·rw [if_pos c26] at H
              have c26b0 : decide ((ji24) < (x5_1.length : Int)) = true := decide_eq_true c26
              clear c26
              obtain ⟨y167, hy167⟩ : ∃ y_ : List Int, y_ = (y166.set ((ji24) : Int).toNat ((rd t158 x29_1) / 2 ^ (64 - ((ji4) % 64)).toNat)) := ⟨_, rfl⟩
              replace H : (mag_Up.l0 k1 ji4 y167 ((ji4) % 64) t158 (t158.length : Int) (wrap64 (x29_1 + 1))) = some r := by first | (rw [hy167]; with_reducible exact H) | (have H2_ := (Option.bind_some _ _).symm.trans H; rw [hy167]; with_reducible exact H2_) | (have H2_ := (Option.bind_some _ _).symm.trans H; with_reducible exact H2_) | with_reducible exact H | (rw [hy167]; exact H) | exact H
              have Ny167 := Aside0.mk hy167
              clear hy167
              have H' := Aside0.mk H
              clear H
              have p164 : 0 ≤ (x29_1 : Int) := of_decide_eq_true (by first | (with_reducible assumption) | assumption)
              have q164 : x29_1 < (t158.length : Int) := of_decide_eq_true (by first | (with_reducible assumption) | assumption)
              obtain ⟨ad164, e164, hx164_0⟩ := Kd.at_int (Kd.V_reads' HO_27.out).2.2 x29_1 p164 q164
              cases e164
              replace p164 := eq_true p164
              replace q164 := eq_true q164
              obtain ⟨Ao28, co28, eo28⟩ := Kd.R_slice HO_5.out
              subst eo28
              have p165 : 0 ≤ ((ji19) : Int) := of_decide_eq_true (by first | (with_reducible assumption) | assumption)
              have q165 : (ji19) < (x5_1.length : Int) := of_decide_eq_true (by first | (with_reducible assumption) | assumption)
              obtain ⟨ad165, e165, hx165_0⟩ := Kd.at_int (Kd.R_reads' HO_5.out).2.2 (ji19) p165 q165
              cases e165
              replace p165 := eq_true p165
              replace q165 := eq_true q165
              have p22 : 0 ≤ ((ji19) : Int) := of_decide_eq_true (by first | (with_reducible assumption) | assumption)
              have q22 : ((ji19) : Int) < ((x5_1.length : Int) : Int) := of_decide_eq_true (by first | (with_reducible assumption) | assumption)
              obtain ⟨go22, co22, eo22, gb22, gl22, cl22, HG22⟩ := Kd.R_form HO_5.out (by omega)
              (first | cases eo22 | (injection eo22 with ea_ en_ ec_; (first | subst ea_ | (injection ea_ with ea_; subst ea_)); subst ec_; clear en_))
              have GB22 := Aside0.mk gb22
              have GG22 := Aside0.mk HG22
              clear gb22 gl22 HG22
              (first | simp only [add_plain] at hx165_0 | skip)
              obtain ⟨hx22_0, hf22_0⟩ := Kd.R_celln 0 HO_5.out ((ji19) : Int) p22 q22
              replace p22 := eq_true p22
              replace q22 := eq_true q22
              have HP29 := Kd.R_putg HO_5.out ((ji19) : Int) (Go.bits .or .u64 (rd x5_1 (ji19)) (IntKind.u64.wrap ((rd t158 x29_1) * 2 ^ ((ji4) % 64).toNat)))
              go_wp2_with (first | ((with_reducible refine gate_store (t := 54) (p := 45) rfl ?_); refine store_event (t := 54) (p := 45) (v := ?vo_w30) (w1 := (wr.setCell ⟨go22, ((ji19) : Int).toNat, none⟩ (.int .u64 (Go.bits .or .u64 (rd x5_1 (ji19)) (IntKind.u64.wrap ((rd t158 x29_1) * 2 ^ ((ji4) % 64).toNat)))))) ?hg ?ho ?hn ?hr ?_; (case ho => rfl); (case hg => rfl); (case hn => rfl); (case hr => first | (go_simp; done) | (go_simp; rfl)); intro w30 hw; have hg : wr.grownBy w30 (some go22) := (by rw [hw]; exact HP29.2); have hp_ : Kd.R (Kd.int .u64) 54 w30 w.heap.size (fun k_ => (w.heap.size ≤ k_)) (.slice (some ⟨go22, 0, none⟩) x5_1.length co28) y166 := (by rw [hw, Ny166.out]; exact HP29.1); clear HP29; have n0_ := Aside0.mk (hp_); have n1_ := Aside0.mk (Kd.V_afterv (v := (.slice (some ⟨go22, 0, none⟩) x5_1.length co28)) (v1 := (.slice (some ⟨go22, 0, none⟩) x5_1.length co28)) (ok := (fun k_ => (P0_ k_ ∨ w.heap.size ≤ k_))) (gV HO_27.out) hg (.inl rfl)); have n2_ := Aside0.mk ((by rw [hw]; exact bS (HB.out) GB22.out : Below w.heap.size w w30)); clear HO_5; clear HO_27; clear HB; have HO_5 := n0_; have HO_27 := n1_; have HB := n2_; clear n0_ n1_ n2_; clear hg hw hp_; have p27 : 0 ≤ ((ji24) : Int) := of_decide_eq_true (by first | (with_reducible assumption) | assumption); have q27 : ((ji24) : Int) < ((x5_1.length : Int) : Int) := of_decide_eq_true (by first | (with_reducible assumption) | assumption); obtain ⟨hx27_0, hf27_0⟩ := Kd.R_celln 0 HO_5.out ((ji24) : Int) p27 q27; replace p27 := eq_true p27; replace q27 := eq_true q27; obtain ⟨hy31_, hz31_⟩ := Kd.R_celln 0 HO_5.out ((ji24) : Int) (of_decide_eq_true (by first | (with_reducible assumption) | assumption)) (of_decide_eq_true (by first | (with_reducible assumption) | assumption)); have HP31 := Kd.R_putg HO_5.out ((ji24) : Int) ((rd t158 x29_1) / 2 ^ (64 - ((ji4) % 64)).toNat)) | ((with_reducible refine gate_store (t := 54) (p := 58) rfl ?_); refine store_event (t := 54) (p := 58) (v := ?vo_w32) (w1 := (w30.setCell ⟨go22, ((ji24) : Int).toNat, none⟩ (.int .u64 ((rd t158 x29_1) / 2 ^ (64 - ((ji4) % 64)).toNat)))) ?hg ?ho ?hn ?hr ?_; (case ho => rfl); (case hg => rfl); (case hn => rfl); (case hr => first | (go_simp; done) | (go_simp; rfl)); intro w32 hw; have hg : w30.grownBy w32 (some go22) := (by rw [hw]; exact HP31.2); have hp_ : Kd.R (Kd.int .u64) 54 w32 w.heap.size (fun k_ => (w.heap.size ≤ k_)) (.slice (some ⟨go22, 0, none⟩) x5_1.length co28) y167 := (by rw [hw, Ny167.out]; exact HP31.1); clear HP31; have n0_ := Aside0.mk (hp_); have n1_ := Aside0.mk (Kd.V_afterv (v := (.slice (some ⟨go22, 0, none⟩) x5_1.length co28)) (v1 := (.slice (some ⟨go22, 0, none⟩) x5_1.length co28)) (ok := (fun k_ => (P0_ k_ ∨ w.heap.size ≤ k_))) (gV HO_27.out) hg (.inl rfl)); have n2_ := Aside0.mk ((by rw [hw]; exact bS (HB.out) GB22.out : Below w.heap.size w w32)); clear HO_5; clear HO_27; clear HB; have HO_5 := n0_; have HO_27 := n1_; have HB := n2_; clear n0_ n1_ n2_; clear hg hw hp_))
              go_roundg k1
              case measure => have := HK1.out; omega
              case rel => exact ⟨(y167), (wrap64 (x29_1 + 1)), (by first | rfl | (simp; done) | (simp [*]; done)), H', ⟨by have := HK1.out; omega⟩, ⟨by (with_reducible repeat (first | apply Kd.R_alloc | apply Kd.R_drewN | apply Kd.R_drew)); exact HO_5.out⟩, ⟨by (with_reducible repeat (first | apply Kd.V_alloc | apply Kd.V_drewN | apply Kd.V_drew)); exact HO_27.out⟩, ⟨by repeat (first | (with_reducible first | exact HB.out | apply bA | apply bN | apply bD) | exact HB.out)⟩⟩
             ·rw [if_neg c26] at H
              exact absurd H (by simp)
            ·rw [if_neg c25] at H
             exact absurd H (by simp)
           ·rw [if_neg c23] at H
            have c23b0 : decide (0 < ((ji4) % 64)) = false := decide_eq_false c23
            clear c23
            have H' := Aside0.mk H
            clear H
            have p164 : 0 ≤ (x29_1 : Int) := of_decide_eq_true (by first | (with_reducible assumption) | assumption)
            have q164 : x29_1 < (t158.length : Int) := of_decide_eq_true (by first | (with_reducible assumption) | assumption)
            obtain ⟨ad164, e164, hx164_0⟩ := Kd.at_int (Kd.V_reads' HO_27.out).2.2 x29_1 p164 q164
            cases e164
            replace p164 := eq_true p164
            replace q164 := eq_true q164
            obtain ⟨Ao33, co33, eo33⟩ := Kd.R_slice HO_5.out
            subst eo33
            have p165 : 0 ≤ ((ji19) : Int) := of_decide_eq_true (by first | (with_reducible assumption) | assumption)
            have q165 : (ji19) < (x5_1.length : Int) := of_decide_eq_true (by first | (with_reducible assumption) | assumption)
            obtain ⟨ad165, e165, hx165_0⟩ := Kd.at_int (Kd.R_reads' HO_5.out).2.2 (ji19) p165 q165
            cases e165
            replace p165 := eq_true p165
            replace q165 := eq_true q165
            have p22 : 0 ≤ ((ji19) : Int) := of_decide_eq_true (by first | (with_reducible assumption) | assumption)
            have q22 : ((ji19) : Int) < ((x5_1.length : Int) : Int) := of_decide_eq_true (by first | (with_reducible assumption) | assumption)
            obtain ⟨go22, co22, eo22, gb22, gl22, cl22, HG22⟩ := Kd.R_form HO_5.out (by omega)
            (first | cases eo22 | (injection eo22 with ea_ en_ ec_; (first | subst ea_ | (injection ea_ with ea_; subst ea_)); subst ec_; clear en_))
            have GB22 := Aside0.mk gb22
            have GG22 := Aside0.mk HG22
            clear gb22 gl22 HG22
            (first | simp only [add_plain] at hx165_0 | skip)
            obtain ⟨hx22_0, hf22_0⟩ := Kd.R_celln 0 HO_5.out ((ji19) : Int) p22 q22
            replace p22 := eq_true p22
            replace q22 := eq_true q22
            have HP34 := Kd.R_putg HO_5.out ((ji19) : Int) (Go.bits .or .u64 (rd x5_1 (ji19)) (IntKind.u64.wrap ((rd t158 x29_1) * 2 ^ ((ji4) % 64).toNat)))
            go_wp2_with (first | ((with_reducible refine gate_store (t := 54) (p := 45) rfl ?_); refine store_event (t := 54) (p := 45) (v := ?vo_w35) (w1 := (wr.setCell ⟨go22, ((ji19) : Int).toNat, none⟩ (.int .u64 (Go.bits .or .u64 (rd x5_1 (ji19)) (IntKind.u64.wrap ((rd t158 x29_1) * 2 ^ ((ji4) % 64).toNat)))))) ?hg ?ho ?hn ?hr ?_; (case ho => rfl); (case hg => rfl); (case hn => rfl); (case hr => first | (go_simp; done) | (go_simp; rfl)); intro w35 hw; have hg : wr.grownBy w35 (some go22) := (by rw [hw]; exact HP34.2); have hp_ : Kd.R (Kd.int .u64) 54 w35 w.heap.size (fun k_ => (w.heap.size ≤ k_)) (.slice (some ⟨go22, 0, none⟩) x5_1.length co33) y166 := (by rw [hw, Ny166.out]; exact HP34.1); clear HP34; have n0_ := Aside0.mk (hp_); have n1_ := Aside0.mk (Kd.V_afterv (v := (.slice (some ⟨go22, 0, none⟩) x5_1.length co33)) (v1 := (.slice (some ⟨go22, 0, none⟩) x5_1.length co33)) (ok := (fun k_ => (P0_ k_ ∨ w.heap.size ≤ k_))) (gV HO_27.out) hg (.inl rfl)); have n2_ := Aside0.mk ((by rw [hw]; exact bS (HB.out) GB22.out : Below w.heap.size w w35)); clear HO_5; clear HO_27; clear HB; have HO_5 := n0_; have HO_27 := n1_; have HB := n2_; clear n0_ n1_ n2_; clear hg hw hp_))
            go_roundg k1
            case measure => have := HK1.out; omega
            case rel => exact ⟨(y166), (wrap64 (x29_1 + 1)), (by first | rfl | (simp; done) | (simp [*]; done)), H', ⟨by have := HK1.out; omega⟩, ⟨by (with_reducible repeat (first | apply Kd.R_alloc | apply Kd.R_drewN | apply Kd.R_drew)); exact HO_5.out⟩, ⟨by (with_reducible repeat (first | apply Kd.V_alloc | apply Kd.V_drewN | apply Kd.V_drew)); exact HO_27.out⟩, ⟨by repeat (first | (with_reducible first | exact HB.out | apply bA | apply bN | apply bD) | exact HB.out)⟩⟩
          ·rw [if_neg c21] at H
           exact absurd H (by simp)
         ·rw [if_neg c20] at H
          exact absurd H (by simp)
        ·rw [if_neg c18] at H
         exact absurd H (by simp)
       ·rw [if_neg c17] at H
        exact absurd H (by simp)
      ·rw [if_neg c16] at H
       have c16b0 : decide (x29_1 < (t158.length : Int)) = false := decide_eq_false c16
       clear c16
       replace H := Option.bind_eq_some_iff.mp H
       obtain ⟨t168, A360, H⟩ := H
       replace H : (some t168) = some r := H
       have A36 := Aside0.mk A360
       clear A360
       obtain rfl := Option.some.inj H
       obtain ⟨Ao37, co37, eo37⟩ := Kd.R_slice HO_5.out
       subst eo37
       go_wp2_with (first | ((with_reducible refine gate_callee (f := 44) rfl ?_); refine goesL_ (some 61) rfl rfl Try.func44 (by kernel_rfl) rfl #[.slice Ao37 x5_1.length co37] rfl (by (try simp only [List.map_toArray, List.map_cons, List.map_nil]); first | done | rfl | (simp only [List.length_drop, List.length_take]; rfl)) ?_; (with_reducible refine (mag_right.calls k1 (fun k_ => some k_ = (.slice Ao37 x5_1.length co37 : Value).ownBlock) _ _ x5_1 t168 _ ?side1 A36.out).mono ?_); (case side1 => exact Kd.R_V (Kd.R_tight rfl (HO_5.out))); rintro e w38 ⟨v169, rfl, ho0, hb⟩; refine ⟨_, rfl, ?_⟩; have n0_ := Aside0.mk (Kd.R_below (gR HO_5.out) hb); have n1_ := Aside0.mk (Kd.V_below (gV HO_27.out) hb); have n2_ := Aside0.mk (Kd.V_lower (Kd.V_mono (ok' := fun k_ => (P0_ k_ ∨ w.heap.size ≤ k_)) ho0 (fun k_ hk_ => Or.elim hk_ (fun hs_ => (.inr (((HO_5.out).1 k_ hs_.symm)))) (fun hn_ => (.inr (Nat.le_trans (below_size (gB HB.out)) hn_))))) (below_size (gB HB.out))); have n3_ := Aside0.mk (below_step (gB HB.out) hb); clear HO_5; clear HO_27; clear HB; have HO_5 := n0_; have HO_27 := n1_; have HO170 := n2_; have HB := n3_; clear n0_ n1_ n2_ n3_; (try clear hb); (try clear hb2); (try clear hk); (try clear hi); (try clear ho0)))
       go_ret
       exact ⟨_, by first | rfl | (simp [errW_none, errW_some] <;> rfl) | (simp only [← hji3, ← hji4, ← hji9]; first | rfl | (simp [errW_none, errW_some] <;> rfl)) | (simp [*, errW_none, errW_some] <;> rfl), by (with_reducible repeat (first | apply Kd.V_alloc | apply Kd.V_drewN | apply Kd.V_drew)); exact HO170.out, by repeat (first | (with_reducible first | exact HB.out | apply bA | apply bN | apply bD) | exact HB.out)⟩
   ·rw [if_neg c11] at H
    exact absurd H (by simp)
  ·rw [if_neg c10] at H
   exact absurd H (by simp)

/-! ### mag_Down: function 53 -/
def mag_Down.l0 : Nat → List Int → Int → List Int → List Int → Int → Int → Option (List Int)
 | 0, _, _, _, _, _, _ => none
 | k + 1, x0, x5, x6, x29, x30, x31 => if x31 < x30 then (if 0 ≤ x31 then (if x31 < (x29.length : Int) then (if x31 < (x6.length : Int) then ((some (x6.set (x31 : Int).toNat ((rd x29 x31) / 2 ^ x5.toNat) : List Int)).bind fun y183 => (if x5 > 0 then (if (wrap64 (x31 + 1)) < (x0.length : Int) then (if 0 ≤ (wrap64 (x31 + 1)) then (mag_Down.l0 k x0 x5 (y183.set (x31 : Int).toNat (Go.bits .or .u64 (rd y183 x31) (shl .u64 (rd x0 (wrap64 (x31 + 1))) (64 - x5)))) x29 x30 (wrap64 (x31 + 1))) else (none)) else (mag_Down.l0 k x0 x5 y183 x29 x30 (wrap64 (x31 + 1)))) else (mag_Down.l0 k x0 x5 y183 x29 x30 (wrap64 (x31 + 1))))) else (none)) else (none)) else (none)) else ((mag_right.f k x6).bind fun t187 => (some t187))
def mag_Down.f (k : Nat) (l0 : List Int) (a1 : Int) : Option (List Int) := (mag_right.f k l0).bind fun t171 => (if ((mn (mx a1 0) 8192) / 64) ≥ (t171.length : Int) then (some ([] : List Int)) else (if 0 ≤ ((mn (mx a1 0) 8192) / 64) then (if ((mn (mx a1 0) 8192) / 64) ≤ (t171.length : Int) then ((some (t171.drop (((mn (mx a1 0) 8192) / 64) : Int).toNat : List Int)).bind fun y174 => (if 0 ≤ (y174.length : Int) then (if ((y174.length : Int) : Int).toNat ≤ 35184372088832 then (mag_Down.l0 k y174 ((mn (mx a1 0) 8192) % 64) (List.replicate ((y174.length : Int) : Int).toNat 0) y174 (y174.length : Int) 0) else (none)) else (none))) else (none)) else (none)))
theorem mag_Down.mono_l : ∀ k, (∀ y0 y1 y2 y3 y4 y5, LeO (mag_Down.l0 k y0 y1 y2 y3 y4 y5) (mag_Down.l0 (k + 1) y0 y1 y2 y3 y4 y5))
 | 0 => fun _ _ _ _ _ _ r h => by simp [mag_Down.l0] at h
 | k + 1 => by
  have ih0 := mag_Down.mono_l k
  ·intro y0 y1 y2 y3 y4 y5
   unfold mag_Down.l0
   repeat' first
   | (with_reducible exact ih0 _ _ _ _ _ _)
   | (with_reducible exact mag_right.mono _ _)
   | (with_reducible exact LeO.refl _)
   | (with_reducible exact LeO.none _)
   | (with_reducible refine LeO.ite ?_ ?_)
   | (with_reducible refine LeO.bind ?_ (fun _ => ?_))
   | exact ih0 _ _ _ _ _ _
   | exact mag_right.mono _ _
   | exact LeO.none _
   | refine LeO.ite ?_ ?_
   | refine LeO.bind ?_ (fun _ => ?_)
theorem mag_Down.mono : ∀ a0 a1 k, LeO (mag_Down.f k a0 a1) (mag_Down.f (k + 1) a0 a1) := by
 intro a0 a1 k
 have ih0 := mag_Down.mono_l k
 unfold mag_Down.f
 repeat' first
   | (with_reducible exact ih0 _ _ _ _ _ _)
   | (with_reducible exact mag_right.mono _ _)
   | (with_reducible exact LeO.refl _)
   | (with_reducible exact LeO.none _)
   | (with_reducible refine LeO.ite ?_ ?_)
   | (with_reducible refine LeO.bind ?_ (fun _ => ?_))
   | exact ih0 _ _ _ _ _ _
   | exact mag_right.mono _ _
   | exact LeO.none _
   | refine LeO.ite ?_ ?_
   | refine LeO.bind ?_ (fun _ => ?_)
def mag_Down.T13 : Bool × List (List Nat × List Nat) := (true, [([], []), ([], []), ([0, 1], [0, 1]), ([2], [2]), ([], []), ([], []), ([5], [5]), ([4, 6], [4, 6]), ([7], [7]), ([], []), ([9], [9]), ([8, 10], [8, 10]), ([3, 11], [3, 11]), ([0, 1, 0, 1, 2, 3, 4, 5, 6, 7, 8, 9, 10, 11, 12], [0, 1]), ([13, 12, 0, 1, 2, 3, 4, 5, 6, 7, 8, 9, 10, 11, 12], [12, 13])])
def mag_Down.B13 : List Nat := [0, 0, 3, 7, 0, 0, 32, 112, 240, 0, 512, 2032, 4095, 8191, 16383]
theorem mag_Down.tab13 : rtab .any (opsOf Try.f53 13) = mag_Down.T13 := by kernel_rfl
theorem mag_Down.bits13 : waitsOk mag_Down.T13.2 mag_Down.B13 = true := by kernel_rfl
set_option maxHeartbeats 8000000 in
set_option maxRecDepth 100000 in
theorem mag_Down.calls (k : Nat) (P0_ : Nat → Prop) (A0 : Option Addr) (c0 : Nat) (l0 : List Int) (a1 : Int) (r : List Int) (w : World) (hs0 : Kd.V (Kd.int .u64) 54 w w.heap.size (fun k_ => P0_ k_) (.slice A0 l0.length c0) l0) (h : mag_Down.f k l0 a1 = some r) :
  Calls Try.prog 53 #[.slice A0 l0.length c0, .int .i64 a1] w fun e w' => ∃ v0_ : Value, e = .returned (v0_) ∧ Kd.V (Kd.int .u64) 54 w' w.heap.size (fun k_ => (P0_ k_ ∨ w.heap.size ≤ k_)) v0_ r ∧ Below w.heap.size w w' := by
 have HO0 := Aside0.mk (show Kd.V (Kd.int .u64) 54 w w.heap.size (fun k_ => (P0_ k_ ∨ w.heap.size ≤ k_)) (.slice A0 l0.length c0) l0 from Kd.V_mono hs0 (fun k_ hk => .inl hk))
 have HB := Aside0.mk (Below.refl w.heap.size w)
 have H : ((mag_right.f k l0).bind fun t171 => (if ((mn (mx a1 0) 8192) / 64) ≥ (t171.length : Int) then (some ([] : List Int)) else (if 0 ≤ ((mn (mx a1 0) 8192) / 64) then (if ((mn (mx a1 0) 8192) / 64) ≤ (t171.length : Int) then ((some (t171.drop (((mn (mx a1 0) 8192) / 64) : Int).toNat : List Int)).bind fun y174 => (if 0 ≤ (y174.length : Int) then (if ((y174.length : Int) : Int).toNat ≤ 35184372088832 then (mag_Down.l0 k y174 ((mn (mx a1 0) 8192) % 64) (List.replicate ((y174.length : Int) : Int).toNat 0) y174 (y174.length : Int) 0) else (none)) else (none))) else (none)) else (none)))) = some r := h
 clear h
 obtain ⟨ji3, hji3⟩ : ∃ j_ : Int, (mx a1 0) = j_ := ⟨_, rfl⟩
 replace H : ((mag_right.f k l0).bind fun t171 => (if ((mn (ji3) 8192) / 64) ≥ (t171.length : Int) then (some ([] : List Int)) else (if 0 ≤ ((mn (ji3) 8192) / 64) then (if ((mn (ji3) 8192) / 64) ≤ (t171.length : Int) then ((some (t171.drop (((mn (ji3) 8192) / 64) : Int).toNat : List Int)).bind fun y174 => (if 0 ≤ (y174.length : Int) then (if ((y174.length : Int) : Int).toNat ≤ 35184372088832 then (mag_Down.l0 k y174 ((mn (ji3) 8192) % 64) (List.replicate ((y174.length : Int) : Int).toNat 0) y174 (y174.length : Int) 0) else (none)) else (none))) else (none)) else (none)))) = some r := by first | (rw [hji3] at H; exact H) | (simp only [hji3] at H ⊢; exact H)
 (try (have hji3l : 0 ≤ ji3 := by (rw [← hji3]; unfold mx; (repeat' split) <;> omega)))
 (try (have hji3m : 0 ≤ ji3 := by omega))
 have hji3_ : (if a1 < 0 then 0 else a1) = ji3 := hji3
 obtain ⟨ji4, hji4⟩ : ∃ j_ : Int, (mn (ji3) 8192) = j_ := ⟨_, rfl⟩
 replace H : ((mag_right.f k l0).bind fun t171 => (if ((ji4) / 64) ≥ (t171.length : Int) then (some ([] : List Int)) else (if 0 ≤ ((ji4) / 64) then (if ((ji4) / 64) ≤ (t171.length : Int) then ((some (t171.drop (((ji4) / 64) : Int).toNat : List Int)).bind fun y174 => (if 0 ≤ (y174.length : Int) then (if ((y174.length : Int) : Int).toNat ≤ 35184372088832 then (mag_Down.l0 k y174 ((ji4) % 64) (List.replicate ((y174.length : Int) : Int).toNat 0) y174 (y174.length : Int) 0) else (none)) else (none))) else (none)) else (none)))) = some r := by first | (rw [hji4] at H; exact H) | (simp only [hji4] at H ⊢; exact H)
 have hji4_ : (if 8192 < (ji3) then 8192 else (ji3)) = ji4 := hji4
 replace H := Option.bind_eq_some_iff.mp H
 obtain ⟨t171, A50, H⟩ := H
 replace H : (if ((ji4) / 64) ≥ (t171.length : Int) then (some ([] : List Int)) else (if 0 ≤ ((ji4) / 64) then (if ((ji4) / 64) ≤ (t171.length : Int) then ((some (t171.drop (((ji4) / 64) : Int).toNat : List Int)).bind fun y174 => (if 0 ≤ (y174.length : Int) then (if ((y174.length : Int) : Int).toNat ≤ 35184372088832 then (mag_Down.l0 k y174 ((ji4) % 64) (List.replicate ((y174.length : Int) : Int).toNat 0) y174 (y174.length : Int) 0) else (none)) else (none))) else (none)) else (none))) = some r := H
 have A5 := Aside0.mk A50
 clear A50
 by_cases c6 : ((ji4) / 64) ≥ (t171.length : Int)
 ·rw [if_pos c6] at H
  have c6b0 : decide ((t171.length : Int) ≤ ((ji4) / 64)) = true := decide_eq_true c6
  clear c6
  obtain rfl := Option.some.inj H
  go_enter Try.func53, Try.ntmps53
  go_wp2_with (first | ((with_reducible refine gate_callee (f := 44) rfl ?_); refine goesL_ (some 13) rfl rfl Try.func44 (by kernel_rfl) rfl #[.slice A0 l0.length c0] rfl (by (try simp only [List.map_toArray, List.map_cons, List.map_nil]); first | done | rfl | (simp only [List.length_drop, List.length_take]; rfl)) ?_; (with_reducible refine (mag_right.calls k (fun k_ => (P0_ k_ ∨ w.heap.size ≤ k_)) _ _ l0 t171 _ ?side1 A5.out).mono ?_); (case side1 => exact HO0.out); rintro e w7 ⟨v172, rfl, ho0, hb⟩; refine ⟨_, rfl, ?_⟩; have n0_ := Aside0.mk (Kd.V_below (gV HO0.out) hb); have n1_ := Aside0.mk (Kd.V_lower (Kd.V_mono (ok' := fun k_ => (P0_ k_ ∨ w.heap.size ≤ k_)) ho0 (fun k_ hk_ => Or.elim hk_ (fun hs_ => hs_) (fun hn_ => (.inr (Nat.le_trans (below_size (gB HB.out)) hn_))))) (below_size (gB HB.out))); have n2_ := Aside0.mk (below_step (gB HB.out) hb); clear HO0; clear HB; have HO0 := n0_; have HO173 := n1_; have HB := n2_; clear n0_ n1_ n2_; (try clear hb); (try clear hb2); (try clear hk); (try clear hi); (try clear ho0); obtain ⟨Ao8, co8, eo8⟩ := Kd.V_slice HO173.out; subst eo8))
  go_ret
  exact ⟨_, by first | rfl | (simp [errW_none, errW_some] <;> rfl) | (simp only [← hji3, ← hji4]; first | rfl | (simp [errW_none, errW_some] <;> rfl)) | (simp [*, errW_none, errW_some] <;> rfl), Kd.V_nil _ _ _ _ _, by repeat (first | (with_reducible first | exact HB.out | apply bA | apply bN | apply bD) | exact HB.out)⟩
 ·rw [if_neg c6] at H
  have c6b0 : decide ((t171.length : Int) ≤ ((ji4) / 64)) = false := decide_eq_false c6
  clear c6
  obtain ⟨ji9, hji9⟩ : ∃ j_ : Int, ((ji4) / 64) = j_ := ⟨_, rfl⟩
  replace H : (if 0 ≤ (ji9) then (if (ji9) ≤ (t171.length : Int) then ((some (t171.drop ((ji9) : Int).toNat : List Int)).bind fun y174 => (if 0 ≤ (y174.length : Int) then (if ((y174.length : Int) : Int).toNat ≤ 35184372088832 then (mag_Down.l0 k y174 ((ji4) % 64) (List.replicate ((y174.length : Int) : Int).toNat 0) y174 (y174.length : Int) 0) else (none)) else (none))) else (none)) else (none)) = some r := by first | (rw [hji9] at H; exact H) | (simp only [hji9] at H ⊢; exact H)
  (try rw [hji9] at c6b0)
  (try rw [hji9] at A5)
  by_cases c10 : 0 ≤ (ji9)
  ·rw [if_pos c10] at H
   have c10b0 := eq_true c10
   have c10b1 : decide (0 ≤ (ji9)) = true := decide_eq_true c10
   clear c10
   by_cases c11 : (ji9) ≤ (t171.length : Int)
   ·rw [if_pos c11] at H
    have c11b0 := eq_true c11
    have c11b1 : decide ((ji9) ≤ (t171.length : Int)) = true := decide_eq_true c11
    clear c11
    obtain ⟨y174, hy174⟩ : ∃ y_ : List Int, y_ = (t171.drop ((ji9) : Int).toNat) := ⟨_, rfl⟩
    replace H : (if 0 ≤ (y174.length : Int) then (if ((y174.length : Int) : Int).toNat ≤ 35184372088832 then (mag_Down.l0 k y174 ((ji4) % 64) (List.replicate ((y174.length : Int) : Int).toNat 0) y174 (y174.length : Int) 0) else (none)) else (none)) = some r := by first | (rw [hy174]; with_reducible exact H) | (have H2_ := (Option.bind_some _ _).symm.trans H; rw [hy174]; with_reducible exact H2_) | (have H2_ := (Option.bind_some _ _).symm.trans H; with_reducible exact H2_) | with_reducible exact H | (rw [hy174]; exact H) | exact H
    have Ny174 := Aside0.mk hy174
    clear hy174
    by_cases c12 : 0 ≤ (y174.length : Int)
    ·rw [if_pos c12] at H
     have c12b0 := eq_true c12
     have c12b1 : decide (0 ≤ (y174.length : Int)) = true := decide_eq_true c12
     clear c12
     by_cases c13 : ((y174.length : Int) : Int).toNat ≤ 35184372088832
     ·rw [if_pos c13] at H
      have c13b0 := eq_true c13
      have c13b1 : decide (((y174.length : Int) : Int).toNat ≤ 35184372088832) = true := decide_eq_true c13
      clear c13
      obtain ⟨y179, hy179⟩ : ∃ y_ : List Int, y_ = (List.replicate ((y174.length : Int) : Int).toNat 0) := ⟨_, rfl⟩
      replace H : (mag_Down.l0 k y174 ((ji4) % 64) y179 y174 (y174.length : Int) 0) = some r := by first | (rw [hy179]; with_reducible exact H) | (have H2_ := (Option.bind_some _ _).symm.trans H; rw [hy179]; with_reducible exact H2_) | (have H2_ := (Option.bind_some _ _).symm.trans H; with_reducible exact H2_) | with_reducible exact H | (rw [hy179]; exact H) | exact H
      have Ny179 := Aside0.mk hy179
      clear hy179
      have H' := Aside0.mk H
      clear H
      go_enter Try.func53, Try.ntmps53
      go_wp2_with (first | ((with_reducible refine gate_callee (f := 44) rfl ?_); refine goesL_ (some 13) rfl rfl Try.func44 (by kernel_rfl) rfl #[.slice A0 l0.length c0] rfl (by (try simp only [List.map_toArray, List.map_cons, List.map_nil]); first | done | rfl | (simp only [List.length_drop, List.length_take]; rfl)) ?_; (with_reducible refine (mag_right.calls k (fun k_ => (P0_ k_ ∨ w.heap.size ≤ k_)) _ _ l0 t171 _ ?side1 A5.out).mono ?_); (case side1 => exact HO0.out); rintro e w14 ⟨v172, rfl, ho0, hb⟩; refine ⟨_, rfl, ?_⟩; have n0_ := Aside0.mk (Kd.V_below (gV HO0.out) hb); have n1_ := Aside0.mk (Kd.V_lower (Kd.V_mono (ok' := fun k_ => (P0_ k_ ∨ w.heap.size ≤ k_)) ho0 (fun k_ hk_ => Or.elim hk_ (fun hs_ => hs_) (fun hn_ => (.inr (Nat.le_trans (below_size (gB HB.out)) hn_))))) (below_size (gB HB.out))); have n2_ := Aside0.mk (below_step (gB HB.out) hb); clear HO0; clear HB; have HO0 := n0_; have HO173 := n1_; have HB := n2_; clear n0_ n1_ n2_; (try clear hb); (try clear hb2); (try clear hk); (try clear hi); (try clear ho0); obtain ⟨Ao15, co15, eo15⟩ := Kd.V_slice HO173.out; subst eo15; have q16 : ((ji9) : Int) ≤ ((t171.length : Int) : Int) := of_decide_eq_true (by first | (with_reducible assumption) | assumption); obtain ⟨i016, hi016, _, hsz16, _⟩ := info_parts info54; have hroom16 : t171.length ≤ co15 := (Kd.V_reads' HO173.out).2.1; have hC16 : Kd.F (Kd.int .u64) _ _ Ao15 t171.length t171 := (Kd.V_at (base := w.heap.size) HO173.out).2.2; have q016 : (0 : Int) ≤ ((ji9) : Int) := of_decide_eq_true (by first | (with_reducible assumption) | assumption); have hcut16 := cut_from (P := Try.prog) 23 54 .i64 Try.underlying23 hi016 1 hsz16 Ao15 t171.length co15 (ji9) q016 q16; have hr16 := Kd.F_cut (m := ((ji9) : Int).toNat) (c := co15) hC16 (by omega) hroom16; obtain ⟨A16, hA16⟩ : ∃ A1, A1 = (if co15 = ((ji9) : Int).toNat then Ao15 else (Ao15 : Option Addr).map (·.add (((ji9) : Int).toNat * 1))) := ⟨_, rfl⟩; obtain ⟨c16, hc16⟩ : ∃ c1, c1 = co15 - ((ji9) : Int).toNat := ⟨_, rfl⟩; have hy16 : y174.length = t171.length - ((ji9) : Int).toNat := (by rw [Ny174.out, List.length_drop] <;> omega); rw [show (t171).drop ((ji9) : Int).toNat = y174 from Ny174.out.symm] at hr16; replace hr16 : Kd.F (Kd.int .u64) _ _ A16 y174.length y174 := (by rw [hA16]; exact hr16); rw [← hy16, ← hA16, ← hc16] at hcut16; have HO178 := Aside0.mk (show Kd.V (Kd.int .u64) 54 _ w.heap.size _ (.slice A16 y174.length c16) y174 from Kd.V_mk (by rw [hy16, hc16]; exact Nat.sub_le_sub_right hroom16 _) hr16); have HC178 := Aside0.mk (show y174.length ≤ c16 from by rw [hy16, hc16]; exact Nat.sub_le_sub_right hroom16 _); clear hr16 hC16 hroom16 hi016 hsz16 hc16; have KY16 := Aside0.mk hy16; have KA16 := Aside0.mk hA16; clear hy16 hA16; replace q16 := eq_true q16) | ((with_reducible refine gate_dst (N := 28) rfl ?_); (try (refine gate_guard (by rfl) ?_; dsimp only)); refine Kd.R_make (Kd.int .u64) _ 54 rfl (N := 28) rfl 23 _ _ rfl (y174.length : Int) rfl rfl Try.underlying23 (.int .u64 0) 8 info54 rfl (by decide) (by omega) 0 (ok := fun _ => True) (okp := fun _ => True) rfl (fun _ hk => hk) trivial (of_decide_eq_true (by first | (with_reducible assumption) | assumption)) (Nat.le_trans (Nat.mul_le_mul_right _ (of_decide_eq_true (by first | (with_reducible assumption) | assumption) : (y174.length : Int).toNat ≤ 35184372088832)) (by omega)) (Below.refl _ _) (Nat.le_refl _) ?_; intro v180 w17 ho18 hb hg_ hnew_; clear hg_ hnew_; (first | rw [← Ny179.out] at ho18 | (simp only [Int.reduceToNat] at ho18; rw [← Ny179.out] at ho18)); have n0_ := Aside0.mk (Kd.V_elder' (gV HO0.out) (Kd.R_base ho18) hb); have n1_ := Aside0.mk (Kd.V_elder' (gV HO173.out) (Kd.R_base ho18) hb); have n2_ := Aside0.mk (Kd.V_elder' (gV HO178.out) (Kd.R_base ho18) hb); have n3_ := Aside0.mk (Kd.R_lower (Kd.R_newM (M := fun k_ => (w.heap.size ≤ k_)) ho18 (below_size (gB HB.out)) (fun k_ h_ => h_)) (below_size (gB HB.out))); have n4_ := Aside0.mk (below_step (gB HB.out) hb); clear HO0; clear HO173; clear HO178; clear HB; have HO0 := n0_; have HO173 := n1_; have HO178 := n2_; have HO181 := n3_; have HB := n4_; clear n0_ n1_ n2_ n3_ n4_; clear hb ho18))
      go_loopg [31] k (fun kq v31 w' => ∃ (x6_1 : List Int) (x31_1 : Int), v31 = .int .i64 x31_1 ∧ Aside0 (mag_Down.l0 kq y174 ((ji4) % 64) x6_1 y174 (y174.length : Int) x31_1 = some r) ∧ Aside0 (kq ≤ k) ∧ Aside0 (Kd.V (Kd.int .u64) 54 w' w.heap.size (fun k_ => (P0_ k_ ∨ w.heap.size ≤ k_) ∧ some k_ ≠ (v180 : Value).ownBlock) (.slice A16 y174.length c16) y174) ∧ Aside0 (Kd.R (Kd.int .u64) 54 w' w.heap.size (fun k_ => (w.heap.size ≤ k_)) v180 x6_1) ∧ Aside0 (Kd.V (Kd.int .u64) 54 w' w.heap.size (fun k_ => (P0_ k_ ∨ w.heap.size ≤ k_) ∧ some k_ ≠ (v180 : Value).ownBlock) (.slice A16 y174.length c16) y174) ∧ Aside0 (Below w.heap.size w w'))
      case atStart => exact ⟨(y179), (0), (by first | rfl | (simp; done) | (simp [*]; done)), H', ⟨Nat.le_refl _⟩, ⟨by (with_reducible repeat (first | apply Kd.V_alloc | apply Kd.V_drewN | apply Kd.V_drew)); exact HO178.out⟩, ⟨by (with_reducible repeat (first | apply Kd.R_alloc | apply Kd.R_drewN | apply Kd.R_drew)); exact Kd.R_mono HO181.out (fun _ hk => hk.1)⟩, ⟨by (with_reducible repeat (first | apply Kd.V_alloc | apply Kd.V_drewN | apply Kd.V_drew)); exact HO178.out⟩, ⟨by repeat (first | (with_reducible first | exact HB.out | apply bA | apply bN | apply bD) | exact HB.out)⟩⟩
      case round =>
       clear H'
       try clear c1
       try clear q1
       try clear p2
       try clear c4
       try clear c5
       try clear c6
       try clear c6b0
       try clear c10
       try clear c10b0
       try clear c10b1
       try clear c11
       try clear c11b0
       try clear c11b1
       try clear c12
       try clear c12b0
       try clear c12b1
       try clear c13
       try clear c13b0
       try clear c13b1
       try clear c16
       try clear q16
       try clear q016
       try clear q16
       obtain ⟨x6_1, x31_1, rfl, HA, HK1, HO_0, HO_6, HO_29, HB⟩ := hrel
       cases gk with
       | zero => exact absurd HA.out (by simp [mag_Down.l0])
       | succ k1 =>
        have H := HA.out
        clear HA
        simp only [mag_Down.l0] at H
        by_cases c19 : x31_1 < (y174.length : Int)
        ·rw [if_pos c19] at H
         have c19b0 : decide (x31_1 < (y174.length : Int)) = true := decide_eq_true c19
         clear c19
         by_cases c20 : 0 ≤ x31_1
         ·rw [if_pos c20] at H
          have c20b0 : decide (0 ≤ x31_1) = true := decide_eq_true c20
          clear c20
          by_cases c21 : x31_1 < (y174.length : Int)
          ·rw [if_pos c21] at H
           have c21b0 : decide (x31_1 < (y174.length : Int)) = true := decide_eq_true c21
           clear c21
           by_cases c22 : x31_1 < (x6_1.length : Int)
           ·rw [if_pos c22] at H
            have c22b0 : decide (x31_1 < (x6_1.length : Int)) = true := decide_eq_true c22
            clear c22
            obtain ⟨y183, hy183⟩ : ∃ y_ : List Int, y_ = (x6_1.set (x31_1 : Int).toNat ((rd y174 x31_1) / 2 ^ ((ji4) % 64).toNat)) := ⟨_, rfl⟩
            replace H : (if ((ji4) % 64) > 0 then (if (wrap64 (x31_1 + 1)) < (y174.length : Int) then (if 0 ≤ (wrap64 (x31_1 + 1)) then (mag_Down.l0 k1 y174 ((ji4) % 64) (y183.set (x31_1 : Int).toNat (Go.bits .or .u64 (rd y183 x31_1) (shl .u64 (rd y174 (wrap64 (x31_1 + 1))) (64 - ((ji4) % 64))))) y174 (y174.length : Int) (wrap64 (x31_1 + 1))) else (none)) else (mag_Down.l0 k1 y174 ((ji4) % 64) y183 y174 (y174.length : Int) (wrap64 (x31_1 + 1)))) else (mag_Down.l0 k1 y174 ((ji4) % 64) y183 y174 (y174.length : Int) (wrap64 (x31_1 + 1)))) = some r := by first | (rw [hy183]; with_reducible exact H) | (have H2_ := (Option.bind_some _ _).symm.trans H; rw [hy183]; with_reducible exact H2_) | (have H2_ := (Option.bind_some _ _).symm.trans H; with_reducible exact H2_) | with_reducible exact H | (rw [hy183]; exact H) | exact H
            have Ny183 := Aside0.mk hy183
            clear hy183
            by_cases c24 : ((ji4) % 64) > 0
            ·rw [if_pos c24] at H
             have c24b0 : decide (0 < ((ji4) % 64)) = true := decide_eq_true c24
             clear c24
             by_cases c25 : (wrap64 (x31_1 + 1)) < (y174.length : Int)
             ·rw [if_pos c25] at H
              have c25b0 : decide ((wrap64 (x31_1 + 1)) < (y174.length : Int)) = true := decide_eq_true c25
              clear c25
              obtain ⟨ji26, hji26⟩ : ∃ j_ : Int, (wrap64 (x31_1 + 1)) = j_ := ⟨_, rfl⟩
              replace H : (if 0 ≤ (ji26) then (mag_Down.l0 k1 y174 ((ji4) % 64) (y183.set (x31_1 : Int).toNat (Go.bits .or .u64 (rd y183 x31_1) (shl .u64 (rd y174 (ji26)) (64 - ((ji4) % 64))))) y174 (y174.length : Int) ji26) else (none)) = some r := by first | (rw [hji26] at H; exact H) | (simp only [hji26] at H ⊢; exact H)
              (try rw [hji26] at c25b0)
              have hji26w : (IntKind.i64.wrap (x31_1 + 1)) = ji26 := (i64_w _).trans hji26
              by_cases c27 : 0 ≤ (ji26)
              ·rw [if_pos c27] at H
               have c27b0 : decide (0 ≤ (ji26)) = true := decide_eq_true c27
               clear c27
               obtain ⟨ji28, hji28⟩ : ∃ j_ : Int, (shl .u64 (rd y174 (ji26)) (64 - ((ji4) % 64))) = j_ := ⟨_, rfl⟩
               replace H : (mag_Down.l0 k1 y174 ((ji4) % 64) (y183.set (x31_1 : Int).toNat (Go.bits .or .u64 (rd y183 x31_1) (ji28))) y174 (y174.length : Int) ji26) = some r := by first | (rw [hji28] at H; exact H) | (simp only [hji28] at H ⊢; exact H)
               have hji28_ : (IntKind.u64.wrap ((rd y174 (ji26)) * 2 ^ min (64 - ((ji4) % 64)).toNat 64)) = ji28 := hji28
               have hji28z : (64 - ((ji4) % 64)) ≤ 64 → (IntKind.u64.wrap ((rd y174 (ji26)) * 2 ^ (64 - ((ji4) % 64)).toNat)) = ji28 := shl_small hji28
               obtain ⟨y186, hy186⟩ : ∃ y_ : List Int, y_ = (y183.set (x31_1 : Int).toNat (Go.bits .or .u64 (rd y183 x31_1) (ji28))) := ⟨_, rfl⟩
               replace H : (mag_Down.l0 k1 y174 ((ji4) % 64) y186 y174 (y174.length : Int) ji26) = some r := by first | (rw [hy186]; with_reducible exact H) | (have H2_ := (Option.bind_some _ _).symm.trans H; rw [hy186]; with_reducible exact H2_) | (have H2_ := (Option.bind_some _ _).symm.trans H; with_reducible exact H2_) | with_reducible exact H | (rw [hy186]; exact H) | exact H
               have Ny186 := Aside0.mk hy186
               clear hy186
               have H' := Aside0.mk H
               clear H
               have p182 : 0 ≤ (x31_1 : Int) := of_decide_eq_true (by first | (with_reducible assumption) | assumption)
               have q182 : x31_1 < (y174.length : Int) := of_decide_eq_true (by first | (with_reducible assumption) | assumption)
               obtain ⟨ad182, e182, hx182_0⟩ := Kd.at_int (Kd.V_reads' HO_29.out).2.2 x31_1 p182 q182
               cases e182
               replace p182 := eq_true p182
               replace q182 := eq_true q182
               have p23 : 0 ≤ (x31_1 : Int) := of_decide_eq_true (by first | (with_reducible assumption) | assumption)
               have q23 : (x31_1 : Int) < ((x6_1.length : Int) : Int) := of_decide_eq_true (by first | (with_reducible assumption) | assumption)
               obtain ⟨go23, co23, eo23, gb23, gl23, cl23, HG23⟩ := Kd.R_form HO_6.out (by omega)
               (first | cases eo23 | (injection eo23 with ea_ en_ ec_; (first | subst ea_ | (injection ea_ with ea_; subst ea_)); subst ec_; clear en_))
               have GB23 := Aside0.mk gb23
               have GG23 := Aside0.mk HG23
               clear gb23 gl23 HG23
               obtain ⟨hx23_0, hf23_0⟩ := Kd.R_celln 0 HO_6.out (x31_1 : Int) p23 q23
               replace p23 := eq_true p23
               replace q23 := eq_true q23
               have HP30 := Kd.R_putg HO_6.out (x31_1 : Int) ((rd y174 x31_1) / 2 ^ ((ji4) % 64).toNat)
               try go_wp2_with (first | ((with_reducible refine gate_store (t := 54) (p := 41) rfl ?_); refine store_event (t := 54) (p := 41) (v := ?vo_w31) (w1 := (wr.setCell ⟨go23, (x31_1 : Int).toNat, none⟩ (.int .u64 ((rd y174 x31_1) / 2 ^ ((ji4) % 64).toNat)))) ?hg ?ho ?hn ?hr ?_; (case ho => rfl); (case hg => rfl); (case hn => rfl); (case hr => first | (go_simp; done) | (go_simp; rfl)); intro w31 hw; have hg : wr.grownBy w31 (some go23) := (by rw [hw]; exact HP30.2); have hp_ : Kd.R (Kd.int .u64) 54 w31 w.heap.size (fun k_ => (w.heap.size ≤ k_)) (.slice (some ⟨go23, 0, none⟩) x6_1.length co23) y183 := (by rw [hw, Ny183.out]; exact HP30.1); clear HP30; have n0_ := Aside0.mk (Kd.V_afterv (v := (.slice (some ⟨go23, 0, none⟩) x6_1.length co23)) (v1 := (.slice (some ⟨go23, 0, none⟩) x6_1.length co23)) (ok := (fun k_ => (P0_ k_ ∨ w.heap.size ≤ k_))) (gV HO_0.out) hg (.inl rfl)); have n1_ := Aside0.mk (hp_); have n2_ := Aside0.mk (Kd.V_afterv (v := (.slice (some ⟨go23, 0, none⟩) x6_1.length co23)) (v1 := (.slice (some ⟨go23, 0, none⟩) x6_1.length co23)) (ok := (fun k_ => (P0_ k_ ∨ w.heap.size ≤ k_))) (gV HO_29.out) hg (.inl rfl)); have n3_ := Aside0.mk ((by rw [hw]; exact bS (HB.out) GB23.out : Below w.heap.size w w31)); clear HO_0; clear HO_6; clear HO_29; clear HB; have HO_0 := n0_; have HO_6 := n1_; have HO_29 := n2_; have HB := n3_; clear n0_ n1_ n2_ n3_; clear hg hw hp_))
               have n0_ := Aside0.mk (Kd.V_drew HO_0.out)
               have n1_ := Aside0.mk (Kd.R_drew HO_6.out)
               have n2_ := Aside0.mk (Kd.V_drew HO_29.out)
               have n3_ := Aside0.mk (bD HB.out)
               clear HO_0
               clear HO_6
               clear HO_29
               clear HB
               have HO_0 := n0_
               have HO_6 := n1_
               have HO_29 := n2_
               have HB := n3_
               clear n0_ n1_ n2_ n3_
               have p184 : 0 ≤ (x31_1 : Int) := of_decide_eq_true (by first | (with_reducible assumption) | assumption)
               have q184 : x31_1 < (y183.length : Int) := (by have h_ : (x31_1 : Int) < ((x6_1.length : Int) : Int) := of_decide_eq_true (by first | (with_reducible assumption) | assumption); first | (have e_ := (Kd.R_reads' HO_6.out).1; omega) | simpa only [Ny183.out, List.length_set] using h_)
               have ql184 : ((x31_1 : Int) < ((x6_1.length : Int) : Int)) = True := eq_true (of_decide_eq_true (by first | (with_reducible assumption) | assumption))
               obtain ⟨ad184, e184, hx184_0⟩ := Kd.at_int (Kd.R_reads' HO_6.out).2.2 x31_1 p184 q184
               obtain rfl : (⟨go23, 0, none⟩ : Addr) = ad184 := (by injection e184)
               (first | simp only [add_plain] at hx184_0 | simp only [add_at] at hx184_0 | simp only [Addr.add, Nat.zero_add] at hx184_0 | skip)
               replace p184 := eq_true p184
               replace q184 := eq_true q184
               have p185 : 0 ≤ ((ji26) : Int) := of_decide_eq_true (by first | (with_reducible assumption) | assumption)
               have q185 : (ji26) < (y174.length : Int) := of_decide_eq_true (by first | (with_reducible assumption) | assumption)
               obtain ⟨ad185, e185, hx185_0⟩ := Kd.at_int (Kd.V_reads' HO_0.out).2.2 (ji26) p185 q185
               obtain rfl : ad182 = ad185 := (by injection e185)
               replace p185 := eq_true p185
               replace q185 := eq_true q185
               have p29 : 0 ≤ (x31_1 : Int) := of_decide_eq_true (by first | (with_reducible assumption) | assumption)
               have q29 : (x31_1 : Int) < ((x6_1.length : Int) : Int) := of_decide_eq_true (by first | (with_reducible assumption) | assumption)
               obtain ⟨hx29_0, hf29_0⟩ := Kd.R_celln 0 HO_6.out (x31_1 : Int) p29 q29
               replace p29 := eq_true p29
               replace q29 := eq_true q29
               have HP33 := Kd.R_putn HO_6.out (x31_1 : Int) (Go.bits .or .u64 (rd y183 x31_1) (ji28))
               rw [← Ny186.out] at HP33
               have HQ33 := Aside0.mk HP33
               clear HP33
               refine start_ (n := 15) (S := fun w' => w'.cell? ⟨go23, (x31_1).toNat, none⟩ = some (.int .u64 (rd y183 x31_1)) ∧ w'.cell? (ad182.add ((ji26)).toNat) = some (.int .u64 (rd y174 (ji26)))) (ds := [14]) #[false, false, false, false, false, false, false, false, false, false, false, false, false, false, false] (by kernel_rfl) rfl rfl ⟨hx184_0, hx185_0⟩ (fun hHeld => ?_); refine with_tabW mag_Down.tab13 mag_Down.bits13 (fun HT_ HW_ => ?_)
               generalize w31.drew = w32 at HO_0 HO_6 HO_29 HB HQ33 hf29_0 hx184_0 hx185_0 hx29_0 hHeld ⊢
               refine pure_ (i := 0) (N := some 51) (v := ?_) (a' := ?_) #[true, false, false, false, false, false, false, false, false, false, false, false, false, false, false] rfl rfl (any_of HT_.out (by kernel_rfl)) (fun _ _ _ h => h) (Or.inl ⟨by rfl, ?_⟩) ?_ ?_
               rotate_left
               ·intro w'
                go_simp
                with_reducible rfl
               rotate_left
               ·simp only [Act.put, List.setIfInBounds_toArray, List.set_cons_zero, List.set_cons_succ, i64_w, i32_w]
                rfl
               refine pure_ (i := 1) (N := some 52) (v := ?_) (a' := ?_) #[true, true, false, false, false, false, false, false, false, false, false, false, false, false, false] rfl rfl (any_of HT_.out (by kernel_rfl)) (fun _ _ _ h => h) (Or.inl ⟨by rfl, ?_⟩) ?_ ?_
               rotate_left
               ·intro w'
                go_simp
                with_reducible rfl
               rotate_left
               ·simp only [Act.put, List.setIfInBounds_toArray, List.set_cons_zero, List.set_cons_succ, i64_w, i32_w]
                rfl
               refine pure_ (i := 2) (N := some 53) (v := ?_) (a' := ?_) #[true, true, true, false, false, false, false, false, false, false, false, false, false, false, false] rfl rfl (any_of HT_.out (by kernel_rfl)) (fun _ _ _ h => h) (Or.inl ⟨by rfl, ?_⟩) ?_ ?_
               rotate_left
               ·intro w'
                go_simp
                with_reducible rfl
               rotate_left
               ·simp only [Act.put, List.setIfInBounds_toArray, List.set_cons_zero, List.set_cons_succ, i64_w, i32_w]
                rfl
               refine pure_ (i := 4) (N := some 55) (v := ?_) (a' := ?_) #[true, true, true, false, true, false, false, false, false, false, false, false, false, false, false] rfl rfl (any_of HT_.out (by kernel_rfl)) (fun _ _ _ h => h) (Or.inl ⟨by rfl, ?_⟩) ?_ ?_
               rotate_left
               ·intro w'
                go_simp
                with_reducible rfl
               rotate_left
               ·simp only [Act.put, List.setIfInBounds_toArray, List.set_cons_zero, List.set_cons_succ, i64_w, i32_w]
                rfl
               refine pure_ (i := 5) (N := some 56) (v := ?_) (a' := ?_) #[true, true, true, false, true, true, false, false, false, false, false, false, false, false, false] rfl rfl (any_of HT_.out (by kernel_rfl)) (fun _ _ _ h => h) (Or.inl ⟨by rfl, ?_⟩) ?_ ?_
               rotate_left
               ·intro w'
                go_simp
                with_reducible rfl
               rotate_left
               ·simp only [Act.put, List.setIfInBounds_toArray, List.set_cons_zero, List.set_cons_succ, i64_w, i32_w]
                rfl
               refine pure_ (i := 6) (N := some 57) (v := ?_) (a' := ?_) #[true, true, true, false, true, true, true, false, false, false, false, false, false, false, false] rfl rfl (any_of HT_.out (by kernel_rfl)) (fun _ _ _ h => h) (Or.inl ⟨by rfl, ?_⟩) ?_ ?_
               rotate_left
               ·intro w'
                go_simp
                with_reducible rfl
               rotate_left
               ·simp only [Act.put, List.setIfInBounds_toArray, List.set_cons_zero, List.set_cons_succ, i64_w, i32_w]
                rfl
               refine pure_ (i := 7) (N := some 58) (v := ?_) (a' := ?_) #[true, true, true, false, true, true, true, true, false, false, false, false, false, false, false] rfl rfl (any_of HT_.out (by kernel_rfl)) (fun _ _ _ h => h) (Or.inl ⟨by rfl, ?_⟩) ?_ ?_
               rotate_left
               ·intro w'
                go_simp
                with_reducible rfl
               rotate_left
               ·simp only [Act.put, List.setIfInBounds_toArray, List.set_cons_zero, List.set_cons_succ, i64_w, i32_w]
                rfl
               refine pure_ (i := 9) (N := some 60) (v := ?_) (a' := ?_) #[true, true, true, false, true, true, true, true, false, true, false, false, false, false, false] rfl rfl (any_of HT_.out (by kernel_rfl)) (fun _ _ _ h => h) (Or.inl ⟨by rfl, ?_⟩) ?_ ?_
               rotate_left
               ·intro w'
                go_simp
                with_reducible rfl
               rotate_left
               ·simp only [Act.put, List.setIfInBounds_toArray, List.set_cons_zero, List.set_cons_succ, i64_w, i32_w]
                rfl
               refine pure_ (i := 10) (N := some 61) (v := ?_) (a' := ?_) #[true, true, true, false, true, true, true, true, false, true, true, false, false, false, false] rfl rfl (any_of HT_.out (by kernel_rfl)) (fun _ _ _ h => h) (Or.inl ⟨by rfl, ?_⟩) ?_ ?_
               rotate_left
               ·intro w'
                go_simp
                with_reducible rfl
               rotate_left
               ·simp only [Act.put, List.setIfInBounds_toArray, List.set_cons_zero, List.set_cons_succ, i64_w, i32_w]
                rfl
               refine take_ (i := 3) (N := some 54) (v := ?_) (a' := ?_) #[true, true, true, true, true, true, true, true, false, true, true, false, false, false, false] rfl rfl (take_ofW HT_.out HW_.out (by kernel_rfl)) (fun _ _ _ h => h) (Or.inl ⟨by rfl, ?_⟩) hHeld ?_ ?_
               rotate_left
               ·rintro w' ⟨s0, s1⟩
                go_simp
                with_reducible rfl
               rotate_left
               ·simp only [Act.put, List.setIfInBounds_toArray, List.set_cons_zero, List.set_cons_succ, i64_w, i32_w]
                rfl
               refine take_ (i := 8) (N := some 59) (v := ?_) (a' := ?_) #[true, true, true, true, true, true, true, true, true, true, true, false, false, false, false] rfl rfl (take_ofW HT_.out HW_.out (by kernel_rfl)) (fun _ _ _ h => h) (Or.inl ⟨by rfl, ?_⟩) hHeld ?_ ?_
               rotate_left
               ·rintro w' ⟨s0, s1⟩
                go_simp
                with_reducible rfl
               rotate_left
               ·simp only [Act.put, List.setIfInBounds_toArray, List.set_cons_zero, List.set_cons_succ, i64_w, i32_w]
                rfl
               refine pure_ (i := 11) (N := some 62) (v := ?_) (a' := ?_) #[true, true, true, true, true, true, true, true, true, true, true, true, false, false, false] rfl rfl (any_of HT_.out (by kernel_rfl)) (fun _ _ _ h => h) (Or.inl ⟨by rfl, ?_⟩) ?_ ?_
               rotate_left
               ·intro w'
                go_simp
                with_reducible rfl
               rotate_left
               ·simp only [Act.put, List.setIfInBounds_toArray, List.set_cons_zero, List.set_cons_succ, i64_w, i32_w]
                rfl
               refine pure_ (i := 12) (N := some 63) (v := ?_) (a' := ?_) #[true, true, true, true, true, true, true, true, true, true, true, true, true, false, false] rfl rfl (any_of HT_.out (by kernel_rfl)) (fun _ _ _ h => h) (Or.inl ⟨by rfl, ?_⟩) ?_ ?_
               rotate_left
               ·intro w'
                go_simp
                with_reducible rfl
               rotate_left
               ·simp only [Act.put, List.setIfInBounds_toArray, List.set_cons_zero, List.set_cons_succ, i64_w, i32_w]
                rfl
               refine pure_ (i := 13) (N := some 64) (v := ?_) (a' := ?_) #[true, true, true, true, true, true, true, true, true, true, true, true, true, true, false] rfl rfl (any_of HT_.out (by kernel_rfl)) (fun _ _ _ h => h) (Or.inl ⟨by rfl, ?_⟩) ?_ ?_
               rotate_left
               ·intro w'
                go_simp
                with_reducible rfl
               rotate_left
               ·simp only [Act.put, List.setIfInBounds_toArray, List.set_cons_zero, List.set_cons_succ, i64_w, i32_w]
                rfl
               refine last_ (i := 14) (N := none) #[true, true, true, true, true, true, true, true, true, true, true, true, true, true, true] rfl rfl (one_of HT_.out (by kernel_rfl)) (by decide) (fun K hK => ?_)
               refine skip_ (w1 := ?_) (by rfl) rfl ?_ ?_
               rotate_left
               ·go_simp
                rfl
               refine hK.out _ _ ?_
               clear hK K
               refine done_ (done_of HT_.out (by kernel_rfl)) ?_
               try go_wp2
               go_roundg k1
               case measure => have := HK1.out; omega
               case rel => exact ⟨(y186), (ji26), (by first | rfl | (simp; done) | (simp only [← hji26] <;> (first | rfl | simp)) | (simp [*]; done)), H', ⟨by have := HK1.out; omega⟩, ⟨by (with_reducible repeat (first | apply Kd.V_alloc | apply Kd.V_drewN | apply Kd.V_drew)); exact Kd.V_mono (Kd.V_far (p := ⟨go23, (x31_1 : Int).toNat, none⟩) (Kd.V_mono HO_0.out (fun k_ hk => (⟨hk, fun e_ => hk.2 (by rw [e_]; rfl)⟩ : _ ∧ k_ ≠ go23))) (fun _ hk => hk.2) (.int .u64 (Go.bits .or .u64 (rd y183 x31_1) (ji28)))) (fun _ hk => ⟨hk.1.1, hk.1.2⟩)⟩, ⟨by (with_reducible repeat (first | apply Kd.R_alloc | apply Kd.R_drewN | apply Kd.R_drew)); exact HQ33.out⟩, ⟨by (with_reducible repeat (first | apply Kd.V_alloc | apply Kd.V_drewN | apply Kd.V_drew)); exact Kd.V_mono (Kd.V_far (p := ⟨go23, (x31_1 : Int).toNat, none⟩) (Kd.V_mono HO_29.out (fun k_ hk => (⟨hk, fun e_ => hk.2 (by rw [e_]; rfl)⟩ : _ ∧ k_ ≠ go23))) (fun _ hk => hk.2) (.int .u64 (Go.bits .or .u64 (rd y183 x31_1) (ji28)))) (fun _ hk => ⟨hk.1.1, hk.1.2⟩)⟩, ⟨by repeat (first | (with_reducible first | exact HB.out | apply bA | apply bN | apply bD | refine bS ?_ GB23.out) | exact HB.out)⟩⟩
              ·rw [if_neg c27] at H
               exact absurd H (by simp)
             ·rw [if_neg c25] at H
              have c25b0 : decide ((wrap64 (x31_1 + 1)) < (y174.length : Int)) = false := decide_eq_false c25
              clear c25
              have H' := Aside0.mk H
              clear H
              have p182 : 0 ≤ (x31_1 : Int) := of_decide_eq_true (by first | (with_reducible assumption) | assumption)
              have q182 : x31_1 < (y174.length : Int) := of_decide_eq_true (by first | (with_reducible assumption) | assumption)
              obtain ⟨ad182, e182, hx182_0⟩ := Kd.at_int (Kd.V_reads' HO_29.out).2.2 x31_1 p182 q182
              cases e182
              replace p182 := eq_true p182
              replace q182 := eq_true q182
              have p23 : 0 ≤ (x31_1 : Int) := of_decide_eq_true (by first | (with_reducible assumption) | assumption)
              have q23 : (x31_1 : Int) < ((x6_1.length : Int) : Int) := of_decide_eq_true (by first | (with_reducible assumption) | assumption)
              obtain ⟨go23, co23, eo23, gb23, gl23, cl23, HG23⟩ := Kd.R_form HO_6.out (by omega)
              (first | cases eo23 | (injection eo23 with ea_ en_ ec_; (first | subst ea_ | (injection ea_ with ea_; subst ea_)); subst ec_; clear en_))
              have GB23 := Aside0.mk gb23
              have GG23 := Aside0.mk HG23
              clear gb23 gl23 HG23
              obtain ⟨hx23_0, hf23_0⟩ := Kd.R_celln 0 HO_6.out (x31_1 : Int) p23 q23
              replace p23 := eq_true p23
              replace q23 := eq_true q23
              have HP34 := Kd.R_putg HO_6.out (x31_1 : Int) ((rd y174 x31_1) / 2 ^ ((ji4) % 64).toNat)
              go_wp2_with (first | ((with_reducible refine gate_store (t := 54) (p := 41) rfl ?_); refine store_event (t := 54) (p := 41) (v := ?vo_w35) (w1 := (wr.setCell ⟨go23, (x31_1 : Int).toNat, none⟩ (.int .u64 ((rd y174 x31_1) / 2 ^ ((ji4) % 64).toNat)))) ?hg ?ho ?hn ?hr ?_; (case ho => rfl); (case hg => rfl); (case hn => rfl); (case hr => first | (go_simp; done) | (go_simp; rfl)); intro w35 hw; have hg : wr.grownBy w35 (some go23) := (by rw [hw]; exact HP34.2); have hp_ : Kd.R (Kd.int .u64) 54 w35 w.heap.size (fun k_ => (w.heap.size ≤ k_)) (.slice (some ⟨go23, 0, none⟩) x6_1.length co23) y183 := (by rw [hw, Ny183.out]; exact HP34.1); clear HP34; have n0_ := Aside0.mk (Kd.V_afterv (v := (.slice (some ⟨go23, 0, none⟩) x6_1.length co23)) (v1 := (.slice (some ⟨go23, 0, none⟩) x6_1.length co23)) (ok := (fun k_ => (P0_ k_ ∨ w.heap.size ≤ k_))) (gV HO_0.out) hg (.inl rfl)); have n1_ := Aside0.mk (hp_); have n2_ := Aside0.mk (Kd.V_afterv (v := (.slice (some ⟨go23, 0, none⟩) x6_1.length co23)) (v1 := (.slice (some ⟨go23, 0, none⟩) x6_1.length co23)) (ok := (fun k_ => (P0_ k_ ∨ w.heap.size ≤ k_))) (gV HO_29.out) hg (.inl rfl)); have n3_ := Aside0.mk ((by rw [hw]; exact bS (HB.out) GB23.out : Below w.heap.size w w35)); clear HO_0; clear HO_6; clear HO_29; clear HB; have HO_0 := n0_; have HO_6 := n1_; have HO_29 := n2_; have HB := n3_; clear n0_ n1_ n2_ n3_; clear hg hw hp_))
              go_roundg k1
              case measure => have := HK1.out; omega
              case rel => exact ⟨(y183), (wrap64 (x31_1 + 1)), (by first | rfl | (simp; done) | (simp [*]; done)), H', ⟨by have := HK1.out; omega⟩, ⟨by (with_reducible repeat (first | apply Kd.V_alloc | apply Kd.V_drewN | apply Kd.V_drew)); exact HO_0.out⟩, ⟨by (with_reducible repeat (first | apply Kd.R_alloc | apply Kd.R_drewN | apply Kd.R_drew)); exact HO_6.out⟩, ⟨by (with_reducible repeat (first | apply Kd.V_alloc | apply Kd.V_drewN | apply Kd.V_drew)); exact HO_29.out⟩, ⟨by repeat (first | (with_reducible first | exact HB.out | apply bA | apply bN | apply bD) | exact HB.out)⟩⟩
            ·rw [if_neg c24] at H
             have c24b0 : decide (0 < ((ji4) % 64)) = false := decide_eq_false c24
             clear c24
             have H' := Aside0.mk H
             clear H
             have p182 : 0 ≤ (x31_1 : Int) := of_decide_eq_true (by first | (with_reducible assumption) | assumption)
             have q182 : x31_1 < (y174.length : Int) := of_decide_eq_true (by first | (with_reducible assumption) | assumption)
             obtain ⟨ad182, e182, hx182_0⟩ := Kd.at_int (Kd.V_reads' HO_29.out).2.2 x31_1 p182 q182
             cases e182
             replace p182 := eq_true p182
             replace q182 := eq_true q182
             have p23 : 0 ≤ (x31_1 : Int) := of_decide_eq_true (by first | (with_reducible assumption) | assumption)
             have q23 : (x31_1 : Int) < ((x6_1.length : Int) : Int) := of_decide_eq_true (by first | (with_reducible assumption) | assumption)
             obtain ⟨go23, co23, eo23, gb23, gl23, cl23, HG23⟩ := Kd.R_form HO_6.out (by omega)
             (first | cases eo23 | (injection eo23 with ea_ en_ ec_; (first | subst ea_ | (injection ea_ with ea_; subst ea_)); subst ec_; clear en_))
             have GB23 := Aside0.mk gb23
             have GG23 := Aside0.mk HG23
             clear gb23 gl23 HG23
             obtain ⟨hx23_0, hf23_0⟩ := Kd.R_celln 0 HO_6.out (x31_1 : Int) p23 q23
             replace p23 := eq_true p23
             replace q23 := eq_true q23
             have HP36 := Kd.R_putg HO_6.out (x31_1 : Int) ((rd y174 x31_1) / 2 ^ ((ji4) % 64).toNat)
             go_wp2_with (first | ((with_reducible refine gate_store (t := 54) (p := 41) rfl ?_); refine store_event (t := 54) (p := 41) (v := ?vo_w37) (w1 := (wr.setCell ⟨go23, (x31_1 : Int).toNat, none⟩ (.int .u64 ((rd y174 x31_1) / 2 ^ ((ji4) % 64).toNat)))) ?hg ?ho ?hn ?hr ?_; (case ho => rfl); (case hg => rfl); (case hn => rfl); (case hr => first | (go_simp; done) | (go_simp; rfl)); intro w37 hw; have hg : wr.grownBy w37 (some go23) := (by rw [hw]; exact HP36.2); have hp_ : Kd.R (Kd.int .u64) 54 w37 w.heap.size (fun k_ => (w.heap.size ≤ k_)) (.slice (some ⟨go23, 0, none⟩) x6_1.length co23) y183 := (by rw [hw, Ny183.out]; exact HP36.1); clear HP36; have n0_ := Aside0.mk (Kd.V_afterv (v := (.slice (some ⟨go23, 0, none⟩) x6_1.length co23)) (v1 := (.slice (some ⟨go23, 0, none⟩) x6_1.length co23)) (ok := (fun k_ => (P0_ k_ ∨ w.heap.size ≤ k_))) (gV HO_0.out) hg (.inl rfl)); have n1_ := Aside0.mk (hp_); have n2_ := Aside0.mk (Kd.V_afterv (v := (.slice (some ⟨go23, 0, none⟩) x6_1.length co23)) (v1 := (.slice (some ⟨go23, 0, none⟩) x6_1.length co23)) (ok := (fun k_ => (P0_ k_ ∨ w.heap.size ≤ k_))) (gV HO_29.out) hg (.inl rfl)); have n3_ := Aside0.mk ((by rw [hw]; exact bS (HB.out) GB23.out : Below w.heap.size w w37)); clear HO_0; clear HO_6; clear HO_29; clear HB; have HO_0 := n0_; have HO_6 := n1_; have HO_29 := n2_; have HB := n3_; clear n0_ n1_ n2_ n3_; clear hg hw hp_))
             go_roundg k1
             case measure => have := HK1.out; omega
             case rel => exact ⟨(y183), (wrap64 (x31_1 + 1)), (by first | rfl | (simp; done) | (simp [*]; done)), H', ⟨by have := HK1.out; omega⟩, ⟨by (with_reducible repeat (first | apply Kd.V_alloc | apply Kd.V_drewN | apply Kd.V_drew)); exact HO_0.out⟩, ⟨by (with_reducible repeat (first | apply Kd.R_alloc | apply Kd.R_drewN | apply Kd.R_drew)); exact HO_6.out⟩, ⟨by (with_reducible repeat (first | apply Kd.V_alloc | apply Kd.V_drewN | apply Kd.V_drew)); exact HO_29.out⟩, ⟨by repeat (first | (with_reducible first | exact HB.out | apply bA | apply bN | apply bD) | exact HB.out)⟩⟩
           ·rw [if_neg c22] at H
            exact absurd H (by simp)
          ·rw [if_neg c21] at H
           exact absurd H (by simp)
         ·rw [if_neg c20] at H
          exact absurd H (by simp)
        ·rw [if_neg c19] at H
         have c19b0 : decide (x31_1 < (y174.length : Int)) = false := decide_eq_false c19
         clear c19
         replace H := Option.bind_eq_some_iff.mp H
         obtain ⟨t187, A380, H⟩ := H
         replace H : (some t187) = some r := H
         have A38 := Aside0.mk A380
         clear A380
         obtain rfl := Option.some.inj H
         obtain ⟨Ao39, co39, eo39⟩ := Kd.R_slice HO_6.out
         subst eo39
         go_wp2_with (first | ((with_reducible refine gate_callee (f := 44) rfl ?_); refine goesL_ (some 67) rfl rfl Try.func44 (by kernel_rfl) rfl #[.slice Ao39 x6_1.length co39] rfl (by (try simp only [List.map_toArray, List.map_cons, List.map_nil]); first | done | rfl | (simp only [List.length_drop, List.length_take]; rfl)) ?_; (with_reducible refine (mag_right.calls k1 (fun k_ => some k_ = (.slice Ao39 x6_1.length co39 : Value).ownBlock) _ _ x6_1 t187 _ ?side1 A38.out).mono ?_); (case side1 => exact Kd.R_V (Kd.R_tight rfl (HO_6.out))); rintro e w40 ⟨v188, rfl, ho0, hb⟩; refine ⟨_, rfl, ?_⟩; have n0_ := Aside0.mk (Kd.V_below (gV HO_0.out) hb); have n1_ := Aside0.mk (Kd.R_below (gR HO_6.out) hb); have n2_ := Aside0.mk (Kd.V_below (gV HO_29.out) hb); have n3_ := Aside0.mk (Kd.V_lower (Kd.V_mono (ok' := fun k_ => (P0_ k_ ∨ w.heap.size ≤ k_)) ho0 (fun k_ hk_ => Or.elim hk_ (fun hs_ => (.inr (((HO_6.out).1 k_ hs_.symm)))) (fun hn_ => (.inr (Nat.le_trans (below_size (gB HB.out)) hn_))))) (below_size (gB HB.out))); have n4_ := Aside0.mk (below_step (gB HB.out) hb); clear HO_0; clear HO_6; clear HO_29; clear HB; have HO_0 := n0_; have HO_6 := n1_; have HO_29 := n2_; have HO189 := n3_; have HB := n4_; clear n0_ n1_ n2_ n3_ n4_; (try clear hb); (try clear hb2); (try clear hk); (try clear hi); (try clear ho0)))
         go_ret
         exact ⟨_, by first | rfl | (simp [errW_none, errW_some] <;> rfl) | (simp only [← hji3, ← hji4, ← hji9]; first | rfl | (simp [errW_none, errW_some] <;> rfl)) | (simp [*, errW_none, errW_some] <;> rfl), by (with_reducible repeat (first | apply Kd.V_alloc | apply Kd.V_drewN | apply Kd.V_drew)); exact HO189.out, by repeat (first | (with_reducible first | exact HB.out | apply bA | apply bN | apply bD) | exact HB.out)⟩
     ·rw [if_neg c13] at H
      exact absurd H (by simp)
    ·rw [if_neg c12] at H
     exact absurd H (by simp)
   ·rw [if_neg c11] at H
    exact absurd H (by simp)
  ·rw [if_neg c10] at H
   exact absurd H (by simp)

end Go.Proofs.Ytpgmhhkkbjbpgaa.M
