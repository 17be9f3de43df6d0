-- By drive.py (this session's program), out of the translation. Lean checks it.
import Derived.Test.YtpgmhhkkbjbpgaaA0
import Derived.Test.YtpgmhhkkbjbpgaaA1
namespace Go.Proofs.Ytpgmhhkkbjbpgaa.M
open Go.Proofs.Ytpgmhhkkbjbpgaa.MB Go.Proofs.Ytpgmhhkkbjbpgaa
open Go.RowKit Go.Proofs.YtpgmhhkkbjbpgaaW.PrintWords Go.Proofs.YtpgmhhkkbjbpgaaW.PrintLast Go.Proofs.YtpgmhhkkbjbpgaaW.PrintMore
attribute [local go_sem] max2_int min2_int max_two min_two max_three min_three max_four min_four   -- for this text's walks alone
set_option linter.unusedVariables false
set_option linter.unusedSimpArgs false
attribute [local go_sem] add64_run sub64_run

/-! ### mag_Sub: function 35 -/
def mag_Sub.l0 : Nat → List Int → List Int → Int → List Int → Int → Int → Option (List Int)
 | 0, _, _, _, _, _, _ => none
 | k + 1, x1, x5, x6, x21, x22, x23 => if x23 < x22 then (if 0 ≤ x23 then (if x23 < (x21.length : Int) then (if x23 < (x1.length : Int) then (if x6 ≤ 1 then (if x23 < (x5.length : Int) then (mag_Sub.l0 k x1 (x5.set (x23 : Int).toNat (subS (rd x21 x23) (rd x1 x23) x6)) (subC (rd x21 x23) (rd x1 x23) x6) x21 x22 (wrap64 (x23 + 1))) else (none)) else (none)) else (if x6 ≤ 1 then (if x23 < (x5.length : Int) then (mag_Sub.l0 k x1 (x5.set (x23 : Int).toNat (subS (rd x21 x23) 0 x6)) (subC (rd x21 x23) 0 x6) x21 x22 (wrap64 (x23 + 1))) else (none)) else (none))) else (none)) else (none)) else ((mag_right.f k x5).bind fun t142 => (some t142))
def mag_Sub.f (k : Nat) (l0 : List Int) (l1 : List Int) : Option (List Int) := (mag_right.f k l0).bind fun t128 => ((mag_right.f k l1).bind fun t131 => ((mag_Cmp.f k t128 t131).bind fun t134 => (if t134 ≤ 0 then (some ([] : List Int)) else (if 0 ≤ (t128.length : Int) then (if ((t128.length : Int) : Int).toNat ≤ 35184372088832 then (mag_Sub.l0 k t131 (List.replicate ((t128.length : Int) : Int).toNat 0) 0 t128 (t128.length : Int) 0) else (none)) else (none)))))
theorem mag_Sub.mono_l : ∀ k, (∀ y0 y1 y2 y3 y4 y5, LeO (mag_Sub.l0 k y0 y1 y2 y3 y4 y5) (mag_Sub.l0 (k + 1) y0 y1 y2 y3 y4 y5))
 | 0 => fun _ _ _ _ _ _ r h => by simp [mag_Sub.l0] at h
 | k + 1 => by
  have ih0 := mag_Sub.mono_l k
  ·intro y0 y1 y2 y3 y4 y5
   unfold mag_Sub.l0
   repeat' first
   | (with_reducible exact ih0 _ _ _ _ _ _)
   | (with_reducible exact mag_Cmp.mono _ _ _)
   | (with_reducible exact mag_right.mono _ _)
   | (with_reducible exact LeO.refl _)
   | (with_reducible exact LeO.none _)
   | (with_reducible refine LeO.ite ?_ ?_)
   | (with_reducible refine LeO.bind ?_ (fun _ => ?_))
   | exact ih0 _ _ _ _ _ _
   | exact mag_Cmp.mono _ _ _
   | exact mag_right.mono _ _
   | exact LeO.none _
   | refine LeO.ite ?_ ?_
   | refine LeO.bind ?_ (fun _ => ?_)
theorem mag_Sub.mono : ∀ a0 a1 k, LeO (mag_Sub.f k a0 a1) (mag_Sub.f (k + 1) a0 a1) := by
 intro a0 a1 k
 have ih0 := mag_Sub.mono_l k
 unfold mag_Sub.f
 repeat' first
   | (with_reducible exact ih0 _ _ _ _ _ _)
   | (with_reducible exact mag_Cmp.mono _ _ _)
   | (with_reducible exact mag_right.mono _ _)
   | (with_reducible exact LeO.refl _)
   | (with_reducible exact LeO.none _)
   | (with_reducible refine LeO.ite ?_ ?_)
   | (with_reducible refine LeO.bind ?_ (fun _ => ?_))
   | exact ih0 _ _ _ _ _ _
   | exact mag_Cmp.mono _ _ _
   | exact mag_right.mono _ _
   | exact LeO.none _
   | refine LeO.ite ?_ ?_
   | refine LeO.bind ?_ (fun _ => ?_)
set_option maxHeartbeats 8000000 in
set_option maxRecDepth 100000 in
theorem mag_Sub.calls (k : Nat) (P0_ : Nat → Prop) (A0 : Option Addr) (c0 : Nat) (l0 : List Int) (P1_ : Nat → Prop) (A1 : Option Addr) (c1 : Nat) (l1 : List Int) (r : List Int) (w : World) (hs0 : Kd.V (Kd.int .u64) 54 w w.heap.size (fun k_ => P0_ k_) (.slice A0 l0.length c0) l0) (hs1 : Kd.V (Kd.int .u64) 54 w w.heap.size (fun k_ => P1_ k_) (.slice A1 l1.length c1) l1) (h : mag_Sub.f k l0 l1 = some r) :
  Calls Try.prog 35 #[.slice A0 l0.length c0, .slice A1 l1.length c1] w fun e w' => ∃ v0_ : Value, e = .returned (v0_) ∧ Kd.V (Kd.int .u64) 54 w' w.heap.size (fun k_ => ((P0_ k_ ∨ P1_ k_) ∨ w.heap.size ≤ k_)) v0_ r ∧ Below w.heap.size w w' := by
 have HO0 := Aside0.mk (show Kd.V (Kd.int .u64) 54 w w.heap.size (fun k_ => ((P0_ k_ ∨ P1_ k_) ∨ w.heap.size ≤ k_)) (.slice A0 l0.length c0) l0 from Kd.V_mono hs0 (fun k_ hk => .inl (.inl hk)))
 have HO1 := Aside0.mk (show Kd.V (Kd.int .u64) 54 w w.heap.size (fun k_ => ((P0_ k_ ∨ P1_ k_) ∨ w.heap.size ≤ k_)) (.slice A1 l1.length c1) l1 from Kd.V_mono hs1 (fun k_ hk => .inl (.inr hk)))
 have HB := Aside0.mk (Below.refl w.heap.size w)
 have H : ((mag_right.f k l0).bind fun t128 => ((mag_right.f k l1).bind fun t131 => ((mag_Cmp.f k t128 t131).bind fun t134 => (if t134 ≤ 0 then (some ([] : List Int)) else (if 0 ≤ (t128.length : Int) then (if ((t128.length : Int) : Int).toNat ≤ 35184372088832 then (mag_Sub.l0 k t131 (List.replicate ((t128.length : Int) : Int).toNat 0) 0 t128 (t128.length : Int) 0) else (none)) else (none)))))) = some r := h
 clear h
 replace H := Option.bind_eq_some_iff.mp H
 obtain ⟨t128, A30, H⟩ := H
 replace H : ((mag_right.f k l1).bind fun t131 => ((mag_Cmp.f k t128 t131).bind fun t134 => (if t134 ≤ 0 then (some ([] : List Int)) else (if 0 ≤ (t128.length : Int) then (if ((t128.length : Int) : Int).toNat ≤ 35184372088832 then (mag_Sub.l0 k t131 (List.replicate ((t128.length : Int) : Int).toNat 0) 0 t128 (t128.length : Int) 0) else (none)) else (none))))) = some r := H
 have A3 := Aside0.mk A30
 clear A30
 replace H := Option.bind_eq_some_iff.mp H
 obtain ⟨t131, A40, H⟩ := H
 replace H : ((mag_Cmp.f k t128 t131).bind fun t134 => (if t134 ≤ 0 then (some ([] : List Int)) else (if 0 ≤ (t128.length : Int) then (if ((t128.length : Int) : Int).toNat ≤ 35184372088832 then (mag_Sub.l0 k t131 (List.replicate ((t128.length : Int) : Int).toNat 0) 0 t128 (t128.length : Int) 0) else (none)) else (none)))) = some r := H
 have A4 := Aside0.mk A40
 clear A40
 replace H := Option.bind_eq_some_iff.mp H
 obtain ⟨t134, A50, H⟩ := H
 replace H : (if t134 ≤ 0 then (some ([] : List Int)) else (if 0 ≤ (t128.length : Int) then (if ((t128.length : Int) : Int).toNat ≤ 35184372088832 then (mag_Sub.l0 k t131 (List.replicate ((t128.length : Int) : Int).toNat 0) 0 t128 (t128.length : Int) 0) else (none)) else (none))) = some r := H
 have A5 := Aside0.mk A50
 clear A50
 by_cases c6 : t134 ≤ 0
 ·rw [if_pos c6] at H
  have c6b0 : decide (t134 ≤ 0) = true := decide_eq_true c6
  clear c6
  obtain rfl := Option.some.inj H
  go_enter Try.func35, Try.ntmps35
  go_wp2_with (first | ((with_reducible refine gate_callee (f := 44) rfl ?_); refine goesL_ (some 11) rfl rfl Try.func44 (by kernel_rfl) rfl #[.slice A0 l0.length c0] rfl (by (try simp only [List.map_toArray, List.map_cons, List.map_nil]); first | done | rfl | (simp only [List.length_drop, List.length_take]; rfl)) ?_; (with_reducible refine (mag_right.calls k (fun k_ => ((P0_ k_ ∨ P1_ k_) ∨ w.heap.size ≤ k_)) _ _ l0 t128 _ ?side1 A3.out).mono ?_); (case side1 => exact HO0.out); rintro e w7 ⟨v129, rfl, ho0, hb⟩; refine ⟨_, rfl, ?_⟩; have n0_ := Aside0.mk (Kd.V_below (gV HO0.out) hb); have n1_ := Aside0.mk (Kd.V_below (gV HO1.out) hb); have n2_ := Aside0.mk (Kd.V_lower (Kd.V_mono (ok' := fun k_ => ((P0_ k_ ∨ P1_ k_) ∨ w.heap.size ≤ k_)) ho0 (fun k_ hk_ => Or.elim hk_ (fun hs_ => hs_) (fun hn_ => (.inr (Nat.le_trans (below_size (gB HB.out)) hn_))))) (below_size (gB HB.out))); have n3_ := Aside0.mk (below_step (gB HB.out) hb); clear HO0; clear HO1; clear HB; have HO0 := n0_; have HO1 := n1_; have HO130 := n2_; have HB := n3_; clear n0_ n1_ n2_ n3_; (try clear hb); (try clear hb2); (try clear hk); (try clear hi); (try clear ho0)) | ((with_reducible refine gate_callee (f := 44) rfl ?_); refine goesL_ (some 13) rfl rfl Try.func44 (by kernel_rfl) rfl #[.slice A1 l1.length c1] rfl (by (try simp only [List.map_toArray, List.map_cons, List.map_nil]); first | done | rfl | (simp only [List.length_drop, List.length_take]; rfl)) ?_; (with_reducible refine (mag_right.calls k (fun k_ => ((P0_ k_ ∨ P1_ k_) ∨ w.heap.size ≤ k_)) _ _ l1 t131 _ ?side1 A4.out).mono ?_); (case side1 => exact HO1.out); rintro e w8 ⟨v132, rfl, ho0, hb⟩; refine ⟨_, rfl, ?_⟩; have n0_ := Aside0.mk (Kd.V_below (gV HO0.out) hb); have n1_ := Aside0.mk (Kd.V_below (gV HO1.out) hb); have n2_ := Aside0.mk (Kd.V_below (gV HO130.out) hb); have n3_ := Aside0.mk (Kd.V_lower (Kd.V_mono (ok' := fun k_ => ((P0_ k_ ∨ P1_ k_) ∨ w.heap.size ≤ k_)) ho0 (fun k_ hk_ => Or.elim hk_ (fun hs_ => hs_) (fun hn_ => (.inr (Nat.le_trans (below_size (gB HB.out)) hn_))))) (below_size (gB HB.out))); have n4_ := Aside0.mk (below_step (gB HB.out) hb); clear HO0; clear HO1; clear HO130; clear HB; have HO0 := n0_; have HO1 := n1_; have HO130 := n2_; have HO133 := n3_; have HB := n4_; clear n0_ n1_ n2_ n3_ n4_; (try clear hb); (try clear hb2); (try clear hk); (try clear hi); (try clear ho0); obtain ⟨Ao9, co9, eo9⟩ := Kd.V_slice HO130.out; subst eo9; obtain ⟨Ao10, co10, eo10⟩ := Kd.V_slice HO133.out; subst eo10) | ((with_reducible refine gate_callee (f := 33) rfl ?_); refine goesL_ (some 16) rfl rfl Try.func33 (by kernel_rfl) rfl #[.slice Ao9 t128.length co9, .slice Ao10 t131.length co10] rfl (by (try simp only [List.map_toArray, List.map_cons, List.map_nil]); first | done | rfl | (simp only [List.length_drop, List.length_take]; rfl)) ?_; (with_reducible refine (mag_Cmp.calls k _ _ t128 _ _ t131 t134 _ ?side1 ?side2 ?side3 ?side4 A5.out).mono ?_); (case side1 => repeat (first | exact (Kd.V_reads' HO130.out).2.2 | (with_reducible refine Kd.C_alloc ?_ _) | (with_reducible refine Kd.C_drewN ?_ _) | (with_reducible refine Kd.C_drew ?_))); (case side2 => exact (Kd.V_reads' HO130.out).2.1); (case side3 => repeat (first | exact (Kd.V_reads' HO133.out).2.2 | (with_reducible refine Kd.C_alloc ?_ _) | (with_reducible refine Kd.C_drewN ?_ _) | (with_reducible refine Kd.C_drew ?_))); (case side4 => exact (Kd.V_reads' HO133.out).2.1); rintro e w11 ⟨rfl, hb⟩; refine ⟨_, rfl, ?_⟩; have n0_ := Aside0.mk (Kd.V_below (gV HO0.out) hb); have n1_ := Aside0.mk (Kd.V_below (gV HO1.out) hb); have n2_ := Aside0.mk (Kd.V_below (gV HO130.out) hb); have n3_ := Aside0.mk (Kd.V_below (gV HO133.out) hb); have n4_ := Aside0.mk (below_step (gB HB.out) hb); clear HO0; clear HO1; clear HO130; clear HO133; clear HB; have HO0 := n0_; have HO1 := n1_; have HO130 := n2_; have HO133 := n3_; have HB := n4_; clear n0_ n1_ n2_ n3_ n4_; (try clear hb); (try clear hb2); (try clear hk); (try clear hi)))
  go_ret
  exact ⟨_, by first | rfl | (simp [errW_none, errW_some] <;> rfl) | (simp [*, errW_none, errW_some] <;> rfl), Kd.V_nil _ _ _ _ _, by repeat (first | (with_reducible first | exact HB.out | apply bA | apply bN | apply bD) | exact HB.out)⟩
 ·rw [if_neg c6] at H
  have c6b0 : decide (t134 ≤ 0) = false := decide_eq_false c6
  clear c6
  by_cases c12 : 0 ≤ (t128.length : Int)
  ·rw [if_pos c12] at H
   have c12b0 := eq_true c12
   have c12b1 : decide (0 ≤ (t128.length : Int)) = true := decide_eq_true c12
   clear c12
   by_cases c13 : ((t128.length : Int) : Int).toNat ≤ 35184372088832
   ·rw [if_pos c13] at H
    have c13b0 := eq_true c13
    have c13b1 : decide (((t128.length : Int) : Int).toNat ≤ 35184372088832) = true := decide_eq_true c13
    clear c13
    obtain ⟨y135, hy135⟩ : ∃ y_ : List Int, y_ = (List.replicate ((t128.length : Int) : Int).toNat 0) := ⟨_, rfl⟩
    replace H : (mag_Sub.l0 k t131 y135 0 t128 (t128.length : Int) 0) = some r := by first | (rw [hy135]; with_reducible exact H) | (have H2_ := (Option.bind_some _ _).symm.trans H; rw [hy135]; with_reducible exact H2_) | (have H2_ := (Option.bind_some _ _).symm.trans H; with_reducible exact H2_) | with_reducible exact H | (rw [hy135]; exact H) | exact H
    have Ny135 := Aside0.mk hy135
    clear hy135
    have H' := Aside0.mk H
    clear H
    go_enter Try.func35, Try.ntmps35
    go_wp2_with (first | ((with_reducible refine gate_callee (f := 44) rfl ?_); refine goesL_ (some 11) rfl rfl Try.func44 (by kernel_rfl) rfl #[.slice A0 l0.length c0] rfl (by (try simp only [List.map_toArray, List.map_cons, List.map_nil]); first | done | rfl | (simp only [List.length_drop, List.length_take]; rfl)) ?_; (with_reducible refine (mag_right.calls k (fun k_ => ((P0_ k_ ∨ P1_ k_) ∨ w.heap.size ≤ k_)) _ _ l0 t128 _ ?side1 A3.out).mono ?_); (case side1 => exact HO0.out); rintro e w14 ⟨v129, rfl, ho0, hb⟩; refine ⟨_, rfl, ?_⟩; have n0_ := Aside0.mk (Kd.V_below (gV HO0.out) hb); have n1_ := Aside0.mk (Kd.V_below (gV HO1.out) hb); have n2_ := Aside0.mk (Kd.V_lower (Kd.V_mono (ok' := fun k_ => ((P0_ k_ ∨ P1_ k_) ∨ w.heap.size ≤ k_)) ho0 (fun k_ hk_ => Or.elim hk_ (fun hs_ => hs_) (fun hn_ => (.inr (Nat.le_trans (below_size (gB HB.out)) hn_))))) (below_size (gB HB.out))); have n3_ := Aside0.mk (below_step (gB HB.out) hb); clear HO0; clear HO1; clear HB; have HO0 := n0_; have HO1 := n1_; have HO130 := n2_; have HB := n3_; clear n0_ n1_ n2_ n3_; (try clear hb); (try clear hb2); (try clear hk); (try clear hi); (try clear ho0)) | ((with_reducible refine gate_callee (f := 44) rfl ?_); refine goesL_ (some 13) rfl rfl Try.func44 (by kernel_rfl) rfl #[.slice A1 l1.length c1] rfl (by (try simp only [List.map_toArray, List.map_cons, List.map_nil]); first | done | rfl | (simp only [List.length_drop, List.length_take]; rfl)) ?_; (with_reducible refine (mag_right.calls k (fun k_ => ((P0_ k_ ∨ P1_ k_) ∨ w.heap.size ≤ k_)) _ _ l1 t131 _ ?side1 A4.out).mono ?_); (case side1 => exact HO1.out); rintro e w15 ⟨v132, rfl, ho0, hb⟩; refine ⟨_, rfl, ?_⟩; have n0_ := Aside0.mk (Kd.V_below (gV HO0.out) hb); have n1_ := Aside0.mk (Kd.V_below (gV HO1.out) hb); have n2_ := Aside0.mk (Kd.V_below (gV HO130.out) hb); have n3_ := Aside0.mk (Kd.V_lower (Kd.V_mono (ok' := fun k_ => ((P0_ k_ ∨ P1_ k_) ∨ w.heap.size ≤ k_)) ho0 (fun k_ hk_ => Or.elim hk_ (fun hs_ => hs_) (fun hn_ => (.inr (Nat.le_trans (below_size (gB HB.out)) hn_))))) (below_size (gB HB.out))); have n4_ := Aside0.mk (below_step (gB HB.out) hb); clear HO0; clear HO1; clear HO130; clear HB; have HO0 := n0_; have HO1 := n1_; have HO130 := n2_; have HO133 := n3_; have HB := n4_; clear n0_ n1_ n2_ n3_ n4_; (try clear hb); (try clear hb2); (try clear hk); (try clear hi); (try clear ho0); obtain ⟨Ao16, co16, eo16⟩ := Kd.V_slice HO130.out; subst eo16; obtain ⟨Ao17, co17, eo17⟩ := Kd.V_slice HO133.out; subst eo17) | ((with_reducible refine gate_callee (f := 33) rfl ?_); refine goesL_ (some 16) rfl rfl Try.func33 (by kernel_rfl) rfl #[.slice Ao16 t128.length co16, .slice Ao17 t131.length co17] rfl (by (try simp only [List.map_toArray, List.map_cons, List.map_nil]); first | done | rfl | (simp only [List.length_drop, List.length_take]; rfl)) ?_; (with_reducible refine (mag_Cmp.calls k _ _ t128 _ _ t131 t134 _ ?side1 ?side2 ?side3 ?side4 A5.out).mono ?_); (case side1 => repeat (first | exact (Kd.V_reads' HO130.out).2.2 | (with_reducible refine Kd.C_alloc ?_ _) | (with_reducible refine Kd.C_drewN ?_ _) | (with_reducible refine Kd.C_drew ?_))); (case side2 => exact (Kd.V_reads' HO130.out).2.1); (case side3 => repeat (first | exact (Kd.V_reads' HO133.out).2.2 | (with_reducible refine Kd.C_alloc ?_ _) | (with_reducible refine Kd.C_drewN ?_ _) | (with_reducible refine Kd.C_drew ?_))); (case side4 => exact (Kd.V_reads' HO133.out).2.1); rintro e w18 ⟨rfl, hb⟩; refine ⟨_, rfl, ?_⟩; have n0_ := Aside0.mk (Kd.V_below (gV HO0.out) hb); have n1_ := Aside0.mk (Kd.V_below (gV HO1.out) hb); have n2_ := Aside0.mk (Kd.V_below (gV HO130.out) hb); have n3_ := Aside0.mk (Kd.V_below (gV HO133.out) hb); have n4_ := Aside0.mk (below_step (gB HB.out) hb); clear HO0; clear HO1; clear HO130; clear HO133; clear HB; have HO0 := n0_; have HO1 := n1_; have HO130 := n2_; have HO133 := n3_; have HB := n4_; clear n0_ n1_ n2_ n3_ n4_; (try clear hb); (try clear hb2); (try clear hk); (try clear hi)) | ((with_reducible refine gate_dst (N := 20) rfl ?_); refine Kd.R_make (Kd.int .u64) _ 54 rfl (N := 20) rfl 23 _ _ rfl (t128.length : Int) rfl rfl Try.underlying23 (.int .u64 0) 8 info54 rfl (by decide) (by omega) 0 (ok := fun _ => True) (okp := fun _ => True) rfl (fun _ hk => hk) trivial (of_decide_eq_true (by first | (with_reducible assumption) | assumption)) (Nat.le_trans (Nat.mul_le_mul_right _ (of_decide_eq_true (by first | (with_reducible assumption) | assumption) : (t128.length : Int).toNat ≤ 35184372088832)) (by omega)) (Below.refl _ _) (Nat.le_refl _) ?_; intro v136 w19 ho20 hb hg_ hnew_; clear hg_ hnew_; (first | rw [← Ny135.out] at ho20 | (simp only [Int.reduceToNat] at ho20; rw [← Ny135.out] at ho20)); have n0_ := Aside0.mk (Kd.V_elder' (gV HO0.out) (Kd.R_base ho20) hb); have n1_ := Aside0.mk (Kd.V_elder' (gV HO1.out) (Kd.R_base ho20) hb); have n2_ := Aside0.mk (Kd.V_elder' (gV HO130.out) (Kd.R_base ho20) hb); have n3_ := Aside0.mk (Kd.V_elder' (gV HO133.out) (Kd.R_base ho20) hb); have n4_ := Aside0.mk (Kd.R_lower (Kd.R_newM (M := fun k_ => (w.heap.size ≤ k_)) ho20 (below_size (gB HB.out)) (fun k_ h_ => h_)) (below_size (gB HB.out))); have n5_ := Aside0.mk (below_step (gB HB.out) hb); clear HO0; clear HO1; clear HO130; clear HO133; clear HB; have HO0 := n0_; have HO1 := n1_; have HO130 := n2_; have HO133 := n3_; have HO137 := n4_; have HB := n5_; clear n0_ n1_ n2_ n3_ n4_ n5_; clear hb ho20))
    go_loopg [6, 23] k (fun kq v6 v23 w' => ∃ (x5_1 : List Int) (x6_1 : Int) (x23_1 : Int), v6 = .int .u64 x6_1 ∧ v23 = .int .i64 x23_1 ∧ Aside0 (mag_Sub.l0 kq t131 x5_1 x6_1 t128 (t128.length : Int) x23_1 = some r) ∧ Aside0 (kq ≤ k) ∧ Aside0 (Kd.V (Kd.int .u64) 54 w' w.heap.size (fun k_ => ((P0_ k_ ∨ P1_ k_) ∨ w.heap.size ≤ k_) ∧ some k_ ≠ (v136 : Value).ownBlock) (.slice Ao17 t131.length co17) t131) ∧ Aside0 (Kd.R (Kd.int .u64) 54 w' w.heap.size (fun k_ => (w.heap.size ≤ k_)) v136 x5_1) ∧ Aside0 (Kd.V (Kd.int .u64) 54 w' w.heap.size (fun k_ => ((P0_ k_ ∨ P1_ k_) ∨ w.heap.size ≤ k_) ∧ some k_ ≠ (v136 : Value).ownBlock) (.slice Ao16 t128.length co16) t128) ∧ Aside0 (Below w.heap.size w w'))
    case atStart => exact ⟨(y135), (0), (0), (by first | rfl | (simp; done) | (simp [*]; done)), (by first | rfl | (simp; done) | (simp [*]; done)), H', ⟨Nat.le_refl _⟩, ⟨by (with_reducible repeat (first | apply Kd.V_alloc | apply Kd.V_drewN | apply Kd.V_drew)); exact HO133.out⟩, ⟨by (with_reducible repeat (first | apply Kd.R_alloc | apply Kd.R_drewN | apply Kd.R_drew)); exact Kd.R_mono HO137.out (fun _ hk => hk.1)⟩, ⟨by (with_reducible repeat (first | apply Kd.V_alloc | apply Kd.V_drewN | apply Kd.V_drew)); exact HO130.out⟩, ⟨by repeat (first | (with_reducible first | exact HB.out | apply bA | apply bN | apply bD) | exact HB.out)⟩⟩
    case round =>
     clear H'
     try clear c1
     try clear p2
     try clear c3
     try clear c4
     try clear c6
     try clear c6b0
     try clear c12
     try clear c12b0
     try clear c12b1
     try clear c13
     try clear c13b0
     try clear c13b1
     obtain ⟨x5_1, x6_1, x23_1, rfl, rfl, HA, HK1, HO_1, HO_5, HO_21, HB⟩ := hrel
     cases gk with
     | zero => exact absurd HA.out (by simp [mag_Sub.l0])
     | succ k1 =>
      have H := HA.out
      clear HA
      simp only [mag_Sub.l0] at H
      by_cases c21 : x23_1 < (t128.length : Int)
      ·rw [if_pos c21] at H
       have c21b0 : decide (x23_1 < (t128.length : Int)) = true := decide_eq_true c21
       clear c21
       by_cases c22 : 0 ≤ x23_1
       ·rw [if_pos c22] at H
        have c22b0 : decide (0 ≤ x23_1) = true := decide_eq_true c22
        clear c22
        by_cases c23 : x23_1 < (t128.length : Int)
        ·rw [if_pos c23] at H
         have c23b0 : decide (x23_1 < (t128.length : Int)) = true := decide_eq_true c23
         clear c23
         by_cases c24 : x23_1 < (t131.length : Int)
         ·rw [if_pos c24] at H
          have c24b0 : decide (x23_1 < (t131.length : Int)) = true := decide_eq_true c24
          clear c24
          by_cases c25 : x6_1 ≤ 1
          ·rw [if_pos c25] at H
           have c25b0 := eq_true c25
           have c25b1 : decide (x6_1 ≤ 1) = true := decide_eq_true c25
           clear c25
           by_cases c26 : x23_1 < (x5_1.length : Int)
           ·rw [if_pos c26] at H
            have c26b0 : decide (x23_1 < (x5_1.length : Int)) = true := decide_eq_true c26
            clear c26
            obtain ⟨y140, hy140⟩ : ∃ y_ : List Int, y_ = (x5_1.set (x23_1 : Int).toNat (subS (rd t128 x23_1) (rd t131 x23_1) x6_1)) := ⟨_, rfl⟩
            replace H : (mag_Sub.l0 k1 t131 y140 (subC (rd t128 x23_1) (rd t131 x23_1) x6_1) t128 (t128.length : Int) (wrap64 (x23_1 + 1))) = some r := by first | (rw [hy140]; with_reducible exact H) | (have H2_ := (Option.bind_some _ _).symm.trans H; rw [hy140]; with_reducible exact H2_) | (have H2_ := (Option.bind_some _ _).symm.trans H; with_reducible exact H2_) | with_reducible exact H | (rw [hy140]; exact H) | exact H
            have Ny140 := Aside0.mk hy140
            clear hy140
            have H' := Aside0.mk H
            clear H
            have p138 : 0 ≤ (x23_1 : Int) := of_decide_eq_true (by first | (with_reducible assumption) | assumption)
            have q138 : x23_1 < (t128.length : Int) := of_decide_eq_true (by first | (with_reducible assumption) | assumption)
            obtain ⟨ad138, e138, hx138_0⟩ := Kd.at_int (Kd.V_reads' HO_21.out).2.2 x23_1 p138 q138
            cases e138
            replace p138 := eq_true p138
            replace q138 := eq_true q138
            have p139 : 0 ≤ (x23_1 : Int) := of_decide_eq_true (by first | (with_reducible assumption) | assumption)
            have q139 : x23_1 < (t131.length : Int) := of_decide_eq_true (by first | (with_reducible assumption) | assumption)
            obtain ⟨ad139, e139, hx139_0⟩ := Kd.at_int (Kd.V_reads' HO_1.out).2.2 x23_1 p139 q139
            cases e139
            replace p139 := eq_true p139
            replace q139 := eq_true q139
            have p27 : 0 ≤ (x23_1 : Int) := of_decide_eq_true (by first | (with_reducible assumption) | assumption)
            have q27 : (x23_1 : Int) < ((x5_1.length : Int) : Int) := of_decide_eq_true (by first | (with_reducible assumption) | assumption)
            obtain ⟨go27, co27, eo27, gb27, gl27, cl27, HG27⟩ := Kd.R_form HO_5.out (by omega)
            (first | cases eo27 | (injection eo27 with ea_ en_ ec_; (first | subst ea_ | (injection ea_ with ea_; subst ea_)); subst ec_; clear en_))
            have GB27 := Aside0.mk gb27
            have GG27 := Aside0.mk HG27
            clear gb27 gl27 HG27
            obtain ⟨hx27_0, hf27_0⟩ := Kd.R_celln 0 HO_5.out (x23_1 : Int) p27 q27
            replace p27 := eq_true p27
            replace q27 := eq_true q27
            have HP28 := Kd.R_putg HO_5.out (x23_1 : Int) (subS (rd t128 x23_1) (rd t131 x23_1) x6_1)
            go_wp2_with (first | ((with_reducible refine gate_store (t := 54) (p := 45) rfl ?_); refine store_event (t := 54) (p := 45) (v := ?vo_w29) (w1 := (wr.setCell ⟨go27, (x23_1 : Int).toNat, none⟩ (.int .u64 (subS (rd t128 x23_1) (rd t131 x23_1) x6_1)))) ?hg ?ho ?hn ?hr ?_; (case ho => rfl); (case hg => rfl); (case hn => rfl); (case hr => first | (go_simp; done) | (go_simp; rfl)); intro w29 hw; have hg : wr.grownBy w29 (some go27) := (by rw [hw]; exact HP28.2); have hp_ : Kd.R (Kd.int .u64) 54 w29 w.heap.size (fun k_ => (w.heap.size ≤ k_)) (.slice (some ⟨go27, 0, none⟩) x5_1.length co27) y140 := (by rw [hw, Ny140.out]; exact HP28.1); clear HP28; have n0_ := Aside0.mk (Kd.V_afterv (v := (.slice (some ⟨go27, 0, none⟩) x5_1.length co27)) (v1 := (.slice (some ⟨go27, 0, none⟩) x5_1.length co27)) (ok := (fun k_ => ((P0_ k_ ∨ P1_ k_) ∨ w.heap.size ≤ k_))) (gV HO_1.out) hg (.inl rfl)); have n1_ := Aside0.mk (hp_); have n2_ := Aside0.mk (Kd.V_afterv (v := (.slice (some ⟨go27, 0, none⟩) x5_1.length co27)) (v1 := (.slice (some ⟨go27, 0, none⟩) x5_1.length co27)) (ok := (fun k_ => ((P0_ k_ ∨ P1_ k_) ∨ w.heap.size ≤ k_))) (gV HO_21.out) hg (.inl rfl)); have n3_ := Aside0.mk ((by rw [hw]; exact bS (HB.out) GB27.out : Below w.heap.size w w29)); clear HO_1; clear HO_5; clear HO_21; clear HB; have HO_1 := n0_; have HO_5 := n1_; have HO_21 := n2_; have HB := n3_; clear n0_ n1_ n2_ n3_; clear hg hw hp_))
            go_roundg k1
            case measure => have := HK1.out; omega
            case rel => exact ⟨(y140), (subC (rd t128 x23_1) (rd t131 x23_1) x6_1), (wrap64 (x23_1 + 1)), (by first | rfl | (simp; done) | (simp [*]; done)), (by first | rfl | (simp; done) | (simp [*]; done)), H', ⟨by have := HK1.out; omega⟩, ⟨by (with_reducible repeat (first | apply Kd.V_alloc | apply Kd.V_drewN | apply Kd.V_drew)); exact HO_1.out⟩, ⟨by (with_reducible repeat (first | apply Kd.R_alloc | apply Kd.R_drewN | apply Kd.R_drew)); exact HO_5.out⟩, ⟨by (with_reducible repeat (first | apply Kd.V_alloc | apply Kd.V_drewN | apply Kd.V_drew)); exact HO_21.out⟩, ⟨by repeat (first | (with_reducible first | exact HB.out | apply bA | apply bN | apply bD) | exact HB.out)⟩⟩
           ·rw [if_neg c26] at H
            exact absurd H (by simp)
          ·rw [if_neg c25] at H
           exact absurd H (by simp)
         ·rw [if_neg c24] at H
          have c24b0 : decide (x23_1 < (t131.length : Int)) = false := decide_eq_false c24
          clear c24
          by_cases c30 : x6_1 ≤ 1
          ·rw [if_pos c30] at H
           have c30b0 := eq_true c30
           have c30b1 : decide (x6_1 ≤ 1) = true := decide_eq_true c30
           clear c30
           by_cases c31 : x23_1 < (x5_1.length : Int)
           ·rw [if_pos c31] at H
            have c31b0 : decide (x23_1 < (x5_1.length : Int)) = true := decide_eq_true c31
            clear c31
            obtain ⟨y141, hy141⟩ : ∃ y_ : List Int, y_ = (x5_1.set (x23_1 : Int).toNat (subS (rd t128 x23_1) 0 x6_1)) := ⟨_, rfl⟩
            replace H : (mag_Sub.l0 k1 t131 y141 (subC (rd t128 x23_1) 0 x6_1) t128 (t128.length : Int) (wrap64 (x23_1 + 1))) = some r := by first | (rw [hy141]; with_reducible exact H) | (have H2_ := (Option.bind_some _ _).symm.trans H; rw [hy141]; with_reducible exact H2_) | (have H2_ := (Option.bind_some _ _).symm.trans H; with_reducible exact H2_) | with_reducible exact H | (rw [hy141]; exact H) | exact H
            have Ny141 := Aside0.mk hy141
            clear hy141
            have H' := Aside0.mk H
            clear H
            have p138 : 0 ≤ (x23_1 : Int) := of_decide_eq_true (by first | (with_reducible assumption) | assumption)
            have q138 : x23_1 < (t128.length : Int) := of_decide_eq_true (by first | (with_reducible assumption) | assumption)
            obtain ⟨ad138, e138, hx138_0⟩ := Kd.at_int (Kd.V_reads' HO_21.out).2.2 x23_1 p138 q138
            cases e138
            replace p138 := eq_true p138
            replace q138 := eq_true q138
            have p32 : 0 ≤ (x23_1 : Int) := of_decide_eq_true (by first | (with_reducible assumption) | assumption)
            have q32 : (x23_1 : Int) < ((x5_1.length : Int) : Int) := of_decide_eq_true (by first | (with_reducible assumption) | assumption)
            obtain ⟨go32, co32, eo32, gb32, gl32, cl32, HG32⟩ := Kd.R_form HO_5.out (by omega)
            (first | cases eo32 | (injection eo32 with ea_ en_ ec_; (first | subst ea_ | (injection ea_ with ea_; subst ea_)); subst ec_; clear en_))
            have GB32 := Aside0.mk gb32
            have GG32 := Aside0.mk HG32
            clear gb32 gl32 HG32
            obtain ⟨hx32_0, hf32_0⟩ := Kd.R_celln 0 HO_5.out (x23_1 : Int) p32 q32
            replace p32 := eq_true p32
            replace q32 := eq_true q32
            have HP33 := Kd.R_putg HO_5.out (x23_1 : Int) (subS (rd t128 x23_1) 0 x6_1)
            go_wp2_with (first | ((with_reducible refine gate_store (t := 54) (p := 45) rfl ?_); refine store_event (t := 54) (p := 45) (v := ?vo_w34) (w1 := (wr.setCell ⟨go32, (x23_1 : Int).toNat, none⟩ (.int .u64 (subS (rd t128 x23_1) 0 x6_1)))) ?hg ?ho ?hn ?hr ?_; (case ho => rfl); (case hg => rfl); (case hn => rfl); (case hr => first | (go_simp; done) | (go_simp; rfl)); intro w34 hw; have hg : wr.grownBy w34 (some go32) := (by rw [hw]; exact HP33.2); have hp_ : Kd.R (Kd.int .u64) 54 w34 w.heap.size (fun k_ => (w.heap.size ≤ k_)) (.slice (some ⟨go32, 0, none⟩) x5_1.length co32) y141 := (by rw [hw, Ny141.out]; exact HP33.1); clear HP33; have n0_ := Aside0.mk (Kd.V_afterv (v := (.slice (some ⟨go32, 0, none⟩) x5_1.length co32)) (v1 := (.slice (some ⟨go32, 0, none⟩) x5_1.length co32)) (ok := (fun k_ => ((P0_ k_ ∨ P1_ k_) ∨ w.heap.size ≤ k_))) (gV HO_1.out) hg (.inl rfl)); have n1_ := Aside0.mk (hp_); have n2_ := Aside0.mk (Kd.V_afterv (v := (.slice (some ⟨go32, 0, none⟩) x5_1.length co32)) (v1 := (.slice (some ⟨go32, 0, none⟩) x5_1.length co32)) (ok := (fun k_ => ((P0_ k_ ∨ P1_ k_) ∨ w.heap.size ≤ k_))) (gV HO_21.out) hg (.inl rfl)); have n3_ := Aside0.mk ((by rw [hw]; exact bS (HB.out) GB32.out : Below w.heap.size w w34)); clear HO_1; clear HO_5; clear HO_21; clear HB; have HO_1 := n0_; have HO_5 := n1_; have HO_21 := n2_; have HB := n3_; clear n0_ n1_ n2_ n3_; clear hg hw hp_))
            go_roundg k1
            case measure => have := HK1.out; omega
            case rel => exact ⟨(y141), (subC (rd t128 x23_1) 0 x6_1), (wrap64 (x23_1 + 1)), (by first | rfl | (simp; done) | (simp [*]; done)), (by first | rfl | (simp; done) | (simp [*]; done)), H', ⟨by have := HK1.out; omega⟩, ⟨by (with_reducible repeat (first | apply Kd.V_alloc | apply Kd.V_drewN | apply Kd.V_drew)); exact HO_1.out⟩, ⟨by (with_reducible repeat (first | apply Kd.R_alloc | apply Kd.R_drewN | apply Kd.R_drew)); exact HO_5.out⟩, ⟨by (with_reducible repeat (first | apply Kd.V_alloc | apply Kd.V_drewN | apply Kd.V_drew)); exact HO_21.out⟩, ⟨by repeat (first | (with_reducible first | exact HB.out | apply bA | apply bN | apply bD) | exact HB.out)⟩⟩
           ·rw [if_neg c31] at H
            exact absurd H (by simp)
          ·rw [if_neg c30] at H
           exact absurd H (by simp)
        ·rw [if_neg c23] at H
         exact absurd H (by simp)
       ·rw [if_neg c22] at H
        exact absurd H (by simp)
      ·rw [if_neg c21] at H
       have c21b0 : decide (x23_1 < (t128.length : Int)) = false := decide_eq_false c21
       clear c21
       replace H := Option.bind_eq_some_iff.mp H
       obtain ⟨t142, A350, H⟩ := H
       replace H : (some t142) = some r := H
       have A35 := Aside0.mk A350
       clear A350
       obtain rfl := Option.some.inj H
       obtain ⟨Ao36, co36, eo36⟩ := Kd.R_slice HO_5.out
       subst eo36
       go_wp2_with (first | ((with_reducible refine gate_callee (f := 44) rfl ?_); refine goesL_ (some 48) rfl rfl Try.func44 (by kernel_rfl) rfl #[.slice Ao36 x5_1.length co36] rfl (by (try simp only [List.map_toArray, List.map_cons, List.map_nil]); first | done | rfl | (simp only [List.length_drop, List.length_take]; rfl)) ?_; (with_reducible refine (mag_right.calls k1 (fun k_ => some k_ = (.slice Ao36 x5_1.length co36 : Value).ownBlock) _ _ x5_1 t142 _ ?side1 A35.out).mono ?_); (case side1 => exact Kd.R_V (Kd.R_tight rfl (HO_5.out))); rintro e w37 ⟨v143, rfl, ho0, hb⟩; refine ⟨_, rfl, ?_⟩; have n0_ := Aside0.mk (Kd.V_below (gV HO_1.out) hb); have n1_ := Aside0.mk (Kd.R_below (gR HO_5.out) hb); have n2_ := Aside0.mk (Kd.V_below (gV HO_21.out) hb); have n3_ := Aside0.mk (Kd.V_lower (Kd.V_mono (ok' := fun k_ => ((P0_ k_ ∨ P1_ k_) ∨ w.heap.size ≤ k_)) ho0 (fun k_ hk_ => Or.elim hk_ (fun hs_ => (.inr (((HO_5.out).1 k_ hs_.symm)))) (fun hn_ => (.inr (Nat.le_trans (below_size (gB HB.out)) hn_))))) (below_size (gB HB.out))); have n4_ := Aside0.mk (below_step (gB HB.out) hb); clear HO_1; clear HO_5; clear HO_21; clear HB; have HO_1 := n0_; have HO_5 := n1_; have HO_21 := n2_; have HO144 := n3_; have HB := n4_; clear n0_ n1_ n2_ n3_ n4_; (try clear hb); (try clear hb2); (try clear hk); (try clear hi); (try clear ho0)))
       go_ret
       exact ⟨_, by first | rfl | (simp [errW_none, errW_some] <;> rfl) | (simp [*, errW_none, errW_some] <;> rfl), by (with_reducible repeat (first | apply Kd.V_alloc | apply Kd.V_drewN | apply Kd.V_drew)); exact HO144.out, by repeat (first | (with_reducible first | exact HB.out | apply bA | apply bN | apply bD) | exact HB.out)⟩
   ·rw [if_neg c13] at H
    exact absurd H (by simp)
  ·rw [if_neg c12] at H
   exact absurd H (by simp)

end Go.Proofs.Ytpgmhhkkbjbpgaa.M
