-- By drive.py (this session's program), out of the translation. Lean checks it.
import Derived.Test.YtpgmhhkkbjbpgaaA0
import Derived.Test.YtpgmhhkkbjbpgaaA1
import Derived.Test.YtpgmhhkkbjbpgaaA2
import Derived.Test.YtpgmhhkkbjbpgaaA3
import Derived.Test.YtpgmhhkkbjbpgaaA4
import Derived.Test.YtpgmhhkkbjbpgaaX4
namespace Go.Proofs.Ytpgmhhkkbjbpgaa.M
open Go.Proofs.Ytpgmhhkkbjbpgaa.MB Go.Proofs.Ytpgmhhkkbjbpgaa
open Go.RowKit Go.Proofs.YtpgmhhkkbjbpgaaW.PrintWords Go.Proofs.YtpgmhhkkbjbpgaaW.PrintLast Go.Proofs.YtpgmhhkkbjbpgaaW.PrintMore
attribute [local go_sem] max2_int min2_int max_two min_two max_three min_three max_four min_four   -- for this text's walks alone
set_option linter.unusedVariables false
set_option linter.unusedSimpArgs false
attribute [local go_sem] add64_run sub64_run

/-! ### mag_Div: function 36 -/
mutual
def mag_Div.j0 : Nat → List Int → List Int → Bool → Option (List Int × List Int)
 | 0, _, _, _ => none
 | k + 1, x0, x1, x19 => if x19 = true then (if ([] : List Int).length + x0.length < 17592186044416 then (some (([] : List Int), (([] : List Int) ++ x0))) else (none)) else (if (x1.length : Int) = 1 then (if 0 < (x1.length : Int) then ((mag_word.f k x0 (rd x1 0)).bind fun bt250 => ((mag_Of.f k bt250.2).bind fun t254 => (some (bt250.1, t254)))) else (none)) else ((mag_Len.f k x1).bind fun t257 => ((mag_Up.f k x1 (wrap64 ((wrap64 (64 * (x1.length : Int))) - t257))).bind fun t258 => (if 0 ≤ (wrap64 ((x0.length : Int) + 1)) then (if (wrap64 ((x0.length : Int) + 1) : Int).toNat ≤ 35184372088832 then ((some (List.replicate (wrap64 ((x0.length : Int) + 1) : Int).toNat 0 : List Int)).bind fun y261 => ((mag_Up.f k x0 (wrap64 ((wrap64 (64 * (x1.length : Int))) - t257))).bind fun t264 => ((MD.mag_put.f y261 t264).bind fun t267 => (if 0 ≤ (wrap64 ((y261.length : Int) - (t258.length : Int))) then (if (wrap64 ((y261.length : Int) - (t258.length : Int)) : Int).toNat ≤ 35184372088832 then ((some (List.replicate (wrap64 ((y261.length : Int) - (t258.length : Int)) : Int).toNat 0 : List Int)).bind fun y268 => (mag_Div.l0 k (wrap64 ((wrap64 (64 * (x1.length : Int))) - t257)) t258 t267 (t258.length : Int) y268 (wrap64 ((y268.length : Int) - 1)))) else (none)) else (none))))) else (none)) else (none)))))
def mag_Div.l0 : Nat → Int → List Int → List Int → Int → List Int → Int → Option (List Int × List Int)
 | 0, _, _, _, _, _, _ => none
 | k + 1, x8, x9, x10, x11, x12, x13 => if x13 ≥ 0 then ((MD.mag_round.f k x10 x12 x9 x13 x11).bind fun bt271 => (mag_Div.l0 k x8 x9 bt271.1 x11 bt271.2 (wrap64 (x13 - 1)))) else ((mag_right.f k x12).bind fun t273 => (if 0 ≤ x11 then (if x11 ≤ (x10.length : Int) then ((mag_right.f k (x10.take (x11 : Int).toNat)).bind fun t281 => ((mag_Down.f k t281 x8).bind fun t284 => (some (t273, t284)))) else (none)) else (none)))
end
def mag_Div.f (k : Nat) (l0 : List Int) (l1 : List Int) : Option (List Int × List Int) := (mag_right.f k l0).bind fun t239 => ((mag_right.f k l1).bind fun t242 => (if (t242.length : Int) = 0 then (mag_Div.j0 k t239 t242 true) else ((mag_Cmp.f k t239 t242).bind fun t245 => (mag_Div.j0 k t239 t242 (decide (t245 < 0))))))
theorem mag_Div.mono_l : ∀ k, (∀ y0 y1 y2, LeO (mag_Div.j0 k y0 y1 y2) (mag_Div.j0 (k + 1) y0 y1 y2)) ∧ (∀ y0 y1 y2 y3 y4 y5, LeO (mag_Div.l0 k y0 y1 y2 y3 y4 y5) (mag_Div.l0 (k + 1) y0 y1 y2 y3 y4 y5))
 | 0 => ⟨fun _ _ _ r h => by simp [mag_Div.j0] at h, fun _ _ _ _ _ _ r h => by simp [mag_Div.l0] at h⟩
 | k + 1 => by
  obtain ⟨ih0, ih1⟩ := mag_Div.mono_l k
  refine ⟨?_, ?_⟩
  ·intro y0 y1 y2
   unfold mag_Div.j0
   repeat' first
   | (with_reducible exact ih0 _ _ _)
   | (with_reducible exact ih1 _ _ _ _ _ _)
   | (with_reducible exact mag_Cmp.mono _ _ _)
   | (with_reducible exact mag_Down.mono _ _ _)
   | (with_reducible exact mag_Len.mono _ _)
   | (with_reducible exact mag_Of.mono _ _)
   | (with_reducible exact mag_Up.mono _ _ _)
   | (with_reducible exact mag_right.mono _ _)
   | (with_reducible exact MD.mag_round.mono _ _ _ _ _ _)
   | (with_reducible exact mag_word.mono _ _ _)
   | (with_reducible exact LeO.refl _)
   | (with_reducible exact LeO.none _)
   | (with_reducible refine LeO.ite ?_ ?_)
   | (with_reducible refine LeO.bind ?_ (fun _ => ?_))
   | exact ih0 _ _ _
   | exact ih1 _ _ _ _ _ _
   | exact mag_Cmp.mono _ _ _
   | exact mag_Down.mono _ _ _
   | exact mag_Len.mono _ _
   | exact mag_Of.mono _ _
   | exact mag_Up.mono _ _ _
   | exact mag_right.mono _ _
   | exact MD.mag_round.mono _ _ _ _ _ _
   | exact mag_word.mono _ _ _
   | exact LeO.none _
   | refine LeO.ite ?_ ?_
   | refine LeO.bind ?_ (fun _ => ?_)
  ·intro y0 y1 y2 y3 y4 y5
   unfold mag_Div.l0
   repeat' first
   | (with_reducible exact ih0 _ _ _)
   | (with_reducible exact ih1 _ _ _ _ _ _)
   | (with_reducible exact mag_Cmp.mono _ _ _)
   | (with_reducible exact mag_Down.mono _ _ _)
   | (with_reducible exact mag_Len.mono _ _)
   | (with_reducible exact mag_Of.mono _ _)
   | (with_reducible exact mag_Up.mono _ _ _)
   | (with_reducible exact mag_right.mono _ _)
   | (with_reducible exact MD.mag_round.mono _ _ _ _ _ _)
   | (with_reducible exact mag_word.mono _ _ _)
   | (with_reducible exact LeO.refl _)
   | (with_reducible exact LeO.none _)
   | (with_reducible refine LeO.ite ?_ ?_)
   | (with_reducible refine LeO.bind ?_ (fun _ => ?_))
   | exact ih0 _ _ _
   | exact ih1 _ _ _ _ _ _
   | exact mag_Cmp.mono _ _ _
   | exact mag_Down.mono _ _ _
   | exact mag_Len.mono _ _
   | exact mag_Of.mono _ _
   | exact mag_Up.mono _ _ _
   | exact mag_right.mono _ _
   | exact MD.mag_round.mono _ _ _ _ _ _
   | exact mag_word.mono _ _ _
   | exact LeO.none _
   | refine LeO.ite ?_ ?_
   | refine LeO.bind ?_ (fun _ => ?_)
theorem mag_Div.mono : ∀ a0 a1 k, LeO (mag_Div.f k a0 a1) (mag_Div.f (k + 1) a0 a1) := by
 intro a0 a1 k
 obtain ⟨ih0, ih1⟩ := mag_Div.mono_l k
 unfold mag_Div.f
 repeat' first
   | (with_reducible exact ih0 _ _ _)
   | (with_reducible exact ih1 _ _ _ _ _ _)
   | (with_reducible exact mag_Cmp.mono _ _ _)
   | (with_reducible exact mag_Down.mono _ _ _)
   | (with_reducible exact mag_Len.mono _ _)
   | (with_reducible exact mag_Of.mono _ _)
   | (with_reducible exact mag_Up.mono _ _ _)
   | (with_reducible exact mag_right.mono _ _)
   | (with_reducible exact MD.mag_round.mono _ _ _ _ _ _)
   | (with_reducible exact mag_word.mono _ _ _)
   | (with_reducible exact LeO.refl _)
   | (with_reducible exact LeO.none _)
   | (with_reducible refine LeO.ite ?_ ?_)
   | (with_reducible refine LeO.bind ?_ (fun _ => ?_))
   | exact ih0 _ _ _
   | exact ih1 _ _ _ _ _ _
   | exact mag_Cmp.mono _ _ _
   | exact mag_Down.mono _ _ _
   | exact mag_Len.mono _ _
   | exact mag_Of.mono _ _
   | exact mag_Up.mono _ _ _
   | exact mag_right.mono _ _
   | exact MD.mag_round.mono _ _ _ _ _ _
   | exact mag_word.mono _ _ _
   | exact LeO.none _
   | refine LeO.ite ?_ ?_
   | refine LeO.bind ?_ (fun _ => ?_)
def mag_Div.T21 : Bool × List (List Nat × List Nat) := (true, [([], []), ([0], [0]), ([], []), ([], []), ([2, 3], [2, 3]), ([4, 1], [4]), ([], []), ([5, 6, 5], [5, 6]), ([1, 7, 0, 1], [1]), ([7, 8, 0, 1, 2, 3, 4, 5, 6, 7, 8], [7])])
def mag_Div.B21 : List Nat := [0, 1, 0, 0, 12, 31, 0, 127, 255, 511]
theorem mag_Div.tab21 : rtab .any (opsOf Try.f36 21) = mag_Div.T21 := by kernel_rfl
theorem mag_Div.bits21 : waitsOk mag_Div.T21.2 mag_Div.B21 = true := by kernel_rfl
set_option maxHeartbeats 8000000 in
set_option maxRecDepth 100000 in
theorem mag_Div.calls (k : Nat) (P0_ : Nat → Prop) (A0 : Option Addr) (c0 : Nat) (l0 : List Int) (P1_ : Nat → Prop) (A1 : Option Addr) (c1 : Nat) (l1 : List Int) (r1 : List Int) (r2 : List Int) (w : World) (hs0 : Kd.V (Kd.int .u64) 54 w w.heap.size (fun k_ => P0_ k_) (.slice A0 l0.length c0) l0) (hs1 : Kd.V (Kd.int .u64) 54 w w.heap.size (fun k_ => P1_ k_) (.slice A1 l1.length c1) l1) (h : mag_Div.f k l0 l1 = some (r1, r2)) :
  Calls Try.prog 36 #[.slice A0 l0.length c0, .slice A1 l1.length c1] w fun e w' => ∃ v0_ v1_ : Value, e = .returned (.tuple #[v0_, v1_]) ∧ Kd.V (Kd.int .u64) 54 w' w.heap.size (fun k_ => ((P0_ k_ ∨ P1_ k_) ∨ w.heap.size ≤ k_)) v0_ r1 ∧ Kd.V (Kd.int .u64) 54 w' w.heap.size (fun k_ => ((P0_ k_ ∨ P1_ k_) ∨ w.heap.size ≤ k_)) v1_ r2 ∧ Below w.heap.size w w' := by
 have HO0 := Aside0.mk (show Kd.V (Kd.int .u64) 54 w w.heap.size (fun k_ => ((P0_ k_ ∨ P1_ k_) ∨ w.heap.size ≤ k_)) (.slice A0 l0.length c0) l0 from Kd.V_mono hs0 (fun k_ hk => .inl (.inl hk)))
 have HO1 := Aside0.mk (show Kd.V (Kd.int .u64) 54 w w.heap.size (fun k_ => ((P0_ k_ ∨ P1_ k_) ∨ w.heap.size ≤ k_)) (.slice A1 l1.length c1) l1 from Kd.V_mono hs1 (fun k_ hk => .inl (.inr hk)))
 have HB := Aside0.mk (Below.refl w.heap.size w)
 have H : ((mag_right.f k l0).bind fun t239 => ((mag_right.f k l1).bind fun t242 => (if (t242.length : Int) = 0 then (mag_Div.j0 k t239 t242 true) else ((mag_Cmp.f k t239 t242).bind fun t245 => (mag_Div.j0 k t239 t242 (decide (t245 < 0))))))) = some (r1, r2) := h
 clear h
 replace H := Option.bind_eq_some_iff.mp H
 obtain ⟨t239, A30, H⟩ := H
 replace H : ((mag_right.f k l1).bind fun t242 => (if (t242.length : Int) = 0 then (mag_Div.j0 k t239 t242 true) else ((mag_Cmp.f k t239 t242).bind fun t245 => (mag_Div.j0 k t239 t242 (decide (t245 < 0)))))) = some (r1, r2) := H
 have A3 := Aside0.mk A30
 clear A30
 replace H := Option.bind_eq_some_iff.mp H
 obtain ⟨t242, A40, H⟩ := H
 replace H : (if (t242.length : Int) = 0 then (mag_Div.j0 k t239 t242 true) else ((mag_Cmp.f k t239 t242).bind fun t245 => (mag_Div.j0 k t239 t242 (decide (t245 < 0))))) = some (r1, r2) := H
 have A4 := Aside0.mk A40
 clear A40
 have HC5 := Aside0.mk H
 clear H
 go_enter Try.func36, Try.ntmps36
 go_upto_region 2 with (first | ((with_reducible refine gate_callee (f := 44) rfl ?_); refine goesL_ (some 16) rfl rfl Try.func44 (by kernel_rfl) rfl #[.slice A0 l0.length c0] rfl (by (try simp only [List.map_toArray, List.map_cons, List.map_nil]); first | done | rfl | (simp only [List.length_drop, List.length_take]; rfl)) ?_; (with_reducible refine (mag_right.calls k (fun k_ => ((P0_ k_ ∨ P1_ k_) ∨ w.heap.size ≤ k_)) _ _ l0 t239 _ ?side1 A3.out).mono ?_); (case side1 => exact HO0.out); rintro e w6 ⟨v240, rfl, ho0, hb⟩; refine ⟨_, rfl, ?_⟩; have n0_ := Aside0.mk (Kd.V_below (gV HO0.out) hb); have n1_ := Aside0.mk (Kd.V_below (gV HO1.out) hb); have n2_ := Aside0.mk (Kd.V_lower (Kd.V_mono (ok' := fun k_ => ((P0_ k_ ∨ P1_ k_) ∨ w.heap.size ≤ k_)) ho0 (fun k_ hk_ => Or.elim hk_ (fun hs_ => hs_) (fun hn_ => (.inr (Nat.le_trans (below_size (gB HB.out)) hn_))))) (below_size (gB HB.out))); have n3_ := Aside0.mk (below_step (gB HB.out) hb); clear HO0; clear HO1; clear HB; have HO0 := n0_; have HO1 := n1_; have HO241 := n2_; have HB := n3_; clear n0_ n1_ n2_ n3_; (try clear hb); (try clear hb2); (try clear hk); (try clear hi); (try clear ho0)) | ((with_reducible refine gate_callee (f := 44) rfl ?_); refine goesL_ (some 18) rfl rfl Try.func44 (by kernel_rfl) rfl #[.slice A1 l1.length c1] rfl (by (try simp only [List.map_toArray, List.map_cons, List.map_nil]); first | done | rfl | (simp only [List.length_drop, List.length_take]; rfl)) ?_; (with_reducible refine (mag_right.calls k (fun k_ => ((P0_ k_ ∨ P1_ k_) ∨ w.heap.size ≤ k_)) _ _ l1 t242 _ ?side1 A4.out).mono ?_); (case side1 => exact HO1.out); rintro e w7 ⟨v243, rfl, ho0, hb⟩; refine ⟨_, rfl, ?_⟩; have n0_ := Aside0.mk (Kd.V_below (gV HO0.out) hb); have n1_ := Aside0.mk (Kd.V_below (gV HO1.out) hb); have n2_ := Aside0.mk (Kd.V_below (gV HO241.out) hb); have n3_ := Aside0.mk (Kd.V_lower (Kd.V_mono (ok' := fun k_ => ((P0_ k_ ∨ P1_ k_) ∨ w.heap.size ≤ k_)) ho0 (fun k_ hk_ => Or.elim hk_ (fun hs_ => hs_) (fun hn_ => (.inr (Nat.le_trans (below_size (gB HB.out)) hn_))))) (below_size (gB HB.out))); have n4_ := Aside0.mk (below_step (gB HB.out) hb); clear HO0; clear HO1; clear HO241; clear HB; have HO0 := n0_; have HO1 := n1_; have HO241 := n2_; have HO244 := n3_; have HB := n4_; clear n0_ n1_ n2_ n3_ n4_; (try clear hb); (try clear hb2); (try clear hk); (try clear hi); (try clear ho0)))
 (try simp only [Act.put, List.setIfInBounds_toArray, List.set_cons_zero, List.set_cons_succ])
 go_cut [19] (fun v19 wc => ∃ (kq : Nat) (x19_4 : Bool), v19 = .bool x19_4 ∧ Aside0 (mag_Div.j0 kq t239 t242 x19_4 = some (r1, r2)) ∧ Aside0 (kq ≤ k) ∧ Aside0 (Kd.V (Kd.int .u64) 54 wc w.heap.size (fun k_ => ((P0_ k_ ∨ P1_ k_) ∨ w.heap.size ≤ k_)) v240 t239) ∧ Aside0 (Kd.V (Kd.int .u64) 54 wc w.heap.size (fun k_ => ((P0_ k_ ∨ P1_ k_) ∨ w.heap.size ≤ k_)) v243 t242) ∧ Aside0 (Below w.heap.size w wc))
 case first =>
  have H := HC5.out
  clear HC5
  by_cases c8 : (t242.length : Int) = 0
  ·rw [if_pos c8] at H
   have c8b0 : ((t242.length : Int) == 0) = true := beq_iff_eq.mpr c8
   have c8b1 : ((t242.length : Int) != 0) = false := bne_eq_false_iff_eq.mpr c8
   clear c8
   (first | rw [c8b0] | rw [c8b1] | (simp only [i64_w, i32_w]; rw [c8b0]) | skip)
   have H' := Aside0.mk H
   clear H
   obtain ⟨Ao9, co9, eo9⟩ := Kd.V_slice HO244.out
   subst eo9
   go_wp2
   go_meet
   case rel => exact ⟨_, (true), (by first | rfl | (simp; done) | (simp [*]; done)), H', ⟨by first | omega | exact Nat.le_refl _⟩, ⟨by (with_reducible repeat (first | apply Kd.V_alloc | apply Kd.V_drewN | apply Kd.V_drew)); exact HO241.out⟩, ⟨by (with_reducible repeat (first | apply Kd.V_alloc | apply Kd.V_drewN | apply Kd.V_drew)); exact HO244.out⟩, ⟨by repeat (first | (with_reducible first | exact HB.out | apply bA | apply bN | apply bD) | exact HB.out)⟩⟩
  ·rw [if_neg c8] at H
   have c8b0 : ((t242.length : Int) == 0) = false := beq_eq_false_iff_ne.mpr c8
   have c8b1 : ((t242.length : Int) != 0) = true := bne_iff_ne.mpr c8
   have c8b2 : ¬ (t242 = []) := fun h_ => c8 (by rw [h_]; rfl)
   (first | rw [c8b0] | rw [c8b1] | (simp only [i64_w, i32_w]; rw [c8b0]) | skip)
   replace H := Option.bind_eq_some_iff.mp H
   obtain ⟨t245, A100, H⟩ := H
   replace H : (mag_Div.j0 k t239 t242 (decide (t245 < 0))) = some (r1, r2) := H
   have A10 := Aside0.mk A100
   clear A100
   have H' := Aside0.mk H
   clear H
   obtain ⟨Ao11, co11, eo11⟩ := Kd.V_slice HO244.out
   subst eo11
   obtain ⟨Ao12, co12, eo12⟩ := Kd.V_slice HO241.out
   subst eo12
   go_wp2_with (first | (go_at_call 33; (with_reducible refine (mag_Cmp.calls k _ _ t239 _ _ t242 t245 _ ?side1 ?side2 ?side3 ?side4 A10.out).mono ?_); (case side1 => repeat (first | exact (Kd.V_reads' HO241.out).2.2 | (with_reducible refine Kd.C_alloc ?_ _) | (with_reducible refine Kd.C_drewN ?_ _) | (with_reducible refine Kd.C_drew ?_))); (case side2 => exact (Kd.V_reads' HO241.out).2.1); (case side3 => repeat (first | exact (Kd.V_reads' HO244.out).2.2 | (with_reducible refine Kd.C_alloc ?_ _) | (with_reducible refine Kd.C_drewN ?_ _) | (with_reducible refine Kd.C_drew ?_))); (case side4 => exact (Kd.V_reads' HO244.out).2.1); rintro e w13 ⟨rfl, hb⟩; have n0_ := Aside0.mk (Kd.V_below (gV HO0.out) hb); have n1_ := Aside0.mk (Kd.V_below (gV HO1.out) hb); have n2_ := Aside0.mk (Kd.V_below (gV HO241.out) hb); have n3_ := Aside0.mk (Kd.V_below (gV HO244.out) hb); have n4_ := Aside0.mk (below_step (gB HB.out) hb); clear HO0; clear HO1; clear HO241; clear HO244; clear HB; have HO0 := n0_; have HO1 := n1_; have HO241 := n2_; have HO244 := n3_; have HB := n4_; clear n0_ n1_ n2_ n3_ n4_; (try clear hb); (try clear hb2); (try clear hk); (try clear hi)))
   go_meet
   case rel => exact ⟨_, (decide (t245 < 0)), (by first | rfl | (simp; done) | (simp [*]; done)), H', ⟨by first | omega | exact Nat.le_refl _⟩, ⟨by (with_reducible repeat (first | apply Kd.V_alloc | apply Kd.V_drewN | apply Kd.V_drew)); exact HO241.out⟩, ⟨by (with_reducible repeat (first | apply Kd.V_alloc | apply Kd.V_drewN | apply Kd.V_drew)); exact HO244.out⟩, ⟨by repeat (first | (with_reducible first | exact HB.out | apply bA | apply bN | apply bD) | exact HB.out)⟩⟩
 case rest =>
  clear HC5
  try clear c1
  try clear p2
  try clear c3
  try clear c4
  try clear c8
  try clear c8b0
  try clear c8b1
  try clear c8b2
  obtain ⟨kq, x19_4, rfl, HA, HJ4, HO_0, HO_1, HB⟩ := hcut
  cases kq with
  | zero => exact absurd HA.out (by simp [mag_Div.j0])
  | succ kj4 =>
   have H := HA.out
   clear HA
   simp only [mag_Div.j0] at H
   by_cases c14 : x19_4 = true
   ·subst c14
    have H1 : (if ([] : List Int).length + t239.length < 17592186044416 then (some (([] : List Int), (([] : List Int) ++ t239))) else (none)) = some (r1, r2) := by rw [if_pos rfl] at H; exact H
    clear H
    have H := H1
    clear H1
    by_cases c15 : ([] : List Int).length + t239.length < 17592186044416
    ·rw [if_pos c15] at H
     have LMc15 := Aside0.mk c15
     clear c15
     obtain ⟨y246, hy246⟩ : ∃ y_ : List Int, y_ = (([] : List Int) ++ t239) := ⟨_, rfl⟩
     replace H : (some (([] : List Int), y246)) = some (r1, r2) := by first | (rw [hy246]; with_reducible exact H) | (have H2_ := (Option.bind_some _ _).symm.trans H; rw [hy246]; with_reducible exact H2_) | (have H2_ := (Option.bind_some _ _).symm.trans H; with_reducible exact H2_) | with_reducible exact H | (rw [hy246]; exact H) | exact H
     have Ny246 := Aside0.mk hy246
     clear hy246
     simp only [Option.some.injEq, Prod.mk.injEq] at H
     obtain ⟨rfl, rfl⟩ := H
     obtain ⟨Ao17, co17, eo17⟩ := Kd.V_slice HO_0.out
     subst eo17
     go_wp2_with (first | ((with_reducible refine gate_builtin (b := .append) (xs := #[.const (.slice none 0 0), .tmp 29]) rfl ?_); at_builtin; refine Kd.R_append_rows (Kd.int .u64) (w0 := w) w.heap.size rfl (.const (.slice none 0 0)) (.tmp 29) 23 54 (.int .u64 0) 8 rfl Try.underlying23 info54 rfl (by decide) (by omega) (.slice none 0 0) ([] : List Int) t239 _ _ _ (fun k_ => (w.heap.size ≤ k_)) (fun _ => False) rfl rfl ?aO ?aR (fun _ _ h => h) (fun _ h => h.elim) ?aF ?aB ?aS ?aL ?_; (case aR => repeat (first | exact (Kd.V_reads' HO_0.out).2.2 | (with_reducible refine Kd.C_alloc ?_ _) | (with_reducible refine Kd.C_drewN ?_ _) | (with_reducible refine Kd.C_drew ?_))); (case aB => exact (gB HB.out)); (case aF => exact (fun k_ hk => (Nat.le_trans (below_size (gB HB.out)) hk))); (case aO => exact ((Kd.R_nil _ _ _ _ (fun k_ => (w.heap.size ≤ k_))))); (case aS => exact (below_size (gB HB.out))); (case aL => have := LMc15.out; omega); intro v247 w16 ho hb hg hat; rw [← Ny246.out] at ho; have n0_ := Aside0.mk (Kd.V_afterv (Kd.V_apart_nil (gV HO_0.out)) hg hat); have n1_ := Aside0.mk (Kd.V_afterv (Kd.V_apart_nil (gV HO_1.out)) hg hat); have n2_ := Aside0.mk (hb); have n3_ := Aside0.mk (ho); clear HO_0; clear HO_1; clear HB; have HO_0 := n0_; have HO_1 := n1_; have HB := n2_; have HO248 := n3_; clear n0_ n1_ n2_ n3_; clear ho hb hg hat))
     go_ret2
     exact ⟨_, _, by first | rfl | (simp [errW_none, errW_some] <;> rfl) | (simp [*, errW_none, errW_some] <;> rfl), Kd.V_nil _ _ _ _ _, Kd.V_mono (Kd.R_V (gR HO248.out)) (fun k_ hk => by first | exact ⟨(.inr (hk.1)), hk.2⟩ | exact (.inr (hk))), by repeat (first | (with_reducible first | exact HB.out | apply bA | apply bN | apply bD) | exact HB.out)⟩
    ·rw [if_neg c15] at H
     exact absurd H (by simp)
   ·replace c14 := Bool.eq_false_iff.mpr c14
    subst c14
    have H1 : (if (t242.length : Int) = 1 then (if 0 < (t242.length : Int) then ((mag_word.f kj4 t239 (rd t242 0)).bind fun bt250 => ((mag_Of.f kj4 bt250.2).bind fun t254 => (some (bt250.1, t254)))) else (none)) else ((mag_Len.f kj4 t242).bind fun t257 => ((mag_Up.f kj4 t242 (wrap64 ((wrap64 (64 * (t242.length : Int))) - t257))).bind fun t258 => (if 0 ≤ (wrap64 ((t239.length : Int) + 1)) then (if (wrap64 ((t239.length : Int) + 1) : Int).toNat ≤ 35184372088832 then ((some (List.replicate (wrap64 ((t239.length : Int) + 1) : Int).toNat 0 : List Int)).bind fun y261 => ((mag_Up.f kj4 t239 (wrap64 ((wrap64 (64 * (t242.length : Int))) - t257))).bind fun t264 => ((MD.mag_put.f y261 t264).bind fun t267 => (if 0 ≤ (wrap64 ((y261.length : Int) - (t258.length : Int))) then (if (wrap64 ((y261.length : Int) - (t258.length : Int)) : Int).toNat ≤ 35184372088832 then ((some (List.replicate (wrap64 ((y261.length : Int) - (t258.length : Int)) : Int).toNat 0 : List Int)).bind fun y268 => (mag_Div.l0 kj4 (wrap64 ((wrap64 (64 * (t242.length : Int))) - t257)) t258 t267 (t258.length : Int) y268 (wrap64 ((y268.length : Int) - 1)))) else (none)) else (none))))) else (none)) else (none))))) = some (r1, r2) := by rw [if_neg (show ¬ (false = true) by decide)] at H; exact H
    clear H
    have H := H1
    clear H1
    by_cases c18 : (t242.length : Int) = 1
    ·rw [if_pos c18] at H
     have c18b0 : ((t242.length : Int) == 1) = true := beq_iff_eq.mpr c18
     have c18b1 : ((t242.length : Int) != 1) = false := bne_eq_false_iff_eq.mpr c18
     clear c18
     by_cases c19 : 0 < (t242.length : Int)
     ·rw [if_pos c19] at H
      have c19b0 : decide (0 < (t242.length : Int)) = true := decide_eq_true c19
      have c19b1 : decide (0 < t242.length) = true := decide_eq_true (by omega)
      clear c19
      replace H := Option.bind_eq_some_iff.mp H
      obtain ⟨⟨t250, t253⟩, A200, H⟩ := H
      replace H : ((mag_Of.f kj4 t253).bind fun t254 => (some (t250, t254))) = some (r1, r2) := H
      have A20 := Aside0.mk A200
      clear A200
      replace H := Option.bind_eq_some_iff.mp H
      obtain ⟨t254, A210, H⟩ := H
      replace H : (some (t250, t254)) = some (r1, r2) := H
      have A21 := Aside0.mk A210
      clear A210
      simp only [Option.some.injEq, Prod.mk.injEq] at H
      obtain ⟨rfl, rfl⟩ := H
      obtain ⟨Ao22, co22, eo22⟩ := Kd.V_slice HO_1.out
      subst eo22
      have p249 : 0 ≤ (0 : Int) := (by omega)
      have q249 : 0 < (t242.length : Int) := of_decide_eq_true (by first | (with_reducible assumption) | assumption)
      obtain ⟨ad249, e249, hx249_0⟩ := Kd.at_int (Kd.V_reads' HO_1.out).2.2 0 p249 q249
      cases e249
      have qi249 : (0 < t242.length) = True := eq_true (by omega)
      (try rw [show ((0 : Int)).toNat = 0 from rfl] at hx249_0)
      (try rw [Addr.add_zero'] at hx249_0)
      replace p249 := eq_true p249
      replace q249 := eq_true q249
      obtain ⟨Ao23, co23, eo23⟩ := Kd.V_slice HO_0.out
      subst eo23
      go_wp2_with (first | ((with_reducible refine gate_callee (f := 48) rfl ?_); refine goesL_ (some 40) rfl rfl Try.func48 (by kernel_rfl) rfl #[.slice Ao23 t239.length co23, .int .u64 (rd t242 0)] rfl (by (try simp only [List.map_toArray, List.map_cons, List.map_nil]); first | done | rfl | (simp only [List.length_drop, List.length_take]; rfl)) ?_; (with_reducible refine (mag_word.calls kj4 _ _ t239 (rd t242 0) t250 t253 _ ?side1 ?side2 A20.out).mono ?_); (case side1 => repeat (first | exact (Kd.V_reads' HO_0.out).2.2 | (with_reducible refine Kd.C_alloc ?_ _) | (with_reducible refine Kd.C_drewN ?_ _) | (with_reducible refine Kd.C_drew ?_))); (case side2 => exact (Kd.V_reads' HO_0.out).2.1); rintro e w24 ⟨v251, rfl, ho0, hb⟩; refine ⟨_, rfl, ?_⟩; have n0_ := Aside0.mk (Kd.V_below (gV HO_0.out) hb); have n1_ := Aside0.mk (Kd.V_below (gV HO_1.out) hb); have n2_ := Aside0.mk (Kd.V_lower (Kd.V_mono (ok' := fun k_ => ((P0_ k_ ∨ P1_ k_) ∨ w.heap.size ≤ k_)) ho0 (fun k_ hk_ => (.inr (Nat.le_trans (below_size (gB HB.out)) hk_)))) (below_size (gB HB.out))); have n3_ := Aside0.mk (below_step (gB HB.out) hb); clear HO_0; clear HO_1; clear HB; have HO_0 := n0_; have HO_1 := n1_; have HO252 := n2_; have HB := n3_; clear n0_ n1_ n2_ n3_; (try clear hb); (try clear hb2); (try clear hk); (try clear hi); (try clear ho0)) | ((with_reducible refine gate_callee (f := 31) rfl ?_); refine goesL_ (some 45) rfl rfl Try.func31 (by kernel_rfl) rfl #[.int .u64 t253] rfl (by (try simp only [List.map_toArray, List.map_cons, List.map_nil]); first | done | rfl | (simp only [List.length_drop, List.length_take]; rfl)) ?_; (with_reducible refine (mag_Of.calls kj4 t253 t254 _ A21.out).mono ?_); rintro e w25 ⟨v255, rfl, ho0, hb⟩; refine ⟨_, rfl, ?_⟩; have n0_ := Aside0.mk (Kd.V_below (gV HO_0.out) hb); have n1_ := Aside0.mk (Kd.V_below (gV HO_1.out) hb); have n2_ := Aside0.mk (Kd.V_below (gV HO252.out) hb); have n3_ := Aside0.mk (Kd.V_lower (Kd.V_mono (ok' := fun k_ => ((P0_ k_ ∨ P1_ k_) ∨ w.heap.size ≤ k_)) ho0 (fun k_ hk_ => (.inr (Nat.le_trans (below_size (gB HB.out)) hk_)))) (below_size (gB HB.out))); have n4_ := Aside0.mk (below_step (gB HB.out) hb); clear HO_0; clear HO_1; clear HO252; clear HB; have HO_0 := n0_; have HO_1 := n1_; have HO252 := n2_; have HO256 := n3_; have HB := n4_; clear n0_ n1_ n2_ n3_ n4_; (try clear hb); (try clear hb2); (try clear hk); (try clear hi); (try clear ho0)))
      go_ret2
      exact ⟨_, _, by first | rfl | (simp [errW_none, errW_some] <;> rfl) | (simp [*, errW_none, errW_some] <;> rfl), by (with_reducible repeat (first | apply Kd.V_alloc | apply Kd.V_drewN | apply Kd.V_drew)); exact HO252.out, by (with_reducible repeat (first | apply Kd.V_alloc | apply Kd.V_drewN | apply Kd.V_drew)); exact HO256.out, by repeat (first | (with_reducible first | exact HB.out | apply bA | apply bN | apply bD) | exact HB.out)⟩
     ·rw [if_neg c19] at H
      exact absurd H (by simp)
    ·rw [if_neg c18] at H
     have c18b0 : ((t242.length : Int) == 1) = false := beq_eq_false_iff_ne.mpr c18
     have c18b1 : ((t242.length : Int) != 1) = true := bne_iff_ne.mpr c18
     replace H := Option.bind_eq_some_iff.mp H
     obtain ⟨t257, A260, H⟩ := H
     replace H : ((mag_Up.f kj4 t242 (wrap64 ((wrap64 (64 * (t242.length : Int))) - t257))).bind fun t258 => (if 0 ≤ (wrap64 ((t239.length : Int) + 1)) then (if (wrap64 ((t239.length : Int) + 1) : Int).toNat ≤ 35184372088832 then ((some (List.replicate (wrap64 ((t239.length : Int) + 1) : Int).toNat 0 : List Int)).bind fun y261 => ((mag_Up.f kj4 t239 (wrap64 ((wrap64 (64 * (t242.length : Int))) - t257))).bind fun t264 => ((MD.mag_put.f y261 t264).bind fun t267 => (if 0 ≤ (wrap64 ((y261.length : Int) - (t258.length : Int))) then (if (wrap64 ((y261.length : Int) - (t258.length : Int)) : Int).toNat ≤ 35184372088832 then ((some (List.replicate (wrap64 ((y261.length : Int) - (t258.length : Int)) : Int).toNat 0 : List Int)).bind fun y268 => (mag_Div.l0 kj4 (wrap64 ((wrap64 (64 * (t242.length : Int))) - t257)) t258 t267 (t258.length : Int) y268 (wrap64 ((y268.length : Int) - 1)))) else (none)) else (none))))) else (none)) else (none))) = some (r1, r2) := H
     have A26 := Aside0.mk A260
     clear A260
     replace H := Option.bind_eq_some_iff.mp H
     obtain ⟨t258, A270, H⟩ := H
     replace H : (if 0 ≤ (wrap64 ((t239.length : Int) + 1)) then (if (wrap64 ((t239.length : Int) + 1) : Int).toNat ≤ 35184372088832 then ((some (List.replicate (wrap64 ((t239.length : Int) + 1) : Int).toNat 0 : List Int)).bind fun y261 => ((mag_Up.f kj4 t239 (wrap64 ((wrap64 (64 * (t242.length : Int))) - t257))).bind fun t264 => ((MD.mag_put.f y261 t264).bind fun t267 => (if 0 ≤ (wrap64 ((y261.length : Int) - (t258.length : Int))) then (if (wrap64 ((y261.length : Int) - (t258.length : Int)) : Int).toNat ≤ 35184372088832 then ((some (List.replicate (wrap64 ((y261.length : Int) - (t258.length : Int)) : Int).toNat 0 : List Int)).bind fun y268 => (mag_Div.l0 kj4 (wrap64 ((wrap64 (64 * (t242.length : Int))) - t257)) t258 t267 (t258.length : Int) y268 (wrap64 ((y268.length : Int) - 1)))) else (none)) else (none))))) else (none)) else (none)) = some (r1, r2) := H
     have A27 := Aside0.mk A270
     clear A270
     obtain ⟨ji28, hji28⟩ : ∃ j_ : Int, (wrap64 ((t239.length : Int) + 1)) = j_ := ⟨_, rfl⟩
     replace H : (if 0 ≤ (ji28) then (if (ji28 : Int).toNat ≤ 35184372088832 then ((some (List.replicate (ji28 : Int).toNat 0 : List Int)).bind fun y261 => ((mag_Up.f kj4 t239 (wrap64 ((wrap64 (64 * (t242.length : Int))) - t257))).bind fun t264 => ((MD.mag_put.f y261 t264).bind fun t267 => (if 0 ≤ (wrap64 ((y261.length : Int) - (t258.length : Int))) then (if (wrap64 ((y261.length : Int) - (t258.length : Int)) : Int).toNat ≤ 35184372088832 then ((some (List.replicate (wrap64 ((y261.length : Int) - (t258.length : Int)) : Int).toNat 0 : List Int)).bind fun y268 => (mag_Div.l0 kj4 (wrap64 ((wrap64 (64 * (t242.length : Int))) - t257)) t258 t267 (t258.length : Int) y268 (wrap64 ((y268.length : Int) - 1)))) else (none)) else (none))))) else (none)) else (none)) = some (r1, r2) := by first | (rw [hji28] at H; exact H) | (simp only [hji28] at H ⊢; exact H)
     (try rw [hji28] at A26)
     (try rw [hji28] at A27)
     have hji28w : (IntKind.i64.wrap ((t239.length : Int) + 1)) = ji28 := (i64_w _).trans hji28
     by_cases c29 : 0 ≤ (ji28)
     ·rw [if_pos c29] at H
      have c29b0 := eq_true c29
      have c29b1 : decide (0 ≤ (ji28)) = true := decide_eq_true c29
      clear c29
      by_cases c30 : (ji28 : Int).toNat ≤ 35184372088832
      ·rw [if_pos c30] at H
       have c30b0 := eq_true c30
       have c30b1 : decide ((ji28 : Int).toNat ≤ 35184372088832) = true := decide_eq_true c30
       clear c30
       obtain ⟨y261, hy261⟩ : ∃ y_ : List Int, y_ = (List.replicate (ji28 : Int).toNat 0) := ⟨_, rfl⟩
       replace H : ((mag_Up.f kj4 t239 (wrap64 ((wrap64 (64 * (t242.length : Int))) - t257))).bind fun t264 => ((MD.mag_put.f y261 t264).bind fun t267 => (if 0 ≤ (wrap64 ((y261.length : Int) - (t258.length : Int))) then (if (wrap64 ((y261.length : Int) - (t258.length : Int)) : Int).toNat ≤ 35184372088832 then ((some (List.replicate (wrap64 ((y261.length : Int) - (t258.length : Int)) : Int).toNat 0 : List Int)).bind fun y268 => (mag_Div.l0 kj4 (wrap64 ((wrap64 (64 * (t242.length : Int))) - t257)) t258 t267 (t258.length : Int) y268 (wrap64 ((y268.length : Int) - 1)))) else (none)) else (none)))) = some (r1, r2) := by first | (rw [hy261]; with_reducible exact H) | (have H2_ := (Option.bind_some _ _).symm.trans H; rw [hy261]; with_reducible exact H2_) | (have H2_ := (Option.bind_some _ _).symm.trans H; with_reducible exact H2_) | with_reducible exact H | (rw [hy261]; exact H) | exact H
       have Ny261 := Aside0.mk hy261
       clear hy261
       replace H := Option.bind_eq_some_iff.mp H
       obtain ⟨t264, A310, H⟩ := H
       replace H : ((MD.mag_put.f y261 t264).bind fun t267 => (if 0 ≤ (wrap64 ((y261.length : Int) - (t258.length : Int))) then (if (wrap64 ((y261.length : Int) - (t258.length : Int)) : Int).toNat ≤ 35184372088832 then ((some (List.replicate (wrap64 ((y261.length : Int) - (t258.length : Int)) : Int).toNat 0 : List Int)).bind fun y268 => (mag_Div.l0 kj4 (wrap64 ((wrap64 (64 * (t242.length : Int))) - t257)) t258 t267 (t258.length : Int) y268 (wrap64 ((y268.length : Int) - 1)))) else (none)) else (none))) = some (r1, r2) := H
       have A31 := Aside0.mk A310
       clear A310
       replace H := Option.bind_eq_some_iff.mp H
       obtain ⟨t267, A320, H⟩ := H
       replace H : (if 0 ≤ (wrap64 ((y261.length : Int) - (t258.length : Int))) then (if (wrap64 ((y261.length : Int) - (t258.length : Int)) : Int).toNat ≤ 35184372088832 then ((some (List.replicate (wrap64 ((y261.length : Int) - (t258.length : Int)) : Int).toNat 0 : List Int)).bind fun y268 => (mag_Div.l0 kj4 (wrap64 ((wrap64 (64 * (t242.length : Int))) - t257)) t258 t267 (t258.length : Int) y268 (wrap64 ((y268.length : Int) - 1)))) else (none)) else (none)) = some (r1, r2) := H
       have A32 := Aside0.mk A320
       clear A320
       obtain ⟨ji33, hji33⟩ : ∃ j_ : Int, (wrap64 ((y261.length : Int) - (t258.length : Int))) = j_ := ⟨_, rfl⟩
       replace H : (if 0 ≤ (ji33) then (if (ji33 : Int).toNat ≤ 35184372088832 then ((some (List.replicate (ji33 : Int).toNat 0 : List Int)).bind fun y268 => (mag_Div.l0 kj4 (wrap64 ((wrap64 (64 * (t242.length : Int))) - t257)) t258 t267 (t258.length : Int) y268 (wrap64 ((y268.length : Int) - 1)))) else (none)) else (none)) = some (r1, r2) := by first | (rw [hji33] at H; exact H) | (simp only [hji33] at H ⊢; exact H)
       (try rw [hji33] at A26)
       (try rw [hji33] at A27)
       (try rw [hji33] at A31)
       (try rw [hji33] at A32)
       have hji33w : (IntKind.i64.wrap ((y261.length : Int) - (t258.length : Int))) = ji33 := (i64_w _).trans hji33
       by_cases c34 : 0 ≤ (ji33)
       ·rw [if_pos c34] at H
        have c34b0 := eq_true c34
        have c34b1 : decide (0 ≤ (ji33)) = true := decide_eq_true c34
        clear c34
        by_cases c35 : (ji33 : Int).toNat ≤ 35184372088832
        ·rw [if_pos c35] at H
         have c35b0 := eq_true c35
         have c35b1 : decide ((ji33 : Int).toNat ≤ 35184372088832) = true := decide_eq_true c35
         clear c35
         obtain ⟨y268, hy268⟩ : ∃ y_ : List Int, y_ = (List.replicate (ji33 : Int).toNat 0) := ⟨_, rfl⟩
         replace H : (mag_Div.l0 kj4 (wrap64 ((wrap64 (64 * (t242.length : Int))) - t257)) t258 t267 (t258.length : Int) y268 (wrap64 ((y268.length : Int) - 1))) = some (r1, r2) := by first | (rw [hy268]; with_reducible exact H) | (have H2_ := (Option.bind_some _ _).symm.trans H; rw [hy268]; with_reducible exact H2_) | (have H2_ := (Option.bind_some _ _).symm.trans H; with_reducible exact H2_) | with_reducible exact H | (rw [hy268]; exact H) | exact H
         have Ny268 := Aside0.mk hy268
         clear hy268
         have H' := Aside0.mk H
         clear H
         obtain ⟨Ao36, co36, eo36⟩ := Kd.V_slice HO_1.out
         subst eo36
         go_wp2_with (first | ((with_reducible refine gate_callee (f := 32) rfl ?_); refine goesL_ (some 50) rfl rfl Try.func32 (by kernel_rfl) rfl #[.slice Ao36 t242.length co36] rfl (by (try simp only [List.map_toArray, List.map_cons, List.map_nil]); first | done | rfl | (simp only [List.length_drop, List.length_take]; rfl)) ?_; (with_reducible refine (mag_Len.calls kj4 _ _ t242 t257 _ ?side1 ?side2 A26.out).mono ?_); (case side1 => repeat (first | exact (Kd.V_reads' HO_1.out).2.2 | (with_reducible refine Kd.C_alloc ?_ _) | (with_reducible refine Kd.C_drewN ?_ _) | (with_reducible refine Kd.C_drew ?_))); (case side2 => exact (Kd.V_reads' HO_1.out).2.1); rintro e w37 ⟨rfl, hb⟩; refine ⟨_, rfl, ?_⟩; have n0_ := Aside0.mk (Kd.V_below (gV HO_0.out) hb); have n1_ := Aside0.mk (Kd.V_below (gV HO_1.out) hb); have n2_ := Aside0.mk (below_step (gB HB.out) hb); clear HO_0; clear HO_1; clear HB; have HO_0 := n0_; have HO_1 := n1_; have HB := n2_; clear n0_ n1_ n2_; (try clear hb); (try clear hb2); (try clear hk); (try clear hi)) | ((with_reducible refine gate_callee (f := 49) rfl ?_); refine goesL_ (some 54) rfl rfl Try.func49 (by kernel_rfl) rfl #[.slice Ao36 t242.length co36, .int .i64 (wrap64 ((wrap64 (64 * (t242.length : Int))) - t257))] rfl (by (try simp only [List.map_toArray, List.map_cons, List.map_nil]); first | done | rfl | (simp only [List.length_drop, List.length_take]; rfl)) ?_; (with_reducible refine (mag_Up.calls kj4 (fun k_ => ((P0_ k_ ∨ P1_ k_) ∨ w.heap.size ≤ k_)) _ _ t242 (wrap64 ((wrap64 (64 * (t242.length : Int))) - t257)) t258 _ ?side1 A27.out).mono ?_); (case side1 => exact HO_1.out); rintro e w38 ⟨v259, rfl, ho0, hb⟩; refine ⟨_, rfl, ?_⟩; have n0_ := Aside0.mk (Kd.V_below (gV HO_0.out) hb); have n1_ := Aside0.mk (Kd.V_below (gV HO_1.out) hb); have n2_ := Aside0.mk (Kd.V_lower (Kd.V_mono (ok' := fun k_ => ((P0_ k_ ∨ P1_ k_) ∨ w.heap.size ≤ k_)) ho0 (fun k_ hk_ => Or.elim hk_ (fun hs_ => hs_) (fun hn_ => (.inr (Nat.le_trans (below_size (gB HB.out)) hn_))))) (below_size (gB HB.out))); have n3_ := Aside0.mk (below_step (gB HB.out) hb); clear HO_0; clear HO_1; clear HB; have HO_0 := n0_; have HO_1 := n1_; have HO260 := n2_; have HB := n3_; clear n0_ n1_ n2_ n3_; (try clear hb); (try clear hb2); (try clear hk); (try clear hi); (try clear ho0); obtain ⟨Ao39, co39, eo39⟩ := Kd.V_slice HO_0.out; subst eo39) | ((with_reducible refine gate_dst (N := 58) rfl ?_); refine Kd.R_make (Kd.int .u64) _ 54 rfl (N := 58) rfl 23 _ _ rfl ji28 rfl rfl Try.underlying23 (.int .u64 0) 8 info54 rfl (by decide) (by omega) 0 (ok := fun _ => True) (okp := fun _ => True) rfl (fun _ hk => hk) trivial (of_decide_eq_true (by first | (with_reducible assumption) | assumption)) (Nat.le_trans (Nat.mul_le_mul_right _ (of_decide_eq_true (by first | (with_reducible assumption) | assumption) : ji28.toNat ≤ 35184372088832)) (by omega)) (Below.refl _ _) (Nat.le_refl _) ?_; intro v262 w40 ho41 hb hg_ hnew_; clear hg_ hnew_; (first | rw [← Ny261.out] at ho41 | (simp only [Int.reduceToNat] at ho41; rw [← Ny261.out] at ho41)); have n0_ := Aside0.mk (Kd.V_elder' (gV HO_0.out) (Kd.R_base ho41) hb); have n1_ := Aside0.mk (Kd.V_elder' (gV HO_1.out) (Kd.R_base ho41) hb); have n2_ := Aside0.mk (Kd.V_elder' (gV HO260.out) (Kd.R_base ho41) hb); have n3_ := Aside0.mk (Kd.R_lower (Kd.R_newM (M := fun k_ => (w.heap.size ≤ k_)) ho41 (below_size (gB HB.out)) (fun k_ h_ => h_)) (below_size (gB HB.out))); have n4_ := Aside0.mk (below_step (gB HB.out) hb); clear HO_0; clear HO_1; clear HO260; clear HB; have HO_0 := n0_; have HO_1 := n1_; have HO260 := n2_; have HO263 := n3_; have HB := n4_; clear n0_ n1_ n2_ n3_ n4_; clear hb ho41) | ((with_reducible refine gate_callee (f := 49) rfl ?_); refine goesL_ (some 62) rfl rfl Try.func49 (by kernel_rfl) rfl #[.slice Ao39 t239.length co39, .int .i64 (wrap64 ((wrap64 (64 * (t242.length : Int))) - t257))] rfl (by (try simp only [List.map_toArray, List.map_cons, List.map_nil]); first | done | rfl | (simp only [List.length_drop, List.length_take]; rfl)) ?_; (with_reducible refine (mag_Up.calls kj4 (fun k_ => (((P0_ k_ ∨ P1_ k_) ∨ w.heap.size ≤ k_) ∧ some k_ ≠ (v262 : Value).ownBlock)) _ _ t239 (wrap64 ((wrap64 (64 * (t242.length : Int))) - t257)) t264 _ ?side1 A31.out).mono ?_); (case side1 => exact HO_0.out); rintro e w42 ⟨v265, rfl, ho0, hb⟩; refine ⟨_, rfl, ?_⟩; have n0_ := Aside0.mk (Kd.V_below (gV HO_0.out) hb); have n1_ := Aside0.mk (Kd.V_below (gV HO_1.out) hb); have n2_ := Aside0.mk (Kd.V_below (gV HO260.out) hb); have n3_ := Aside0.mk (Kd.R_below (gR HO263.out) hb); have n4_ := Aside0.mk (Kd.V_lower (Kd.V_mono (ok' := fun k_ => ((P0_ k_ ∨ P1_ k_) ∨ w.heap.size ≤ k_) ∧ some k_ ≠ (v262 : Value).ownBlock) ho0 (fun k_ hk_ => ⟨Or.elim hk_ (fun hs_ => hs_.1) (fun hn_ => (.inr (Nat.le_trans (below_size (gB HB.out)) hn_))), Or.elim hk_ (fun hs_ => hs_.2) (fun hn_ => (Kd.fresh' (Kd.R_lt (gR HO263.out)) k_ hn_))⟩)) (below_size (gB HB.out))); have n5_ := Aside0.mk (below_step (gB HB.out) hb); clear HO_0; clear HO_1; clear HO260; clear HO263; clear HB; have HO_0 := n0_; have HO_1 := n1_; have HO260 := n2_; have HO263 := n3_; have HO266 := n4_; have HB := n5_; clear n0_ n1_ n2_ n3_ n4_ n5_; (try clear hb); (try clear hb2); (try clear hk); (try clear hi); (try clear ho0); obtain ⟨Ao43, co43, eo43⟩ := Kd.R_slice HO263.out; subst eo43; obtain ⟨Ao44, co44, eo44⟩ := Kd.V_slice HO266.out; subst eo44) | ((with_reducible refine gate_builtin (b := .copy) (xs := #[.tmp 59, .tmp 62]) rfl ?_); refine MD.copy_own rfl (.tmp 59) (.tmp 62) rfl (N := some 63) rfl (.slice Ao43 y261.length co43) y261 rfl Ao44 co44 t264 rfl (Kd.R_tight rfl HO263.out) ((Kd.V_reads' HO266.out).2.2) (MD.mag_put.le A32.out).1 ?_; intro w45 hy0_ hg45; have hy0 := (show Kd.R (Kd.int .u64) 54 w45 _ _ _ _ from (MD.mag_put.le A32.out).2 ▸ hy0_); clear hy0_; have hb := Below.grown (by repeat (first | (with_reducible first | exact HB.out | apply bA | apply bN | apply bD) | exact HB.out) : Below w.heap.size w _) hg45 (below_size (gB HB.out)) (fun k_ e_ => Kd.R_base HO263.out k_ e_); have hkp := Kept.of_grown (S := fun k_ => some k_ = (.slice Ao43 y261.length co43 : Value).ownBlock) hg45 (Kept.refl _ _) (fun k_ e_ => .inl e_.symm); clear hg45; have n0_ := Aside0.mk (Kd.V_mono (ok' := fun k_ => ((P0_ k_ ∨ P1_ k_) ∨ w.heap.size ≤ k_) ∧ some k_ ≠ (.slice Ao43 y261.length co43 : Value).ownBlock) (Kd.V_keptB (HO_0.out) hkp (fun k_ hk_ hs_ => (hk_.2) hs_)) (fun k_ hk_ => ⟨hk_.1.1, hk_.1.2⟩)); have n1_ := Aside0.mk (Kd.V_mono (ok' := fun k_ => ((P0_ k_ ∨ P1_ k_) ∨ w.heap.size ≤ k_) ∧ some k_ ≠ (.slice Ao43 y261.length co43 : Value).ownBlock) (Kd.V_keptB (HO_1.out) hkp (fun k_ hk_ hs_ => (hk_.2) hs_)) (fun k_ hk_ => ⟨hk_.1.1, hk_.1.2⟩)); have n2_ := Aside0.mk (Kd.V_mono (ok' := fun k_ => ((P0_ k_ ∨ P1_ k_) ∨ w.heap.size ≤ k_) ∧ some k_ ≠ (.slice Ao43 y261.length co43 : Value).ownBlock) (Kd.V_keptB (HO260.out) hkp (fun k_ hk_ hs_ => (hk_.2) hs_)) (fun k_ hk_ => ⟨hk_.1.1, hk_.1.2⟩)); have n3_ := Aside0.mk (Kd.R_reok rfl hy0 (fun k_ e_ => HO263.out.1 k_ e_)); have n4_ := Aside0.mk (Kd.V_mono (ok' := fun k_ => ((P0_ k_ ∨ P1_ k_) ∨ w.heap.size ≤ k_) ∧ some k_ ≠ (.slice Ao43 y261.length co43 : Value).ownBlock) (Kd.V_keptB (HO266.out) hkp (fun k_ hk_ hs_ => (hk_.2) hs_)) (fun k_ hk_ => ⟨hk_.1.1, hk_.1.2⟩)); have n5_ := Aside0.mk (hb); clear HO_0; clear HO_1; clear HO260; clear HO263; clear HO266; clear HB; have HO_0 := n0_; have HO_1 := n1_; have HO260 := n2_; have HO263 := n3_; have HO266 := n4_; have HB := n5_; clear n0_ n1_ n2_ n3_ n4_ n5_; (try clear hb); (try clear hkp); (try clear hy0); obtain ⟨Ao46, co46, eo46⟩ := Kd.V_slice HO260.out; subst eo46) | ((with_reducible refine gate_dst (N := 70) rfl ?_); refine Kd.R_make (Kd.int .u64) _ 54 rfl (N := 70) rfl 23 _ _ rfl ji33 rfl rfl Try.underlying23 (.int .u64 0) 8 info54 rfl (by decide) (by omega) 0 (ok := fun _ => True) (okp := fun _ => True) rfl (fun _ hk => hk) trivial (of_decide_eq_true (by first | (with_reducible assumption) | assumption)) (Nat.le_trans (Nat.mul_le_mul_right _ (of_decide_eq_true (by first | (with_reducible assumption) | assumption) : ji33.toNat ≤ 35184372088832)) (by omega)) (Below.refl _ _) (Nat.le_refl _) ?_; intro v269 w47 ho48 hb hg_ hnew_; clear hg_ hnew_; (first | rw [← Ny268.out] at ho48 | (simp only [Int.reduceToNat] at ho48; rw [← Ny268.out] at ho48)); have n0_ := Aside0.mk (Kd.V_elder' (gV HO_0.out) (Kd.R_base ho48) hb); have n1_ := Aside0.mk (Kd.V_elder' (gV HO_1.out) (Kd.R_base ho48) hb); have n2_ := Aside0.mk (Kd.V_elder' (gV HO260.out) (Kd.R_base ho48) hb); have n3_ := Aside0.mk (Kd.R_elder' (gR HO263.out) (Kd.R_base ho48) hb); have n4_ := Aside0.mk (Kd.V_elder' (gV HO266.out) (Kd.R_base ho48) hb); have n5_ := Aside0.mk (Kd.R_lower (Kd.R_new' (Kd.R_newM (M := fun k_ => (w.heap.size ≤ k_)) ho48 (below_size (gB HB.out)) (fun k_ h_ => h_)) (Kd.R_lt (gR HO263.out))) (below_size (gB HB.out))); have n6_ := Aside0.mk (below_step (gB HB.out) hb); clear HO_0; clear HO_1; clear HO260; clear HO263; clear HO266; clear HB; have HO_0 := n0_; have HO_1 := n1_; have HO260 := n2_; have HO263 := n3_; have HO266 := n4_; have HO270 := n5_; have HB := n6_; clear n0_ n1_ n2_ n3_ n4_ n5_ n6_; clear hb ho48; obtain ⟨Ao49, co49, eo49⟩ := Kd.R_slice HO270.out; subst eo49))
         go_loopg [13] kj4 (fun kq v13 w' => ∃ (x9_2 : List Int) (x10_2 : List Int) (x12_2 : List Int) (x13_2 : Int), v13 = .int .i64 x13_2 ∧ Aside0 (mag_Div.l0 kq (wrap64 ((wrap64 (64 * (t242.length : Int))) - t257)) x9_2 x10_2 (t258.length : Int) x12_2 x13_2 = some (r1, r2)) ∧ Aside0 (kq ≤ kj4) ∧ Aside0 (Kd.V (Kd.int .u64) 54 w' w.heap.size (fun k_ => ((P0_ k_ ∨ P1_ k_) ∨ w.heap.size ≤ k_) ∧ some k_ ≠ ((.slice Ao43 y261.length co43) : Value).ownBlock ∧ some k_ ≠ ((.slice Ao49 y268.length co49) : Value).ownBlock) (.slice Ao46 t258.length co46) x9_2) ∧ Aside0 (Kd.R (Kd.int .u64) 54 w' w.heap.size (fun k_ => (w.heap.size ≤ k_) ∧ some k_ ≠ ((.slice Ao49 y268.length co49) : Value).ownBlock) (.slice Ao43 y261.length co43) x10_2) ∧ Aside0 (Kd.R (Kd.int .u64) 54 w' w.heap.size (fun k_ => (w.heap.size ≤ k_) ∧ some k_ ≠ ((.slice Ao43 y261.length co43) : Value).ownBlock) (.slice Ao49 y268.length co49) x12_2) ∧ Aside0 (Below w.heap.size w w'))
         case atStart => exact ⟨(t258), (t267), (y268), (wrap64 ((y268.length : Int) - 1)), (by first | rfl | (simp; done) | (simp [*]; done)), H', ⟨Nat.le_refl _⟩, ⟨by (with_reducible repeat (first | apply Kd.V_alloc | apply Kd.V_drewN | apply Kd.V_drew)); exact Kd.V_mono HO260.out (fun _ hk => ⟨hk.1.1, ⟨hk.1.2, hk.2⟩⟩)⟩, ⟨by (with_reducible repeat (first | apply Kd.R_alloc | apply Kd.R_drewN | apply Kd.R_drew)); exact Kd.R_mono HO263.out (fun _ hk => ⟨hk.1.1, hk.2⟩)⟩, ⟨by (with_reducible repeat (first | apply Kd.R_alloc | apply Kd.R_drewN | apply Kd.R_drew)); exact Kd.R_mono HO270.out (fun _ hk => ⟨hk.1.1, hk.2⟩)⟩, ⟨by repeat (first | (with_reducible first | exact HB.out | apply bA | apply bN | apply bD) | exact HB.out)⟩⟩
         case round =>
          clear H'
          try clear c1
          try clear c2
          try clear p2
          try clear q2
          try clear hx2
          try clear qi2
          try clear c3
          try clear c4
          try clear p6
          try clear c8
          try clear c8b0
          try clear c8b1
          try clear c8b2
          try clear c9
          try clear c14
          try clear c15
          try clear c18
          try clear c18b0
          try clear c18b1
          try clear c19
          try clear c19b0
          try clear c19b1
          try clear p24
          try clear q24
          try clear hx24
          try clear qi24
          try clear c29
          try clear c29b0
          try clear c29b1
          try clear c30
          try clear c30b0
          try clear c30b1
          try clear c31
          try clear c32
          try clear c34
          try clear c34b0
          try clear c34b1
          try clear c35
          try clear c35b0
          try clear c35b1
          try clear c36
          try clear c44
          try clear c48
          try clear c49
          try clear hx249_0
          try clear p2
          try clear p249
          try clear q249
          obtain ⟨x9_2, x10_2, x12_2, x13_2, rfl, HA, HK2, HO_9, HO_10, HO_12, HB⟩ := hrel
          have hl9_2 := (Kd.V_reads' HO_9.out).1
          rw [hl9_2] at HO_9
          (try simp only [hl9_2])
          (try simp only [hl9_2] at HO_10)
          (try simp only [hl9_2] at HO_12)
          have hl10_2 := (Kd.R_reads' HO_10.out).1
          rw [hl10_2] at HO_10
          (try simp only [hl10_2])
          (try simp only [hl10_2] at HO_9)
          (try simp only [hl10_2] at HO_12)
          have hl12_2 := (Kd.R_reads' HO_12.out).1
          rw [hl12_2] at HO_12
          (try simp only [hl12_2])
          (try simp only [hl12_2] at HO_9)
          (try simp only [hl12_2] at HO_10)
          cases gk with
          | zero => exact absurd HA.out (by simp [mag_Div.l0])
          | succ k2 =>
           have H := HA.out
           clear HA
           simp only [mag_Div.l0] at H
           by_cases c50 : x13_2 ≥ 0
           ·rw [if_pos c50] at H
            have c50b0 : decide (0 ≤ x13_2) = true := decide_eq_true c50
            clear c50
            replace H := Option.bind_eq_some_iff.mp H
            obtain ⟨⟨t271, t272⟩, A510, H⟩ := H
            replace H : (mag_Div.l0 k2 (wrap64 ((wrap64 (64 * (t242.length : Int))) - t257)) x9_2 t271 (t258.length : Int) t272 (wrap64 (x13_2 - 1))) = some (r1, r2) := H
            have A51 := Aside0.mk A510
            clear A510
            have H' := Aside0.mk H
            clear H
            obtain ⟨jn_, ej_, hjq_, hfit_, hul_, hql_, HN_, HVW_, gq_, HGU_, HGR_, HTW_, hcase_⟩ := MD.mag_round.parts A51.out
            subst ej_
            obtain ⟨gu_, CU__, eu_, gbu_, glu_, _⟩ := Kd.R_form HO_10.out (by omega)
            (injection eu_ with ea_ en_ ec_; subst ea_; subst ec_; clear en_)
            obtain ⟨gq2_, CQ__, eq_, gbq_, glq_, _⟩ := Kd.R_form HO_12.out (by omega)
            (injection eq_ with ea_ en_ ec_; subst ea_; subst ec_; clear en_)
            have GBU := Aside0.mk gbu_
            have GBQ := Aside0.mk gbq_
            clear gbu_ gbq_ glu_ glq_
            have NE2 : Aside0 (some gu_ ≠ (Value.slice (some ⟨gq2_, 0, none⟩) x12_2.length co49).ownBlock) := ⟨(HO_10.out.1 gu_ rfl).2⟩
            have NE1 : Aside0 (some gq2_ ≠ (Value.slice (some ⟨gu_, 0, none⟩) x10_2.length co43).ownBlock) := ⟨fun e_ => NE2.out e_.symm⟩
            have hCU2_ := (Kd.R_reads' HO_10.out).2.1
            have HCU := Aside0.mk hCU2_
            have hvl_ : t258.length = x9_2.length := by first | exact hl9_2 | exact (Kd.V_reads' HO_9.out).1
            have HCV := Aside0.mk (Kd.V_reads' HO_9.out).2.1
            have HVL := Aside0.mk hvl_
            obtain ⟨top_, etop_⟩ : ∃ top_ : List Int, top_ = ((x10_2.take (jn_ + (x9_2.length + 1))).drop jn_) := ⟨_, rfl⟩
            have htl_ : top_.length = x9_2.length + 1 := by rw [etop_, List.length_drop, List.length_take]; omega
            have HTL := Aside0.mk htl_
            obtain ⟨i0_, hi0_, _, hsz_, _⟩ := info_parts info54
            have hCUT_ : ∀ W_ : World, (Instr.slice 23 (.slice (some ⟨gu_, 0, none⟩) x10_2.length co43) (some (.int .i64 (jn_ : Int))) (some (.int .i64 ((jn_ : Int) + (x9_2.length : Int) + 1))) none).run Try.prog W_ = .ok (.slice (some ⟨gu_, jn_, none⟩) top_.length (co43 - jn_)) W_ := by
             intro W_
             have h_ := cut_mid (P := Try.prog) 23 54 .i64 .i64 Try.underlying23 hi0_ 1 hsz_ (some ⟨gu_, 0, none⟩) x10_2.length co43 (jn_ : Int) ((jn_ : Int) + (x9_2.length : Int) + 1) (by omega) (by omega) (by omega) hCU2_ W_
             rw [h_, if_neg (by omega), Int.toNat_natCast, show ((jn_ : Int) + (x9_2.length : Int) + 1).toNat - jn_ = top_.length from by omega]
             simp only [Option.map_some, Nat.mul_one, add_plain]
            have HTOP := Aside0.mk etop_
            clear etop_ htl_ hCU2_ hi0_ hsz_
            rw [← HTOP.out] at HGU_
            have hjl_ : (jn_ : Int) < (x12_2.length : Int) := by omega
            have hcell0_ := MD.cell_at HO_12.out jn_ hjq_
            have hfz_ := hcell0_.2
            have hcl_ := hcell0_.1
            clear hcell0_
            rcases hcase_ with ⟨hb_, HC_⟩ | ⟨hb_, HC_⟩
            ·have HTLN := Aside0.mk (show (MD.takeF gq_ x9_2 x10_2 jn_).1.length = x10_2.length from by unfold MD.takeF; rw [List.length_set, MD.takeL_length])
             go_wp2_with (first | ((with_reducible refine gate_callee (f := 50) rfl ?_); refine goesL_ (some 89) rfl rfl Try.func50 (by kernel_rfl) rfl #[.slice (some ⟨gu_, jn_, none⟩) top_.length (co43 - jn_), .slice Ao46 x9_2.length co46] rfl (by (try simp only [List.map_toArray, List.map_cons, List.map_nil]); first | done | rfl) ?_; (with_reducible refine (mag_guess.calls k2 _ _ top_ _ _ x9_2 gq_ _ ?sg1a ?sg2a ?sg3a ?sg4a HGU_.out).mono ?_); (case sg1a => first | exact (MD.C_win HO_10.out HTOP.out (by omega)) ); (case sg2a => have := HTL.out; have := HCU.out; omega); (case sg3a => exact (Kd.V_reads' HO_9.out).2.2); (case sg4a => have := HCV.out; have := HVL.out; omega); rintro e w_ ⟨rfl, ⟨nd, rfl⟩⟩; refine ⟨_, rfl, ?_⟩; have n0_ := Aside0.mk (Kd.V_drewN HO_9.out nd); have n1_ := Aside0.mk (Kd.R_drewN HO_10.out nd); have n2_ := Aside0.mk (Kd.R_drewN HO_12.out nd); have n3_ := Aside0.mk (bN HB.out nd); clear HO_9 HO_10 HO_12 HB; have HO_9 := n0_; have HO_10 := n1_; have HO_12 := n2_; have HB := n3_; clear n0_ n1_ n2_ n3_; generalize World.drewN wr nd = W1_ at HO_9 HO_10 HO_12 HB ⊢; have hcell0_ := MD.cell_at HO_12.out jn_ hjq_; have hfz_ := hcell0_.2; have hcl_ := hcell0_.1; clear hcell0_) | ((with_reducible refine gate_store (t := 54) (p := 90) rfl ?_); refine store_event (t := 54) (p := 90) (v := ?voa1) (w1 := (World.setCell W1_ ⟨gq2_, jn_, none⟩ (.int .u64 gq_))) ?hg ?ho ?hn ?hr ?_; (case ho => rfl); (case hg => rfl); (case hn => rfl); (case hr => first | (go_simp; done) | (go_simp; rfl)); intro W2_ hw_; have hp_ := MD.put_at HO_12.out jn_ gq_; have hr_ := hp_.1; have hg_ := hp_.2; rw [← hw_] at hr_ hg_; clear hp_ hw_; have n0_ := Aside0.mk (Kd.V_grown HO_9.out hg_ (fun k_ hk_ e_ => hk_.2.2 e_)); have n1_ := Aside0.mk (Kd.R_grown1 HO_10.out rfl hg_ NE1.out); have n2_ := Aside0.mk (hr_); have n3_ := Aside0.mk (HB.out.grown hg_ (below_size HB.out) (fun k_ e_ => by injection e_ with e_; subst e_; exact GBQ.out)); clear HO_9 HO_10 HO_12 HB; have HO_9 := n0_; have HO_10 := n1_; have HO_12 := n2_; have HB := n3_; clear n0_ n1_ n2_ n3_ hg_ hr_; have hcell0_ := MD.cell_at HO_12.out jn_ (by (try simp only [List.length_set]); exact hjq_); (try (simp only [List.getD_eq_getElem?_getD, List.getElem?_set_self hjq_, List.getElem?_set_self (by simpa using hjq_ : jn_ < (List.set _ jn_ _).length), Option.getD_some] at hcell0_)); have hfz_ := hcell0_.2; have hcl_ := hcell0_.1; clear hcell0_) | ((with_reducible refine gate_callee (f := 51) rfl ?_); refine goesL_ (some 97) rfl rfl Try.func51 (by kernel_rfl) rfl #[.slice (some ⟨gu_, jn_, none⟩) top_.length (co43 - jn_), .slice Ao46 x9_2.length co46, .int .u64 gq_] rfl (by (try simp only [List.map_toArray, List.map_cons, List.map_nil]); first | done | rfl) ?_; (with_reducible refine (MD.take_at _ _ gu_ co43 jn_ x10_2 _ _ x9_2 gq_ top_.length _ x10_2.length _ HO_10.out ?st1a HVW_.out HGR_.out HTL.out ?st2a ?st3a).mono ?_); (case st1a => exact Kd.V_mono (MD.V_len HO_9.out) (fun k_ hk_ e_ => hk_.2.1 (by rw [e_]; rfl))); (case st2a => have := HTL.out; omega); (case st3a => omega); rintro e W3_ ⟨rfl, hr_, hg_⟩; refine ⟨_, rfl, ?_⟩; have n0_ := Aside0.mk (Kd.V_grown HO_9.out hg_ (fun k_ hk_ e_ => hk_.2.1 e_)); have n1_ := Aside0.mk (hr_); have n2_ := Aside0.mk (Kd.R_grown1 HO_12.out rfl hg_ NE2.out); have n3_ := Aside0.mk (HB.out.grown hg_ (below_size HB.out) (fun k_ e_ => by injection e_ with e_; subst e_; exact GBU.out)); clear HO_9 HO_10 HO_12 HB; have HO_9 := n0_; have HO_10 := n1_; have HO_12 := n2_; have HB := n3_; clear n0_ n1_ n2_ n3_ hg_ hr_; have hcell0_ := MD.cell_at HO_12.out jn_ (by (try simp only [List.length_set]); exact hjq_); (try (simp only [List.getD_eq_getElem?_getD, List.getElem?_set_self hjq_, List.getElem?_set_self (by simpa using hjq_ : jn_ < (List.set _ jn_ _).length), Option.getD_some] at hcell0_)); have hfz_ := hcell0_.2; have hcl_ := hcell0_.1; clear hcell0_; (try rw [hb_]); (try simp only [hb_])) | ((with_reducible refine gate_store (t := 54) (p := 103) rfl ?_); refine store_event (t := 54) (p := 103) (v := ?voa2) (w1 := (World.setCell W3_ ⟨gq2_, jn_, none⟩ (.int .u64 (IntKind.u64.wrap (gq_ - 1))))) ?hg ?ho ?hn ?hr ?_; (case ho => rfl); (case hg => rfl); (case hn => rfl); (case hr => first | (go_simp; done) | (go_simp; rfl)); intro W4_ hw_; have hp_ := MD.put_at HO_12.out jn_ (IntKind.u64.wrap (gq_ - 1)); have hr_ := hp_.1; have hg_ := hp_.2; rw [← hw_] at hr_ hg_; clear hp_ hw_; have n0_ := Aside0.mk (Kd.V_grown HO_9.out hg_ (fun k_ hk_ e_ => hk_.2.2 e_)); have n1_ := Aside0.mk (Kd.R_grown1 HO_10.out rfl hg_ NE1.out); have n2_ := Aside0.mk (hr_); have n3_ := Aside0.mk (HB.out.grown hg_ (below_size HB.out) (fun k_ e_ => by injection e_ with e_; subst e_; exact GBQ.out)); clear HO_9 HO_10 HO_12 HB; have HO_9 := n0_; have HO_10 := n1_; have HO_12 := n2_; have HB := n3_; clear n0_ n1_ n2_ n3_ hg_ hr_; have hcell0_ := MD.cell_at HO_12.out jn_ (by (try simp only [List.length_set]); exact hjq_); (try (simp only [List.getD_eq_getElem?_getD, List.getElem?_set_self hjq_, List.getElem?_set_self (by simpa using hjq_ : jn_ < (List.set _ jn_ _).length), Option.getD_some] at hcell0_)); have hfz_ := hcell0_.2; have hcl_ := hcell0_.1; clear hcell0_) | ((with_reducible refine gate_callee (f := 52) rfl ?_); refine goesL_ (some 106) rfl rfl Try.func52 (by kernel_rfl) rfl #[.slice (some ⟨gu_, jn_, none⟩) top_.length (co43 - jn_), .slice Ao46 x9_2.length co46] rfl (by (try simp only [List.map_toArray, List.map_cons, List.map_nil]); first | done | rfl) ?_; (with_reducible refine (MD.give_at _ _ gu_ co43 jn_ _ _ _ x9_2 top_.length _ x10_2.length _ HO_10.out ?sv1a (fun x_ hx_ => by have := (HVW_.out x_ hx_).2; omega) (fun x_ hx_ => by have := (HTW_.out x_ hx_).2; omega) HTL.out ?sv2a ?sv3a).mono ?_); (case sv1a => exact Kd.V_mono (MD.V_len HO_9.out) (fun k_ hk_ e_ => hk_.2.1 (by rw [e_]; rfl))); (case sv2a => have := HTL.out; have := HTLN.out; omega); (case sv3a => omega); rintro e W5_ ⟨rfl, hr_, hg_⟩; refine ⟨_, rfl, ?_⟩; have n0_ := Aside0.mk (Kd.V_grown HO_9.out hg_ (fun k_ hk_ e_ => hk_.2.1 e_)); have n1_ := Aside0.mk (hr_); have n2_ := Aside0.mk (Kd.R_grown1 HO_12.out rfl hg_ NE2.out); have n3_ := Aside0.mk (HB.out.grown hg_ (below_size HB.out) (fun k_ e_ => by injection e_ with e_; subst e_; exact GBU.out)); clear HO_9 HO_10 HO_12 HB; have HO_9 := n0_; have HO_10 := n1_; have HO_12 := n2_; have HB := n3_; clear n0_ n1_ n2_ n3_ hg_ hr_))
             rw [← HC_.out.1] at HO_10
             rw [← HC_.out.2] at HO_12
             (try simp only [← hl9_2, ← hl10_2, ← hl12_2])
             go_roundg k2
             case measure => have := HJ4.out; have := HK2.out; omega
             case rel => exact ⟨(x9_2), (t271), (t272), (wrap64 ((jn_ : Int) - 1)), (by first | rfl | (have hw_ : wrap64 ((jn_ : Int) - 1) = (jn_ : Int) - 1 := by (unfold wrap64; omega)); rw [hw_]), H', ⟨by have := HJ4.out; have := HK2.out; omega⟩, ⟨by (try simp only [hl9_2]); (try simp only [hl10_2]); (try simp only [hl12_2]); (with_reducible repeat (first | apply Kd.V_alloc | apply Kd.V_drewN | apply Kd.V_drew)); exact HO_9.out⟩, ⟨by (try simp only [hl9_2]); (try simp only [hl10_2]); (try simp only [hl12_2]); (with_reducible repeat (first | apply Kd.R_alloc | apply Kd.R_drewN | apply Kd.R_drew)); exact HO_10.out⟩, ⟨by (try simp only [hl9_2]); (try simp only [hl10_2]); (try simp only [hl12_2]); (with_reducible repeat (first | apply Kd.R_alloc | apply Kd.R_drewN | apply Kd.R_drew)); exact HO_12.out⟩, ⟨by repeat (first | (with_reducible first | exact HB.out | apply bA | apply bN | apply bD) | exact HB.out)⟩⟩
            ·go_wp2_with (first | ((with_reducible refine gate_callee (f := 50) rfl ?_); refine goesL_ (some 89) rfl rfl Try.func50 (by kernel_rfl) rfl #[.slice (some ⟨gu_, jn_, none⟩) top_.length (co43 - jn_), .slice Ao46 x9_2.length co46] rfl (by (try simp only [List.map_toArray, List.map_cons, List.map_nil]); first | done | rfl) ?_; (with_reducible refine (mag_guess.calls k2 _ _ top_ _ _ x9_2 gq_ _ ?sg1b ?sg2b ?sg3b ?sg4b HGU_.out).mono ?_); (case sg1b => first | exact (MD.C_win HO_10.out HTOP.out (by omega)) ); (case sg2b => have := HTL.out; have := HCU.out; omega); (case sg3b => exact (Kd.V_reads' HO_9.out).2.2); (case sg4b => have := HCV.out; have := HVL.out; omega); rintro e w_ ⟨rfl, ⟨nd, rfl⟩⟩; refine ⟨_, rfl, ?_⟩; have n0_ := Aside0.mk (Kd.V_drewN HO_9.out nd); have n1_ := Aside0.mk (Kd.R_drewN HO_10.out nd); have n2_ := Aside0.mk (Kd.R_drewN HO_12.out nd); have n3_ := Aside0.mk (bN HB.out nd); clear HO_9 HO_10 HO_12 HB; have HO_9 := n0_; have HO_10 := n1_; have HO_12 := n2_; have HB := n3_; clear n0_ n1_ n2_ n3_; generalize World.drewN wr nd = W1_ at HO_9 HO_10 HO_12 HB ⊢; have hcell0_ := MD.cell_at HO_12.out jn_ hjq_; have hfz_ := hcell0_.2; have hcl_ := hcell0_.1; clear hcell0_) | ((with_reducible refine gate_store (t := 54) (p := 90) rfl ?_); refine store_event (t := 54) (p := 90) (v := ?vob1) (w1 := (World.setCell W1_ ⟨gq2_, jn_, none⟩ (.int .u64 gq_))) ?hg ?ho ?hn ?hr ?_; (case ho => rfl); (case hg => rfl); (case hn => rfl); (case hr => first | (go_simp; done) | (go_simp; rfl)); intro W2_ hw_; have hp_ := MD.put_at HO_12.out jn_ gq_; have hr_ := hp_.1; have hg_ := hp_.2; rw [← hw_] at hr_ hg_; clear hp_ hw_; have n0_ := Aside0.mk (Kd.V_grown HO_9.out hg_ (fun k_ hk_ e_ => hk_.2.2 e_)); have n1_ := Aside0.mk (Kd.R_grown1 HO_10.out rfl hg_ NE1.out); have n2_ := Aside0.mk (hr_); have n3_ := Aside0.mk (HB.out.grown hg_ (below_size HB.out) (fun k_ e_ => by injection e_ with e_; subst e_; exact GBQ.out)); clear HO_9 HO_10 HO_12 HB; have HO_9 := n0_; have HO_10 := n1_; have HO_12 := n2_; have HB := n3_; clear n0_ n1_ n2_ n3_ hg_ hr_; have hcell0_ := MD.cell_at HO_12.out jn_ (by (try simp only [List.length_set]); exact hjq_); (try (simp only [List.getD_eq_getElem?_getD, List.getElem?_set_self hjq_, List.getElem?_set_self (by simpa using hjq_ : jn_ < (List.set _ jn_ _).length), Option.getD_some] at hcell0_)); have hfz_ := hcell0_.2; have hcl_ := hcell0_.1; clear hcell0_) | ((with_reducible refine gate_callee (f := 51) rfl ?_); refine goesL_ (some 97) rfl rfl Try.func51 (by kernel_rfl) rfl #[.slice (some ⟨gu_, jn_, none⟩) top_.length (co43 - jn_), .slice Ao46 x9_2.length co46, .int .u64 gq_] rfl (by (try simp only [List.map_toArray, List.map_cons, List.map_nil]); first | done | rfl) ?_; (with_reducible refine (MD.take_at _ _ gu_ co43 jn_ x10_2 _ _ x9_2 gq_ top_.length _ x10_2.length _ HO_10.out ?st1b HVW_.out HGR_.out HTL.out ?st2b ?st3b).mono ?_); (case st1b => exact Kd.V_mono (MD.V_len HO_9.out) (fun k_ hk_ e_ => hk_.2.1 (by rw [e_]; rfl))); (case st2b => have := HTL.out; omega); (case st3b => omega); rintro e W3_ ⟨rfl, hr_, hg_⟩; refine ⟨_, rfl, ?_⟩; have n0_ := Aside0.mk (Kd.V_grown HO_9.out hg_ (fun k_ hk_ e_ => hk_.2.1 e_)); have n1_ := Aside0.mk (hr_); have n2_ := Aside0.mk (Kd.R_grown1 HO_12.out rfl hg_ NE2.out); have n3_ := Aside0.mk (HB.out.grown hg_ (below_size HB.out) (fun k_ e_ => by injection e_ with e_; subst e_; exact GBU.out)); clear HO_9 HO_10 HO_12 HB; have HO_9 := n0_; have HO_10 := n1_; have HO_12 := n2_; have HB := n3_; clear n0_ n1_ n2_ n3_ hg_ hr_; have hcell0_ := MD.cell_at HO_12.out jn_ (by (try simp only [List.length_set]); exact hjq_); (try (simp only [List.getD_eq_getElem?_getD, List.getElem?_set_self hjq_, List.getElem?_set_self (by simpa using hjq_ : jn_ < (List.set _ jn_ _).length), Option.getD_some] at hcell0_)); have hfz_ := hcell0_.2; have hcl_ := hcell0_.1; clear hcell0_; (try rw [hb_]); (try simp only [hb_])))
             rw [← HC_.out.1] at HO_10
             rw [← HC_.out.2] at HO_12
             (try simp only [← hl9_2, ← hl10_2, ← hl12_2])
             go_roundg k2
             case measure => have := HJ4.out; have := HK2.out; omega
             case rel => exact ⟨(x9_2), (t271), (t272), (wrap64 ((jn_ : Int) - 1)), (by first | rfl | (have hw_ : wrap64 ((jn_ : Int) - 1) = (jn_ : Int) - 1 := by (unfold wrap64; omega)); rw [hw_]), H', ⟨by have := HJ4.out; have := HK2.out; omega⟩, ⟨by (try simp only [hl9_2]); (try simp only [hl10_2]); (try simp only [hl12_2]); (with_reducible repeat (first | apply Kd.V_alloc | apply Kd.V_drewN | apply Kd.V_drew)); exact HO_9.out⟩, ⟨by (try simp only [hl9_2]); (try simp only [hl10_2]); (try simp only [hl12_2]); (with_reducible repeat (first | apply Kd.R_alloc | apply Kd.R_drewN | apply Kd.R_drew)); exact HO_10.out⟩, ⟨by (try simp only [hl9_2]); (try simp only [hl10_2]); (try simp only [hl12_2]); (with_reducible repeat (first | apply Kd.R_alloc | apply Kd.R_drewN | apply Kd.R_drew)); exact HO_12.out⟩, ⟨by repeat (first | (with_reducible first | exact HB.out | apply bA | apply bN | apply bD) | exact HB.out)⟩⟩
           ·rw [if_neg c50] at H
            have c50b0 : decide (0 ≤ x13_2) = false := decide_eq_false c50
            clear c50
            replace H := Option.bind_eq_some_iff.mp H
            obtain ⟨t273, A530, H⟩ := H
            replace H : (if 0 ≤ (t258.length : Int) then (if (t258.length : Int) ≤ (x10_2.length : Int) then ((mag_right.f k2 (x10_2.take ((t258.length : Int) : Int).toNat)).bind fun t281 => ((mag_Down.f k2 t281 (wrap64 ((wrap64 (64 * (t242.length : Int))) - t257))).bind fun t284 => (some (t273, t284)))) else (none)) else (none)) = some (r1, r2) := H
            have A53 := Aside0.mk A530
            clear A530
            by_cases c54 : 0 ≤ (t258.length : Int)
            ·rw [if_pos c54] at H
             have c54b0 := eq_true c54
             have c54b1 : decide (0 ≤ (t258.length : Int)) = true := decide_eq_true c54
             clear c54
             by_cases c55 : (t258.length : Int) ≤ (x10_2.length : Int)
             ·rw [if_pos c55] at H
              have c55b0 := eq_true c55
              have c55b1 : decide ((t258.length : Int) ≤ (x10_2.length : Int)) = true := decide_eq_true c55
              clear c55
              obtain ⟨y276, hy276⟩ : ∃ y_ : List Int, y_ = (x10_2.take ((t258.length : Int) : Int).toNat) := ⟨_, rfl⟩
              replace H : ((mag_right.f k2 y276).bind fun t281 => ((mag_Down.f k2 t281 (wrap64 ((wrap64 (64 * (t242.length : Int))) - t257))).bind fun t284 => (some (t273, t284)))) = some (r1, r2) := by first | (rw [hy276]; with_reducible exact H) | (have H2_ := (Option.bind_some _ _).symm.trans H; rw [hy276]; with_reducible exact H2_) | (have H2_ := (Option.bind_some _ _).symm.trans H; with_reducible exact H2_) | with_reducible exact H | (rw [hy276]; exact H) | exact H
              have Ny276 := Aside0.mk hy276
              clear hy276
              replace H := Option.bind_eq_some_iff.mp H
              obtain ⟨t281, A560, H⟩ := H
              replace H : ((mag_Down.f k2 t281 (wrap64 ((wrap64 (64 * (t242.length : Int))) - t257))).bind fun t284 => (some (t273, t284))) = some (r1, r2) := H
              have A56 := Aside0.mk A560
              clear A560
              replace H := Option.bind_eq_some_iff.mp H
              obtain ⟨t284, A570, H⟩ := H
              replace H : (some (t273, t284)) = some (r1, r2) := H
              have A57 := Aside0.mk A570
              clear A570
              simp only [Option.some.injEq, Prod.mk.injEq] at H
              obtain ⟨rfl, rfl⟩ := H
              try go_wp2
              have n0_ := Aside0.mk (Kd.V_drew HO_9.out)
              have n1_ := Aside0.mk (Kd.R_drew HO_10.out)
              have n2_ := Aside0.mk (Kd.R_drew HO_12.out)
              have n3_ := Aside0.mk (bD HB.out)
              clear HO_9
              clear HO_10
              clear HO_12
              clear HB
              have HO_9 := n0_
              have HO_10 := n1_
              have HO_12 := n2_
              have HB := n3_
              clear n0_ n1_ n2_ n3_
              have q59 : ((t258.length : Int) : Int) ≤ ((x10_2.length : Int) : Int) := of_decide_eq_true (by first | (with_reducible assumption) | assumption)
              obtain ⟨i059, hi059, _, hsz59, _⟩ := info_parts info54
              have hroom59 : x10_2.length ≤ co43 := (Kd.R_reads' HO_10.out).2.1
              have hC59 : Kd.F (Kd.int .u64) _ _ Ao43 x10_2.length x10_2 := (Kd.V_at (base := w.heap.size) (Kd.V_mono (ok' := (fun k_ => (((P0_ k_ ∨ P1_ k_) ∨ w.heap.size ≤ k_) ∧ some k_ ≠ (.slice Ao49 x12_2.length co49 : Value).ownBlock))) (Kd.R_V HO_10.out) (fun k_ hk => ⟨(.inr (hk.1)), hk.2⟩))).2.2
              have hcut59 := cut_to (P := Try.prog) 23 54 .i64 Try.underlying23 hi059 Ao43 x10_2.length co43 (t258.length : Int) (of_decide_eq_true (by first | (with_reducible assumption) | assumption)) q59 hroom59
              have hr59 := Kd.F_take (m := ((t258.length : Int) : Int).toNat) hC59 (by omega)
              have hy59 : y276.length = ((t258.length : Int) : Int).toNat := (by rw [Ny276.out, List.length_take]; omega)
              rw [← Ny276.out] at hr59
              rw [← hy59] at hcut59
              (try simp only [hl9_2] at hcut59)
              have HO280 := Aside0.mk (show Kd.V (Kd.int .u64) 54 _ w.heap.size _ (.slice Ao43 y276.length co43) y276 from Kd.V_mk (by omega) hr59)
              have HC280 := Aside0.mk (show y276.length ≤ co43 from by omega)
              clear hr59 hC59 hroom59 hi059 hsz59
              have KY59 := Aside0.mk hy59
              clear hy59
              replace q59 := eq_true q59
              refine start_ (n := 10) (S := fun w' => True) (ds := []) #[false, false, false, false, false, false, false, false, false, false] (by kernel_rfl) rfl rfl trivial (fun hHeld => ?_); refine with_tabW mag_Div.tab21 mag_Div.bits21 (fun HT_ HW_ => ?_)
              generalize wr.drew = w58 at HO_9 HO_10 HO_12 HB HO280 hHeld ⊢
              refine pure_ (i := 0) (N := some 107) (v := ?_) (a' := ?_) #[true, false, false, false, false, false, false, false, false, false] rfl rfl (any_of HT_.out (by kernel_rfl)) (fun _ _ _ h => h) (Or.inl ⟨by rfl, ?_⟩) ?_ ?_
              rotate_left
              ·intro w'
               go_simp
               with_reducible rfl
              rotate_left
              ·simp only [Act.put, List.setIfInBounds_toArray, List.set_cons_zero, List.set_cons_succ, i64_w, i32_w]
               rfl
              refine pure_ (i := 2) (N := some 109) (v := ?_) (a' := ?_) #[true, false, true, false, false, false, false, false, false, false] rfl rfl (any_of HT_.out (by kernel_rfl)) (fun _ _ _ h => h) (Or.inl ⟨by rfl, ?_⟩) ?_ ?_
              rotate_left
              ·intro w'
               go_simp
               with_reducible rfl
              rotate_left
              ·simp only [Act.put, List.setIfInBounds_toArray, List.set_cons_zero, List.set_cons_succ, i64_w, i32_w]
               rfl
              refine pure_ (i := 3) (N := some 110) (v := ?_) (a' := ?_) #[true, false, true, true, false, false, false, false, false, false] rfl rfl (any_of HT_.out (by kernel_rfl)) (fun _ _ _ h => h) (Or.inl ⟨by rfl, ?_⟩) ?_ ?_
              rotate_left
              ·intro w'
               go_simp
               with_reducible rfl
              rotate_left
              ·simp only [Act.put, List.setIfInBounds_toArray, List.set_cons_zero, List.set_cons_succ, i64_w, i32_w]
               rfl
              refine pure_ (i := 4) (N := some 111) (v := ?_) (a' := ?_) #[true, false, true, true, true, false, false, false, false, false] rfl rfl (any_of HT_.out (by kernel_rfl)) (fun _ _ _ h => h) (Or.inl ⟨by rfl, ?_⟩) ?_ ?_
              rotate_left
              ·intro w'
               go_simp
               with_reducible rfl
              rotate_left
              ·simp only [Act.put, List.setIfInBounds_toArray, List.set_cons_zero, List.set_cons_succ, i64_w, i32_w]
               rfl
              refine pure_ (i := 6) (N := some 113) (v := ?_) (a' := ?_) #[true, false, true, true, true, false, true, false, false, false] rfl rfl (any_of HT_.out (by kernel_rfl)) (fun _ _ _ h => h) (Or.inl ⟨by rfl, ?_⟩) ?_ ?_
              rotate_left
              ·intro w'
               go_simp
               with_reducible rfl
              rotate_left
              ·simp only [Act.put, List.setIfInBounds_toArray, List.set_cons_zero, List.set_cons_succ, i64_w, i32_w]
               rfl
              refine one_ (i := 1) (N := some 108) #[true, true, true, true, true, false, true, false, false, false] rfl rfl (one_of HT_.out (by kernel_rfl)) (by decide) (fun K hK => ?_)
              refine goes_ Try.func44 (by kernel_rfl) rfl #[.slice Ao49 x12_2.length co49] (by rfl) rfl rfl (by (try simp only [List.map_toArray, List.map_cons, List.map_nil]); first | done | rfl | (simp only [List.length_drop, List.length_take]; rfl)) ?_
              with_reducible refine (mag_right.calls k2 (fun k_ => some k_ = (.slice Ao49 x12_2.length co49 : Value).ownBlock) _ _ x12_2 t273 _ ?side1 A53.out).mono ?_
              (case side1 => exact Kd.R_V (Kd.R_tight rfl (HO_12.out)))
              rintro e w60 ⟨v274, rfl, ho0, hb⟩
              refine ⟨_, rfl, ?_⟩
              have n0_ := Aside0.mk (Kd.V_below (gV HO_9.out) hb)
              have n1_ := Aside0.mk (Kd.R_below (gR HO_10.out) hb)
              have n2_ := Aside0.mk (Kd.R_below (gR HO_12.out) hb)
              have n3_ := Aside0.mk (Kd.V_below (gV HO280.out) hb)
              have n4_ := Aside0.mk (Kd.V_lower (Kd.V_mono (ok' := fun k_ => ((P0_ k_ ∨ P1_ k_) ∨ w.heap.size ≤ k_) ∧ some k_ ≠ (.slice Ao43 x10_2.length co43 : Value).ownBlock) ho0 (fun k_ hk_ => ⟨Or.elim hk_ (fun hs_ => (.inr (((HO_12.out).1 k_ hs_.symm).1))) (fun hn_ => (.inr (Nat.le_trans (below_size (gB HB.out)) hn_))), Or.elim hk_ (fun hs_ => ((HO_12.out).1 k_ hs_.symm).2) (fun hn_ => (Kd.fresh' (Kd.R_lt (gR HO_10.out)) k_ hn_))⟩)) (below_size (gB HB.out)))
              have n5_ := Aside0.mk (below_step (gB HB.out) hb)
              clear HO_9
              clear HO_10
              clear HO_12
              clear HO280
              clear HB
              have HO_9 := n0_
              have HO_10 := n1_
              have HO_12 := n2_
              have HO280 := n3_
              have HO275 := n4_
              have HB := n5_
              clear n0_ n1_ n2_ n3_ n4_ n5_
              (try clear hb)
              (try clear hb2)
              (try clear hk)
              (try clear hi)
              (try clear ho0)
              refine hK.out _ _ trivial (fun hHeld => ?_)
              clear hK K
              refine norm_ (a' := ?_) ?_ ?_
              rotate_left
              ·show Act.put _ (some 108) _ = _
               simp only [Act.put, List.setIfInBounds_toArray, List.set_cons_zero, List.set_cons_succ, i64_w, i32_w]
               rfl
              refine one_ (i := 5) (N := some 112) #[true, true, true, true, true, true, true, false, false, false] rfl rfl (one_of HT_.out (by kernel_rfl)) (by decide) (fun K hK => ?_)
              refine goes_ Try.func44 (by kernel_rfl) rfl #[.slice Ao43 y276.length co43] (by rfl) rfl rfl (by (try simp only [List.map_toArray, List.map_cons, List.map_nil]); first | done | rfl | (simp only [List.length_drop, List.length_take]; rfl)) ?_
              with_reducible refine (mag_right.calls k2 (fun k_ => (((P0_ k_ ∨ P1_ k_) ∨ w.heap.size ≤ k_) ∧ some k_ ≠ (.slice Ao49 x12_2.length co49 : Value).ownBlock)) _ _ y276 t281 _ ?side1 A56.out).mono ?_
              (case side1 => exact HO280.out)
              rintro e w61 ⟨v282, rfl, ho0, hb⟩
              refine ⟨_, rfl, ?_⟩
              have n0_ := Aside0.mk (Kd.V_below (gV HO_9.out) hb)
              have n1_ := Aside0.mk (Kd.R_below (gR HO_10.out) hb)
              have n2_ := Aside0.mk (Kd.R_below (gR HO_12.out) hb)
              have n3_ := Aside0.mk (Kd.V_below (gV HO280.out) hb)
              have n4_ := Aside0.mk (Kd.V_below (gV HO275.out) hb)
              have n5_ := Aside0.mk (Kd.V_lower (Kd.V_mono (ok' := fun k_ => ((P0_ k_ ∨ P1_ k_) ∨ w.heap.size ≤ k_) ∧ some k_ ≠ (.slice Ao49 x12_2.length co49 : Value).ownBlock) ho0 (fun k_ hk_ => ⟨Or.elim hk_ (fun hs_ => hs_.1) (fun hn_ => (.inr (Nat.le_trans (below_size (gB HB.out)) hn_))), Or.elim hk_ (fun hs_ => hs_.2) (fun hn_ => (Kd.fresh' (Kd.R_lt (gR HO_12.out)) k_ hn_))⟩)) (below_size (gB HB.out)))
              have n6_ := Aside0.mk (below_step (gB HB.out) hb)
              clear HO_9
              clear HO_10
              clear HO_12
              clear HO280
              clear HO275
              clear HB
              have HO_9 := n0_
              have HO_10 := n1_
              have HO_12 := n2_
              have HO280 := n3_
              have HO275 := n4_
              have HO283 := n5_
              have HB := n6_
              clear n0_ n1_ n2_ n3_ n4_ n5_ n6_
              (try clear hb)
              (try clear hb2)
              (try clear hk)
              (try clear hi)
              (try clear ho0)
              obtain ⟨Ao62, co62, eo62⟩ := Kd.V_slice HO283.out
              (first | subst eo62 | (injection eo62 with f1_ f2_ f3_; have f4_ := f1_.symm; have f5_ := f3_.symm; clear f1_ f2_ f3_; subst f4_; subst f5_))
              refine hK.out _ _ trivial (fun hHeld => ?_)
              clear hK K
              refine norm_ (a' := ?_) ?_ ?_
              rotate_left
              ·show Act.put _ (some 112) _ = _
               simp only [Act.put, List.setIfInBounds_toArray, List.set_cons_zero, List.set_cons_succ, i64_w, i32_w]
               rfl
              refine one_ (i := 7) (N := some 114) #[true, true, true, true, true, true, true, true, false, false] rfl rfl (one_of HT_.out (by kernel_rfl)) (by decide) (fun K hK => ?_)
              refine goes_ Try.func53 (by kernel_rfl) rfl #[.slice Ao62 t281.length co62, .int .i64 (wrap64 ((wrap64 (64 * (t242.length : Int))) - t257))] (by rfl) rfl rfl (by (try simp only [List.map_toArray, List.map_cons, List.map_nil]); first | done | rfl | (simp only [List.length_drop, List.length_take]; rfl)) ?_
              with_reducible refine (mag_Down.calls k2 (fun k_ => (((P0_ k_ ∨ P1_ k_) ∨ w.heap.size ≤ k_) ∧ some k_ ≠ (.slice Ao49 x12_2.length co49 : Value).ownBlock)) _ _ t281 (wrap64 ((wrap64 (64 * (t242.length : Int))) - t257)) t284 _ ?side1 A57.out).mono ?_
              (case side1 => exact HO283.out)
              rintro e w63 ⟨v285, rfl, ho0, hb⟩
              refine ⟨_, rfl, ?_⟩
              have n0_ := Aside0.mk (Kd.V_below (gV HO_9.out) hb)
              have n1_ := Aside0.mk (Kd.R_below (gR HO_10.out) hb)
              have n2_ := Aside0.mk (Kd.R_below (gR HO_12.out) hb)
              have n3_ := Aside0.mk (Kd.V_below (gV HO280.out) hb)
              have n4_ := Aside0.mk (Kd.V_below (gV HO275.out) hb)
              have n5_ := Aside0.mk (Kd.V_below (gV HO283.out) hb)
              have n6_ := Aside0.mk (Kd.V_lower (Kd.V_mono (ok' := fun k_ => ((P0_ k_ ∨ P1_ k_) ∨ w.heap.size ≤ k_) ∧ some k_ ≠ (.slice Ao49 x12_2.length co49 : Value).ownBlock) ho0 (fun k_ hk_ => ⟨Or.elim hk_ (fun hs_ => hs_.1) (fun hn_ => (.inr (Nat.le_trans (below_size (gB HB.out)) hn_))), Or.elim hk_ (fun hs_ => hs_.2) (fun hn_ => (Kd.fresh' (Kd.R_lt (gR HO_12.out)) k_ hn_))⟩)) (below_size (gB HB.out)))
              have n7_ := Aside0.mk (below_step (gB HB.out) hb)
              clear HO_9
              clear HO_10
              clear HO_12
              clear HO280
              clear HO275
              clear HO283
              clear HB
              have HO_9 := n0_
              have HO_10 := n1_
              have HO_12 := n2_
              have HO280 := n3_
              have HO275 := n4_
              have HO283 := n5_
              have HO286 := n6_
              have HB := n7_
              clear n0_ n1_ n2_ n3_ n4_ n5_ n6_ n7_
              (try clear hb)
              (try clear hb2)
              (try clear hk)
              (try clear hi)
              (try clear ho0)
              refine hK.out _ _ trivial (fun hHeld => ?_)
              clear hK K
              refine norm_ (a' := ?_) ?_ ?_
              rotate_left
              ·show Act.put _ (some 114) _ = _
               simp only [Act.put, List.setIfInBounds_toArray, List.set_cons_zero, List.set_cons_succ, i64_w, i32_w]
               rfl
              refine pure_ (i := 8) (N := some 4) (v := ?_) (a' := ?_) #[true, true, true, true, true, true, true, true, true, false] rfl rfl (any_of HT_.out (by kernel_rfl)) (fun _ _ _ h => h) (Or.inl ⟨by rfl, ?_⟩) ?_ ?_
              rotate_left
              ·intro w'
               go_simp
               with_reducible rfl
              rotate_left
              ·simp only [Act.put, List.setIfInBounds_toArray, List.set_cons_zero, List.set_cons_succ, i64_w, i32_w]
               rfl
              refine pure_ (i := 9) (N := some 5) (v := ?_) (a' := ?_) #[true, true, true, true, true, true, true, true, true, true] rfl rfl (any_of HT_.out (by kernel_rfl)) (fun _ _ _ h => h) (Or.inl ⟨by rfl, ?_⟩) ?_ ?_
              rotate_left
              ·intro w'
               go_simp
               with_reducible rfl
              rotate_left
              ·simp only [Act.put, List.setIfInBounds_toArray, List.set_cons_zero, List.set_cons_succ, i64_w, i32_w]
               rfl
              refine done_ (done_of HT_.out (by kernel_rfl)) ?_
              try go_wp2
              go_ret2
              exact ⟨_, _, by first | rfl | (simp [errW_none, errW_some] <;> rfl) | (simp only [← hji28, ← hji33]; first | rfl | (simp [errW_none, errW_some] <;> rfl)) | (simp [*, errW_none, errW_some] <;> rfl), by (with_reducible repeat (first | apply Kd.V_alloc | apply Kd.V_drewN | apply Kd.V_drew)); exact Kd.V_mono HO275.out (fun _ hk => hk.1), by (with_reducible repeat (first | apply Kd.V_alloc | apply Kd.V_drewN | apply Kd.V_drew)); exact Kd.V_mono HO286.out (fun _ hk => hk.1), by repeat (first | (with_reducible first | exact HB.out | apply bA | apply bN | apply bD) | exact HB.out)⟩
             ·rw [if_neg c55] at H
              exact absurd H (by simp)
            ·rw [if_neg c54] at H
             exact absurd H (by simp)
        ·rw [if_neg c35] at H
         exact absurd H (by simp)
       ·rw [if_neg c34] at H
        exact absurd H (by simp)
      ·rw [if_neg c30] at H
       exact absurd H (by simp)
     ·rw [if_neg c29] at H
      exact absurd H (by simp)

end Go.Proofs.Ytpgmhhkkbjbpgaa.M
