-- By drive.py (this session's program), out of the translation. Lean checks it.
import Derived.Test.YtknekneicecgiaaGreatDoorA0
import Derived.Test.YtknekneicecgiaaGreatDoorA1
import Derived.Test.YtknekneicecgiaaGreatDoorA5
namespace Go.Proofs.YtknekneicecgiaaGreatDoor.M
open Go.Proofs.YtknekneicecgiaaGreatDoor.MB Go.Proofs.YtknekneicecgiaaGreatDoor
open Go.RowKit Go.Proofs.YtknekneicecgiaaGreatDoorW.PrintWords Go.Proofs.YtknekneicecgiaaGreatDoorW.PrintLast Go.Proofs.YtknekneicecgiaaGreatDoorW.PrintMore
attribute [local go_sem] max2_int min2_int max_two min_two max_three min_three max_four min_four   -- for this text's walks alone
set_option linter.unusedVariables false
set_option linter.unusedSimpArgs false
attribute [local go_sem] add64_run sub64_run

/-! ### deci_Digits: function 51 -/
mutual
def deci_Digits.l0 : Nat → List Int → ByteArray → Bool → List Int → Option (ByteArray)
 | 0, _, _, _, _ => none
 | k + 1, x3, x4, x218000, x218001 => (mag_Len.f k x3).bind fun t218 => (if t218 > 0 then ((mag_Div.f k x3 (([1000000000000000000] : List Int))).bind fun bt222 => (if (bt222.2.length : Int) > 0 then (if 0 < (bt222.2.length : Int) then (deci_Digits.j1 k x4 bt222.1 (rd bt222.2 0) (⟨#[]⟩ : ByteArray) x218000 x218001) else (none)) else (deci_Digits.j1 k x4 bt222.1 0 (⟨#[]⟩ : ByteArray) x218000 x218001))) else ((strings_TrimLeft.f x4 (⟨#[48]⟩ : ByteArray)).bind fun t232 => (if t232.toList = ([] : List UInt8) then (some (⟨#[48]⟩ : ByteArray)) else (if x218000 = true then (if 1 + t232.size ≤ 9223372036854775807 then (some ((⟨#[45]⟩ : ByteArray) ++ t232)) else (none)) else (some t232)))))
def deci_Digits.j1 : Nat → ByteArray → List Int → Int → ByteArray → Bool → List Int → Option (ByteArray)
 | 0, _, _, _, _, _, _ => none
 | k + 1, x4, x5, x7, x8, x218000, x218001 => deci_Digits.l1 k x4 x5 x7 x8 0 x218000 x218001
def deci_Digits.l1 : Nat → ByteArray → List Int → Int → ByteArray → Int → Bool → List Int → Option (ByteArray)
 | 0, _, _, _, _, _, _, _ => none
 | k + 1, x4, x5, x7, x8, x26, x218000, x218001 => if x26 < 18 then ((some (([(IntKind.u64.wrap (48 + (Int.tmod x7 10))) % 256] : List Int) : List Int)).bind fun y229 => (if (strOfNums y229).size + x8.size ≤ 9223372036854775807 then (deci_Digits.l1 k x4 x5 (IntKind.u64.wrap (Int.tdiv x7 10)) ((strOfNums y229) ++ x8) (wrap64 (x26 + 1)) x218000 x218001) else (none))) else (if x8.size + x4.size ≤ 9223372036854775807 then (deci_Digits.l0 k x5 (x8 ++ x4) x218000 x218001) else (none))
end
def deci_Digits.f (k : Nat) (a0_0 : Bool) (l0_1 : List Int) : Option (ByteArray) := deci_Digits.l0 k l0_1 (⟨#[]⟩ : ByteArray) a0_0 l0_1
set_option maxHeartbeats 8000000 in
set_option maxRecDepth 100000 in
theorem deci_Digits.calls (k : Nat) (a0_0 : Bool) (P0_1_ : Nat → Prop) (A0_1 : Option Addr) (c0_1 : Nat) (l0_1 : List Int) (r : ByteArray) (w : World) (hs0_1 : Kd.V (Kd.int .u64) 110 w w.heap.size (fun k_ => P0_1_ k_) (.slice A0_1 l0_1.length c0_1) l0_1) (h : deci_Digits.f k a0_0 l0_1 = some r) :
  Calls Tryz.prog 51 #[.agg #[.bool a0_0, .slice A0_1 l0_1.length c0_1]] w fun e w' => e = .returned (.string r) ∧ Below w.heap.size w w' := by
 have hu76 := Tryz.underlying76
 have HO0_1 := Aside0.mk (show Kd.V (Kd.int .u64) 110 w w.heap.size (fun k_ => (P0_1_ k_ ∨ w.heap.size ≤ k_)) (.slice A0_1 l0_1.length c0_1) l0_1 from Kd.V_mono hs0_1 (fun k_ hk => .inl hk))
 have HB := Aside0.mk (Below.refl w.heap.size w)
 have H : (deci_Digits.l0 k l0_1 (⟨#[]⟩ : ByteArray) a0_0 l0_1) = some r := h
 clear h
 have H' := Aside0.mk H
 clear H
 go_enter Tryz.func51, Tryz.ntmps51
 go_wp2_with (first | ((with_reducible refine gate_dst (N := 1) rfl ?_); refine box_event ?hg (N := 1) ?hd (cs := #[.bool a0_0, .slice A0_1 l0_1.length c0_1]) (t := 76) ?hr ?_; (case hd => rfl); (case hg => rfl); (case hr => first | (go_simp; done) | (go_simp; rfl)); intro gb217 hg w2 hbox hb; have n0_ := Aside0.mk (Kd.V_below (Kd.V_elderB (gV HO0_1.out) gb217 (Nat.le_of_eq hg.symm)) hb); have n1_ := Aside0.mk (below_step (gB HB.out) hb); have n2_ := Aside0.mk (hbox); have n3_ := Aside0.mk ((by rw [hg]; exact (below_size (gB HB.out)) : w.heap.size ≤ gb217)); have n4_ := Aside0.mk ((by rw [hg]; exact (below_size (gB HB.out)) : w.heap.size ≤ gb217)); clear HO0_1; clear HB; have HO0_1 := n0_; have HB := n1_; have BK217 := n2_; have GW217 := n3_; have GE217 := n4_; clear n0_ n1_ n2_ n3_ n4_; clear hb hbox hg; have hcz3_0 : w2.cell? ⟨gb217, 0, none⟩ = some (.bool a0_0) := (blk_cell BK217.out 0).trans rfl; have hcz3_1 : w2.cell? ⟨gb217, 1, none⟩ = some (.slice A0_1 l0_1.length c0_1) := (blk_cell BK217.out 1).trans rfl; have hfz3_0 := blk_frozen BK217.out 0; have hfz3_1 := blk_frozen BK217.out 1))
 go_loopg [3, 4] k (fun kq v3 v4 w' => ∃ (x3_1 : List Int) (x4_1 : ByteArray), v4 = .string x4_1 ∧ Aside0 (deci_Digits.l0 kq x3_1 x4_1 a0_0 l0_1 = some r) ∧ Aside0 (kq ≤ k) ∧ Aside0 (Kd.V (Kd.int .u64) 110 w' w.heap.size (fun k_ => (P0_1_ k_ ∨ w.heap.size ≤ k_) ∧ k_ ≠ gb217) v3 x3_1) ∧ Aside0 (Kd.V (Kd.int .u64) 110 w' w.heap.size (fun k_ => (P0_1_ k_ ∨ w.heap.size ≤ k_) ∧ k_ ≠ gb217) (.slice A0_1 l0_1.length c0_1) l0_1) ∧ Aside0 (w'.heap[gb217]? = some (.cells #[.bool a0_0, (.slice A0_1 l0_1.length c0_1)] 76 (0, 0))) ∧ Aside0 (Below w.heap.size w w'))
 case atStart => exact ⟨(l0_1), ((⟨#[]⟩ : ByteArray)), (by first | rfl | (simp; done) | (simp [*]; done)), H', ⟨Nat.le_refl _⟩, ⟨by (with_reducible repeat (first | apply Kd.V_alloc | apply Kd.V_drewN | apply Kd.V_drew)); exact HO0_1.out⟩, ⟨by (with_reducible repeat (first | apply Kd.V_alloc | apply Kd.V_drewN | apply Kd.V_drew)); exact HO0_1.out⟩, ⟨by (with_reducible repeat (first | refine blk_drewN ?_ _ | refine blk_drew ?_ | refine blk_alloc ?_ _)); exact BK217.out⟩, ⟨by repeat (first | (with_reducible first | exact HB.out | apply bA | apply bN | apply bD | refine bS ?_ GE217.out) | exact HB.out)⟩⟩
 case round =>
  clear H'
  try clear p2
  try clear hcz3_0
  try clear hcz3_1
  try clear hfz3_0
  try clear hfz3_1
  obtain ⟨x3_1, x4_1, rfl, HA, HK1, HO_3, HO_218001, BK217, HB⟩ := hrel
  cases gk with
  | zero => exact absurd HA.out (by simp [deci_Digits.l0])
  | succ k1 =>
   have H := HA.out
   clear HA
   simp only [deci_Digits.l0] at H
   replace H := Option.bind_eq_some_iff.mp H
   obtain ⟨t218, A40, H⟩ := H
   replace H : (if t218 > 0 then ((mag_Div.f k1 x3_1 (([1000000000000000000] : List Int))).bind fun bt222 => (if (bt222.2.length : Int) > 0 then (if 0 < (bt222.2.length : Int) then (deci_Digits.j1 k1 x4_1 bt222.1 (rd bt222.2 0) (⟨#[]⟩ : ByteArray) a0_0 l0_1) else (none)) else (deci_Digits.j1 k1 x4_1 bt222.1 0 (⟨#[]⟩ : ByteArray) a0_0 l0_1))) else ((strings_TrimLeft.f x4_1 (⟨#[48]⟩ : ByteArray)).bind fun t232 => (if t232.toList = ([] : List UInt8) then (some (⟨#[48]⟩ : ByteArray)) else (if a0_0 = true then (if 1 + t232.size ≤ 9223372036854775807 then (some ((⟨#[45]⟩ : ByteArray) ++ t232)) else (none)) else (some t232))))) = some r := H
   have A4 := Aside0.mk A40
   clear A40
   by_cases c5 : t218 > 0
   ·rw [if_pos c5] at H
    have c5b0 : decide (0 < t218) = true := decide_eq_true c5
    clear c5
    obtain ⟨y219, hy219⟩ : ∃ y_ : List Int, y_ = (([1000000000000000000] : List Int)) := ⟨_, rfl⟩
    replace H : ((mag_Div.f k1 x3_1 y219).bind fun bt222 => (if (bt222.2.length : Int) > 0 then (if 0 < (bt222.2.length : Int) then (deci_Digits.j1 k1 x4_1 bt222.1 (rd bt222.2 0) (⟨#[]⟩ : ByteArray) a0_0 l0_1) else (none)) else (deci_Digits.j1 k1 x4_1 bt222.1 0 (⟨#[]⟩ : ByteArray) a0_0 l0_1))) = some r := by first | (rw [hy219]; with_reducible exact H) | (have H2_ := (Option.bind_some _ _).symm.trans H; rw [hy219]; with_reducible exact H2_) | (have H2_ := (Option.bind_some _ _).symm.trans H; with_reducible exact H2_) | with_reducible exact H | (rw [hy219]; exact H) | exact H
    have Ny219 := Aside0.mk hy219
    clear hy219
    replace H := Option.bind_eq_some_iff.mp H
    obtain ⟨⟨t222, t225⟩, A60, H⟩ := H
    replace H : (if (t225.length : Int) > 0 then (if 0 < (t225.length : Int) then (deci_Digits.j1 k1 x4_1 t222 (rd t225 0) (⟨#[]⟩ : ByteArray) a0_0 l0_1) else (none)) else (deci_Digits.j1 k1 x4_1 t222 0 (⟨#[]⟩ : ByteArray) a0_0 l0_1)) = some r := H
    have A6 := Aside0.mk A60
    clear A60
    have HC7 := Aside0.mk H
    clear H
    obtain ⟨Ao8, co8, eo8⟩ := Kd.V_slice HO_3.out
    subst eo8
    go_upto_if 22 with (first | ((with_reducible refine gate_callee (f := 72) rfl ?_); refine goesL_ (some 12) rfl rfl Tryz.func72 (by kernel_rfl) rfl #[.slice Ao8 x3_1.length co8] rfl (by (try simp only [List.map_toArray, List.map_cons, List.map_nil]); first | done | rfl | (simp only [List.length_drop, List.length_take]; rfl)) ?_; (with_reducible refine (mag_Len.calls k1 _ _ x3_1 t218 _ ?side1 ?side2 A4.out).mono ?_); (case side1 => repeat (first | exact (Kd.V_reads' HO_3.out).2.2 | (with_reducible refine Kd.C_alloc ?_ _) | (with_reducible refine Kd.C_drewN ?_ _) | (with_reducible refine Kd.C_drew ?_))); (case side2 => exact (Kd.V_reads' HO_3.out).2.1); rintro e w9 ⟨rfl, hb⟩; refine ⟨_, rfl, ?_⟩; have n0_ := Aside0.mk (Kd.V_below (gV HO_3.out) hb); have n1_ := Aside0.mk (Kd.V_below (gV HO_218001.out) hb); have n2_ := Aside0.mk (blk_below (gK BK217.out) hb); have n3_ := Aside0.mk (below_step (by repeat (first | (with_reducible first | exact HB.out | apply bA | apply bN | apply bD | refine bS ?_ GE217.out) | exact HB.out)) hb); clear HO_3; clear HO_218001; clear BK217; clear HB; have HO_3 := n0_; have HO_218001 := n1_; have BK217 := n2_; have HB := n3_; clear n0_ n1_ n2_ n3_; (try clear hb); (try clear hb2); (try clear hk); (try clear hi)) | ((with_reducible refine gate_dst (N := 16) rfl ?_); refine Kd.R_lit (Kd.int .u64) _ 110 ?hg (N := 16) ?hd (xs := ([1000000000000000000] : List Int)) (inner := [.int .u64 1000000000000000000]) (ok := fun _ => True) (okp := fun _ => True) ?hr ?hp (fun _ hk => hk) trivial (Below.refl _ _) (Nat.le_refl _) (by simp) ?_; (case hd => rfl); (case hg => rfl); (case hr => first | (go_simp; done) | (go_simp; rfl)); (case hp => exact (Reps.one (show Kd.M (Kd.int .u64) _ _ _ 1000000000000000000 [.int .u64 1000000000000000000] from rfl) (Reps.none _ _))); intro v220 w10 ho11 hb hg_ hnew_; clear hg_ hnew_; (first | rw [← Ny219.out] at ho11 | (simp only [Int.reduceToNat] at ho11; rw [← Ny219.out] at ho11)); have n0_ := Aside0.mk (Kd.V_elder' (gV HO_3.out) (Kd.R_base ho11) hb); have n1_ := Aside0.mk (Kd.V_elder' (gV HO_218001.out) (Kd.R_base ho11) hb); have n2_ := Aside0.mk (Kd.R_lower (Kd.R_newM (M := fun k_ => (w.heap.size ≤ k_)) ho11 (below_size (by repeat (first | (with_reducible first | exact HB.out | apply bA | apply bN | apply bD | refine bS ?_ GE217.out) | exact HB.out))) (fun k_ h_ => h_)) (below_size (by repeat (first | (with_reducible first | exact HB.out | apply bA | apply bN | apply bD | refine bS ?_ GE217.out) | exact HB.out)))); have n3_ := Aside0.mk (blk_below (gK BK217.out) hb); have n4_ := Aside0.mk (below_step (by repeat (first | (with_reducible first | exact HB.out | apply bA | apply bN | apply bD | refine bS ?_ GE217.out) | exact HB.out)) hb); clear HO_3; clear HO_218001; clear BK217; clear HB; have HO_3 := n0_; have HO_218001 := n1_; have HO221 := n2_; have BK217 := n3_; have HB := n4_; clear n0_ n1_ n2_ n3_ n4_; clear hb ho11; obtain ⟨Ao12, co12, eo12⟩ := Kd.R_slice HO221.out; subst eo12) | ((with_reducible refine gate_callee (f := 79) rfl ?_); refine goesL_ (some 17) rfl rfl Tryz.func79 (by kernel_rfl) rfl #[.slice Ao8 x3_1.length co8, .slice Ao12 y219.length co12] rfl (by (try simp only [List.map_toArray, List.map_cons, List.map_nil]); first | done | rfl | (simp only [List.length_drop, List.length_take]; rfl)) ?_; (with_reducible refine (mag_Div.calls k1 (fun k_ => (((P0_1_ k_ ∨ w.heap.size ≤ k_) ∧ k_ ≠ gb217) ∧ some k_ ≠ (.slice Ao12 y219.length co12 : Value).ownBlock)) _ _ x3_1 (fun k_ => some k_ = (.slice Ao12 y219.length co12 : Value).ownBlock) _ _ y219 t222 t225 _ ?side1 ?side2 A6.out).mono ?_); (case side1 => exact HO_3.out); (case side2 => exact Kd.R_V (Kd.R_tight rfl (Kd.R_types (HO221.out) BK217.out (by decide)))); rintro e w13 ⟨v223, v226, rfl, ho0, ho1, hb⟩; refine ⟨_, rfl, ?_⟩; have n0_ := Aside0.mk (Kd.V_below (gV HO_3.out) hb); have n1_ := Aside0.mk (Kd.V_below (gV HO_218001.out) hb); have n2_ := Aside0.mk (Kd.R_below (gR HO221.out) hb); have n3_ := Aside0.mk (Kd.V_lower (Kd.V_mono (ok' := fun k_ => (P0_1_ k_ ∨ w.heap.size ≤ k_) ∧ k_ ≠ gb217) ho0 (fun k_ hk_ => ⟨Or.elim hk_ (fun hs_ => Or.elim hs_ (fun hs_ => hs_.1.1) (fun hs_ => (.inr (((Kd.R_types (HO221.out) BK217.out (by decide)).1 k_ hs_.symm).1.1)))) (fun hn_ => (.inr (Nat.le_trans (below_size (by repeat (first | (with_reducible first | exact HB.out | apply bA | apply bN | apply bD | refine bS ?_ GE217.out) | exact HB.out))) hn_))), Or.elim hk_ (fun hs_ => Or.elim hs_ (fun hs_ => hs_.1.2) (fun hs_ => ((Kd.R_types (HO221.out) BK217.out (by decide)).1 k_ hs_.symm).2)) (fun hn_ => (Kd.freshB (g := gb217) (o := .cells #[.bool a0_0, .slice A0_1 l0_1.length c0_1] 76 (0, 0)) (gK BK217.out) k_ hn_))⟩)) (below_size (by repeat (first | (with_reducible first | exact HB.out | apply bA | apply bN | apply bD | refine bS ?_ GE217.out) | exact HB.out)))); have n4_ := Aside0.mk (Kd.V_lower (Kd.V_mono (ok' := fun k_ => (P0_1_ k_ ∨ w.heap.size ≤ k_) ∧ k_ ≠ gb217) ho1 (fun k_ hk_ => ⟨Or.elim hk_ (fun hs_ => Or.elim hs_ (fun hs_ => hs_.1.1) (fun hs_ => (.inr (((Kd.R_types (HO221.out) BK217.out (by decide)).1 k_ hs_.symm).1.1)))) (fun hn_ => (.inr (Nat.le_trans (below_size (by repeat (first | (with_reducible first | exact HB.out | apply bA | apply bN | apply bD | refine bS ?_ GE217.out) | exact HB.out))) hn_))), Or.elim hk_ (fun hs_ => Or.elim hs_ (fun hs_ => hs_.1.2) (fun hs_ => ((Kd.R_types (HO221.out) BK217.out (by decide)).1 k_ hs_.symm).2)) (fun hn_ => (Kd.freshB (g := gb217) (o := .cells #[.bool a0_0, .slice A0_1 l0_1.length c0_1] 76 (0, 0)) (gK BK217.out) k_ hn_))⟩)) (below_size (by repeat (first | (with_reducible first | exact HB.out | apply bA | apply bN | apply bD | refine bS ?_ GE217.out) | exact HB.out)))); have n5_ := Aside0.mk (blk_below (gK BK217.out) hb); have n6_ := Aside0.mk (below_step (by repeat (first | (with_reducible first | exact HB.out | apply bA | apply bN | apply bD | refine bS ?_ GE217.out) | exact HB.out)) hb); clear HO_3; clear HO_218001; clear HO221; clear BK217; clear HB; have HO_3 := n0_; have HO_218001 := n1_; have HO221 := n2_; have HO224 := n3_; have HO227 := n4_; have BK217 := n5_; have HB := n6_; clear n0_ n1_ n2_ n3_ n4_ n5_ n6_; (try clear hb); (try clear hb2); (try clear hk); (try clear hi); (try clear ho0); (try clear ho1); obtain ⟨Ao14, co14, eo14⟩ := Kd.V_slice HO227.out; subst eo14))
    (try simp only [Act.put, List.setIfInBounds_toArray, List.set_cons_zero, List.set_cons_succ])
    go_cut [7] (fun v7 wc => ∃ (kq : Nat) (x7_6 : Int), v7 = .int .u64 x7_6 ∧ Aside0 (deci_Digits.j1 kq x4_1 t222 x7_6 (⟨#[]⟩ : ByteArray) a0_0 l0_1 = some r) ∧ Aside0 (kq ≤ k1) ∧ Aside0 (Kd.V (Kd.int .u64) 110 wc w.heap.size (fun k_ => (P0_1_ k_ ∨ w.heap.size ≤ k_) ∧ k_ ≠ gb217) v223 t222) ∧ Aside0 (Kd.V (Kd.int .u64) 110 wc w.heap.size (fun k_ => (P0_1_ k_ ∨ w.heap.size ≤ k_) ∧ k_ ≠ gb217) (.slice A0_1 l0_1.length c0_1) l0_1) ∧ Aside0 (wc.heap[gb217]? = some (.cells #[.bool a0_0, (.slice A0_1 l0_1.length c0_1)] 76 (0, 0))) ∧ Aside0 (Below w.heap.size w wc))
    case first =>
     have H := HC7.out
     clear HC7
     by_cases c15 : (t225.length : Int) > 0
     ·rw [if_pos c15] at H
      have c15b0 : decide (0 < (t225.length : Int)) = true := decide_eq_true c15
      have c15b1 : decide (0 < t225.length) = true := decide_eq_true (by omega)
      clear c15
      (first | rw [c15b0] | rw [c15b1] | (simp only [i64_w, i32_w]; rw [c15b0]) | skip)
      by_cases c16 : 0 < (t225.length : Int)
      ·rw [if_pos c16] at H
       have c16b0 : decide (0 < (t225.length : Int)) = true := decide_eq_true c16
       have c16b1 : decide (0 < t225.length) = true := decide_eq_true (by omega)
       clear c16
       have H' := Aside0.mk H
       clear H
       have p228 : 0 ≤ (0 : Int) := (by omega)
       have q228 : 0 < (t225.length : Int) := of_decide_eq_true (by first | (with_reducible assumption) | assumption)
       obtain ⟨ad228, e228, hx228_0⟩ := Kd.at_int (Kd.V_reads' HO227.out).2.2 0 p228 q228
       cases e228
       have qi228 : (0 < t225.length) = True := eq_true (by omega)
       (try rw [show ((0 : Int)).toNat = 0 from rfl] at hx228_0)
       (try rw [Addr.add_zero'] at hx228_0)
       replace p228 := eq_true p228
       replace q228 := eq_true q228
       go_wp2
       go_meet
       case rel => exact ⟨_, (rd t225 0), (by first | rfl | (simp; done) | (simp [*]; done)), H', ⟨by have := HK1.out; first | omega | exact Nat.le_refl _⟩, ⟨by (with_reducible repeat (first | apply Kd.V_alloc | apply Kd.V_drewN | apply Kd.V_drew)); exact HO224.out⟩, ⟨by (with_reducible repeat (first | apply Kd.V_alloc | apply Kd.V_drewN | apply Kd.V_drew)); exact Kd.V_mono HO_218001.out (fun _ hk => ⟨hk.1.1, hk.1.2⟩)⟩, ⟨by (with_reducible repeat (first | refine blk_drewN ?_ _ | refine blk_drew ?_ | refine blk_alloc ?_ _)); exact BK217.out⟩, ⟨by repeat (first | (with_reducible first | exact HB.out | apply bA | apply bN | apply bD | refine bS ?_ GE217.out) | exact HB.out)⟩⟩
      ·rw [if_neg c16] at H
       exact absurd H (by simp)
     ·rw [if_neg c15] at H
      have c15b0 : decide (0 < (t225.length : Int)) = false := decide_eq_false c15
      have c15b1 : decide (0 < t225.length) = false := decide_eq_false (by omega)
      clear c15
      (first | rw [c15b0] | rw [c15b1] | (simp only [i64_w, i32_w]; rw [c15b0]) | skip)
      have H' := Aside0.mk H
      clear H
      go_wp2
      go_meet
      case rel => exact ⟨_, (0), (by first | rfl | (simp; done) | (simp [*]; done)), H', ⟨by have := HK1.out; first | omega | exact Nat.le_refl _⟩, ⟨by (with_reducible repeat (first | apply Kd.V_alloc | apply Kd.V_drewN | apply Kd.V_drew)); exact HO224.out⟩, ⟨by (with_reducible repeat (first | apply Kd.V_alloc | apply Kd.V_drewN | apply Kd.V_drew)); exact Kd.V_mono HO_218001.out (fun _ hk => ⟨hk.1.1, hk.1.2⟩)⟩, ⟨by (with_reducible repeat (first | refine blk_drewN ?_ _ | refine blk_drew ?_ | refine blk_alloc ?_ _)); exact BK217.out⟩, ⟨by repeat (first | (with_reducible first | exact HB.out | apply bA | apply bN | apply bD | refine bS ?_ GE217.out) | exact HB.out)⟩⟩
    case rest =>
     clear HC7
     try clear c1
     try clear p2
     try clear q2
     try clear hx2
     try clear qi2
     try clear c5
     try clear c5b0
     try clear c7
     try clear c15
     try clear c15b0
     try clear c15b1
     try clear c16
     try clear c16b0
     try clear c16b1
     try clear hcz3_0
     try clear hcz3_1
     try clear hfz3_0
     try clear hfz3_1
     try clear hx228_0
     try clear p2
     try clear p228
     try clear q228
     obtain ⟨kq, x7_6, rfl, HA, HJ6, HO_5, HO_218001, BK217, HB⟩ := hcut
     cases kq with
     | zero => exact absurd HA.out (by simp [deci_Digits.j1])
     | succ kj6 =>
      have H := HA.out
      clear HA
      simp only [deci_Digits.j1] at H
      have H' := Aside0.mk H
      clear H
      go_wp2
      go_loopg [7, 8, 26] kj6 (fun kq v7 v8 v26 w' => ∃ (x7_3 : Int) (x8_3 : ByteArray) (x26_3 : Int), v7 = .int .u64 x7_3 ∧ v8 = .string x8_3 ∧ v26 = .int .i64 x26_3 ∧ Aside0 (deci_Digits.l1 kq x4_1 t222 x7_3 x8_3 x26_3 a0_0 l0_1 = some r) ∧ Aside0 (kq ≤ kj6) ∧ Aside0 (Kd.V (Kd.int .u64) 110 w' w.heap.size (fun k_ => (P0_1_ k_ ∨ w.heap.size ≤ k_) ∧ k_ ≠ gb217) v223 t222) ∧ Aside0 (Kd.V (Kd.int .u64) 110 w' w.heap.size (fun k_ => (P0_1_ k_ ∨ w.heap.size ≤ k_) ∧ k_ ≠ gb217) (.slice A0_1 l0_1.length c0_1) l0_1) ∧ Aside0 (w'.heap[gb217]? = some (.cells #[.bool a0_0, (.slice A0_1 l0_1.length c0_1)] 76 (0, 0))) ∧ Aside0 (Below w.heap.size w w'))
      case atStart => exact ⟨(x7_6), ((⟨#[]⟩ : ByteArray)), (0), (by first | rfl | (simp; done) | (simp [*]; done)), (by first | rfl | (simp; done) | (simp [*]; done)), (by first | rfl | (simp; done) | (simp [*]; done)), H', ⟨Nat.le_refl _⟩, ⟨by (with_reducible repeat (first | apply Kd.V_alloc | apply Kd.V_drewN | apply Kd.V_drew)); exact HO_5.out⟩, ⟨by (with_reducible repeat (first | apply Kd.V_alloc | apply Kd.V_drewN | apply Kd.V_drew)); exact HO_218001.out⟩, ⟨by (with_reducible repeat (first | refine blk_drewN ?_ _ | refine blk_drew ?_ | refine blk_alloc ?_ _)); exact BK217.out⟩, ⟨by repeat (first | (with_reducible first | exact HB.out | apply bA | apply bN | apply bD | refine bS ?_ GE217.out) | exact HB.out)⟩⟩
      case round =>
       clear H'
       try clear c1
       try clear p2
       try clear q2
       try clear hx2
       try clear qi2
       try clear c5
       try clear c5b0
       try clear c7
       try clear c15
       try clear c15b0
       try clear c15b1
       try clear c16
       try clear c16b0
       try clear c16b1
       try clear hcz3_0
       try clear hcz3_1
       try clear hfz3_0
       try clear hfz3_1
       try clear hx228_0
       try clear p2
       try clear p228
       try clear q2
       try clear q228
       obtain ⟨x7_3, x8_3, x26_3, rfl, rfl, rfl, HA, HK3, HO_5, HO_218001, BK217, HB⟩ := hrel
       cases gk with
       | zero => exact absurd HA.out (by simp [deci_Digits.l1])
       | succ k3 =>
        have H := HA.out
        clear HA
        simp only [deci_Digits.l1] at H
        by_cases c17 : x26_3 < 18
        ·rw [if_pos c17] at H
         have c17b0 : decide (x26_3 < 18) = true := decide_eq_true c17
         clear c17
         obtain ⟨y229, hy229⟩ : ∃ y_ : List Int, y_ = (([(IntKind.u64.wrap (48 + (Int.tmod x7_3 10))) % 256] : List Int)) := ⟨_, rfl⟩
         replace H : (if (strOfNums y229).size + x8_3.size ≤ 9223372036854775807 then (deci_Digits.l1 k3 x4_1 t222 (IntKind.u64.wrap (Int.tdiv x7_3 10)) ((strOfNums y229) ++ x8_3) (wrap64 (x26_3 + 1)) a0_0 l0_1) else (none)) = some r := by first | (rw [hy229]; with_reducible exact H) | (have H2_ := (Option.bind_some _ _).symm.trans H; rw [hy229]; with_reducible exact H2_) | (have H2_ := (Option.bind_some _ _).symm.trans H; with_reducible exact H2_) | with_reducible exact H | (rw [hy229]; exact H) | exact H
         have Ny229 := Aside0.mk hy229
         clear hy229
         by_cases c18 : (strOfNums y229).size + x8_3.size ≤ 9223372036854775807
         ·rw [if_pos c18] at H
          have c18b0 := eq_true c18
          have c18b1 : decide ((strOfNums y229).size + x8_3.size ≤ 9223372036854775807) = true := decide_eq_true c18
          try have c18b2 : (9223372036854775807 < (strOfNums y229).size + x8_3.size) = False := eq_false (Nat.not_lt.2 c18)
          have H' := Aside0.mk H
          clear H
          go_wp2_with (first | ((with_reducible refine gate_dst (N := 32) rfl ?_); refine Kd.R_lit (Kd.int .u8) _ 5 ?hg (N := 32) ?hd (xs := ([(IntKind.u64.wrap (48 + (Int.tmod x7_3 10))) % 256] : List Int)) (inner := [.int .u8 ((IntKind.u64.wrap (48 + (Int.tmod x7_3 10))) % 256)]) (ok := fun _ => True) (okp := fun _ => True) ?hr ?hp (fun _ hk => hk) trivial (Below.refl _ _) (Nat.le_refl _) (by simp) ?_; (case hd => rfl); (case hg => rfl); (case hr => first | (go_simp; done) | (go_simp; rfl)); (case hp => exact (Reps.one (show Kd.M (Kd.int .u8) _ _ _ ((IntKind.u64.wrap (48 + (Int.tmod x7_3 10))) % 256) [.int .u8 ((IntKind.u64.wrap (48 + (Int.tmod x7_3 10))) % 256)] from rfl) (Reps.none _ _))); intro v230 w19 ho20 hb hg_ hnew_; clear hg_ hnew_; (first | rw [← Ny229.out] at ho20 | (simp only [Int.reduceToNat] at ho20; rw [← Ny229.out] at ho20)); have n0_ := Aside0.mk (Kd.V_elder' (gV HO_5.out) (Kd.R_base ho20) hb); have n1_ := Aside0.mk (Kd.V_elder' (gV HO_218001.out) (Kd.R_base ho20) hb); have n2_ := Aside0.mk (Kd.R_lower (Kd.R_newM (M := fun k_ => (w.heap.size ≤ k_)) ho20 (below_size (by repeat (first | (with_reducible first | exact HB.out | apply bA | apply bN | apply bD | refine bS ?_ GE217.out) | exact HB.out))) (fun k_ h_ => h_)) (below_size (by repeat (first | (with_reducible first | exact HB.out | apply bA | apply bN | apply bD | refine bS ?_ GE217.out) | exact HB.out)))); have n3_ := Aside0.mk (blk_below (gK BK217.out) hb); have n4_ := Aside0.mk (below_step (by repeat (first | (with_reducible first | exact HB.out | apply bA | apply bN | apply bD | refine bS ?_ GE217.out) | exact HB.out)) hb); clear HO_5; clear HO_218001; clear BK217; clear HB; have HO_5 := n0_; have HO_218001 := n1_; have HO231 := n2_; have BK217 := n3_; have HB := n4_; clear n0_ n1_ n2_ n3_ n4_; clear hb ho20; have hcv21 := own_string (P := Tryz.prog) Tryz.underlying36 Tryz.underlying5 Tryz.underlying9 (Kd.own_of_R HO231.out)))
          go_roundg k3
          case measure => have := HK1.out; have := HJ6.out; have := HK3.out; omega
          case rel => exact ⟨(IntKind.u64.wrap (Int.tdiv x7_3 10)), ((strOfNums y229) ++ x8_3), (wrap64 (x26_3 + 1)), (by first | rfl | (simp; done) | (simp [*]; done)), (by first | rfl | (simp; done) | (simp [*]; done)), (by first | rfl | (simp; done) | (simp [*]; done)), H', ⟨by have := HK1.out; have := HJ6.out; have := HK3.out; omega⟩, ⟨by (with_reducible repeat (first | apply Kd.V_alloc | apply Kd.V_drewN | apply Kd.V_drew)); exact Kd.V_mono HO_5.out (fun _ hk => ⟨hk.1.1, hk.1.2⟩)⟩, ⟨by (with_reducible repeat (first | apply Kd.V_alloc | apply Kd.V_drewN | apply Kd.V_drew)); exact Kd.V_mono HO_218001.out (fun _ hk => ⟨hk.1.1, hk.1.2⟩)⟩, ⟨by (with_reducible repeat (first | refine blk_drewN ?_ _ | refine blk_drew ?_ | refine blk_alloc ?_ _)); exact BK217.out⟩, ⟨by repeat (first | (with_reducible first | exact HB.out | apply bA | apply bN | apply bD | refine bS ?_ GE217.out) | exact HB.out)⟩⟩
         ·rw [if_neg c18] at H
          exact absurd H (by simp)
        ·rw [if_neg c17] at H
         have c17b0 : decide (x26_3 < 18) = false := decide_eq_false c17
         clear c17
         by_cases c22 : x8_3.size + x4_1.size ≤ 9223372036854775807
         ·rw [if_pos c22] at H
          have c22b0 := eq_true c22
          have c22b1 : decide (x8_3.size + x4_1.size ≤ 9223372036854775807) = true := decide_eq_true c22
          try have c22b2 : (9223372036854775807 < x8_3.size + x4_1.size) = False := eq_false (Nat.not_lt.2 c22)
          have H' := Aside0.mk H
          clear H
          go_wp2
          go_roundg k3
          case measure => have := HK1.out; have := HJ6.out; have := HK3.out; omega
          case rel => exact ⟨(t222), (x8_3 ++ x4_1), (by first | rfl | (simp; done) | (simp [*]; done)), H', ⟨by have := HK1.out; have := HJ6.out; have := HK3.out; omega⟩, ⟨by (with_reducible repeat (first | apply Kd.V_alloc | apply Kd.V_drewN | apply Kd.V_drew)); exact HO_5.out⟩, ⟨by (with_reducible repeat (first | apply Kd.V_alloc | apply Kd.V_drewN | apply Kd.V_drew)); exact HO_218001.out⟩, ⟨by (with_reducible repeat (first | refine blk_drewN ?_ _ | refine blk_drew ?_ | refine blk_alloc ?_ _)); exact BK217.out⟩, ⟨by repeat (first | (with_reducible first | exact HB.out | apply bA | apply bN | apply bD | refine bS ?_ GE217.out) | exact HB.out)⟩⟩
         ·rw [if_neg c22] at H
          exact absurd H (by simp)
   ·rw [if_neg c5] at H
    have c5b0 : decide (0 < t218) = false := decide_eq_false c5
    clear c5
    replace H := Option.bind_eq_some_iff.mp H
    obtain ⟨t232, A230, H⟩ := H
    replace H : (if t232.toList = ([] : List UInt8) then (some (⟨#[48]⟩ : ByteArray)) else (if a0_0 = true then (if 1 + t232.size ≤ 9223372036854775807 then (some ((⟨#[45]⟩ : ByteArray) ++ t232)) else (none)) else (some t232))) = some r := H
    have A23 := Aside0.mk A230
    clear A230
    by_cases c24 : t232.toList = ([] : List UInt8)
    ·rw [if_pos c24] at H
     have c24b0 : (t232.toList == ([] : List UInt8)) = true := beq_iff_eq.mpr c24
     have c24b1 : (t232.toList != ([] : List UInt8)) = false := bne_eq_false_iff_eq.mpr c24
     clear c24
     obtain rfl := Option.some.inj H
     obtain ⟨Ao25, co25, eo25⟩ := Kd.V_slice HO_3.out
     subst eo25
     go_wp2_with (first | ((with_reducible refine gate_callee (f := 72) rfl ?_); refine goesL_ (some 12) rfl rfl Tryz.func72 (by kernel_rfl) rfl #[.slice Ao25 x3_1.length co25] rfl (by (try simp only [List.map_toArray, List.map_cons, List.map_nil]); first | done | rfl | (simp only [List.length_drop, List.length_take]; rfl)) ?_; (with_reducible refine (mag_Len.calls k1 _ _ x3_1 t218 _ ?side1 ?side2 A4.out).mono ?_); (case side1 => repeat (first | exact (Kd.V_reads' HO_3.out).2.2 | (with_reducible refine Kd.C_alloc ?_ _) | (with_reducible refine Kd.C_drewN ?_ _) | (with_reducible refine Kd.C_drew ?_))); (case side2 => exact (Kd.V_reads' HO_3.out).2.1); rintro e w26 ⟨rfl, hb⟩; refine ⟨_, rfl, ?_⟩; have n0_ := Aside0.mk (Kd.V_below (gV HO_3.out) hb); have n1_ := Aside0.mk (Kd.V_below (gV HO_218001.out) hb); have n2_ := Aside0.mk (blk_below (gK BK217.out) hb); have n3_ := Aside0.mk (below_step (by repeat (first | (with_reducible first | exact HB.out | apply bA | apply bN | apply bD | refine bS ?_ GE217.out) | exact HB.out)) hb); clear HO_3; clear HO_218001; clear BK217; clear HB; have HO_3 := n0_; have HO_218001 := n1_; have BK217 := n2_; have HB := n3_; clear n0_ n1_ n2_ n3_; (try clear hb); (try clear hb2); (try clear hk); (try clear hi)) | ((with_reducible refine gate_callee (f := 80) rfl ?_); refine goesL_ (some 44) rfl rfl Tryz.func80 (by kernel_rfl) rfl #[.string x4_1, .string (⟨#[48]⟩ : ByteArray)] rfl (by (try simp only [List.map_toArray, List.map_cons, List.map_nil]); first | done | rfl | (simp only [List.length_drop, List.length_take]; rfl)) ?_; (with_reducible refine (strings_TrimLeft.calls x4_1 (⟨#[48]⟩ : ByteArray) t232 _ A23.out).mono ?_); rintro e w' ⟨rfl, ⟨nd, rfl⟩⟩; refine ⟨_, rfl, ?_⟩))
     go_ret
     exact ⟨by first | rfl | (simp [errW_none, errW_some] <;> rfl) | (simp [*, errW_none, errW_some] <;> rfl), by repeat (first | (with_reducible first | exact HB.out | apply bA | apply bN | apply bD | refine bS ?_ GE217.out) | exact HB.out)⟩
    ·rw [if_neg c24] at H
     have c24b0 : (t232.toList == ([] : List UInt8)) = false := beq_eq_false_iff_ne.mpr c24
     have c24b1 : (t232.toList != ([] : List UInt8)) = true := bne_iff_ne.mpr c24
     by_cases c27 : a0_0 = true
     ·subst c27
      have H1 : (if 1 + t232.size ≤ 9223372036854775807 then (some ((⟨#[45]⟩ : ByteArray) ++ t232)) else (none)) = some r := by rw [if_pos rfl] at H; exact H
      clear H
      have H := H1
      clear H1
      by_cases c28 : 1 + t232.size ≤ 9223372036854775807
      ·rw [if_pos c28] at H
       have c28b0 := eq_true c28
       have c28b1 : decide (1 + t232.size ≤ 9223372036854775807) = true := decide_eq_true c28
       try have c28b2 : (9223372036854775807 < 1 + t232.size) = False := eq_false (Nat.not_lt.2 c28)
       obtain rfl := Option.some.inj H
       obtain ⟨Ao29, co29, eo29⟩ := Kd.V_slice HO_3.out
       subst eo29
       go_wp2_with (first | ((with_reducible refine gate_callee (f := 72) rfl ?_); refine goesL_ (some 12) rfl rfl Tryz.func72 (by kernel_rfl) rfl #[.slice Ao29 x3_1.length co29] rfl (by (try simp only [List.map_toArray, List.map_cons, List.map_nil]); first | done | rfl | (simp only [List.length_drop, List.length_take]; rfl)) ?_; (with_reducible refine (mag_Len.calls k1 _ _ x3_1 t218 _ ?side1 ?side2 A4.out).mono ?_); (case side1 => repeat (first | exact (Kd.V_reads' HO_3.out).2.2 | (with_reducible refine Kd.C_alloc ?_ _) | (with_reducible refine Kd.C_drewN ?_ _) | (with_reducible refine Kd.C_drew ?_))); (case side2 => exact (Kd.V_reads' HO_3.out).2.1); rintro e w30 ⟨rfl, hb⟩; refine ⟨_, rfl, ?_⟩; have n0_ := Aside0.mk (Kd.V_below (gV HO_3.out) hb); have n1_ := Aside0.mk (Kd.V_below (gV HO_218001.out) hb); have n2_ := Aside0.mk (blk_below (gK BK217.out) hb); have n3_ := Aside0.mk (below_step (by repeat (first | (with_reducible first | exact HB.out | apply bA | apply bN | apply bD | refine bS ?_ GE217.out) | exact HB.out)) hb); clear HO_3; clear HO_218001; clear BK217; clear HB; have HO_3 := n0_; have HO_218001 := n1_; have BK217 := n2_; have HB := n3_; clear n0_ n1_ n2_ n3_; (try clear hb); (try clear hb2); (try clear hk); (try clear hi)) | ((with_reducible refine gate_callee (f := 80) rfl ?_); refine goesL_ (some 44) rfl rfl Tryz.func80 (by kernel_rfl) rfl #[.string x4_1, .string (⟨#[48]⟩ : ByteArray)] rfl (by (try simp only [List.map_toArray, List.map_cons, List.map_nil]); first | done | rfl | (simp only [List.length_drop, List.length_take]; rfl)) ?_; (with_reducible refine (strings_TrimLeft.calls x4_1 (⟨#[48]⟩ : ByteArray) t232 _ A23.out).mono ?_); rintro e w' ⟨rfl, ⟨nd, rfl⟩⟩; refine ⟨_, rfl, ?_⟩; have hcz31_0 : w30.cell? ⟨gb217, 0, none⟩ = some (.bool true) := (blk_cell BK217.out 0).trans rfl; have hcz31_1 : w30.cell? ⟨gb217, 1, none⟩ = some (.slice A0_1 l0_1.length c0_1) := (blk_cell BK217.out 1).trans rfl; have hfz31_0 := blk_frozen BK217.out 0; have hfz31_1 := blk_frozen BK217.out 1))
       go_ret
       exact ⟨by first | rfl | (simp [errW_none, errW_some] <;> rfl) | (simp [*, errW_none, errW_some] <;> rfl), by repeat (first | (with_reducible first | exact HB.out | apply bA | apply bN | apply bD | refine bS ?_ GE217.out) | exact HB.out)⟩
      ·rw [if_neg c28] at H
       exact absurd H (by simp)
     ·replace c27 := Bool.eq_false_iff.mpr c27
      subst c27
      have H1 : (some t232) = some r := by rw [if_neg (show ¬ (false = true) by decide)] at H; exact H
      clear H
      have H := H1
      clear H1
      obtain rfl := Option.some.inj H
      obtain ⟨Ao32, co32, eo32⟩ := Kd.V_slice HO_3.out
      subst eo32
      go_wp2_with (first | ((with_reducible refine gate_callee (f := 72) rfl ?_); refine goesL_ (some 12) rfl rfl Tryz.func72 (by kernel_rfl) rfl #[.slice Ao32 x3_1.length co32] rfl (by (try simp only [List.map_toArray, List.map_cons, List.map_nil]); first | done | rfl | (simp only [List.length_drop, List.length_take]; rfl)) ?_; (with_reducible refine (mag_Len.calls k1 _ _ x3_1 t218 _ ?side1 ?side2 A4.out).mono ?_); (case side1 => repeat (first | exact (Kd.V_reads' HO_3.out).2.2 | (with_reducible refine Kd.C_alloc ?_ _) | (with_reducible refine Kd.C_drewN ?_ _) | (with_reducible refine Kd.C_drew ?_))); (case side2 => exact (Kd.V_reads' HO_3.out).2.1); rintro e w33 ⟨rfl, hb⟩; refine ⟨_, rfl, ?_⟩; have n0_ := Aside0.mk (Kd.V_below (gV HO_3.out) hb); have n1_ := Aside0.mk (Kd.V_below (gV HO_218001.out) hb); have n2_ := Aside0.mk (blk_below (gK BK217.out) hb); have n3_ := Aside0.mk (below_step (by repeat (first | (with_reducible first | exact HB.out | apply bA | apply bN | apply bD | refine bS ?_ GE217.out) | exact HB.out)) hb); clear HO_3; clear HO_218001; clear BK217; clear HB; have HO_3 := n0_; have HO_218001 := n1_; have BK217 := n2_; have HB := n3_; clear n0_ n1_ n2_ n3_; (try clear hb); (try clear hb2); (try clear hk); (try clear hi)) | ((with_reducible refine gate_callee (f := 80) rfl ?_); refine goesL_ (some 44) rfl rfl Tryz.func80 (by kernel_rfl) rfl #[.string x4_1, .string (⟨#[48]⟩ : ByteArray)] rfl (by (try simp only [List.map_toArray, List.map_cons, List.map_nil]); first | done | rfl | (simp only [List.length_drop, List.length_take]; rfl)) ?_; (with_reducible refine (strings_TrimLeft.calls x4_1 (⟨#[48]⟩ : ByteArray) t232 _ A23.out).mono ?_); rintro e w' ⟨rfl, ⟨nd, rfl⟩⟩; refine ⟨_, rfl, ?_⟩; have hcz34_0 : w33.cell? ⟨gb217, 0, none⟩ = some (.bool false) := (blk_cell BK217.out 0).trans rfl; have hcz34_1 : w33.cell? ⟨gb217, 1, none⟩ = some (.slice A0_1 l0_1.length c0_1) := (blk_cell BK217.out 1).trans rfl; have hfz34_0 := blk_frozen BK217.out 0; have hfz34_1 := blk_frozen BK217.out 1))
      go_ret
      exact ⟨by first | rfl | (simp [errW_none, errW_some] <;> rfl) | (simp [*, errW_none, errW_some] <;> rfl), by repeat (first | (with_reducible first | exact HB.out | apply bA | apply bN | apply bD | refine bS ?_ GE217.out) | exact HB.out)⟩

end Go.Proofs.YtknekneicecgiaaGreatDoor.M
