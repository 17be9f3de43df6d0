-- By drive.py (this session's program), out of the translation. Lean checks it.
import Derived.Test.YtpgmhhkkbjbpgaaA0
import Derived.Test.YtpgmhhkkbjbpgaaA1
import Derived.Test.YtpgmhhkkbjbpgaaA5
import Derived.Test.YtpgmhhkkbjbpgaaB1
import Derived.Test.YtpgmhhkkbjbpgaaB2
import Derived.Test.YtpgmhhkkbjbpgaaC1
namespace Go.Proofs.Ytpgmhhkkbjbpgaa.M
open Go.Proofs.Ytpgmhhkkbjbpgaa.MB Go.Proofs.Ytpgmhhkkbjbpgaa
open Go.RowKit Go.Proofs.YtpgmhhkkbjbpgaaW.PrintWords Go.Proofs.YtpgmhhkkbjbpgaaW.PrintLast Go.Proofs.YtpgmhhkkbjbpgaaW.PrintMore
attribute [local go_sem] max2_int min2_int max_two min_two max_three min_three max_four min_four   -- for this text's walks alone
set_option linter.unusedVariables false
set_option linter.unusedSimpArgs false
attribute [local go_sem] add64_run sub64_run

/-! ### num_Div: function 19 -/
def num_Div.j0 : Nat → List Int → List Int → Bool → Bool → List Int → Bool → List Int → Option (Bool × List Int × Bool × List Int)
 | 0, _, _, _, _, _, _, _ => none
 | k + 1, x6, x7, x34, x340000, x340001, x341000, x341001 => if x34 = true then ((num_Make.f k (x340000 != x341000) x6).bind fun bt354 => ((num_Make.f k x340000 x7).bind fun bt358 => (some (bt354.1, bt354.2, bt358.1, bt358.2)))) else ((mag_Of.f k 1).bind fun t362 => ((mag_Add.f k x6 t362).bind fun t365 => ((num_Make.f k true t365).bind fun bt368 => ((mag_Sub.f k x341001 x7).bind fun t372 => ((num_Make.f k x341000 t372).bind fun bt375 => (some (bt368.1, bt368.2, bt375.1, bt375.2)))))))
def num_Div.f (k : Nat) (a0_0 : Bool) (l0_1 : List Int) (a1_0 : Bool) (l1_1 : List Int) : Option (Bool × List Int × Bool × List Int) := (num_Sign.f k a1_0 l1_1).bind fun t343 => (if t343 = 0 then ((num_Make.f k a0_0 l0_1).bind fun bt344 => (some (false, ([] : List Int), bt344.1, bt344.2))) else ((mag_Div.f k l0_1 l1_1).bind fun bt348 => (if (bt348.2.length : Int) = 0 then (num_Div.j0 k bt348.1 bt348.2 true a0_0 l0_1 a1_0 l1_1) else (num_Div.j0 k bt348.1 bt348.2 (a0_0 == a1_0) a0_0 l0_1 a1_0 l1_1))))
theorem num_Div.mono_l : ∀ k, (∀ y0 y1 y2 y3 y4 y5 y6, LeO (num_Div.j0 k y0 y1 y2 y3 y4 y5 y6) (num_Div.j0 (k + 1) y0 y1 y2 y3 y4 y5 y6))
 | 0 => fun _ _ _ _ _ _ _ r h => by simp [num_Div.j0] at h
 | k + 1 => by
  have ih0 := num_Div.mono_l k
  ·intro y0 y1 y2 y3 y4 y5 y6
   unfold num_Div.j0
   repeat' first
   | (with_reducible exact ih0 _ _ _ _ _ _ _)
   | (with_reducible exact mag_Add.mono _ _ _)
   | (with_reducible exact mag_Div.mono _ _ _)
   | (with_reducible exact mag_Of.mono _ _)
   | (with_reducible exact mag_Sub.mono _ _ _)
   | (with_reducible exact num_Make.mono _ _ _)
   | (with_reducible exact num_Sign.mono _ _ _)
   | (with_reducible exact LeO.refl _)
   | (with_reducible exact LeO.none _)
   | (with_reducible refine LeO.ite ?_ ?_)
   | (with_reducible refine LeO.bind ?_ (fun _ => ?_))
   | exact ih0 _ _ _ _ _ _ _
   | exact mag_Add.mono _ _ _
   | exact mag_Div.mono _ _ _
   | exact mag_Of.mono _ _
   | exact mag_Sub.mono _ _ _
   | exact num_Make.mono _ _ _
   | exact num_Sign.mono _ _ _
   | exact LeO.none _
   | refine LeO.ite ?_ ?_
   | refine LeO.bind ?_ (fun _ => ?_)
theorem num_Div.mono : ∀ a0 a1 a2 a3 k, LeO (num_Div.f k a0 a1 a2 a3) (num_Div.f (k + 1) a0 a1 a2 a3) := by
 intro a0 a1 a2 a3 k
 have ih0 := num_Div.mono_l k
 unfold num_Div.f
 repeat' first
   | (with_reducible exact ih0 _ _ _ _ _ _ _)
   | (with_reducible exact mag_Add.mono _ _ _)
   | (with_reducible exact mag_Div.mono _ _ _)
   | (with_reducible exact mag_Of.mono _ _)
   | (with_reducible exact mag_Sub.mono _ _ _)
   | (with_reducible exact num_Make.mono _ _ _)
   | (with_reducible exact num_Sign.mono _ _ _)
   | (with_reducible exact LeO.refl _)
   | (with_reducible exact LeO.none _)
   | (with_reducible refine LeO.ite ?_ ?_)
   | (with_reducible refine LeO.bind ?_ (fun _ => ?_))
   | exact ih0 _ _ _ _ _ _ _
   | exact mag_Add.mono _ _ _
   | exact mag_Div.mono _ _ _
   | exact mag_Of.mono _ _
   | exact mag_Sub.mono _ _ _
   | exact num_Make.mono _ _ _
   | exact num_Sign.mono _ _ _
   | exact LeO.none _
   | refine LeO.ite ?_ ?_
   | refine LeO.bind ?_ (fun _ => ?_)
def num_Div.T5 : Bool × List (List Nat × List Nat) := (true, [([], []), ([0], [0]), ([], []), ([2], [2]), ([1, 3], [1, 3]), ([], []), ([4, 5], [4, 5]), ([], []), ([7], [7]), ([], []), ([8, 9, 6], [8, 9]), ([6, 10, 0, 1, 2, 3, 4, 5, 6], [6]), ([10, 11, 0, 1, 2, 3, 4, 5, 6, 7, 8, 9, 10, 11], [10])])
def num_Div.B5 : List Nat := [0, 1, 0, 4, 15, 0, 63, 0, 128, 0, 1023, 2047, 4095]
theorem num_Div.tab5 : rtab .any (opsOf Try.f19 5) = num_Div.T5 := by kernel_rfl
theorem num_Div.bits5 : waitsOk num_Div.T5.2 num_Div.B5 = true := by kernel_rfl
def num_Div.T6 : Bool × List (List Nat × List Nat) := (true, [([], []), ([], []), ([0, 1, 1], [0, 1]), ([2, 2], [2]), ([], []), ([4], [4]), ([], []), ([6], [6]), ([], []), ([7, 8, 3], [7, 8]), ([5, 9, 9], [5, 9]), ([3, 10, 0, 1, 2, 3], [3]), ([10, 11, 0, 1, 2, 3, 4, 5, 6, 7, 8, 9, 10, 11], [10])])
def num_Div.B6 : List Nat := [0, 0, 3, 7, 0, 16, 0, 64, 0, 463, 1023, 2047, 4095]
theorem num_Div.tab6 : rtab .any (opsOf Try.f19 6) = num_Div.T6 := by kernel_rfl
theorem num_Div.bits6 : waitsOk num_Div.T6.2 num_Div.B6 = true := by kernel_rfl
set_option maxHeartbeats 8000000 in
set_option maxRecDepth 100000 in
theorem num_Div.calls (k : Nat) (a0_0 : Bool) (P0_1_ : Nat → Prop) (A0_1 : Option Addr) (c0_1 : Nat) (l0_1 : List Int) (a1_0 : Bool) (P1_1_ : Nat → Prop) (A1_1 : Option Addr) (c1_1 : Nat) (l1_1 : List Int) (r1 : Bool) (r2 : List Int) (r3 : Bool) (r4 : List Int) (w : World) (hs0_1 : Kd.V (Kd.int .u64) 54 w w.heap.size (fun k_ => P0_1_ k_) (.slice A0_1 l0_1.length c0_1) l0_1) (hs1_1 : Kd.V (Kd.int .u64) 54 w w.heap.size (fun k_ => P1_1_ k_) (.slice A1_1 l1_1.length c1_1) l1_1) (h : num_Div.f k a0_0 l0_1 a1_0 l1_1 = some (r1, r2, r3, r4)) :
  Calls Try.prog 19 #[.agg #[.bool a0_0, .slice A0_1 l0_1.length c0_1], .agg #[.bool a1_0, .slice A1_1 l1_1.length c1_1]] w fun e w' => ∃ v1_ v3_ : Value, e = .returned (.tuple #[.agg #[.bool r1, v1_], .agg #[.bool r3, v3_]]) ∧ Kd.V (Kd.int .u64) 54 w' w.heap.size (fun k_ => ((P0_1_ k_ ∨ P1_1_ k_) ∨ w.heap.size ≤ k_)) v1_ r2 ∧ Kd.V (Kd.int .u64) 54 w' w.heap.size (fun k_ => ((P0_1_ k_ ∨ P1_1_ k_) ∨ w.heap.size ≤ k_)) v3_ r4 ∧ Below w.heap.size w w' := by
 have hu25 := Try.underlying25
 have HO0_1 := Aside0.mk (show Kd.V (Kd.int .u64) 54 w w.heap.size (fun k_ => ((P0_1_ k_ ∨ P1_1_ k_) ∨ w.heap.size ≤ k_)) (.slice A0_1 l0_1.length c0_1) l0_1 from Kd.V_mono hs0_1 (fun k_ hk => .inl (.inl hk)))
 have HO1_1 := Aside0.mk (show Kd.V (Kd.int .u64) 54 w w.heap.size (fun k_ => ((P0_1_ k_ ∨ P1_1_ k_) ∨ w.heap.size ≤ k_)) (.slice A1_1 l1_1.length c1_1) l1_1 from Kd.V_mono hs1_1 (fun k_ hk => .inl (.inr hk)))
 have HB := Aside0.mk (Below.refl w.heap.size w)
 have H : ((num_Sign.f k a1_0 l1_1).bind fun t343 => (if t343 = 0 then ((num_Make.f k a0_0 l0_1).bind fun bt344 => (some (false, ([] : List Int), bt344.1, bt344.2))) else ((mag_Div.f k l0_1 l1_1).bind fun bt348 => (if (bt348.2.length : Int) = 0 then (num_Div.j0 k bt348.1 bt348.2 true a0_0 l0_1 a1_0 l1_1) else (num_Div.j0 k bt348.1 bt348.2 (a0_0 == a1_0) a0_0 l0_1 a1_0 l1_1))))) = some (r1, r2, r3, r4) := h
 clear h
 replace H := Option.bind_eq_some_iff.mp H
 obtain ⟨t343, A30, H⟩ := H
 replace H : (if t343 = 0 then ((num_Make.f k a0_0 l0_1).bind fun bt344 => (some (false, ([] : List Int), bt344.1, bt344.2))) else ((mag_Div.f k l0_1 l1_1).bind fun bt348 => (if (bt348.2.length : Int) = 0 then (num_Div.j0 k bt348.1 bt348.2 true a0_0 l0_1 a1_0 l1_1) else (num_Div.j0 k bt348.1 bt348.2 (a0_0 == a1_0) a0_0 l0_1 a1_0 l1_1)))) = some (r1, r2, r3, r4) := H
 have A3 := Aside0.mk A30
 clear A30
 by_cases c4 : t343 = 0
 ·rw [if_pos c4] at H
  have c4b0 : (t343 == 0) = true := beq_iff_eq.mpr c4
  have c4b1 : (t343 != 0) = false := bne_eq_false_iff_eq.mpr c4
  clear c4
  replace H := Option.bind_eq_some_iff.mp H
  obtain ⟨⟨t344, t345⟩, A50, H⟩ := H
  replace H : (some (false, ([] : List Int), t344, t345)) = some (r1, r2, r3, r4) := H
  have A5 := Aside0.mk A50
  clear A50
  simp only [Option.some.injEq, Prod.mk.injEq] at H
  obtain ⟨rfl, rfl, rfl, rfl⟩ := H
  go_enter Try.func19, Try.ntmps19
  go_wp2_with (first | ((with_reducible refine gate_dst (N := 2) rfl ?_); refine box_event ?hg (N := 2) ?hd (cs := #[.bool a0_0, .slice A0_1 l0_1.length c0_1]) (t := 25) ?hr ?_; (case hd => rfl); (case hg => rfl); (case hr => first | (go_simp; done) | (go_simp; rfl)); intro gb339 hg w6 hbox hb; have n0_ := Aside0.mk (Kd.V_below (Kd.V_elderB (gV HO0_1.out) gb339 (Nat.le_of_eq hg.symm)) hb); have n1_ := Aside0.mk (Kd.V_below (Kd.V_elderB (gV HO1_1.out) gb339 (Nat.le_of_eq hg.symm)) hb); have n2_ := Aside0.mk (below_step (gB HB.out) hb); have n3_ := Aside0.mk (hbox); have n4_ := Aside0.mk ((by rw [hg]; exact (below_size (gB HB.out)) : w.heap.size ≤ gb339)); have n5_ := Aside0.mk ((by rw [hg]; exact (below_size (gB HB.out)) : w.heap.size ≤ gb339)); clear HO0_1; clear HO1_1; clear HB; have HO0_1 := n0_; have HO1_1 := n1_; have HB := n2_; have BK339 := n3_; have GW339 := n4_; have GE339 := n5_; clear n0_ n1_ n2_ n3_ n4_ n5_; clear hb hbox hg) | ((with_reducible refine gate_dst (N := 3) rfl ?_); refine box_event ?hg (N := 3) ?hd (cs := #[.bool a1_0, .slice A1_1 l1_1.length c1_1]) (t := 25) ?hr ?_; (case hd => rfl); (case hg => rfl); (case hr => first | (go_simp; done) | (go_simp; rfl)); intro gb340 hg w7 hbox hb; have n0_ := Aside0.mk (Kd.V_below (Kd.V_elderB (gV HO0_1.out) gb340 (Nat.le_of_eq hg.symm)) hb); have n1_ := Aside0.mk (Kd.V_below (Kd.V_elderB (gV HO1_1.out) gb340 (Nat.le_of_eq hg.symm)) hb); have n2_ := Aside0.mk (blk_below (gK BK339.out) hb); have n3_ := Aside0.mk (below_step (by repeat (first | (with_reducible first | exact HB.out | apply bA | apply bN | apply bD | refine bS ?_ GE339.out) | exact HB.out)) hb); have n4_ := Aside0.mk (hbox); have n5_ := Aside0.mk ((by rw [hg]; exact (below_size (by repeat (first | (with_reducible first | exact HB.out | apply bA | apply bN | apply bD | refine bS ?_ GE339.out) | exact HB.out))) : w.heap.size ≤ gb340)); have n6_ := Aside0.mk ((by rw [hg]; exact (below_size (by repeat (first | (with_reducible first | exact HB.out | apply bA | apply bN | apply bD | refine bS ?_ GE339.out) | exact HB.out))) : w.heap.size ≤ gb340)); have n7_ := Aside0.mk ((by rw [hg]; exact Nat.ne_of_lt (blk_lt (g := gb339) (o := .cells #[.bool a0_0, .slice A0_1 l0_1.length c0_1] 25 (0, 0)) (gK BK339.out)) : gb339 ≠ gb340)); have n8_ := Aside0.mk ((by rw [hg]; exact Nat.ne_of_gt (blk_lt (g := gb339) (o := .cells #[.bool a0_0, .slice A0_1 l0_1.length c0_1] 25 (0, 0)) (gK BK339.out)) : gb340 ≠ gb339)); clear HO0_1; clear HO1_1; clear BK339; clear HB; have HO0_1 := n0_; have HO1_1 := n1_; have BK339 := n2_; have HB := n3_; have BK340 := n4_; have GW340 := n5_; have GE340 := n6_; have NB339_340 := n7_; have NB340_339 := n8_; clear n0_ n1_ n2_ n3_ n4_ n5_ n6_ n7_ n8_; clear hb hbox hg) | ((with_reducible refine gate_dst (N := 4) rfl ?_); refine box_event ?hg (N := 4) ?hd (cs := #[.bool false, .slice none 0 0]) (t := 25) ?hr ?_; (case hd => rfl); (case hg => rfl); (case hr => first | (go_simp; done) | (go_simp; rfl)); intro gb341 hg w8 hbox hb; have n0_ := Aside0.mk (Kd.V_below (Kd.V_elderB (gV HO0_1.out) gb341 (Nat.le_of_eq hg.symm)) hb); have n1_ := Aside0.mk (Kd.V_below (Kd.V_elderB (gV HO1_1.out) gb341 (Nat.le_of_eq hg.symm)) hb); have n2_ := Aside0.mk (blk_below (gK BK339.out) hb); have n3_ := Aside0.mk (blk_below (gK BK340.out) hb); have n4_ := Aside0.mk (below_step (by repeat (first | (with_reducible first | exact HB.out | apply bA | apply bN | apply bD | refine bS ?_ GE339.out | refine bS ?_ GE340.out) | exact HB.out)) hb); have n5_ := Aside0.mk (hbox); have n6_ := Aside0.mk ((by rw [hg]; exact (below_size (by repeat (first | (with_reducible first | exact HB.out | apply bA | apply bN | apply bD | refine bS ?_ GE339.out | refine bS ?_ GE340.out) | exact HB.out))) : w.heap.size ≤ gb341)); have n7_ := Aside0.mk ((by rw [hg]; exact (below_size (by repeat (first | (with_reducible first | exact HB.out | apply bA | apply bN | apply bD | refine bS ?_ GE339.out | refine bS ?_ GE340.out) | exact HB.out))) : w.heap.size ≤ gb341)); have n8_ := Aside0.mk ((by rw [hg]; exact Nat.ne_of_lt (blk_lt (g := gb339) (o := .cells #[.bool a0_0, .slice A0_1 l0_1.length c0_1] 25 (0, 0)) (gK BK339.out)) : gb339 ≠ gb341)); have n9_ := Aside0.mk ((by rw [hg]; exact Nat.ne_of_gt (blk_lt (g := gb339) (o := .cells #[.bool a0_0, .slice A0_1 l0_1.length c0_1] 25 (0, 0)) (gK BK339.out)) : gb341 ≠ gb339)); have n10_ := Aside0.mk ((by rw [hg]; exact Nat.ne_of_lt (blk_lt (g := gb340) (o := .cells #[.bool a1_0, .slice A1_1 l1_1.length c1_1] 25 (0, 0)) (gK BK340.out)) : gb340 ≠ gb341)); have n11_ := Aside0.mk ((by rw [hg]; exact Nat.ne_of_gt (blk_lt (g := gb340) (o := .cells #[.bool a1_0, .slice A1_1 l1_1.length c1_1] 25 (0, 0)) (gK BK340.out)) : gb341 ≠ gb340)); clear HO0_1; clear HO1_1; clear BK339; clear BK340; clear HB; have HO0_1 := n0_; have HO1_1 := n1_; have BK339 := n2_; have BK340 := n3_; have HB := n4_; have BK341 := n5_; have GW341 := n6_; have GE341 := n7_; have NB339_341 := n8_; have NB341_339 := n9_; have NB340_341 := n10_; have NB341_340 := n11_; clear n0_ n1_ n2_ n3_ n4_ n5_ n6_ n7_ n8_ n9_ n10_ n11_; clear hb hbox hg) | ((with_reducible refine gate_dst (N := 5) rfl ?_); refine box_event ?hg (N := 5) ?hd (cs := #[.bool false, .slice none 0 0]) (t := 25) ?hr ?_; (case hd => rfl); (case hg => rfl); (case hr => first | (go_simp; done) | (go_simp; rfl)); intro gb342 hg w9 hbox hb; have n0_ := Aside0.mk (Kd.V_below (Kd.V_elderB (gV HO0_1.out) gb342 (Nat.le_of_eq hg.symm)) hb); have n1_ := Aside0.mk (Kd.V_below (Kd.V_elderB (gV HO1_1.out) gb342 (Nat.le_of_eq hg.symm)) hb); have n2_ := Aside0.mk (blk_below (gK BK339.out) hb); have n3_ := Aside0.mk (blk_below (gK BK340.out) hb); have n4_ := Aside0.mk (blk_below (gK BK341.out) hb); have n5_ := Aside0.mk (below_step (by repeat (first | (with_reducible first | exact HB.out | apply bA | apply bN | apply bD | refine bS ?_ GE339.out | refine bS ?_ GE340.out | refine bS ?_ GE341.out) | exact HB.out)) hb); have n6_ := Aside0.mk (hbox); have n7_ := Aside0.mk ((by rw [hg]; exact (below_size (by repeat (first | (with_reducible first | exact HB.out | apply bA | apply bN | apply bD | refine bS ?_ GE339.out | refine bS ?_ GE340.out | refine bS ?_ GE341.out) | exact HB.out))) : w.heap.size ≤ gb342)); have n8_ := Aside0.mk ((by rw [hg]; exact (below_size (by repeat (first | (with_reducible first | exact HB.out | apply bA | apply bN | apply bD | refine bS ?_ GE339.out | refine bS ?_ GE340.out | refine bS ?_ GE341.out) | exact HB.out))) : w.heap.size ≤ gb342)); have n9_ := Aside0.mk ((by rw [hg]; exact Nat.ne_of_lt (blk_lt (g := gb339) (o := .cells #[.bool a0_0, .slice A0_1 l0_1.length c0_1] 25 (0, 0)) (gK BK339.out)) : gb339 ≠ gb342)); have n10_ := Aside0.mk ((by rw [hg]; exact Nat.ne_of_gt (blk_lt (g := gb339) (o := .cells #[.bool a0_0, .slice A0_1 l0_1.length c0_1] 25 (0, 0)) (gK BK339.out)) : gb342 ≠ gb339)); have n11_ := Aside0.mk ((by rw [hg]; exact Nat.ne_of_lt (blk_lt (g := gb340) (o := .cells #[.bool a1_0, .slice A1_1 l1_1.length c1_1] 25 (0, 0)) (gK BK340.out)) : gb340 ≠ gb342)); have n12_ := Aside0.mk ((by rw [hg]; exact Nat.ne_of_gt (blk_lt (g := gb340) (o := .cells #[.bool a1_0, .slice A1_1 l1_1.length c1_1] 25 (0, 0)) (gK BK340.out)) : gb342 ≠ gb340)); have n13_ := Aside0.mk ((by rw [hg]; exact Nat.ne_of_lt (blk_lt (g := gb341) (o := .cells #[.bool false, .slice none 0 0] 25 (0, 0)) (gK BK341.out)) : gb341 ≠ gb342)); have n14_ := Aside0.mk ((by rw [hg]; exact Nat.ne_of_gt (blk_lt (g := gb341) (o := .cells #[.bool false, .slice none 0 0] 25 (0, 0)) (gK BK341.out)) : gb342 ≠ gb341)); clear HO0_1; clear HO1_1; clear BK339; clear BK340; clear BK341; clear HB; have HO0_1 := n0_; have HO1_1 := n1_; have BK339 := n2_; have BK340 := n3_; have BK341 := n4_; have HB := n5_; have BK342 := n6_; have GW342 := n7_; have GE342 := n8_; have NB339_342 := n9_; have NB342_339 := n10_; have NB340_342 := n11_; have NB342_340 := n12_; have NB341_342 := n13_; have NB342_341 := n14_; clear n0_ n1_ n2_ n3_ n4_ n5_ n6_ n7_ n8_ n9_ n10_ n11_ n12_ n13_ n14_; clear hb hbox hg; have hnb10 := NB340_339.out; have hnc10 := NB339_340.out; have hnb11 := NB340_341.out; have hnc11 := NB341_340.out; have hnb12 := NB340_342.out; have hnc12 := NB342_340.out; have hcz13_0 : w9.cell? ⟨gb340, 0, none⟩ = some (.bool a1_0) := (blk_cell BK340.out 0).trans rfl; have hcz13_1 : w9.cell? ⟨gb340, 1, none⟩ = some (.slice A1_1 l1_1.length c1_1) := (blk_cell BK340.out 1).trans rfl; have hfz13_0 := blk_frozen BK340.out 0; have hfz13_1 := blk_frozen BK340.out 1) | ((with_reducible refine gate_callee (f := 15) rfl ?_); refine goesL_ (some 9) rfl rfl Try.func15 (by kernel_rfl) rfl #[.agg #[.bool a1_0, .slice A1_1 l1_1.length c1_1]] rfl (by (try simp only [List.map_toArray, List.map_cons, List.map_nil]); first | done | rfl | (simp only [List.length_drop, List.length_take]; rfl)) ?_; (with_reducible refine (num_Sign.calls k a1_0 _ _ l1_1 t343 _ ?side1 ?side2 A3.out).mono ?_); (case side1 => repeat (first | exact (Kd.V_reads' HO1_1.out).2.2 | (with_reducible refine Kd.C_alloc ?_ _) | (with_reducible refine Kd.C_drewN ?_ _) | (with_reducible refine Kd.C_drew ?_))); (case side2 => exact (Kd.V_reads' HO1_1.out).2.1); rintro e w14 ⟨rfl, hb⟩; refine ⟨_, rfl, ?_⟩; have n0_ := Aside0.mk (Kd.V_below (gV HO0_1.out) hb); have n1_ := Aside0.mk (Kd.V_below (gV HO1_1.out) hb); have n2_ := Aside0.mk (blk_below (gK BK339.out) hb); have n3_ := Aside0.mk (blk_below (gK BK340.out) hb); have n4_ := Aside0.mk (blk_below (gK BK341.out) hb); have n5_ := Aside0.mk (blk_below (gK BK342.out) hb); have n6_ := Aside0.mk (below_step (by repeat (first | (with_reducible first | exact HB.out | apply bA | apply bN | apply bD | refine bS ?_ GE339.out | refine bS ?_ GE340.out | refine bS ?_ GE341.out | refine bS ?_ GE342.out) | exact HB.out)) hb); clear HO0_1; clear HO1_1; clear BK339; clear BK340; clear BK341; clear BK342; clear HB; have HO0_1 := n0_; have HO1_1 := n1_; have BK339 := n2_; have BK340 := n3_; have BK341 := n4_; have BK342 := n5_; have HB := n6_; clear n0_ n1_ n2_ n3_ n4_ n5_ n6_; (try clear hb); (try clear hb2); (try clear hk); (try clear hi); have hnb15 := NB339_341.out; have hnc15 := NB341_339.out; have hnb16 := NB339_342.out; have hnc16 := NB342_339.out; have hcz17_0 : w14.cell? ⟨gb339, 0, none⟩ = some (.bool a0_0) := (blk_cell BK339.out 0).trans rfl; have hcz17_1 : w14.cell? ⟨gb339, 1, none⟩ = some (.slice A0_1 l0_1.length c0_1) := (blk_cell BK339.out 1).trans rfl; have hfz17_0 := blk_frozen BK339.out 0; have hfz17_1 := blk_frozen BK339.out 1) | ((with_reducible refine gate_callee (f := 18) rfl ?_); refine goesL_ (some 16) rfl rfl Try.func18 (by kernel_rfl) rfl #[.bool a0_0, .slice A0_1 l0_1.length c0_1] rfl (by (try simp only [List.map_toArray, List.map_cons, List.map_nil]); first | done | rfl | (simp only [List.length_drop, List.length_take]; rfl)) ?_; (with_reducible refine (num_Make.calls k a0_0 (fun k_ => ((((((P0_1_ k_ ∨ P1_1_ k_) ∨ w.heap.size ≤ k_) ∧ k_ ≠ gb339) ∧ k_ ≠ gb340) ∧ k_ ≠ gb341) ∧ k_ ≠ gb342)) _ _ l0_1 t344 t345 _ ?side1 A5.out).mono ?_); (case side1 => exact HO0_1.out); rintro e w18 ⟨v346, rfl, ho0, hb⟩; refine ⟨_, rfl, ?_⟩; have n0_ := Aside0.mk (Kd.V_below (gV HO0_1.out) hb); have n1_ := Aside0.mk (Kd.V_below (gV HO1_1.out) hb); have n2_ := Aside0.mk (Kd.V_lower (Kd.V_mono (ok' := fun k_ => ((P0_1_ k_ ∨ P1_1_ k_) ∨ w.heap.size ≤ k_) ∧ k_ ≠ gb339 ∧ k_ ≠ gb340 ∧ k_ ≠ gb341 ∧ k_ ≠ gb342) ho0 (fun k_ hk_ => ⟨Or.elim hk_ (fun hs_ => hs_.1.1.1.1) (fun hn_ => (.inr (Nat.le_trans (below_size (by repeat (first | (with_reducible first | exact HB.out | apply bA | apply bN | apply bD | refine bS ?_ GE339.out | refine bS ?_ GE340.out | refine bS ?_ GE341.out | refine bS ?_ GE342.out) | exact HB.out))) hn_))), Or.elim hk_ (fun hs_ => hs_.1.1.1.2) (fun hn_ => (Kd.freshB (g := gb339) (o := .cells #[.bool a0_0, .slice A0_1 l0_1.length c0_1] 25 (0, 0)) (gK BK339.out) k_ hn_)), Or.elim hk_ (fun hs_ => hs_.1.1.2) (fun hn_ => (Kd.freshB (g := gb340) (o := .cells #[.bool a1_0, .slice A1_1 l1_1.length c1_1] 25 (0, 0)) (gK BK340.out) k_ hn_)), Or.elim hk_ (fun hs_ => hs_.1.2) (fun hn_ => (Kd.freshB (g := gb341) (o := .cells #[.bool false, .slice none 0 0] 25 (0, 0)) (gK BK341.out) k_ hn_)), Or.elim hk_ (fun hs_ => hs_.2) (fun hn_ => (Kd.freshB (g := gb342) (o := .cells #[.bool false, .slice none 0 0] 25 (0, 0)) (gK BK342.out) k_ hn_))⟩)) (below_size (by repeat (first | (with_reducible first | exact HB.out | apply bA | apply bN | apply bD | refine bS ?_ GE339.out | refine bS ?_ GE340.out | refine bS ?_ GE341.out | refine bS ?_ GE342.out) | exact HB.out)))); have n3_ := Aside0.mk (blk_below (gK BK339.out) hb); have n4_ := Aside0.mk (blk_below (gK BK340.out) hb); have n5_ := Aside0.mk (blk_below (gK BK341.out) hb); have n6_ := Aside0.mk (blk_below (gK BK342.out) hb); have n7_ := Aside0.mk (below_step (by repeat (first | (with_reducible first | exact HB.out | apply bA | apply bN | apply bD | refine bS ?_ GE339.out | refine bS ?_ GE340.out | refine bS ?_ GE341.out | refine bS ?_ GE342.out) | exact HB.out)) hb); clear HO0_1; clear HO1_1; clear BK339; clear BK340; clear BK341; clear BK342; clear HB; have HO0_1 := n0_; have HO1_1 := n1_; have HO347 := n2_; have BK339 := n3_; have BK340 := n4_; have BK341 := n5_; have BK342 := n6_; have HB := n7_; clear n0_ n1_ n2_ n3_ n4_ n5_ n6_ n7_; (try clear hb); (try clear hb2); (try clear hk); (try clear hi); (try clear ho0); have hnb19 := NB341_342.out; have hnc19 := NB342_341.out; have hcz20_0 : w18.cell? ⟨gb341, 0, none⟩ = some (.bool false) := (blk_cell BK341.out 0).trans rfl; have hcz20_1 : w18.cell? ⟨gb341, 1, none⟩ = some (.slice none 0 0) := (blk_cell BK341.out 1).trans rfl; have hfz20_0 := blk_frozen BK341.out 0; have hfz20_1 := blk_frozen BK341.out 1; have hcz21_0 : w18.cell? ⟨gb342, 0, none⟩ = some (.bool false) := (blk_cell BK342.out 0).trans rfl; have hcz21_1 : w18.cell? ⟨gb342, 1, none⟩ = some (.slice none 0 0) := (blk_cell BK342.out 1).trans rfl; have hfz21_0 := blk_frozen BK342.out 0; have hfz21_1 := blk_frozen BK342.out 1; obtain ⟨Ao22, co22, eo22⟩ := Kd.V_slice HO347.out; subst eo22))
  refine bodyPost_ret (results_cc rfl _ _ gb341 gb342 25 25 #[.bool false, .slice none 0 0] #[.bool t344, .slice Ao22 t345.length co22] (0, 0) (0, 0) _ _ rfl (by (with_reducible repeat (first | refine blk_drewN ?_ _ | refine blk_drew ?_ | refine blk_alloc ?_ _)); refine blk_far ?_ NB341_342.out _; (with_reducible repeat (first | refine blk_drewN ?_ _ | refine blk_drew ?_ | refine blk_alloc ?_ _)); refine blk_far ?_ NB341_342.out _; (with_reducible repeat (first | refine blk_drewN ?_ _ | refine blk_drew ?_ | refine blk_alloc ?_ _)); refine blk_put (cs := #[.bool false, .slice none 0 0]) ?_ 1 _ rfl; (with_reducible repeat (first | refine blk_drewN ?_ _ | refine blk_drew ?_ | refine blk_alloc ?_ _)); refine blk_put (cs := #[.bool false, .slice none 0 0]) ?_ 0 _ rfl; (with_reducible repeat (first | refine blk_drewN ?_ _ | refine blk_drew ?_ | refine blk_alloc ?_ _)); exact BK341.out) Try.underlying25 rfl (by kernel_rfl) rfl (by (with_reducible repeat (first | refine blk_drewN ?_ _ | refine blk_drew ?_ | refine blk_alloc ?_ _)); refine blk_put (cs := #[.bool t344, .slice none 0 0]) ?_ 1 _ rfl; (with_reducible repeat (first | refine blk_drewN ?_ _ | refine blk_drew ?_ | refine blk_alloc ?_ _)); refine blk_put (cs := #[.bool false, .slice none 0 0]) ?_ 0 _ rfl; (with_reducible repeat (first | refine blk_drewN ?_ _ | refine blk_drew ?_ | refine blk_alloc ?_ _)); refine blk_far ?_ NB342_341.out _; (with_reducible repeat (first | refine blk_drewN ?_ _ | refine blk_drew ?_ | refine blk_alloc ?_ _)); refine blk_far ?_ NB342_341.out _; (with_reducible repeat (first | refine blk_drewN ?_ _ | refine blk_drew ?_ | refine blk_alloc ?_ _)); exact BK342.out) Try.underlying25 rfl (by kernel_rfl)) rfl ?_
  exact ⟨_, _, by first | rfl | (simp [errW_none, errW_some] <;> rfl) | (simp [*, errW_none, errW_some] <;> rfl), Kd.V_nil _ _ _ _ _, by (with_reducible repeat (first | apply Kd.V_alloc | apply Kd.V_drewN | apply Kd.V_drew)); exact Kd.V_mono (Kd.V_far (p := ⟨gb342, 1, none⟩) (Kd.V_far (p := ⟨gb342, 0, none⟩) (Kd.V_far (p := ⟨gb341, 1, none⟩) (Kd.V_far (p := ⟨gb341, 0, none⟩) (Kd.V_mono (Kd.V_mono HO347.out (fun k_ hk => (⟨hk, hk.2.2.2.1⟩ : _ ∧ k_ ≠ gb341))) (fun k_ hk => (⟨hk, hk.1.2.2.2.2⟩ : _ ∧ k_ ≠ gb342))) (fun _ hk => hk.1.2) (.bool false)) (fun _ hk => hk.1.2) (.slice none 0 0)) (fun _ hk => hk.2) (.bool t344)) (fun _ hk => hk.2) (.slice Ao22 t345.length co22)) (fun _ hk => hk.1.1.1), by repeat (first | (with_reducible first | exact HB.out | apply bA | apply bN | apply bD | refine bS ?_ GE339.out | refine bS ?_ GE340.out | refine bS ?_ GE341.out | refine bS ?_ GE342.out) | exact HB.out)⟩
 ·rw [if_neg c4] at H
  have c4b0 : (t343 == 0) = false := beq_eq_false_iff_ne.mpr c4
  have c4b1 : (t343 != 0) = true := bne_iff_ne.mpr c4
  replace H := Option.bind_eq_some_iff.mp H
  obtain ⟨⟨t348, t351⟩, A230, H⟩ := H
  replace H : (if (t351.length : Int) = 0 then (num_Div.j0 k t348 t351 true a0_0 l0_1 a1_0 l1_1) else (num_Div.j0 k t348 t351 (a0_0 == a1_0) a0_0 l0_1 a1_0 l1_1)) = some (r1, r2, r3, r4) := H
  have A23 := Aside0.mk A230
  clear A230
  have HC24 := Aside0.mk H
  clear H
  go_enter Try.func19, Try.ntmps19
  go_upto_region 4 with (first | ((with_reducible refine gate_dst (N := 2) rfl ?_); refine box_event ?hg (N := 2) ?hd (cs := #[.bool a0_0, .slice A0_1 l0_1.length c0_1]) (t := 25) ?hr ?_; (case hd => rfl); (case hg => rfl); (case hr => first | (go_simp; done) | (go_simp; rfl)); intro gb339 hg w25 hbox hb; have n0_ := Aside0.mk (Kd.V_below (Kd.V_elderB (gV HO0_1.out) gb339 (Nat.le_of_eq hg.symm)) hb); have n1_ := Aside0.mk (Kd.V_below (Kd.V_elderB (gV HO1_1.out) gb339 (Nat.le_of_eq hg.symm)) hb); have n2_ := Aside0.mk (below_step (gB HB.out) hb); have n3_ := Aside0.mk (hbox); have n4_ := Aside0.mk ((by rw [hg]; exact (below_size (gB HB.out)) : w.heap.size ≤ gb339)); have n5_ := Aside0.mk ((by rw [hg]; exact (below_size (gB HB.out)) : w.heap.size ≤ gb339)); clear HO0_1; clear HO1_1; clear HB; have HO0_1 := n0_; have HO1_1 := n1_; have HB := n2_; have BK339 := n3_; have GW339 := n4_; have GE339 := n5_; clear n0_ n1_ n2_ n3_ n4_ n5_; clear hb hbox hg) | ((with_reducible refine gate_dst (N := 3) rfl ?_); refine box_event ?hg (N := 3) ?hd (cs := #[.bool a1_0, .slice A1_1 l1_1.length c1_1]) (t := 25) ?hr ?_; (case hd => rfl); (case hg => rfl); (case hr => first | (go_simp; done) | (go_simp; rfl)); intro gb340 hg w26 hbox hb; have n0_ := Aside0.mk (Kd.V_below (Kd.V_elderB (gV HO0_1.out) gb340 (Nat.le_of_eq hg.symm)) hb); have n1_ := Aside0.mk (Kd.V_below (Kd.V_elderB (gV HO1_1.out) gb340 (Nat.le_of_eq hg.symm)) hb); have n2_ := Aside0.mk (blk_below (gK BK339.out) hb); have n3_ := Aside0.mk (below_step (by repeat (first | (with_reducible first | exact HB.out | apply bA | apply bN | apply bD | refine bS ?_ GE339.out) | exact HB.out)) hb); have n4_ := Aside0.mk (hbox); have n5_ := Aside0.mk ((by rw [hg]; exact (below_size (by repeat (first | (with_reducible first | exact HB.out | apply bA | apply bN | apply bD | refine bS ?_ GE339.out) | exact HB.out))) : w.heap.size ≤ gb340)); have n6_ := Aside0.mk ((by rw [hg]; exact (below_size (by repeat (first | (with_reducible first | exact HB.out | apply bA | apply bN | apply bD | refine bS ?_ GE339.out) | exact HB.out))) : w.heap.size ≤ gb340)); have n7_ := Aside0.mk ((by rw [hg]; exact Nat.ne_of_lt (blk_lt (g := gb339) (o := .cells #[.bool a0_0, .slice A0_1 l0_1.length c0_1] 25 (0, 0)) (gK BK339.out)) : gb339 ≠ gb340)); have n8_ := Aside0.mk ((by rw [hg]; exact Nat.ne_of_gt (blk_lt (g := gb339) (o := .cells #[.bool a0_0, .slice A0_1 l0_1.length c0_1] 25 (0, 0)) (gK BK339.out)) : gb340 ≠ gb339)); clear HO0_1; clear HO1_1; clear BK339; clear HB; have HO0_1 := n0_; have HO1_1 := n1_; have BK339 := n2_; have HB := n3_; have BK340 := n4_; have GW340 := n5_; have GE340 := n6_; have NB339_340 := n7_; have NB340_339 := n8_; clear n0_ n1_ n2_ n3_ n4_ n5_ n6_ n7_ n8_; clear hb hbox hg) | ((with_reducible refine gate_dst (N := 4) rfl ?_); refine box_event ?hg (N := 4) ?hd (cs := #[.bool false, .slice none 0 0]) (t := 25) ?hr ?_; (case hd => rfl); (case hg => rfl); (case hr => first | (go_simp; done) | (go_simp; rfl)); intro gb341 hg w27 hbox hb; have n0_ := Aside0.mk (Kd.V_below (Kd.V_elderB (gV HO0_1.out) gb341 (Nat.le_of_eq hg.symm)) hb); have n1_ := Aside0.mk (Kd.V_below (Kd.V_elderB (gV HO1_1.out) gb341 (Nat.le_of_eq hg.symm)) hb); have n2_ := Aside0.mk (blk_below (gK BK339.out) hb); have n3_ := Aside0.mk (blk_below (gK BK340.out) hb); have n4_ := Aside0.mk (below_step (by repeat (first | (with_reducible first | exact HB.out | apply bA | apply bN | apply bD | refine bS ?_ GE339.out | refine bS ?_ GE340.out) | exact HB.out)) hb); have n5_ := Aside0.mk (hbox); have n6_ := Aside0.mk ((by rw [hg]; exact (below_size (by repeat (first | (with_reducible first | exact HB.out | apply bA | apply bN | apply bD | refine bS ?_ GE339.out | refine bS ?_ GE340.out) | exact HB.out))) : w.heap.size ≤ gb341)); have n7_ := Aside0.mk ((by rw [hg]; exact (below_size (by repeat (first | (with_reducible first | exact HB.out | apply bA | apply bN | apply bD | refine bS ?_ GE339.out | refine bS ?_ GE340.out) | exact HB.out))) : w.heap.size ≤ gb341)); have n8_ := Aside0.mk ((by rw [hg]; exact Nat.ne_of_lt (blk_lt (g := gb339) (o := .cells #[.bool a0_0, .slice A0_1 l0_1.length c0_1] 25 (0, 0)) (gK BK339.out)) : gb339 ≠ gb341)); have n9_ := Aside0.mk ((by rw [hg]; exact Nat.ne_of_gt (blk_lt (g := gb339) (o := .cells #[.bool a0_0, .slice A0_1 l0_1.length c0_1] 25 (0, 0)) (gK BK339.out)) : gb341 ≠ gb339)); have n10_ := Aside0.mk ((by rw [hg]; exact Nat.ne_of_lt (blk_lt (g := gb340) (o := .cells #[.bool a1_0, .slice A1_1 l1_1.length c1_1] 25 (0, 0)) (gK BK340.out)) : gb340 ≠ gb341)); have n11_ := Aside0.mk ((by rw [hg]; exact Nat.ne_of_gt (blk_lt (g := gb340) (o := .cells #[.bool a1_0, .slice A1_1 l1_1.length c1_1] 25 (0, 0)) (gK BK340.out)) : gb341 ≠ gb340)); clear HO0_1; clear HO1_1; clear BK339; clear BK340; clear HB; have HO0_1 := n0_; have HO1_1 := n1_; have BK339 := n2_; have BK340 := n3_; have HB := n4_; have BK341 := n5_; have GW341 := n6_; have GE341 := n7_; have NB339_341 := n8_; have NB341_339 := n9_; have NB340_341 := n10_; have NB341_340 := n11_; clear n0_ n1_ n2_ n3_ n4_ n5_ n6_ n7_ n8_ n9_ n10_ n11_; clear hb hbox hg) | ((with_reducible refine gate_dst (N := 5) rfl ?_); refine box_event ?hg (N := 5) ?hd (cs := #[.bool false, .slice none 0 0]) (t := 25) ?hr ?_; (case hd => rfl); (case hg => rfl); (case hr => first | (go_simp; done) | (go_simp; rfl)); intro gb342 hg w28 hbox hb; have n0_ := Aside0.mk (Kd.V_below (Kd.V_elderB (gV HO0_1.out) gb342 (Nat.le_of_eq hg.symm)) hb); have n1_ := Aside0.mk (Kd.V_below (Kd.V_elderB (gV HO1_1.out) gb342 (Nat.le_of_eq hg.symm)) hb); have n2_ := Aside0.mk (blk_below (gK BK339.out) hb); have n3_ := Aside0.mk (blk_below (gK BK340.out) hb); have n4_ := Aside0.mk (blk_below (gK BK341.out) hb); have n5_ := Aside0.mk (below_step (by repeat (first | (with_reducible first | exact HB.out | apply bA | apply bN | apply bD | refine bS ?_ GE339.out | refine bS ?_ GE340.out | refine bS ?_ GE341.out) | exact HB.out)) hb); have n6_ := Aside0.mk (hbox); have n7_ := Aside0.mk ((by rw [hg]; exact (below_size (by repeat (first | (with_reducible first | exact HB.out | apply bA | apply bN | apply bD | refine bS ?_ GE339.out | refine bS ?_ GE340.out | refine bS ?_ GE341.out) | exact HB.out))) : w.heap.size ≤ gb342)); have n8_ := Aside0.mk ((by rw [hg]; exact (below_size (by repeat (first | (with_reducible first | exact HB.out | apply bA | apply bN | apply bD | refine bS ?_ GE339.out | refine bS ?_ GE340.out | refine bS ?_ GE341.out) | exact HB.out))) : w.heap.size ≤ gb342)); have n9_ := Aside0.mk ((by rw [hg]; exact Nat.ne_of_lt (blk_lt (g := gb339) (o := .cells #[.bool a0_0, .slice A0_1 l0_1.length c0_1] 25 (0, 0)) (gK BK339.out)) : gb339 ≠ gb342)); have n10_ := Aside0.mk ((by rw [hg]; exact Nat.ne_of_gt (blk_lt (g := gb339) (o := .cells #[.bool a0_0, .slice A0_1 l0_1.length c0_1] 25 (0, 0)) (gK BK339.out)) : gb342 ≠ gb339)); have n11_ := Aside0.mk ((by rw [hg]; exact Nat.ne_of_lt (blk_lt (g := gb340) (o := .cells #[.bool a1_0, .slice A1_1 l1_1.length c1_1] 25 (0, 0)) (gK BK340.out)) : gb340 ≠ gb342)); have n12_ := Aside0.mk ((by rw [hg]; exact Nat.ne_of_gt (blk_lt (g := gb340) (o := .cells #[.bool a1_0, .slice A1_1 l1_1.length c1_1] 25 (0, 0)) (gK BK340.out)) : gb342 ≠ gb340)); have n13_ := Aside0.mk ((by rw [hg]; exact Nat.ne_of_lt (blk_lt (g := gb341) (o := .cells #[.bool false, .slice none 0 0] 25 (0, 0)) (gK BK341.out)) : gb341 ≠ gb342)); have n14_ := Aside0.mk ((by rw [hg]; exact Nat.ne_of_gt (blk_lt (g := gb341) (o := .cells #[.bool false, .slice none 0 0] 25 (0, 0)) (gK BK341.out)) : gb342 ≠ gb341)); clear HO0_1; clear HO1_1; clear BK339; clear BK340; clear BK341; clear HB; have HO0_1 := n0_; have HO1_1 := n1_; have BK339 := n2_; have BK340 := n3_; have BK341 := n4_; have HB := n5_; have BK342 := n6_; have GW342 := n7_; have GE342 := n8_; have NB339_342 := n9_; have NB342_339 := n10_; have NB340_342 := n11_; have NB342_340 := n12_; have NB341_342 := n13_; have NB342_341 := n14_; clear n0_ n1_ n2_ n3_ n4_ n5_ n6_ n7_ n8_ n9_ n10_ n11_ n12_ n13_ n14_; clear hb hbox hg; have hnb29 := NB340_339.out; have hnc29 := NB339_340.out; have hnb30 := NB340_341.out; have hnc30 := NB341_340.out; have hnb31 := NB340_342.out; have hnc31 := NB342_340.out; have hcz32_0 : w28.cell? ⟨gb340, 0, none⟩ = some (.bool a1_0) := (blk_cell BK340.out 0).trans rfl; have hcz32_1 : w28.cell? ⟨gb340, 1, none⟩ = some (.slice A1_1 l1_1.length c1_1) := (blk_cell BK340.out 1).trans rfl; have hfz32_0 := blk_frozen BK340.out 0; have hfz32_1 := blk_frozen BK340.out 1) | ((with_reducible refine gate_callee (f := 15) rfl ?_); refine goesL_ (some 9) rfl rfl Try.func15 (by kernel_rfl) rfl #[.agg #[.bool a1_0, .slice A1_1 l1_1.length c1_1]] rfl (by (try simp only [List.map_toArray, List.map_cons, List.map_nil]); first | done | rfl | (simp only [List.length_drop, List.length_take]; rfl)) ?_; (with_reducible refine (num_Sign.calls k a1_0 _ _ l1_1 t343 _ ?side1 ?side2 A3.out).mono ?_); (case side1 => repeat (first | exact (Kd.V_reads' HO1_1.out).2.2 | (with_reducible refine Kd.C_alloc ?_ _) | (with_reducible refine Kd.C_drewN ?_ _) | (with_reducible refine Kd.C_drew ?_))); (case side2 => exact (Kd.V_reads' HO1_1.out).2.1); rintro e w33 ⟨rfl, hb⟩; refine ⟨_, rfl, ?_⟩; have n0_ := Aside0.mk (Kd.V_below (gV HO0_1.out) hb); have n1_ := Aside0.mk (Kd.V_below (gV HO1_1.out) hb); have n2_ := Aside0.mk (blk_below (gK BK339.out) hb); have n3_ := Aside0.mk (blk_below (gK BK340.out) hb); have n4_ := Aside0.mk (blk_below (gK BK341.out) hb); have n5_ := Aside0.mk (blk_below (gK BK342.out) hb); have n6_ := Aside0.mk (below_step (by repeat (first | (with_reducible first | exact HB.out | apply bA | apply bN | apply bD | refine bS ?_ GE339.out | refine bS ?_ GE340.out | refine bS ?_ GE341.out | refine bS ?_ GE342.out) | exact HB.out)) hb); clear HO0_1; clear HO1_1; clear BK339; clear BK340; clear BK341; clear BK342; clear HB; have HO0_1 := n0_; have HO1_1 := n1_; have BK339 := n2_; have BK340 := n3_; have BK341 := n4_; have BK342 := n5_; have HB := n6_; clear n0_ n1_ n2_ n3_ n4_ n5_ n6_; (try clear hb); (try clear hb2); (try clear hk); (try clear hi); have hnb34 := NB339_341.out; have hnc34 := NB341_339.out; have hnb35 := NB339_342.out; have hnc35 := NB342_339.out; have hcz36_0 : w33.cell? ⟨gb339, 0, none⟩ = some (.bool a0_0) := (blk_cell BK339.out 0).trans rfl; have hcz36_1 : w33.cell? ⟨gb339, 1, none⟩ = some (.slice A0_1 l0_1.length c0_1) := (blk_cell BK339.out 1).trans rfl; have hfz36_0 := blk_frozen BK339.out 0; have hfz36_1 := blk_frozen BK339.out 1; have hcz37_0 : w33.cell? ⟨gb340, 0, none⟩ = some (.bool a1_0) := (blk_cell BK340.out 0).trans rfl; have hcz37_1 : w33.cell? ⟨gb340, 1, none⟩ = some (.slice A1_1 l1_1.length c1_1) := (blk_cell BK340.out 1).trans rfl; have hfz37_0 := blk_frozen BK340.out 0; have hfz37_1 := blk_frozen BK340.out 1) | ((with_reducible refine gate_callee (f := 36) rfl ?_); refine goesL_ (some 22) rfl rfl Try.func36 (by kernel_rfl) rfl #[.slice A0_1 l0_1.length c0_1, .slice A1_1 l1_1.length c1_1] rfl (by (try simp only [List.map_toArray, List.map_cons, List.map_nil]); first | done | rfl | (simp only [List.length_drop, List.length_take]; rfl)) ?_; (with_reducible refine (mag_Div.calls k (fun k_ => ((((((P0_1_ k_ ∨ P1_1_ k_) ∨ w.heap.size ≤ k_) ∧ k_ ≠ gb339) ∧ k_ ≠ gb340) ∧ k_ ≠ gb341) ∧ k_ ≠ gb342)) _ _ l0_1 (fun k_ => ((((((P0_1_ k_ ∨ P1_1_ k_) ∨ w.heap.size ≤ k_) ∧ k_ ≠ gb339) ∧ k_ ≠ gb340) ∧ k_ ≠ gb341) ∧ k_ ≠ gb342)) _ _ l1_1 t348 t351 _ ?side1 ?side2 A23.out).mono ?_); (case side1 => exact HO0_1.out); (case side2 => exact HO1_1.out); rintro e w38 ⟨v349, v352, rfl, ho0, ho1, hb⟩; refine ⟨_, rfl, ?_⟩; have n0_ := Aside0.mk (Kd.V_below (gV HO0_1.out) hb); have n1_ := Aside0.mk (Kd.V_below (gV HO1_1.out) hb); have n2_ := Aside0.mk (Kd.V_lower (Kd.V_mono (ok' := fun k_ => ((P0_1_ k_ ∨ P1_1_ k_) ∨ w.heap.size ≤ k_) ∧ k_ ≠ gb339 ∧ k_ ≠ gb340 ∧ k_ ≠ gb341 ∧ k_ ≠ gb342) ho0 (fun k_ hk_ => ⟨Or.elim hk_ (fun hs_ => Or.elim hs_ (fun hs_ => hs_.1.1.1.1) (fun hs_ => hs_.1.1.1.1)) (fun hn_ => (.inr (Nat.le_trans (below_size (by repeat (first | (with_reducible first | exact HB.out | apply bA | apply bN | apply bD | refine bS ?_ GE339.out | refine bS ?_ GE340.out | refine bS ?_ GE341.out | refine bS ?_ GE342.out) | exact HB.out))) hn_))), Or.elim hk_ (fun hs_ => Or.elim hs_ (fun hs_ => hs_.1.1.1.2) (fun hs_ => hs_.1.1.1.2)) (fun hn_ => (Kd.freshB (g := gb339) (o := .cells #[.bool a0_0, .slice A0_1 l0_1.length c0_1] 25 (0, 0)) (gK BK339.out) k_ hn_)), Or.elim hk_ (fun hs_ => Or.elim hs_ (fun hs_ => hs_.1.1.2) (fun hs_ => hs_.1.1.2)) (fun hn_ => (Kd.freshB (g := gb340) (o := .cells #[.bool a1_0, .slice A1_1 l1_1.length c1_1] 25 (0, 0)) (gK BK340.out) k_ hn_)), Or.elim hk_ (fun hs_ => Or.elim hs_ (fun hs_ => hs_.1.2) (fun hs_ => hs_.1.2)) (fun hn_ => (Kd.freshB (g := gb341) (o := .cells #[.bool false, .slice none 0 0] 25 (0, 0)) (gK BK341.out) k_ hn_)), Or.elim hk_ (fun hs_ => Or.elim hs_ (fun hs_ => hs_.2) (fun hs_ => hs_.2)) (fun hn_ => (Kd.freshB (g := gb342) (o := .cells #[.bool false, .slice none 0 0] 25 (0, 0)) (gK BK342.out) k_ hn_))⟩)) (below_size (by repeat (first | (with_reducible first | exact HB.out | apply bA | apply bN | apply bD | refine bS ?_ GE339.out | refine bS ?_ GE340.out | refine bS ?_ GE341.out | refine bS ?_ GE342.out) | exact HB.out)))); have n3_ := Aside0.mk (Kd.V_lower (Kd.V_mono (ok' := fun k_ => ((P0_1_ k_ ∨ P1_1_ k_) ∨ w.heap.size ≤ k_) ∧ k_ ≠ gb339 ∧ k_ ≠ gb340 ∧ k_ ≠ gb341 ∧ k_ ≠ gb342) ho1 (fun k_ hk_ => ⟨Or.elim hk_ (fun hs_ => Or.elim hs_ (fun hs_ => hs_.1.1.1.1) (fun hs_ => hs_.1.1.1.1)) (fun hn_ => (.inr (Nat.le_trans (below_size (by repeat (first | (with_reducible first | exact HB.out | apply bA | apply bN | apply bD | refine bS ?_ GE339.out | refine bS ?_ GE340.out | refine bS ?_ GE341.out | refine bS ?_ GE342.out) | exact HB.out))) hn_))), Or.elim hk_ (fun hs_ => Or.elim hs_ (fun hs_ => hs_.1.1.1.2) (fun hs_ => hs_.1.1.1.2)) (fun hn_ => (Kd.freshB (g := gb339) (o := .cells #[.bool a0_0, .slice A0_1 l0_1.length c0_1] 25 (0, 0)) (gK BK339.out) k_ hn_)), Or.elim hk_ (fun hs_ => Or.elim hs_ (fun hs_ => hs_.1.1.2) (fun hs_ => hs_.1.1.2)) (fun hn_ => (Kd.freshB (g := gb340) (o := .cells #[.bool a1_0, .slice A1_1 l1_1.length c1_1] 25 (0, 0)) (gK BK340.out) k_ hn_)), Or.elim hk_ (fun hs_ => Or.elim hs_ (fun hs_ => hs_.1.2) (fun hs_ => hs_.1.2)) (fun hn_ => (Kd.freshB (g := gb341) (o := .cells #[.bool false, .slice none 0 0] 25 (0, 0)) (gK BK341.out) k_ hn_)), Or.elim hk_ (fun hs_ => Or.elim hs_ (fun hs_ => hs_.2) (fun hs_ => hs_.2)) (fun hn_ => (Kd.freshB (g := gb342) (o := .cells #[.bool false, .slice none 0 0] 25 (0, 0)) (gK BK342.out) k_ hn_))⟩)) (below_size (by repeat (first | (with_reducible first | exact HB.out | apply bA | apply bN | apply bD | refine bS ?_ GE339.out | refine bS ?_ GE340.out | refine bS ?_ GE341.out | refine bS ?_ GE342.out) | exact HB.out)))); have n4_ := Aside0.mk (blk_below (gK BK339.out) hb); have n5_ := Aside0.mk (blk_below (gK BK340.out) hb); have n6_ := Aside0.mk (blk_below (gK BK341.out) hb); have n7_ := Aside0.mk (blk_below (gK BK342.out) hb); have n8_ := Aside0.mk (below_step (by repeat (first | (with_reducible first | exact HB.out | apply bA | apply bN | apply bD | refine bS ?_ GE339.out | refine bS ?_ GE340.out | refine bS ?_ GE341.out | refine bS ?_ GE342.out) | exact HB.out)) hb); clear HO0_1; clear HO1_1; clear BK339; clear BK340; clear BK341; clear BK342; clear HB; have HO0_1 := n0_; have HO1_1 := n1_; have HO350 := n2_; have HO353 := n3_; have BK339 := n4_; have BK340 := n5_; have BK341 := n6_; have BK342 := n7_; have HB := n8_; clear n0_ n1_ n2_ n3_ n4_ n5_ n6_ n7_ n8_; (try clear hb); (try clear hb2); (try clear hk); (try clear hi); (try clear ho0); (try clear ho1)))
  (try simp only [Act.put, List.setIfInBounds_toArray, List.set_cons_zero, List.set_cons_succ])
  go_cut [34] (fun v34 wc => ∃ (kq : Nat) (x34_23 : Bool), v34 = .bool x34_23 ∧ Aside0 (num_Div.j0 kq t348 t351 x34_23 a0_0 l0_1 a1_0 l1_1 = some (r1, r2, r3, r4)) ∧ Aside0 (kq ≤ k) ∧ Aside0 (Kd.V (Kd.int .u64) 54 wc w.heap.size (fun k_ => ((P0_1_ k_ ∨ P1_1_ k_) ∨ w.heap.size ≤ k_) ∧ k_ ≠ gb339 ∧ k_ ≠ gb340 ∧ k_ ≠ gb341 ∧ k_ ≠ gb342) v349 t348) ∧ Aside0 (Kd.V (Kd.int .u64) 54 wc w.heap.size (fun k_ => ((P0_1_ k_ ∨ P1_1_ k_) ∨ w.heap.size ≤ k_) ∧ k_ ≠ gb339 ∧ k_ ≠ gb340 ∧ k_ ≠ gb341 ∧ k_ ≠ gb342) v352 t351) ∧ Aside0 (Kd.V (Kd.int .u64) 54 wc w.heap.size (fun k_ => ((P0_1_ k_ ∨ P1_1_ k_) ∨ w.heap.size ≤ k_) ∧ k_ ≠ gb339 ∧ k_ ≠ gb340 ∧ k_ ≠ gb341 ∧ k_ ≠ gb342) (.slice A0_1 l0_1.length c0_1) l0_1) ∧ Aside0 (Kd.V (Kd.int .u64) 54 wc w.heap.size (fun k_ => ((P0_1_ k_ ∨ P1_1_ k_) ∨ w.heap.size ≤ k_) ∧ k_ ≠ gb339 ∧ k_ ≠ gb340 ∧ k_ ≠ gb341 ∧ k_ ≠ gb342) (.slice A1_1 l1_1.length c1_1) l1_1) ∧ Aside0 (wc.heap[gb339]? = some (.cells #[.bool a0_0, (.slice A0_1 l0_1.length c0_1)] 25 (0, 0))) ∧ Aside0 (wc.heap[gb340]? = some (.cells #[.bool a1_0, (.slice A1_1 l1_1.length c1_1)] 25 (0, 0))) ∧ Aside0 (wc.heap[gb341]? = some (.cells #[.bool false, (.slice none 0 0)] 25 (0, 0))) ∧ Aside0 (wc.heap[gb342]? = some (.cells #[.bool false, (.slice none 0 0)] 25 (0, 0))) ∧ Aside0 (Below w.heap.size w wc))
  case first =>
   have H := HC24.out
   clear HC24
   by_cases c39 : (t351.length : Int) = 0
   ·rw [if_pos c39] at H
    have c39b0 : ((t351.length : Int) == 0) = true := beq_iff_eq.mpr c39
    have c39b1 : ((t351.length : Int) != 0) = false := bne_eq_false_iff_eq.mpr c39
    clear c39
    (first | rw [c39b0] | rw [c39b1] | (simp only [i64_w, i32_w]; rw [c39b0]) | skip)
    have H' := Aside0.mk H
    clear H
    obtain ⟨Ao40, co40, eo40⟩ := Kd.V_slice HO353.out
    subst eo40
    go_wp2
    go_meet
    case rel => exact ⟨_, (true), (by first | rfl | (simp; done) | (simp [*]; done)), H', ⟨by first | omega | exact Nat.le_refl _⟩, ⟨by (with_reducible repeat (first | apply Kd.V_alloc | apply Kd.V_drewN | apply Kd.V_drew)); exact HO350.out⟩, ⟨by (with_reducible repeat (first | apply Kd.V_alloc | apply Kd.V_drewN | apply Kd.V_drew)); exact HO353.out⟩, ⟨by (with_reducible repeat (first | apply Kd.V_alloc | apply Kd.V_drewN | apply Kd.V_drew)); exact Kd.V_mono HO0_1.out (fun _ hk => ⟨hk.1.1.1.1, ⟨hk.1.1.1.2, ⟨hk.1.1.2, ⟨hk.1.2, hk.2⟩⟩⟩⟩)⟩, ⟨by (with_reducible repeat (first | apply Kd.V_alloc | apply Kd.V_drewN | apply Kd.V_drew)); exact Kd.V_mono HO1_1.out (fun _ hk => ⟨hk.1.1.1.1, ⟨hk.1.1.1.2, ⟨hk.1.1.2, ⟨hk.1.2, hk.2⟩⟩⟩⟩)⟩, ⟨by (with_reducible repeat (first | refine blk_drewN ?_ _ | refine blk_drew ?_ | refine blk_alloc ?_ _)); exact BK339.out⟩, ⟨by (with_reducible repeat (first | refine blk_drewN ?_ _ | refine blk_drew ?_ | refine blk_alloc ?_ _)); exact BK340.out⟩, ⟨by (with_reducible repeat (first | refine blk_drewN ?_ _ | refine blk_drew ?_ | refine blk_alloc ?_ _)); exact BK341.out⟩, ⟨by (with_reducible repeat (first | refine blk_drewN ?_ _ | refine blk_drew ?_ | refine blk_alloc ?_ _)); exact BK342.out⟩, ⟨by repeat (first | (with_reducible first | exact HB.out | apply bA | apply bN | apply bD | refine bS ?_ GE339.out | refine bS ?_ GE340.out | refine bS ?_ GE341.out | refine bS ?_ GE342.out) | exact HB.out)⟩⟩
   ·rw [if_neg c39] at H
    have c39b0 : ((t351.length : Int) == 0) = false := beq_eq_false_iff_ne.mpr c39
    have c39b1 : ((t351.length : Int) != 0) = true := bne_iff_ne.mpr c39
    have c39b2 : ¬ (t351 = []) := fun h_ => c39 (by rw [h_]; rfl)
    (first | rw [c39b0] | rw [c39b1] | (simp only [i64_w, i32_w]; rw [c39b0]) | skip)
    have H' := Aside0.mk H
    clear H
    obtain ⟨Ao41, co41, eo41⟩ := Kd.V_slice HO353.out
    subst eo41
    have hnb42 := NB339_340.out
    have hnc42 := NB340_339.out
    have hnb43 := NB339_341.out
    have hnc43 := NB341_339.out
    have hnb44 := NB339_342.out
    have hnc44 := NB342_339.out
    have hcz45_0 : w38.cell? ⟨gb339, 0, none⟩ = some (.bool a0_0) := (blk_cell BK339.out 0).trans rfl
    have hcz45_1 : w38.cell? ⟨gb339, 1, none⟩ = some (.slice A0_1 l0_1.length c0_1) := (blk_cell BK339.out 1).trans rfl
    have hfz45_0 := blk_frozen BK339.out 0
    have hfz45_1 := blk_frozen BK339.out 1
    have hnb46 := NB340_341.out
    have hnc46 := NB341_340.out
    have hnb47 := NB340_342.out
    have hnc47 := NB342_340.out
    have hcz48_0 : w38.cell? ⟨gb340, 0, none⟩ = some (.bool a1_0) := (blk_cell BK340.out 0).trans rfl
    have hcz48_1 : w38.cell? ⟨gb340, 1, none⟩ = some (.slice A1_1 l1_1.length c1_1) := (blk_cell BK340.out 1).trans rfl
    have hfz48_0 := blk_frozen BK340.out 0
    have hfz48_1 := blk_frozen BK340.out 1
    go_wp2
    go_meet
    case rel => exact ⟨_, ((a0_0 == a1_0)), (by first | rfl | (simp; done) | (simp [*]; done)), H', ⟨by first | omega | exact Nat.le_refl _⟩, ⟨by (with_reducible repeat (first | apply Kd.V_alloc | apply Kd.V_drewN | apply Kd.V_drew)); exact HO350.out⟩, ⟨by (with_reducible repeat (first | apply Kd.V_alloc | apply Kd.V_drewN | apply Kd.V_drew)); exact HO353.out⟩, ⟨by (with_reducible repeat (first | apply Kd.V_alloc | apply Kd.V_drewN | apply Kd.V_drew)); exact Kd.V_mono HO0_1.out (fun _ hk => ⟨hk.1.1.1.1, ⟨hk.1.1.1.2, ⟨hk.1.1.2, ⟨hk.1.2, hk.2⟩⟩⟩⟩)⟩, ⟨by (with_reducible repeat (first | apply Kd.V_alloc | apply Kd.V_drewN | apply Kd.V_drew)); exact Kd.V_mono HO1_1.out (fun _ hk => ⟨hk.1.1.1.1, ⟨hk.1.1.1.2, ⟨hk.1.1.2, ⟨hk.1.2, hk.2⟩⟩⟩⟩)⟩, ⟨by (with_reducible repeat (first | refine blk_drewN ?_ _ | refine blk_drew ?_ | refine blk_alloc ?_ _)); exact BK339.out⟩, ⟨by (with_reducible repeat (first | refine blk_drewN ?_ _ | refine blk_drew ?_ | refine blk_alloc ?_ _)); exact BK340.out⟩, ⟨by (with_reducible repeat (first | refine blk_drewN ?_ _ | refine blk_drew ?_ | refine blk_alloc ?_ _)); exact BK341.out⟩, ⟨by (with_reducible repeat (first | refine blk_drewN ?_ _ | refine blk_drew ?_ | refine blk_alloc ?_ _)); exact BK342.out⟩, ⟨by repeat (first | (with_reducible first | exact HB.out | apply bA | apply bN | apply bD | refine bS ?_ GE339.out | refine bS ?_ GE340.out | refine bS ?_ GE341.out | refine bS ?_ GE342.out) | exact HB.out)⟩⟩
  case rest =>
   clear HC24
   try clear c1
   try clear c2
   try clear p2
   try clear c3
   try clear c4
   try clear c4b0
   try clear c4b1
   try clear c10
   try clear c11
   try clear c12
   try clear c15
   try clear c16
   try clear c18
   try clear c19
   try clear c29
   try clear c30
   try clear c31
   try clear c34
   try clear c35
   try clear c36
   try clear c39
   try clear c39b0
   try clear c39b1
   try clear c39b2
   try clear c42
   try clear c43
   try clear c44
   try clear c46
   try clear c47
   try clear hcz13_0
   try clear hcz13_1
   try clear hcz17_0
   try clear hcz17_1
   try clear hcz20_0
   try clear hcz20_1
   try clear hcz21_0
   try clear hcz21_1
   try clear hcz32_0
   try clear hcz32_1
   try clear hcz36_0
   try clear hcz36_1
   try clear hcz37_0
   try clear hcz37_1
   try clear hcz45_0
   try clear hcz45_1
   try clear hcz48_0
   try clear hcz48_1
   try clear hfz13_0
   try clear hfz13_1
   try clear hfz17_0
   try clear hfz17_1
   try clear hfz20_0
   try clear hfz20_1
   try clear hfz21_0
   try clear hfz21_1
   try clear hfz32_0
   try clear hfz32_1
   try clear hfz36_0
   try clear hfz36_1
   try clear hfz37_0
   try clear hfz37_1
   try clear hfz45_0
   try clear hfz45_1
   try clear hfz48_0
   try clear hfz48_1
   obtain ⟨kq, x34_23, rfl, HA, HJ23, HO_6, HO_7, HO_340001, HO_341001, BK339, BK340, BK341, BK342, HB⟩ := hcut
   cases kq with
   | zero => exact absurd HA.out (by simp [num_Div.j0])
   | succ kj23 =>
    have H := HA.out
    clear HA
    simp only [num_Div.j0] at H
    by_cases c49 : x34_23 = true
    ·subst c49
     have H1 : ((num_Make.f kj23 (a0_0 != a1_0) t348).bind fun bt354 => ((num_Make.f kj23 a0_0 t351).bind fun bt358 => (some (bt354.1, bt354.2, bt358.1, bt358.2)))) = some (r1, r2, r3, r4) := by rw [if_pos rfl] at H; exact H
     clear H
     have H := H1
     clear H1
     replace H := Option.bind_eq_some_iff.mp H
     obtain ⟨⟨t354, t355⟩, A500, H⟩ := H
     replace H : ((num_Make.f kj23 a0_0 t351).bind fun bt358 => (some (t354, t355, bt358.1, bt358.2))) = some (r1, r2, r3, r4) := H
     have A50 := Aside0.mk A500
     clear A500
     replace H := Option.bind_eq_some_iff.mp H
     obtain ⟨⟨t358, t359⟩, A510, H⟩ := H
     replace H : (some (t354, t355, t358, t359)) = some (r1, r2, r3, r4) := H
     have A51 := Aside0.mk A510
     clear A510
     simp only [Option.some.injEq, Prod.mk.injEq] at H
     obtain ⟨rfl, rfl, rfl, rfl⟩ := H
     try go_wp2
     have n0_ := Aside0.mk (Kd.V_drew HO_6.out)
     have n1_ := Aside0.mk (Kd.V_drew HO_7.out)
     have n2_ := Aside0.mk (Kd.V_drew HO_340001.out)
     have n3_ := Aside0.mk (Kd.V_drew HO_341001.out)
     have n4_ := Aside0.mk (blk_drew BK339.out)
     have n5_ := Aside0.mk (blk_drew BK340.out)
     have n6_ := Aside0.mk (blk_drew BK341.out)
     have n7_ := Aside0.mk (blk_drew BK342.out)
     have n8_ := Aside0.mk (bD HB.out)
     clear HO_6
     clear HO_7
     clear HO_340001
     clear HO_341001
     clear BK339
     clear BK340
     clear BK341
     clear BK342
     clear HB
     have HO_6 := n0_
     have HO_7 := n1_
     have HO_340001 := n2_
     have HO_341001 := n3_
     have BK339 := n4_
     have BK340 := n5_
     have BK341 := n6_
     have BK342 := n7_
     have HB := n8_
     clear n0_ n1_ n2_ n3_ n4_ n5_ n6_ n7_ n8_
     obtain ⟨Ao53, co53, eo53⟩ := Kd.V_slice HO_6.out
     (first | subst eo53 | (injection eo53 with f1_ f2_ f3_; have f4_ := f1_.symm; have f5_ := f3_.symm; clear f1_ f2_ f3_; subst f4_; subst f5_))
     refine start_ (n := 13) (S := fun w' => w'.cell? ⟨gb339, 0, none⟩ = some (.bool a0_0) ∧ w'.cell? ⟨gb339, 1, none⟩ = some (.slice A0_1 l0_1.length c0_1) ∧ w'.cell? ⟨gb340, 0, none⟩ = some (.bool a1_0) ∧ w'.cell? ⟨gb340, 1, none⟩ = some (.slice A1_1 l1_1.length c1_1)) (ds := []) #[false, false, false, false, false, false, false, false, false, false, false, false, false] (by kernel_rfl) rfl rfl ⟨(blk_cell BK339.out 0).trans rfl, (blk_cell BK339.out 1).trans rfl, (blk_cell BK340.out 0).trans rfl, (blk_cell BK340.out 1).trans rfl⟩ (fun hHeld => ?_); refine with_tabW num_Div.tab5 num_Div.bits5 (fun HT_ HW_ => ?_)
     generalize wc.drew = w52 at HO_6 HO_7 HO_340001 HO_341001 BK339 BK340 BK341 BK342 HB hHeld ⊢
     refine pure_ (i := 0) (N := some 35) (v := ?_) (a' := ?_) #[true, false, false, false, false, false, false, false, false, false, false, false, false] rfl rfl (any_of HT_.out (by kernel_rfl)) (fun _ _ _ h => h) (Or.inl ⟨by rfl, ?_⟩) ?_ ?_
     rotate_left
     ·intro w'
      go_simp
      with_reducible rfl
     rotate_left
     ·simp only [Act.put, List.setIfInBounds_toArray, List.set_cons_zero, List.set_cons_succ, i64_w, i32_w]
      rfl
     refine pure_ (i := 2) (N := some 37) (v := ?_) (a' := ?_) #[true, false, true, false, false, false, false, false, false, false, false, false, false] rfl rfl (any_of HT_.out (by kernel_rfl)) (fun _ _ _ h => h) (Or.inl ⟨by rfl, ?_⟩) ?_ ?_
     rotate_left
     ·intro w'
      go_simp
      with_reducible rfl
     rotate_left
     ·simp only [Act.put, List.setIfInBounds_toArray, List.set_cons_zero, List.set_cons_succ, i64_w, i32_w]
      rfl
     refine pure_ (i := 5) (N := some 40) (v := ?_) (a' := ?_) #[true, false, true, false, false, true, false, false, false, false, false, false, false] rfl rfl (any_of HT_.out (by kernel_rfl)) (fun _ _ _ h => h) (Or.inl ⟨by rfl, ?_⟩) ?_ ?_
     rotate_left
     ·intro w'
      go_simp
      with_reducible rfl
     rotate_left
     ·simp only [Act.put, List.setIfInBounds_toArray, List.set_cons_zero, List.set_cons_succ, i64_w, i32_w]
      rfl
     refine pure_ (i := 7) (N := some 42) (v := ?_) (a' := ?_) #[true, false, true, false, false, true, false, true, false, false, false, false, false] rfl rfl (any_of HT_.out (by kernel_rfl)) (fun _ _ _ h => h) (Or.inl ⟨by rfl, ?_⟩) ?_ ?_
     rotate_left
     ·intro w'
      go_simp
      with_reducible rfl
     rotate_left
     ·simp only [Act.put, List.setIfInBounds_toArray, List.set_cons_zero, List.set_cons_succ, i64_w, i32_w]
      rfl
     refine pure_ (i := 9) (N := some 44) (v := ?_) (a' := ?_) #[true, false, true, false, false, true, false, true, false, true, false, false, false] rfl rfl (any_of HT_.out (by kernel_rfl)) (fun _ _ _ h => h) (Or.inl ⟨by rfl, ?_⟩) ?_ ?_
     rotate_left
     ·intro w'
      go_simp
      with_reducible rfl
     rotate_left
     ·simp only [Act.put, List.setIfInBounds_toArray, List.set_cons_zero, List.set_cons_succ, i64_w, i32_w]
      rfl
     refine take_ (i := 1) (N := some 36) (v := ?_) (a' := ?_) #[true, true, true, false, false, true, false, true, false, true, false, false, false] rfl rfl (take_ofW HT_.out HW_.out (by kernel_rfl)) (fun _ _ _ h => h) (Or.inl ⟨by rfl, ?_⟩) hHeld ?_ ?_
     rotate_left
     ·rintro w' ⟨s0, s1, s2, s3⟩
      go_simp
      with_reducible rfl
     rotate_left
     ·simp only [Act.put, List.setIfInBounds_toArray, List.set_cons_zero, List.set_cons_succ, i64_w, i32_w]
      rfl
     refine take_ (i := 3) (N := some 38) (v := ?_) (a' := ?_) #[true, true, true, true, false, true, false, true, false, true, false, false, false] rfl rfl (take_ofW HT_.out HW_.out (by kernel_rfl)) (fun _ _ _ h => h) (Or.inl ⟨by rfl, ?_⟩) hHeld ?_ ?_
     rotate_left
     ·rintro w' ⟨s0, s1, s2, s3⟩
      go_simp
      with_reducible rfl
     rotate_left
     ·simp only [Act.put, List.setIfInBounds_toArray, List.set_cons_zero, List.set_cons_succ, i64_w, i32_w]
      rfl
     refine pure_ (i := 4) (N := some 39) (v := ?_) (a' := ?_) #[true, true, true, true, true, true, false, true, false, true, false, false, false] rfl rfl (any_of HT_.out (by kernel_rfl)) (fun _ _ _ h => h) (Or.inl ⟨by rfl, ?_⟩) ?_ ?_
     rotate_left
     ·intro w'
      go_simp
      with_reducible rfl
     rotate_left
     ·simp only [Act.put, List.setIfInBounds_toArray, List.set_cons_zero, List.set_cons_succ, i64_w, i32_w]
      rfl
     refine take_ (i := 8) (N := some 43) (v := ?_) (a' := ?_) #[true, true, true, true, true, true, false, true, true, true, false, false, false] rfl rfl (take_ofW HT_.out HW_.out (by kernel_rfl)) (fun _ _ _ h => h) (Or.inl ⟨by rfl, ?_⟩) hHeld ?_ ?_
     rotate_left
     ·rintro w' ⟨s0, s1, s2, s3⟩
      go_simp
      with_reducible rfl
     rotate_left
     ·simp only [Act.put, List.setIfInBounds_toArray, List.set_cons_zero, List.set_cons_succ, i64_w, i32_w]
      rfl
     refine one_ (i := 6) (N := some 41) #[true, true, true, true, true, true, true, true, true, true, false, false, false] rfl rfl (one_of HT_.out (by kernel_rfl)) (by decide) (fun K hK => ?_)
     refine goes_ Try.func18 (by kernel_rfl) rfl #[.bool (a0_0 != a1_0), .slice Ao53 t348.length co53] (by rfl) rfl rfl (by (try simp only [List.map_toArray, List.map_cons, List.map_nil]); first | done | rfl | (simp only [List.length_drop, List.length_take]; rfl)) ?_
     with_reducible refine (num_Make.calls kj23 (a0_0 != a1_0) (fun k_ => (((P0_1_ k_ ∨ P1_1_ k_) ∨ w.heap.size ≤ k_) ∧ (k_ ≠ gb339 ∧ (k_ ≠ gb340 ∧ (k_ ≠ gb341 ∧ k_ ≠ gb342))))) _ _ t348 t354 t355 _ ?side1 A50.out).mono ?_
     (case side1 => exact HO_6.out)
     rintro e w54 ⟨v356, rfl, ho0, hb⟩
     refine ⟨_, rfl, ?_⟩
     have n0_ := Aside0.mk (Kd.V_below (gV HO_6.out) hb)
     have n1_ := Aside0.mk (Kd.V_below (gV HO_7.out) hb)
     have n2_ := Aside0.mk (Kd.V_below (gV HO_340001.out) hb)
     have n3_ := Aside0.mk (Kd.V_below (gV HO_341001.out) hb)
     have n4_ := Aside0.mk (Kd.V_lower (Kd.V_mono (ok' := fun k_ => ((P0_1_ k_ ∨ P1_1_ k_) ∨ w.heap.size ≤ k_) ∧ k_ ≠ gb339 ∧ k_ ≠ gb340 ∧ k_ ≠ gb341 ∧ k_ ≠ gb342) ho0 (fun k_ hk_ => ⟨Or.elim hk_ (fun hs_ => hs_.1) (fun hn_ => (.inr (Nat.le_trans (below_size (by repeat (first | (with_reducible first | exact HB.out | apply bA | apply bN | apply bD | refine bS ?_ GE339.out | refine bS ?_ GE340.out | refine bS ?_ GE341.out | refine bS ?_ GE342.out) | exact HB.out))) hn_))), Or.elim hk_ (fun hs_ => hs_.2.1) (fun hn_ => (Kd.freshB (g := gb339) (o := .cells #[.bool a0_0, .slice A0_1 l0_1.length c0_1] 25 (0, 0)) (gK BK339.out) k_ hn_)), Or.elim hk_ (fun hs_ => hs_.2.2.1) (fun hn_ => (Kd.freshB (g := gb340) (o := .cells #[.bool a1_0, .slice A1_1 l1_1.length c1_1] 25 (0, 0)) (gK BK340.out) k_ hn_)), Or.elim hk_ (fun hs_ => hs_.2.2.2.1) (fun hn_ => (Kd.freshB (g := gb341) (o := .cells #[.bool false, .slice none 0 0] 25 (0, 0)) (gK BK341.out) k_ hn_)), Or.elim hk_ (fun hs_ => hs_.2.2.2.2) (fun hn_ => (Kd.freshB (g := gb342) (o := .cells #[.bool false, .slice none 0 0] 25 (0, 0)) (gK BK342.out) k_ hn_))⟩)) (below_size (by repeat (first | (with_reducible first | exact HB.out | apply bA | apply bN | apply bD | refine bS ?_ GE339.out | refine bS ?_ GE340.out | refine bS ?_ GE341.out | refine bS ?_ GE342.out) | exact HB.out))))
     have n5_ := Aside0.mk (blk_below (gK BK339.out) hb)
     have n6_ := Aside0.mk (blk_below (gK BK340.out) hb)
     have n7_ := Aside0.mk (blk_below (gK BK341.out) hb)
     have n8_ := Aside0.mk (blk_below (gK BK342.out) hb)
     have n9_ := Aside0.mk (below_step (by repeat (first | (with_reducible first | exact HB.out | apply bA | apply bN | apply bD | refine bS ?_ GE339.out | refine bS ?_ GE340.out | refine bS ?_ GE341.out | refine bS ?_ GE342.out) | exact HB.out)) hb)
     clear HO_6
     clear HO_7
     clear HO_340001
     clear HO_341001
     clear BK339
     clear BK340
     clear BK341
     clear BK342
     clear HB
     have HO_6 := n0_
     have HO_7 := n1_
     have HO_340001 := n2_
     have HO_341001 := n3_
     have HO357 := n4_
     have BK339 := n5_
     have BK340 := n6_
     have BK341 := n7_
     have BK342 := n8_
     have HB := n9_
     clear n0_ n1_ n2_ n3_ n4_ n5_ n6_ n7_ n8_ n9_
     (try clear hb)
     (try clear hb2)
     (try clear hk)
     (try clear hi)
     (try clear ho0)
     obtain ⟨Ao55, co55, eo55⟩ := Kd.V_slice HO_7.out
     (first | subst eo55 | (injection eo55 with f1_ f2_ f3_; have f4_ := f1_.symm; have f5_ := f3_.symm; clear f1_ f2_ f3_; subst f4_; subst f5_))
     refine hK.out _ _ ⟨(blk_cell BK339.out 0).trans rfl, (blk_cell BK339.out 1).trans rfl, (blk_cell BK340.out 0).trans rfl, (blk_cell BK340.out 1).trans rfl⟩ (fun hHeld => ?_)
     clear hK K
     refine norm_ (a' := ?_) ?_ ?_
     rotate_left
     ·show Act.put _ (some 41) _ = _
      simp only [Act.put, List.setIfInBounds_toArray, List.set_cons_zero, List.set_cons_succ, i64_w, i32_w]
      rfl
     refine one_ (i := 10) (N := some 45) #[true, true, true, true, true, true, true, true, true, true, true, false, false] rfl rfl (one_of HT_.out (by kernel_rfl)) (by decide) (fun K hK => ?_)
     refine goes_ Try.func18 (by kernel_rfl) rfl #[.bool a0_0, .slice Ao55 t351.length co55] (by rfl) rfl rfl (by (try simp only [List.map_toArray, List.map_cons, List.map_nil]); first | done | rfl | (simp only [List.length_drop, List.length_take]; rfl)) ?_
     with_reducible refine (num_Make.calls kj23 a0_0 (fun k_ => (((P0_1_ k_ ∨ P1_1_ k_) ∨ w.heap.size ≤ k_) ∧ (k_ ≠ gb339 ∧ (k_ ≠ gb340 ∧ (k_ ≠ gb341 ∧ k_ ≠ gb342))))) _ _ t351 t358 t359 _ ?side1 A51.out).mono ?_
     (case side1 => exact HO_7.out)
     rintro e w56 ⟨v360, rfl, ho0, hb⟩
     refine ⟨_, rfl, ?_⟩
     have n0_ := Aside0.mk (Kd.V_below (gV HO_6.out) hb)
     have n1_ := Aside0.mk (Kd.V_below (gV HO_7.out) hb)
     have n2_ := Aside0.mk (Kd.V_below (gV HO_340001.out) hb)
     have n3_ := Aside0.mk (Kd.V_below (gV HO_341001.out) hb)
     have n4_ := Aside0.mk (Kd.V_below (gV HO357.out) hb)
     have n5_ := Aside0.mk (Kd.V_lower (Kd.V_mono (ok' := fun k_ => ((P0_1_ k_ ∨ P1_1_ k_) ∨ w.heap.size ≤ k_) ∧ k_ ≠ gb339 ∧ k_ ≠ gb340 ∧ k_ ≠ gb341 ∧ k_ ≠ gb342) ho0 (fun k_ hk_ => ⟨Or.elim hk_ (fun hs_ => hs_.1) (fun hn_ => (.inr (Nat.le_trans (below_size (by repeat (first | (with_reducible first | exact HB.out | apply bA | apply bN | apply bD | refine bS ?_ GE339.out | refine bS ?_ GE340.out | refine bS ?_ GE341.out | refine bS ?_ GE342.out) | exact HB.out))) hn_))), Or.elim hk_ (fun hs_ => hs_.2.1) (fun hn_ => (Kd.freshB (g := gb339) (o := .cells #[.bool a0_0, .slice A0_1 l0_1.length c0_1] 25 (0, 0)) (gK BK339.out) k_ hn_)), Or.elim hk_ (fun hs_ => hs_.2.2.1) (fun hn_ => (Kd.freshB (g := gb340) (o := .cells #[.bool a1_0, .slice A1_1 l1_1.length c1_1] 25 (0, 0)) (gK BK340.out) k_ hn_)), Or.elim hk_ (fun hs_ => hs_.2.2.2.1) (fun hn_ => (Kd.freshB (g := gb341) (o := .cells #[.bool false, .slice none 0 0] 25 (0, 0)) (gK BK341.out) k_ hn_)), Or.elim hk_ (fun hs_ => hs_.2.2.2.2) (fun hn_ => (Kd.freshB (g := gb342) (o := .cells #[.bool false, .slice none 0 0] 25 (0, 0)) (gK BK342.out) k_ hn_))⟩)) (below_size (by repeat (first | (with_reducible first | exact HB.out | apply bA | apply bN | apply bD | refine bS ?_ GE339.out | refine bS ?_ GE340.out | refine bS ?_ GE341.out | refine bS ?_ GE342.out) | exact HB.out))))
     have n6_ := Aside0.mk (blk_below (gK BK339.out) hb)
     have n7_ := Aside0.mk (blk_below (gK BK340.out) hb)
     have n8_ := Aside0.mk (blk_below (gK BK341.out) hb)
     have n9_ := Aside0.mk (blk_below (gK BK342.out) hb)
     have n10_ := Aside0.mk (below_step (by repeat (first | (with_reducible first | exact HB.out | apply bA | apply bN | apply bD | refine bS ?_ GE339.out | refine bS ?_ GE340.out | refine bS ?_ GE341.out | refine bS ?_ GE342.out) | exact HB.out)) hb)
     clear HO_6
     clear HO_7
     clear HO_340001
     clear HO_341001
     clear HO357
     clear BK339
     clear BK340
     clear BK341
     clear BK342
     clear HB
     have HO_6 := n0_
     have HO_7 := n1_
     have HO_340001 := n2_
     have HO_341001 := n3_
     have HO357 := n4_
     have HO361 := n5_
     have BK339 := n6_
     have BK340 := n7_
     have BK341 := n8_
     have BK342 := n9_
     have HB := n10_
     clear n0_ n1_ n2_ n3_ n4_ n5_ n6_ n7_ n8_ n9_ n10_
     (try clear hb)
     (try clear hb2)
     (try clear hk)
     (try clear hi)
     (try clear ho0)
     obtain ⟨Ao58, co58, eo58⟩ := Kd.V_slice HO357.out
     (first | subst eo58 | (injection eo58 with f1_ f2_ f3_; have f4_ := f1_.symm; have f5_ := f3_.symm; clear f1_ f2_ f3_; subst f4_; subst f5_))
     obtain ⟨Ao61, co61, eo61⟩ := Kd.V_slice HO361.out
     (first | subst eo61 | (injection eo61 with f1_ f2_ f3_; have f4_ := f1_.symm; have f5_ := f3_.symm; clear f1_ f2_ f3_; subst f4_; subst f5_))
     refine hK.out _ _ ⟨(blk_cell BK339.out 0).trans rfl, (blk_cell BK339.out 1).trans rfl, (blk_cell BK340.out 0).trans rfl, (blk_cell BK340.out 1).trans rfl⟩ (fun hHeld => ?_)
     clear hK K
     refine norm_ (a' := ?_) ?_ ?_
     rotate_left
     ·show Act.put _ (some 45) _ = _
      simp only [Act.put, List.setIfInBounds_toArray, List.set_cons_zero, List.set_cons_succ, i64_w, i32_w]
      rfl
     refine one_ (i := 11) (N := none) #[true, true, true, true, true, true, true, true, true, true, true, true, false] rfl rfl (one_of HT_.out (by kernel_rfl)) (by decide) (fun K hK => ?_)
     have hs57 : w56.cell? ⟨gb341, 0, none⟩ = some (.bool false) := (blk_cell BK341.out 0).trans rfl
     have hfs57 := blk_frozen BK341.out 0
     have hns57_0 := NB339_341.out
     have hns57_1 := NB340_341.out
     have hns57_3 := NB342_341.out
     have hms57_0 := NB341_339.out
     have hms57_1 := NB341_340.out
     have hms57_3 := NB341_342.out
     have hs59 : w56.cell? ⟨gb341, 1, none⟩ = some (.slice none 0 0) := (blk_cell BK341.out 1).trans rfl
     have hfs59 := blk_frozen BK341.out 1
     have hns59_0 := NB339_341.out
     have hns59_1 := NB340_341.out
     have hns59_3 := NB342_341.out
     have hms59_0 := NB341_339.out
     have hms59_1 := NB341_340.out
     have hms59_3 := NB341_342.out
     refine skip_ (w1 := ?_) (by rfl) rfl ?_ ?_
     rotate_left
     ·go_simp
      rfl
     refine hK.out _ _ ⟨((cell_far (p := ⟨gb341, _, none⟩) NB339_341.out _).trans (((cell_far (p := ⟨gb341, _, none⟩) NB339_341.out _).trans (hHeld.1)))), ((cell_far (p := ⟨gb341, _, none⟩) NB339_341.out _).trans (((cell_far (p := ⟨gb341, _, none⟩) NB339_341.out _).trans (hHeld.2.1)))), ((cell_far (p := ⟨gb341, _, none⟩) NB340_341.out _).trans (((cell_far (p := ⟨gb341, _, none⟩) NB340_341.out _).trans (hHeld.2.2.1)))), ((cell_far (p := ⟨gb341, _, none⟩) NB340_341.out _).trans (((cell_far (p := ⟨gb341, _, none⟩) NB340_341.out _).trans (hHeld.2.2.2))))⟩ (fun hHeld => ?_)
     clear hK K
     refine one_ (i := 12) (N := none) #[true, true, true, true, true, true, true, true, true, true, true, true, true] rfl rfl (one_of HT_.out (by kernel_rfl)) (by decide) (fun K hK => ?_)
     have hs60 : w56.cell? ⟨gb342, 0, none⟩ = some (.bool false) := (blk_cell BK342.out 0).trans rfl
     have hfs60 := blk_frozen BK342.out 0
     have hns60_0 := NB339_342.out
     have hns60_1 := NB340_342.out
     have hns60_2 := NB341_342.out
     have hms60_0 := NB342_339.out
     have hms60_1 := NB342_340.out
     have hms60_2 := NB342_341.out
     have hs62 : w56.cell? ⟨gb342, 1, none⟩ = some (.slice none 0 0) := (blk_cell BK342.out 1).trans rfl
     have hfs62 := blk_frozen BK342.out 1
     have hns62_0 := NB339_342.out
     have hns62_1 := NB340_342.out
     have hns62_2 := NB341_342.out
     have hms62_0 := NB342_339.out
     have hms62_1 := NB342_340.out
     have hms62_2 := NB342_341.out
     refine skip_ (w1 := ?_) (by rfl) rfl ?_ ?_
     rotate_left
     ·go_simp
      rfl
     refine hK.out _ _ ⟨((cell_far (p := ⟨gb342, _, none⟩) NB339_342.out _).trans (((cell_far (p := ⟨gb342, _, none⟩) NB339_342.out _).trans (hHeld.1)))), ((cell_far (p := ⟨gb342, _, none⟩) NB339_342.out _).trans (((cell_far (p := ⟨gb342, _, none⟩) NB339_342.out _).trans (hHeld.2.1)))), ((cell_far (p := ⟨gb342, _, none⟩) NB340_342.out _).trans (((cell_far (p := ⟨gb342, _, none⟩) NB340_342.out _).trans (hHeld.2.2.1)))), ((cell_far (p := ⟨gb342, _, none⟩) NB340_342.out _).trans (((cell_far (p := ⟨gb342, _, none⟩) NB340_342.out _).trans (hHeld.2.2.2))))⟩ (fun hHeld => ?_)
     clear hK K
     refine done_ (done_of HT_.out (by kernel_rfl)) ?_
     try go_wp2
     refine bodyPost_ret (results_cc rfl _ _ gb341 gb342 25 25 #[.bool t354, .slice Ao58 t355.length co58] #[.bool t358, .slice Ao61 t359.length co61] (0, 0) (0, 0) _ _ rfl (by (with_reducible repeat (first | refine blk_drewN ?_ _ | refine blk_drew ?_ | refine blk_alloc ?_ _)); refine blk_far ?_ NB341_342.out _; (with_reducible repeat (first | refine blk_drewN ?_ _ | refine blk_drew ?_ | refine blk_alloc ?_ _)); refine blk_far ?_ NB341_342.out _; (with_reducible repeat (first | refine blk_drewN ?_ _ | refine blk_drew ?_ | refine blk_alloc ?_ _)); refine blk_put (cs := #[.bool t354, .slice none 0 0]) ?_ 1 _ rfl; (with_reducible repeat (first | refine blk_drewN ?_ _ | refine blk_drew ?_ | refine blk_alloc ?_ _)); refine blk_put (cs := #[.bool false, .slice none 0 0]) ?_ 0 _ rfl; (with_reducible repeat (first | refine blk_drewN ?_ _ | refine blk_drew ?_ | refine blk_alloc ?_ _)); exact BK341.out) Try.underlying25 rfl (by kernel_rfl) rfl (by (with_reducible repeat (first | refine blk_drewN ?_ _ | refine blk_drew ?_ | refine blk_alloc ?_ _)); refine blk_put (cs := #[.bool t358, .slice none 0 0]) ?_ 1 _ rfl; (with_reducible repeat (first | refine blk_drewN ?_ _ | refine blk_drew ?_ | refine blk_alloc ?_ _)); refine blk_put (cs := #[.bool false, .slice none 0 0]) ?_ 0 _ rfl; (with_reducible repeat (first | refine blk_drewN ?_ _ | refine blk_drew ?_ | refine blk_alloc ?_ _)); refine blk_far ?_ NB342_341.out _; (with_reducible repeat (first | refine blk_drewN ?_ _ | refine blk_drew ?_ | refine blk_alloc ?_ _)); refine blk_far ?_ NB342_341.out _; (with_reducible repeat (first | refine blk_drewN ?_ _ | refine blk_drew ?_ | refine blk_alloc ?_ _)); exact BK342.out) Try.underlying25 rfl (by kernel_rfl)) rfl ?_
     exact ⟨_, _, by first | rfl | (simp [errW_none, errW_some] <;> rfl) | (simp [*, errW_none, errW_some] <;> rfl), by (with_reducible repeat (first | apply Kd.V_alloc | apply Kd.V_drewN | apply Kd.V_drew)); exact Kd.V_mono (Kd.V_far (p := ⟨gb342, 1, none⟩) (Kd.V_far (p := ⟨gb342, 0, none⟩) (Kd.V_far (p := ⟨gb341, 1, none⟩) (Kd.V_far (p := ⟨gb341, 0, none⟩) (Kd.V_mono (Kd.V_mono HO357.out (fun k_ hk => (⟨hk, hk.2.2.2.1⟩ : _ ∧ k_ ≠ gb341))) (fun k_ hk => (⟨hk, hk.1.2.2.2.2⟩ : _ ∧ k_ ≠ gb342))) (fun _ hk => hk.1.2) (.bool t354)) (fun _ hk => hk.1.2) (.slice Ao58 t355.length co58)) (fun _ hk => hk.2) (.bool t358)) (fun _ hk => hk.2) (.slice Ao61 t359.length co61)) (fun _ hk => hk.1.1.1), by (with_reducible repeat (first | apply Kd.V_alloc | apply Kd.V_drewN | apply Kd.V_drew)); exact Kd.V_mono (Kd.V_far (p := ⟨gb342, 1, none⟩) (Kd.V_far (p := ⟨gb342, 0, none⟩) (Kd.V_far (p := ⟨gb341, 1, none⟩) (Kd.V_far (p := ⟨gb341, 0, none⟩) (Kd.V_mono (Kd.V_mono HO361.out (fun k_ hk => (⟨hk, hk.2.2.2.1⟩ : _ ∧ k_ ≠ gb341))) (fun k_ hk => (⟨hk, hk.1.2.2.2.2⟩ : _ ∧ k_ ≠ gb342))) (fun _ hk => hk.1.2) (.bool t354)) (fun _ hk => hk.1.2) (.slice Ao58 t355.length co58)) (fun _ hk => hk.2) (.bool t358)) (fun _ hk => hk.2) (.slice Ao61 t359.length co61)) (fun _ hk => hk.1.1.1), by repeat (first | (with_reducible first | exact HB.out | apply bA | apply bN | apply bD | refine bS ?_ GE339.out | refine bS ?_ GE340.out | refine bS ?_ GE341.out | refine bS ?_ GE342.out) | exact HB.out)⟩
    ·replace c49 := Bool.eq_false_iff.mpr c49
     subst c49
     have H1 : ((mag_Of.f kj23 1).bind fun t362 => ((mag_Add.f kj23 t348 t362).bind fun t365 => ((num_Make.f kj23 true t365).bind fun bt368 => ((mag_Sub.f kj23 l1_1 t351).bind fun t372 => ((num_Make.f kj23 a1_0 t372).bind fun bt375 => (some (bt368.1, bt368.2, bt375.1, bt375.2))))))) = some (r1, r2, r3, r4) := by rw [if_neg (show ¬ (false = true) by decide)] at H; exact H
     clear H
     have H := H1
     clear H1
     replace H := Option.bind_eq_some_iff.mp H
     obtain ⟨t362, A630, H⟩ := H
     replace H : ((mag_Add.f kj23 t348 t362).bind fun t365 => ((num_Make.f kj23 true t365).bind fun bt368 => ((mag_Sub.f kj23 l1_1 t351).bind fun t372 => ((num_Make.f kj23 a1_0 t372).bind fun bt375 => (some (bt368.1, bt368.2, bt375.1, bt375.2)))))) = some (r1, r2, r3, r4) := H
     have A63 := Aside0.mk A630
     clear A630
     replace H := Option.bind_eq_some_iff.mp H
     obtain ⟨t365, A640, H⟩ := H
     replace H : ((num_Make.f kj23 true t365).bind fun bt368 => ((mag_Sub.f kj23 l1_1 t351).bind fun t372 => ((num_Make.f kj23 a1_0 t372).bind fun bt375 => (some (bt368.1, bt368.2, bt375.1, bt375.2))))) = some (r1, r2, r3, r4) := H
     have A64 := Aside0.mk A640
     clear A640
     replace H := Option.bind_eq_some_iff.mp H
     obtain ⟨⟨t368, t369⟩, A650, H⟩ := H
     replace H : ((mag_Sub.f kj23 l1_1 t351).bind fun t372 => ((num_Make.f kj23 a1_0 t372).bind fun bt375 => (some (t368, t369, bt375.1, bt375.2)))) = some (r1, r2, r3, r4) := H
     have A65 := Aside0.mk A650
     clear A650
     replace H := Option.bind_eq_some_iff.mp H
     obtain ⟨t372, A660, H⟩ := H
     replace H : ((num_Make.f kj23 a1_0 t372).bind fun bt375 => (some (t368, t369, bt375.1, bt375.2))) = some (r1, r2, r3, r4) := H
     have A66 := Aside0.mk A660
     clear A660
     replace H := Option.bind_eq_some_iff.mp H
     obtain ⟨⟨t375, t376⟩, A670, H⟩ := H
     replace H : (some (t368, t369, t375, t376)) = some (r1, r2, r3, r4) := H
     have A67 := Aside0.mk A670
     clear A670
     simp only [Option.some.injEq, Prod.mk.injEq] at H
     obtain ⟨rfl, rfl, rfl, rfl⟩ := H
     try go_wp2
     have n0_ := Aside0.mk (Kd.V_drew HO_6.out)
     have n1_ := Aside0.mk (Kd.V_drew HO_7.out)
     have n2_ := Aside0.mk (Kd.V_drew HO_340001.out)
     have n3_ := Aside0.mk (Kd.V_drew HO_341001.out)
     have n4_ := Aside0.mk (blk_drew BK339.out)
     have n5_ := Aside0.mk (blk_drew BK340.out)
     have n6_ := Aside0.mk (blk_drew BK341.out)
     have n7_ := Aside0.mk (blk_drew BK342.out)
     have n8_ := Aside0.mk (bD HB.out)
     clear HO_6
     clear HO_7
     clear HO_340001
     clear HO_341001
     clear BK339
     clear BK340
     clear BK341
     clear BK342
     clear HB
     have HO_6 := n0_
     have HO_7 := n1_
     have HO_340001 := n2_
     have HO_341001 := n3_
     have BK339 := n4_
     have BK340 := n5_
     have BK341 := n6_
     have BK342 := n7_
     have HB := n8_
     clear n0_ n1_ n2_ n3_ n4_ n5_ n6_ n7_ n8_
     refine start_ (n := 13) (S := fun w' => w'.cell? ⟨gb340, 0, none⟩ = some (.bool a1_0) ∧ w'.cell? ⟨gb340, 1, none⟩ = some (.slice A1_1 l1_1.length c1_1)) (ds := []) #[false, false, false, false, false, false, false, false, false, false, false, false, false] (by kernel_rfl) rfl rfl ⟨(blk_cell BK340.out 0).trans rfl, (blk_cell BK340.out 1).trans rfl⟩ (fun hHeld => ?_); refine with_tabW num_Div.tab6 num_Div.bits6 (fun HT_ HW_ => ?_)
     generalize wc.drew = w68 at HO_6 HO_7 HO_340001 HO_341001 BK339 BK340 BK341 BK342 HB hHeld ⊢
     refine pure_ (i := 0) (N := some 46) (v := ?_) (a' := ?_) #[true, false, false, false, false, false, false, false, false, false, false, false, false] rfl rfl (any_of HT_.out (by kernel_rfl)) (fun _ _ _ h => h) (Or.inl ⟨by rfl, ?_⟩) ?_ ?_
     rotate_left
     ·intro w'
      go_simp
      with_reducible rfl
     rotate_left
     ·simp only [Act.put, List.setIfInBounds_toArray, List.set_cons_zero, List.set_cons_succ, i64_w, i32_w]
      rfl
     refine pure_ (i := 4) (N := some 50) (v := ?_) (a' := ?_) #[true, false, false, false, true, false, false, false, false, false, false, false, false] rfl rfl (any_of HT_.out (by kernel_rfl)) (fun _ _ _ h => h) (Or.inl ⟨by rfl, ?_⟩) ?_ ?_
     rotate_left
     ·intro w'
      go_simp
      with_reducible rfl
     rotate_left
     ·simp only [Act.put, List.setIfInBounds_toArray, List.set_cons_zero, List.set_cons_succ, i64_w, i32_w]
      rfl
     refine pure_ (i := 6) (N := some 52) (v := ?_) (a' := ?_) #[true, false, false, false, true, false, true, false, false, false, false, false, false] rfl rfl (any_of HT_.out (by kernel_rfl)) (fun _ _ _ h => h) (Or.inl ⟨by rfl, ?_⟩) ?_ ?_
     rotate_left
     ·intro w'
      go_simp
      with_reducible rfl
     rotate_left
     ·simp only [Act.put, List.setIfInBounds_toArray, List.set_cons_zero, List.set_cons_succ, i64_w, i32_w]
      rfl
     refine pure_ (i := 8) (N := some 54) (v := ?_) (a' := ?_) #[true, false, false, false, true, false, true, false, true, false, false, false, false] rfl rfl (any_of HT_.out (by kernel_rfl)) (fun _ _ _ h => h) (Or.inl ⟨by rfl, ?_⟩) ?_ ?_
     rotate_left
     ·intro w'
      go_simp
      with_reducible rfl
     rotate_left
     ·simp only [Act.put, List.setIfInBounds_toArray, List.set_cons_zero, List.set_cons_succ, i64_w, i32_w]
      rfl
     refine take_ (i := 5) (N := some 51) (v := ?_) (a' := ?_) #[true, false, false, false, true, true, true, false, true, false, false, false, false] rfl rfl (take_ofW HT_.out HW_.out (by kernel_rfl)) (fun _ _ _ h => h) (Or.inl ⟨by rfl, ?_⟩) hHeld ?_ ?_
     rotate_left
     ·rintro w' ⟨s0, s1⟩
      go_simp
      with_reducible rfl
     rotate_left
     ·simp only [Act.put, List.setIfInBounds_toArray, List.set_cons_zero, List.set_cons_succ, i64_w, i32_w]
      rfl
     refine take_ (i := 7) (N := some 53) (v := ?_) (a' := ?_) #[true, false, false, false, true, true, true, true, true, false, false, false, false] rfl rfl (take_ofW HT_.out HW_.out (by kernel_rfl)) (fun _ _ _ h => h) (Or.inl ⟨by rfl, ?_⟩) hHeld ?_ ?_
     rotate_left
     ·rintro w' ⟨s0, s1⟩
      go_simp
      with_reducible rfl
     rotate_left
     ·simp only [Act.put, List.setIfInBounds_toArray, List.set_cons_zero, List.set_cons_succ, i64_w, i32_w]
      rfl
     refine one_ (i := 1) (N := some 47) #[true, true, false, false, true, true, true, true, true, false, false, false, false] rfl rfl (one_of HT_.out (by kernel_rfl)) (by decide) (fun K hK => ?_)
     refine goes_ Try.func31 (by kernel_rfl) rfl #[.int .u64 1] (by rfl) rfl rfl (by (try simp only [List.map_toArray, List.map_cons, List.map_nil]); first | done | rfl | (simp only [List.length_drop, List.length_take]; rfl)) ?_
     with_reducible refine (mag_Of.calls kj23 1 t362 _ A63.out).mono ?_
     rintro e w69 ⟨v363, rfl, ho0, hb⟩
     refine ⟨_, rfl, ?_⟩
     have n0_ := Aside0.mk (Kd.V_below (gV HO_6.out) hb)
     have n1_ := Aside0.mk (Kd.V_below (gV HO_7.out) hb)
     have n2_ := Aside0.mk (Kd.V_below (gV HO_340001.out) hb)
     have n3_ := Aside0.mk (Kd.V_below (gV HO_341001.out) hb)
     have n4_ := Aside0.mk (Kd.V_lower (Kd.V_mono (ok' := fun k_ => ((P0_1_ k_ ∨ P1_1_ k_) ∨ w.heap.size ≤ k_) ∧ k_ ≠ gb339 ∧ k_ ≠ gb340 ∧ k_ ≠ gb341 ∧ k_ ≠ gb342) ho0 (fun k_ hk_ => ⟨(.inr (Nat.le_trans (below_size (by repeat (first | (with_reducible first | exact HB.out | apply bA | apply bN | apply bD | refine bS ?_ GE339.out | refine bS ?_ GE340.out | refine bS ?_ GE341.out | refine bS ?_ GE342.out) | exact HB.out))) hk_)), (Kd.freshB (g := gb339) (o := .cells #[.bool a0_0, .slice A0_1 l0_1.length c0_1] 25 (0, 0)) (gK BK339.out) k_ hk_), (Kd.freshB (g := gb340) (o := .cells #[.bool a1_0, .slice A1_1 l1_1.length c1_1] 25 (0, 0)) (gK BK340.out) k_ hk_), (Kd.freshB (g := gb341) (o := .cells #[.bool false, .slice none 0 0] 25 (0, 0)) (gK BK341.out) k_ hk_), (Kd.freshB (g := gb342) (o := .cells #[.bool false, .slice none 0 0] 25 (0, 0)) (gK BK342.out) k_ hk_)⟩)) (below_size (by repeat (first | (with_reducible first | exact HB.out | apply bA | apply bN | apply bD | refine bS ?_ GE339.out | refine bS ?_ GE340.out | refine bS ?_ GE341.out | refine bS ?_ GE342.out) | exact HB.out))))
     have n5_ := Aside0.mk (blk_below (gK BK339.out) hb)
     have n6_ := Aside0.mk (blk_below (gK BK340.out) hb)
     have n7_ := Aside0.mk (blk_below (gK BK341.out) hb)
     have n8_ := Aside0.mk (blk_below (gK BK342.out) hb)
     have n9_ := Aside0.mk (below_step (by repeat (first | (with_reducible first | exact HB.out | apply bA | apply bN | apply bD | refine bS ?_ GE339.out | refine bS ?_ GE340.out | refine bS ?_ GE341.out | refine bS ?_ GE342.out) | exact HB.out)) hb)
     clear HO_6
     clear HO_7
     clear HO_340001
     clear HO_341001
     clear BK339
     clear BK340
     clear BK341
     clear BK342
     clear HB
     have HO_6 := n0_
     have HO_7 := n1_
     have HO_340001 := n2_
     have HO_341001 := n3_
     have HO364 := n4_
     have BK339 := n5_
     have BK340 := n6_
     have BK341 := n7_
     have BK342 := n8_
     have HB := n9_
     clear n0_ n1_ n2_ n3_ n4_ n5_ n6_ n7_ n8_ n9_
     (try clear hb)
     (try clear hb2)
     (try clear hk)
     (try clear hi)
     (try clear ho0)
     obtain ⟨Ao70, co70, eo70⟩ := Kd.V_slice HO_6.out
     (first | subst eo70 | (injection eo70 with f1_ f2_ f3_; have f4_ := f1_.symm; have f5_ := f3_.symm; clear f1_ f2_ f3_; subst f4_; subst f5_))
     obtain ⟨Ao71, co71, eo71⟩ := Kd.V_slice HO364.out
     (first | subst eo71 | (injection eo71 with f1_ f2_ f3_; have f4_ := f1_.symm; have f5_ := f3_.symm; clear f1_ f2_ f3_; subst f4_; subst f5_))
     refine hK.out _ _ ⟨(blk_cell BK340.out 0).trans rfl, (blk_cell BK340.out 1).trans rfl⟩ (fun hHeld => ?_)
     clear hK K
     refine norm_ (a' := ?_) ?_ ?_
     rotate_left
     ·show Act.put _ (some 47) _ = _
      simp only [Act.put, List.setIfInBounds_toArray, List.set_cons_zero, List.set_cons_succ, i64_w, i32_w]
      rfl
     refine one_ (i := 2) (N := some 48) #[true, true, true, false, true, true, true, true, true, false, false, false, false] rfl rfl (one_of HT_.out (by kernel_rfl)) (by decide) (fun K hK => ?_)
     refine goes_ Try.func34 (by kernel_rfl) rfl #[.slice Ao70 t348.length co70, .slice Ao71 t362.length co71] (by rfl) rfl rfl (by (try simp only [List.map_toArray, List.map_cons, List.map_nil]); first | done | rfl | (simp only [List.length_drop, List.length_take]; rfl)) ?_
     with_reducible refine (mag_Add.calls kj23 (fun k_ => (((P0_1_ k_ ∨ P1_1_ k_) ∨ w.heap.size ≤ k_) ∧ (k_ ≠ gb339 ∧ (k_ ≠ gb340 ∧ (k_ ≠ gb341 ∧ k_ ≠ gb342))))) _ _ t348 (fun k_ => (((P0_1_ k_ ∨ P1_1_ k_) ∨ w.heap.size ≤ k_) ∧ (k_ ≠ gb339 ∧ (k_ ≠ gb340 ∧ (k_ ≠ gb341 ∧ k_ ≠ gb342))))) _ _ t362 t365 _ ?side1 ?side2 A64.out).mono ?_
     (case side1 => exact HO_6.out)
     (case side2 => exact HO364.out)
     rintro e w72 ⟨v366, rfl, ho0, hb⟩
     refine ⟨_, rfl, ?_⟩
     have n0_ := Aside0.mk (Kd.V_below (gV HO_6.out) hb)
     have n1_ := Aside0.mk (Kd.V_below (gV HO_7.out) hb)
     have n2_ := Aside0.mk (Kd.V_below (gV HO_340001.out) hb)
     have n3_ := Aside0.mk (Kd.V_below (gV HO_341001.out) hb)
     have n4_ := Aside0.mk (Kd.V_below (gV HO364.out) hb)
     have n5_ := Aside0.mk (Kd.V_lower (Kd.V_mono (ok' := fun k_ => ((P0_1_ k_ ∨ P1_1_ k_) ∨ w.heap.size ≤ k_) ∧ k_ ≠ gb339 ∧ k_ ≠ gb340 ∧ k_ ≠ gb341 ∧ k_ ≠ gb342) ho0 (fun k_ hk_ => ⟨Or.elim hk_ (fun hs_ => Or.elim hs_ (fun hs_ => hs_.1) (fun hs_ => hs_.1)) (fun hn_ => (.inr (Nat.le_trans (below_size (by repeat (first | (with_reducible first | exact HB.out | apply bA | apply bN | apply bD | refine bS ?_ GE339.out | refine bS ?_ GE340.out | refine bS ?_ GE341.out | refine bS ?_ GE342.out) | exact HB.out))) hn_))), Or.elim hk_ (fun hs_ => Or.elim hs_ (fun hs_ => hs_.2.1) (fun hs_ => hs_.2.1)) (fun hn_ => (Kd.freshB (g := gb339) (o := .cells #[.bool a0_0, .slice A0_1 l0_1.length c0_1] 25 (0, 0)) (gK BK339.out) k_ hn_)), Or.elim hk_ (fun hs_ => Or.elim hs_ (fun hs_ => hs_.2.2.1) (fun hs_ => hs_.2.2.1)) (fun hn_ => (Kd.freshB (g := gb340) (o := .cells #[.bool a1_0, .slice A1_1 l1_1.length c1_1] 25 (0, 0)) (gK BK340.out) k_ hn_)), Or.elim hk_ (fun hs_ => Or.elim hs_ (fun hs_ => hs_.2.2.2.1) (fun hs_ => hs_.2.2.2.1)) (fun hn_ => (Kd.freshB (g := gb341) (o := .cells #[.bool false, .slice none 0 0] 25 (0, 0)) (gK BK341.out) k_ hn_)), Or.elim hk_ (fun hs_ => Or.elim hs_ (fun hs_ => hs_.2.2.2.2) (fun hs_ => hs_.2.2.2.2)) (fun hn_ => (Kd.freshB (g := gb342) (o := .cells #[.bool false, .slice none 0 0] 25 (0, 0)) (gK BK342.out) k_ hn_))⟩)) (below_size (by repeat (first | (with_reducible first | exact HB.out | apply bA | apply bN | apply bD | refine bS ?_ GE339.out | refine bS ?_ GE340.out | refine bS ?_ GE341.out | refine bS ?_ GE342.out) | exact HB.out))))
     have n6_ := Aside0.mk (blk_below (gK BK339.out) hb)
     have n7_ := Aside0.mk (blk_below (gK BK340.out) hb)
     have n8_ := Aside0.mk (blk_below (gK BK341.out) hb)
     have n9_ := Aside0.mk (blk_below (gK BK342.out) hb)
     have n10_ := Aside0.mk (below_step (by repeat (first | (with_reducible first | exact HB.out | apply bA | apply bN | apply bD | refine bS ?_ GE339.out | refine bS ?_ GE340.out | refine bS ?_ GE341.out | refine bS ?_ GE342.out) | exact HB.out)) hb)
     clear HO_6
     clear HO_7
     clear HO_340001
     clear HO_341001
     clear HO364
     clear BK339
     clear BK340
     clear BK341
     clear BK342
     clear HB
     have HO_6 := n0_
     have HO_7 := n1_
     have HO_340001 := n2_
     have HO_341001 := n3_
     have HO364 := n4_
     have HO367 := n5_
     have BK339 := n6_
     have BK340 := n7_
     have BK341 := n8_
     have BK342 := n9_
     have HB := n10_
     clear n0_ n1_ n2_ n3_ n4_ n5_ n6_ n7_ n8_ n9_ n10_
     (try clear hb)
     (try clear hb2)
     (try clear hk)
     (try clear hi)
     (try clear ho0)
     obtain ⟨Ao73, co73, eo73⟩ := Kd.V_slice HO367.out
     (first | subst eo73 | (injection eo73 with f1_ f2_ f3_; have f4_ := f1_.symm; have f5_ := f3_.symm; clear f1_ f2_ f3_; subst f4_; subst f5_))
     refine hK.out _ _ ⟨(blk_cell BK340.out 0).trans rfl, (blk_cell BK340.out 1).trans rfl⟩ (fun hHeld => ?_)
     clear hK K
     refine norm_ (a' := ?_) ?_ ?_
     rotate_left
     ·show Act.put _ (some 48) _ = _
      simp only [Act.put, List.setIfInBounds_toArray, List.set_cons_zero, List.set_cons_succ, i64_w, i32_w]
      rfl
     refine one_ (i := 3) (N := some 49) #[true, true, true, true, true, true, true, true, true, false, false, false, false] rfl rfl (one_of HT_.out (by kernel_rfl)) (by decide) (fun K hK => ?_)
     refine goes_ Try.func18 (by kernel_rfl) rfl #[.bool true, .slice Ao73 t365.length co73] (by rfl) rfl rfl (by (try simp only [List.map_toArray, List.map_cons, List.map_nil]); first | done | rfl | (simp only [List.length_drop, List.length_take]; rfl)) ?_
     with_reducible refine (num_Make.calls kj23 true (fun k_ => (((P0_1_ k_ ∨ P1_1_ k_) ∨ w.heap.size ≤ k_) ∧ (k_ ≠ gb339 ∧ (k_ ≠ gb340 ∧ (k_ ≠ gb341 ∧ k_ ≠ gb342))))) _ _ t365 t368 t369 _ ?side1 A65.out).mono ?_
     (case side1 => exact HO367.out)
     rintro e w74 ⟨v370, rfl, ho0, hb⟩
     refine ⟨_, rfl, ?_⟩
     have n0_ := Aside0.mk (Kd.V_below (gV HO_6.out) hb)
     have n1_ := Aside0.mk (Kd.V_below (gV HO_7.out) hb)
     have n2_ := Aside0.mk (Kd.V_below (gV HO_340001.out) hb)
     have n3_ := Aside0.mk (Kd.V_below (gV HO_341001.out) hb)
     have n4_ := Aside0.mk (Kd.V_below (gV HO364.out) hb)
     have n5_ := Aside0.mk (Kd.V_below (gV HO367.out) hb)
     have n6_ := Aside0.mk (Kd.V_lower (Kd.V_mono (ok' := fun k_ => ((P0_1_ k_ ∨ P1_1_ k_) ∨ w.heap.size ≤ k_) ∧ k_ ≠ gb339 ∧ k_ ≠ gb340 ∧ k_ ≠ gb341 ∧ k_ ≠ gb342) ho0 (fun k_ hk_ => ⟨Or.elim hk_ (fun hs_ => hs_.1) (fun hn_ => (.inr (Nat.le_trans (below_size (by repeat (first | (with_reducible first | exact HB.out | apply bA | apply bN | apply bD | refine bS ?_ GE339.out | refine bS ?_ GE340.out | refine bS ?_ GE341.out | refine bS ?_ GE342.out) | exact HB.out))) hn_))), Or.elim hk_ (fun hs_ => hs_.2.1) (fun hn_ => (Kd.freshB (g := gb339) (o := .cells #[.bool a0_0, .slice A0_1 l0_1.length c0_1] 25 (0, 0)) (gK BK339.out) k_ hn_)), Or.elim hk_ (fun hs_ => hs_.2.2.1) (fun hn_ => (Kd.freshB (g := gb340) (o := .cells #[.bool a1_0, .slice A1_1 l1_1.length c1_1] 25 (0, 0)) (gK BK340.out) k_ hn_)), Or.elim hk_ (fun hs_ => hs_.2.2.2.1) (fun hn_ => (Kd.freshB (g := gb341) (o := .cells #[.bool false, .slice none 0 0] 25 (0, 0)) (gK BK341.out) k_ hn_)), Or.elim hk_ (fun hs_ => hs_.2.2.2.2) (fun hn_ => (Kd.freshB (g := gb342) (o := .cells #[.bool false, .slice none 0 0] 25 (0, 0)) (gK BK342.out) k_ hn_))⟩)) (below_size (by repeat (first | (with_reducible first | exact HB.out | apply bA | apply bN | apply bD | refine bS ?_ GE339.out | refine bS ?_ GE340.out | refine bS ?_ GE341.out | refine bS ?_ GE342.out) | exact HB.out))))
     have n7_ := Aside0.mk (blk_below (gK BK339.out) hb)
     have n8_ := Aside0.mk (blk_below (gK BK340.out) hb)
     have n9_ := Aside0.mk (blk_below (gK BK341.out) hb)
     have n10_ := Aside0.mk (blk_below (gK BK342.out) hb)
     have n11_ := Aside0.mk (below_step (by repeat (first | (with_reducible first | exact HB.out | apply bA | apply bN | apply bD | refine bS ?_ GE339.out | refine bS ?_ GE340.out | refine bS ?_ GE341.out | refine bS ?_ GE342.out) | exact HB.out)) hb)
     clear HO_6
     clear HO_7
     clear HO_340001
     clear HO_341001
     clear HO364
     clear HO367
     clear BK339
     clear BK340
     clear BK341
     clear BK342
     clear HB
     have HO_6 := n0_
     have HO_7 := n1_
     have HO_340001 := n2_
     have HO_341001 := n3_
     have HO364 := n4_
     have HO367 := n5_
     have HO371 := n6_
     have BK339 := n7_
     have BK340 := n8_
     have BK341 := n9_
     have BK342 := n10_
     have HB := n11_
     clear n0_ n1_ n2_ n3_ n4_ n5_ n6_ n7_ n8_ n9_ n10_ n11_
     (try clear hb)
     (try clear hb2)
     (try clear hk)
     (try clear hi)
     (try clear ho0)
     obtain ⟨Ao75, co75, eo75⟩ := Kd.V_slice HO_7.out
     (first | subst eo75 | (injection eo75 with f1_ f2_ f3_; have f4_ := f1_.symm; have f5_ := f3_.symm; clear f1_ f2_ f3_; subst f4_; subst f5_))
     refine hK.out _ _ ⟨(blk_cell BK340.out 0).trans rfl, (blk_cell BK340.out 1).trans rfl⟩ (fun hHeld => ?_)
     clear hK K
     refine norm_ (a' := ?_) ?_ ?_
     rotate_left
     ·show Act.put _ (some 49) _ = _
      simp only [Act.put, List.setIfInBounds_toArray, List.set_cons_zero, List.set_cons_succ, i64_w, i32_w]
      rfl
     refine one_ (i := 9) (N := some 55) #[true, true, true, true, true, true, true, true, true, true, false, false, false] rfl rfl (one_of HT_.out (by kernel_rfl)) (by decide) (fun K hK => ?_)
     refine goes_ Try.func35 (by kernel_rfl) rfl #[.slice A1_1 l1_1.length c1_1, .slice Ao75 t351.length co75] (by rfl) rfl rfl (by (try simp only [List.map_toArray, List.map_cons, List.map_nil]); first | done | rfl | (simp only [List.length_drop, List.length_take]; rfl)) ?_
     with_reducible refine (mag_Sub.calls kj23 (fun k_ => (((P0_1_ k_ ∨ P1_1_ k_) ∨ w.heap.size ≤ k_) ∧ (k_ ≠ gb339 ∧ (k_ ≠ gb340 ∧ (k_ ≠ gb341 ∧ k_ ≠ gb342))))) _ _ l1_1 (fun k_ => (((P0_1_ k_ ∨ P1_1_ k_) ∨ w.heap.size ≤ k_) ∧ (k_ ≠ gb339 ∧ (k_ ≠ gb340 ∧ (k_ ≠ gb341 ∧ k_ ≠ gb342))))) _ _ t351 t372 _ ?side1 ?side2 A66.out).mono ?_
     (case side1 => exact HO_341001.out)
     (case side2 => exact HO_7.out)
     rintro e w76 ⟨v373, rfl, ho0, hb⟩
     refine ⟨_, rfl, ?_⟩
     have n0_ := Aside0.mk (Kd.V_below (gV HO_6.out) hb)
     have n1_ := Aside0.mk (Kd.V_below (gV HO_7.out) hb)
     have n2_ := Aside0.mk (Kd.V_below (gV HO_340001.out) hb)
     have n3_ := Aside0.mk (Kd.V_below (gV HO_341001.out) hb)
     have n4_ := Aside0.mk (Kd.V_below (gV HO364.out) hb)
     have n5_ := Aside0.mk (Kd.V_below (gV HO367.out) hb)
     have n6_ := Aside0.mk (Kd.V_below (gV HO371.out) hb)
     have n7_ := Aside0.mk (Kd.V_lower (Kd.V_mono (ok' := fun k_ => ((P0_1_ k_ ∨ P1_1_ k_) ∨ w.heap.size ≤ k_) ∧ k_ ≠ gb339 ∧ k_ ≠ gb340 ∧ k_ ≠ gb341 ∧ k_ ≠ gb342) ho0 (fun k_ hk_ => ⟨Or.elim hk_ (fun hs_ => Or.elim hs_ (fun hs_ => hs_.1) (fun hs_ => hs_.1)) (fun hn_ => (.inr (Nat.le_trans (below_size (by repeat (first | (with_reducible first | exact HB.out | apply bA | apply bN | apply bD | refine bS ?_ GE339.out | refine bS ?_ GE340.out | refine bS ?_ GE341.out | refine bS ?_ GE342.out) | exact HB.out))) hn_))), Or.elim hk_ (fun hs_ => Or.elim hs_ (fun hs_ => hs_.2.1) (fun hs_ => hs_.2.1)) (fun hn_ => (Kd.freshB (g := gb339) (o := .cells #[.bool a0_0, .slice A0_1 l0_1.length c0_1] 25 (0, 0)) (gK BK339.out) k_ hn_)), Or.elim hk_ (fun hs_ => Or.elim hs_ (fun hs_ => hs_.2.2.1) (fun hs_ => hs_.2.2.1)) (fun hn_ => (Kd.freshB (g := gb340) (o := .cells #[.bool a1_0, .slice A1_1 l1_1.length c1_1] 25 (0, 0)) (gK BK340.out) k_ hn_)), Or.elim hk_ (fun hs_ => Or.elim hs_ (fun hs_ => hs_.2.2.2.1) (fun hs_ => hs_.2.2.2.1)) (fun hn_ => (Kd.freshB (g := gb341) (o := .cells #[.bool false, .slice none 0 0] 25 (0, 0)) (gK BK341.out) k_ hn_)), Or.elim hk_ (fun hs_ => Or.elim hs_ (fun hs_ => hs_.2.2.2.2) (fun hs_ => hs_.2.2.2.2)) (fun hn_ => (Kd.freshB (g := gb342) (o := .cells #[.bool false, .slice none 0 0] 25 (0, 0)) (gK BK342.out) k_ hn_))⟩)) (below_size (by repeat (first | (with_reducible first | exact HB.out | apply bA | apply bN | apply bD | refine bS ?_ GE339.out | refine bS ?_ GE340.out | refine bS ?_ GE341.out | refine bS ?_ GE342.out) | exact HB.out))))
     have n8_ := Aside0.mk (blk_below (gK BK339.out) hb)
     have n9_ := Aside0.mk (blk_below (gK BK340.out) hb)
     have n10_ := Aside0.mk (blk_below (gK BK341.out) hb)
     have n11_ := Aside0.mk (blk_below (gK BK342.out) hb)
     have n12_ := Aside0.mk (below_step (by repeat (first | (with_reducible first | exact HB.out | apply bA | apply bN | apply bD | refine bS ?_ GE339.out | refine bS ?_ GE340.out | refine bS ?_ GE341.out | refine bS ?_ GE342.out) | exact HB.out)) hb)
     clear HO_6
     clear HO_7
     clear HO_340001
     clear HO_341001
     clear HO364
     clear HO367
     clear HO371
     clear BK339
     clear BK340
     clear BK341
     clear BK342
     clear HB
     have HO_6 := n0_
     have HO_7 := n1_
     have HO_340001 := n2_
     have HO_341001 := n3_
     have HO364 := n4_
     have HO367 := n5_
     have HO371 := n6_
     have HO374 := n7_
     have BK339 := n8_
     have BK340 := n9_
     have BK341 := n10_
     have BK342 := n11_
     have HB := n12_
     clear n0_ n1_ n2_ n3_ n4_ n5_ n6_ n7_ n8_ n9_ n10_ n11_ n12_
     (try clear hb)
     (try clear hb2)
     (try clear hk)
     (try clear hi)
     (try clear ho0)
     obtain ⟨Ao77, co77, eo77⟩ := Kd.V_slice HO374.out
     (first | subst eo77 | (injection eo77 with f1_ f2_ f3_; have f4_ := f1_.symm; have f5_ := f3_.symm; clear f1_ f2_ f3_; subst f4_; subst f5_))
     refine hK.out _ _ ⟨(blk_cell BK340.out 0).trans rfl, (blk_cell BK340.out 1).trans rfl⟩ (fun hHeld => ?_)
     clear hK K
     refine norm_ (a' := ?_) ?_ ?_
     rotate_left
     ·show Act.put _ (some 55) _ = _
      simp only [Act.put, List.setIfInBounds_toArray, List.set_cons_zero, List.set_cons_succ, i64_w, i32_w]
      rfl
     refine one_ (i := 10) (N := some 56) #[true, true, true, true, true, true, true, true, true, true, true, false, false] rfl rfl (one_of HT_.out (by kernel_rfl)) (by decide) (fun K hK => ?_)
     refine goes_ Try.func18 (by kernel_rfl) rfl #[.bool a1_0, .slice Ao77 t372.length co77] (by rfl) rfl rfl (by (try simp only [List.map_toArray, List.map_cons, List.map_nil]); first | done | rfl | (simp only [List.length_drop, List.length_take]; rfl)) ?_
     with_reducible refine (num_Make.calls kj23 a1_0 (fun k_ => (((P0_1_ k_ ∨ P1_1_ k_) ∨ w.heap.size ≤ k_) ∧ (k_ ≠ gb339 ∧ (k_ ≠ gb340 ∧ (k_ ≠ gb341 ∧ k_ ≠ gb342))))) _ _ t372 t375 t376 _ ?side1 A67.out).mono ?_
     (case side1 => exact HO374.out)
     rintro e w78 ⟨v377, rfl, ho0, hb⟩
     refine ⟨_, rfl, ?_⟩
     have n0_ := Aside0.mk (Kd.V_below (gV HO_6.out) hb)
     have n1_ := Aside0.mk (Kd.V_below (gV HO_7.out) hb)
     have n2_ := Aside0.mk (Kd.V_below (gV HO_340001.out) hb)
     have n3_ := Aside0.mk (Kd.V_below (gV HO_341001.out) hb)
     have n4_ := Aside0.mk (Kd.V_below (gV HO364.out) hb)
     have n5_ := Aside0.mk (Kd.V_below (gV HO367.out) hb)
     have n6_ := Aside0.mk (Kd.V_below (gV HO371.out) hb)
     have n7_ := Aside0.mk (Kd.V_below (gV HO374.out) hb)
     have n8_ := Aside0.mk (Kd.V_lower (Kd.V_mono (ok' := fun k_ => ((P0_1_ k_ ∨ P1_1_ k_) ∨ w.heap.size ≤ k_) ∧ k_ ≠ gb339 ∧ k_ ≠ gb340 ∧ k_ ≠ gb341 ∧ k_ ≠ gb342) ho0 (fun k_ hk_ => ⟨Or.elim hk_ (fun hs_ => hs_.1) (fun hn_ => (.inr (Nat.le_trans (below_size (by repeat (first | (with_reducible first | exact HB.out | apply bA | apply bN | apply bD | refine bS ?_ GE339.out | refine bS ?_ GE340.out | refine bS ?_ GE341.out | refine bS ?_ GE342.out) | exact HB.out))) hn_))), Or.elim hk_ (fun hs_ => hs_.2.1) (fun hn_ => (Kd.freshB (g := gb339) (o := .cells #[.bool a0_0, .slice A0_1 l0_1.length c0_1] 25 (0, 0)) (gK BK339.out) k_ hn_)), Or.elim hk_ (fun hs_ => hs_.2.2.1) (fun hn_ => (Kd.freshB (g := gb340) (o := .cells #[.bool a1_0, .slice A1_1 l1_1.length c1_1] 25 (0, 0)) (gK BK340.out) k_ hn_)), Or.elim hk_ (fun hs_ => hs_.2.2.2.1) (fun hn_ => (Kd.freshB (g := gb341) (o := .cells #[.bool false, .slice none 0 0] 25 (0, 0)) (gK BK341.out) k_ hn_)), Or.elim hk_ (fun hs_ => hs_.2.2.2.2) (fun hn_ => (Kd.freshB (g := gb342) (o := .cells #[.bool false, .slice none 0 0] 25 (0, 0)) (gK BK342.out) k_ hn_))⟩)) (below_size (by repeat (first | (with_reducible first | exact HB.out | apply bA | apply bN | apply bD | refine bS ?_ GE339.out | refine bS ?_ GE340.out | refine bS ?_ GE341.out | refine bS ?_ GE342.out) | exact HB.out))))
     have n9_ := Aside0.mk (blk_below (gK BK339.out) hb)
     have n10_ := Aside0.mk (blk_below (gK BK340.out) hb)
     have n11_ := Aside0.mk (blk_below (gK BK341.out) hb)
     have n12_ := Aside0.mk (blk_below (gK BK342.out) hb)
     have n13_ := Aside0.mk (below_step (by repeat (first | (with_reducible first | exact HB.out | apply bA | apply bN | apply bD | refine bS ?_ GE339.out | refine bS ?_ GE340.out | refine bS ?_ GE341.out | refine bS ?_ GE342.out) | exact HB.out)) hb)
     clear HO_6
     clear HO_7
     clear HO_340001
     clear HO_341001
     clear HO364
     clear HO367
     clear HO371
     clear HO374
     clear BK339
     clear BK340
     clear BK341
     clear BK342
     clear HB
     have HO_6 := n0_
     have HO_7 := n1_
     have HO_340001 := n2_
     have HO_341001 := n3_
     have HO364 := n4_
     have HO367 := n5_
     have HO371 := n6_
     have HO374 := n7_
     have HO378 := n8_
     have BK339 := n9_
     have BK340 := n10_
     have BK341 := n11_
     have BK342 := n12_
     have HB := n13_
     clear n0_ n1_ n2_ n3_ n4_ n5_ n6_ n7_ n8_ n9_ n10_ n11_ n12_ n13_
     (try clear hb)
     (try clear hb2)
     (try clear hk)
     (try clear hi)
     (try clear ho0)
     obtain ⟨Ao80, co80, eo80⟩ := Kd.V_slice HO371.out
     (first | subst eo80 | (injection eo80 with f1_ f2_ f3_; have f4_ := f1_.symm; have f5_ := f3_.symm; clear f1_ f2_ f3_; subst f4_; subst f5_))
     obtain ⟨Ao83, co83, eo83⟩ := Kd.V_slice HO378.out
     (first | subst eo83 | (injection eo83 with f1_ f2_ f3_; have f4_ := f1_.symm; have f5_ := f3_.symm; clear f1_ f2_ f3_; subst f4_; subst f5_))
     refine hK.out _ _ ⟨(blk_cell BK340.out 0).trans rfl, (blk_cell BK340.out 1).trans rfl⟩ (fun hHeld => ?_)
     clear hK K
     refine norm_ (a' := ?_) ?_ ?_
     rotate_left
     ·show Act.put _ (some 56) _ = _
      simp only [Act.put, List.setIfInBounds_toArray, List.set_cons_zero, List.set_cons_succ, i64_w, i32_w]
      rfl
     refine one_ (i := 11) (N := none) #[true, true, true, true, true, true, true, true, true, true, true, true, false] rfl rfl (one_of HT_.out (by kernel_rfl)) (by decide) (fun K hK => ?_)
     have hs79 : w78.cell? ⟨gb341, 0, none⟩ = some (.bool false) := (blk_cell BK341.out 0).trans rfl
     have hfs79 := blk_frozen BK341.out 0
     have hns79_0 := NB339_341.out
     have hns79_1 := NB340_341.out
     have hns79_3 := NB342_341.out
     have hms79_0 := NB341_339.out
     have hms79_1 := NB341_340.out
     have hms79_3 := NB341_342.out
     have hs81 : w78.cell? ⟨gb341, 1, none⟩ = some (.slice none 0 0) := (blk_cell BK341.out 1).trans rfl
     have hfs81 := blk_frozen BK341.out 1
     have hns81_0 := NB339_341.out
     have hns81_1 := NB340_341.out
     have hns81_3 := NB342_341.out
     have hms81_0 := NB341_339.out
     have hms81_1 := NB341_340.out
     have hms81_3 := NB341_342.out
     refine skip_ (w1 := ?_) (by rfl) rfl ?_ ?_
     rotate_left
     ·go_simp
      rfl
     refine hK.out _ _ ⟨((cell_far (p := ⟨gb341, _, none⟩) NB340_341.out _).trans (((cell_far (p := ⟨gb341, _, none⟩) NB340_341.out _).trans (hHeld.1)))), ((cell_far (p := ⟨gb341, _, none⟩) NB340_341.out _).trans (((cell_far (p := ⟨gb341, _, none⟩) NB340_341.out _).trans (hHeld.2))))⟩ (fun hHeld => ?_)
     clear hK K
     refine one_ (i := 12) (N := none) #[true, true, true, true, true, true, true, true, true, true, true, true, true] rfl rfl (one_of HT_.out (by kernel_rfl)) (by decide) (fun K hK => ?_)
     have hs82 : w78.cell? ⟨gb342, 0, none⟩ = some (.bool false) := (blk_cell BK342.out 0).trans rfl
     have hfs82 := blk_frozen BK342.out 0
     have hns82_0 := NB339_342.out
     have hns82_1 := NB340_342.out
     have hns82_2 := NB341_342.out
     have hms82_0 := NB342_339.out
     have hms82_1 := NB342_340.out
     have hms82_2 := NB342_341.out
     have hs84 : w78.cell? ⟨gb342, 1, none⟩ = some (.slice none 0 0) := (blk_cell BK342.out 1).trans rfl
     have hfs84 := blk_frozen BK342.out 1
     have hns84_0 := NB339_342.out
     have hns84_1 := NB340_342.out
     have hns84_2 := NB341_342.out
     have hms84_0 := NB342_339.out
     have hms84_1 := NB342_340.out
     have hms84_2 := NB342_341.out
     refine skip_ (w1 := ?_) (by rfl) rfl ?_ ?_
     rotate_left
     ·go_simp
      rfl
     refine hK.out _ _ ⟨((cell_far (p := ⟨gb342, _, none⟩) NB340_342.out _).trans (((cell_far (p := ⟨gb342, _, none⟩) NB340_342.out _).trans (hHeld.1)))), ((cell_far (p := ⟨gb342, _, none⟩) NB340_342.out _).trans (((cell_far (p := ⟨gb342, _, none⟩) NB340_342.out _).trans (hHeld.2))))⟩ (fun hHeld => ?_)
     clear hK K
     refine done_ (done_of HT_.out (by kernel_rfl)) ?_
     try go_wp2
     refine bodyPost_ret (results_cc rfl _ _ gb341 gb342 25 25 #[.bool t368, .slice Ao80 t369.length co80] #[.bool t375, .slice Ao83 t376.length co83] (0, 0) (0, 0) _ _ rfl (by (with_reducible repeat (first | refine blk_drewN ?_ _ | refine blk_drew ?_ | refine blk_alloc ?_ _)); refine blk_far ?_ NB341_342.out _; (with_reducible repeat (first | refine blk_drewN ?_ _ | refine blk_drew ?_ | refine blk_alloc ?_ _)); refine blk_far ?_ NB341_342.out _; (with_reducible repeat (first | refine blk_drewN ?_ _ | refine blk_drew ?_ | refine blk_alloc ?_ _)); refine blk_put (cs := #[.bool t368, .slice none 0 0]) ?_ 1 _ rfl; (with_reducible repeat (first | refine blk_drewN ?_ _ | refine blk_drew ?_ | refine blk_alloc ?_ _)); refine blk_put (cs := #[.bool false, .slice none 0 0]) ?_ 0 _ rfl; (with_reducible repeat (first | refine blk_drewN ?_ _ | refine blk_drew ?_ | refine blk_alloc ?_ _)); exact BK341.out) Try.underlying25 rfl (by kernel_rfl) rfl (by (with_reducible repeat (first | refine blk_drewN ?_ _ | refine blk_drew ?_ | refine blk_alloc ?_ _)); refine blk_put (cs := #[.bool t375, .slice none 0 0]) ?_ 1 _ rfl; (with_reducible repeat (first | refine blk_drewN ?_ _ | refine blk_drew ?_ | refine blk_alloc ?_ _)); refine blk_put (cs := #[.bool false, .slice none 0 0]) ?_ 0 _ rfl; (with_reducible repeat (first | refine blk_drewN ?_ _ | refine blk_drew ?_ | refine blk_alloc ?_ _)); refine blk_far ?_ NB342_341.out _; (with_reducible repeat (first | refine blk_drewN ?_ _ | refine blk_drew ?_ | refine blk_alloc ?_ _)); refine blk_far ?_ NB342_341.out _; (with_reducible repeat (first | refine blk_drewN ?_ _ | refine blk_drew ?_ | refine blk_alloc ?_ _)); exact BK342.out) Try.underlying25 rfl (by kernel_rfl)) rfl ?_
     exact ⟨_, _, by first | rfl | (simp [errW_none, errW_some] <;> rfl) | (simp [*, errW_none, errW_some] <;> rfl), by (with_reducible repeat (first | apply Kd.V_alloc | apply Kd.V_drewN | apply Kd.V_drew)); exact Kd.V_mono (Kd.V_far (p := ⟨gb342, 1, none⟩) (Kd.V_far (p := ⟨gb342, 0, none⟩) (Kd.V_far (p := ⟨gb341, 1, none⟩) (Kd.V_far (p := ⟨gb341, 0, none⟩) (Kd.V_mono (Kd.V_mono HO371.out (fun k_ hk => (⟨hk, hk.2.2.2.1⟩ : _ ∧ k_ ≠ gb341))) (fun k_ hk => (⟨hk, hk.1.2.2.2.2⟩ : _ ∧ k_ ≠ gb342))) (fun _ hk => hk.1.2) (.bool t368)) (fun _ hk => hk.1.2) (.slice Ao80 t369.length co80)) (fun _ hk => hk.2) (.bool t375)) (fun _ hk => hk.2) (.slice Ao83 t376.length co83)) (fun _ hk => hk.1.1.1), by (with_reducible repeat (first | apply Kd.V_alloc | apply Kd.V_drewN | apply Kd.V_drew)); exact Kd.V_mono (Kd.V_far (p := ⟨gb342, 1, none⟩) (Kd.V_far (p := ⟨gb342, 0, none⟩) (Kd.V_far (p := ⟨gb341, 1, none⟩) (Kd.V_far (p := ⟨gb341, 0, none⟩) (Kd.V_mono (Kd.V_mono HO378.out (fun k_ hk => (⟨hk, hk.2.2.2.1⟩ : _ ∧ k_ ≠ gb341))) (fun k_ hk => (⟨hk, hk.1.2.2.2.2⟩ : _ ∧ k_ ≠ gb342))) (fun _ hk => hk.1.2) (.bool t368)) (fun _ hk => hk.1.2) (.slice Ao80 t369.length co80)) (fun _ hk => hk.2) (.bool t375)) (fun _ hk => hk.2) (.slice Ao83 t376.length co83)) (fun _ hk => hk.1.1.1), by repeat (first | (with_reducible first | exact HB.out | apply bA | apply bN | apply bD | refine bS ?_ GE339.out | refine bS ?_ GE340.out | refine bS ?_ GE341.out | refine bS ?_ GE342.out) | exact HB.out)⟩

end Go.Proofs.Ytpgmhhkkbjbpgaa.M
