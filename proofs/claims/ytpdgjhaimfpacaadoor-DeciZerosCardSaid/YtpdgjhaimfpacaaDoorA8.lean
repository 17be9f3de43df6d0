-- By drive.py (this session's program), out of the translation. Lean checks it.
import Derived.Test.YtpdgjhaimfpacaaDoorA0
namespace Go.Proofs.YtpdgjhaimfpacaaDoor.M
open Go.Proofs.YtpdgjhaimfpacaaDoor.MB Go.Proofs.YtpdgjhaimfpacaaDoor
open Go.RowKit Go.Proofs.YtpdgjhaimfpacaaDoorW.PrintWords Go.Proofs.YtpdgjhaimfpacaaDoorW.PrintLast Go.Proofs.YtpdgjhaimfpacaaDoorW.PrintMore
attribute [local go_sem] max2_int min2_int max_two min_two max_three min_three max_four min_four   -- for this text's walks alone
set_option linter.unusedVariables false
set_option linter.unusedSimpArgs false
attribute [local go_sem] add64_run sub64_run

/-! ### isohyetlaw04_text: function 12 -/
mutual
def isohyetlaw04_text.l0 : Nat → Int → Int → Bool → ByteArray → Int → Option (ByteArray)
 | 0, _, _, _, _, _ => none
 | k + 1, x0, x1, x5, x6, x7 => if x0 = 0 then (isohyetlaw04_text.j1 k x0 x1 x5 x6 x7 (decide (x7 ≤ x1))) else (isohyetlaw04_text.j1 k x0 x1 x5 x6 x7 true)
def isohyetlaw04_text.j1 : Nat → Int → Int → Bool → ByteArray → Int → Bool → Option (ByteArray)
 | 0, _, _, _, _, _, _ => none
 | k + 1, x0, x1, x5, x6, x7, x17 => if x17 = true then (if (Int.tmod x0 10) < 0 then (if x7 = x1 then (if x1 > 0 then (if 1 + x6.size ≤ 9223372036854775807 then ((some (([(wrap64 (48 + (wrap64 (-(Int.tmod x0 10))))) % 256] : List Int) : List Int)).bind fun y378 => (if (strOfNums y378).size + ((⟨#[46]⟩ : ByteArray) ++ x6).size ≤ 9223372036854775807 then (isohyetlaw04_text.l0 k (wrap64 (Int.tdiv x0 10)) x1 x5 ((strOfNums y378) ++ ((⟨#[46]⟩ : ByteArray) ++ x6)) (wrap64 (x7 + 1))) else (none))) else (none)) else ((some (([(wrap64 (48 + (wrap64 (-(Int.tmod x0 10))))) % 256] : List Int) : List Int)).bind fun y381 => (if (strOfNums y381).size + x6.size ≤ 9223372036854775807 then (isohyetlaw04_text.l0 k (wrap64 (Int.tdiv x0 10)) x1 x5 ((strOfNums y381) ++ x6) (wrap64 (x7 + 1))) else (none)))) else ((some (([(wrap64 (48 + (wrap64 (-(Int.tmod x0 10))))) % 256] : List Int) : List Int)).bind fun y384 => (if (strOfNums y384).size + x6.size ≤ 9223372036854775807 then (isohyetlaw04_text.l0 k (wrap64 (Int.tdiv x0 10)) x1 x5 ((strOfNums y384) ++ x6) (wrap64 (x7 + 1))) else (none)))) else (if x7 = x1 then (if x1 > 0 then (if 1 + x6.size ≤ 9223372036854775807 then ((some (([(wrap64 (48 + (Int.tmod x0 10))) % 256] : List Int) : List Int)).bind fun y387 => (if (strOfNums y387).size + ((⟨#[46]⟩ : ByteArray) ++ x6).size ≤ 9223372036854775807 then (isohyetlaw04_text.l0 k (wrap64 (Int.tdiv x0 10)) x1 x5 ((strOfNums y387) ++ ((⟨#[46]⟩ : ByteArray) ++ x6)) (wrap64 (x7 + 1))) else (none))) else (none)) else ((some (([(wrap64 (48 + (Int.tmod x0 10))) % 256] : List Int) : List Int)).bind fun y390 => (if (strOfNums y390).size + x6.size ≤ 9223372036854775807 then (isohyetlaw04_text.l0 k (wrap64 (Int.tdiv x0 10)) x1 x5 ((strOfNums y390) ++ x6) (wrap64 (x7 + 1))) else (none)))) else ((some (([(wrap64 (48 + (Int.tmod x0 10))) % 256] : List Int) : List Int)).bind fun y393 => (if (strOfNums y393).size + x6.size ≤ 9223372036854775807 then (isohyetlaw04_text.l0 k (wrap64 (Int.tdiv x0 10)) x1 x5 ((strOfNums y393) ++ x6) (wrap64 (x7 + 1))) else (none))))) else (if x5 = true then (if 1 + x6.size ≤ 9223372036854775807 then (some ((⟨#[45]⟩ : ByteArray) ++ x6)) else (none)) else (some x6))
end
def isohyetlaw04_text.f (k : Nat) (a0 : Int) (a1 : Int) : Option (ByteArray) := isohyetlaw04_text.l0 k a0 a1 (decide (a0 < 0)) (⟨#[]⟩ : ByteArray) 0
theorem isohyetlaw04_text.mono_l : ∀ k, (∀ y0 y1 y2 y3 y4, LeO (isohyetlaw04_text.l0 k y0 y1 y2 y3 y4) (isohyetlaw04_text.l0 (k + 1) y0 y1 y2 y3 y4)) ∧ (∀ y0 y1 y2 y3 y4 y5, LeO (isohyetlaw04_text.j1 k y0 y1 y2 y3 y4 y5) (isohyetlaw04_text.j1 (k + 1) y0 y1 y2 y3 y4 y5))
 | 0 => ⟨fun _ _ _ _ _ r h => by simp [isohyetlaw04_text.l0] at h, fun _ _ _ _ _ _ r h => by simp [isohyetlaw04_text.j1] at h⟩
 | k + 1 => by
  obtain ⟨ih0, ih1⟩ := isohyetlaw04_text.mono_l k
  refine ⟨?_, ?_⟩
  ·intro y0 y1 y2 y3 y4
   unfold isohyetlaw04_text.l0
   repeat' first
   | (with_reducible exact ih0 _ _ _ _ _)
   | (with_reducible exact ih1 _ _ _ _ _ _)
   | (with_reducible exact LeO.refl _)
   | (with_reducible exact LeO.none _)
   | (with_reducible refine LeO.ite ?_ ?_)
   | (with_reducible refine LeO.bind ?_ (fun _ => ?_))
   | exact ih0 _ _ _ _ _
   | exact ih1 _ _ _ _ _ _
   | exact LeO.none _
   | refine LeO.ite ?_ ?_
   | refine LeO.bind ?_ (fun _ => ?_)
  ·intro y0 y1 y2 y3 y4 y5
   unfold isohyetlaw04_text.j1
   repeat' first
   | (with_reducible exact ih0 _ _ _ _ _)
   | (with_reducible exact ih1 _ _ _ _ _ _)
   | (with_reducible exact LeO.refl _)
   | (with_reducible exact LeO.none _)
   | (with_reducible refine LeO.ite ?_ ?_)
   | (with_reducible refine LeO.bind ?_ (fun _ => ?_))
   | exact ih0 _ _ _ _ _
   | exact ih1 _ _ _ _ _ _
   | exact LeO.none _
   | refine LeO.ite ?_ ?_
   | refine LeO.bind ?_ (fun _ => ?_)
theorem isohyetlaw04_text.mono : ∀ a0 a1 k, LeO (isohyetlaw04_text.f k a0 a1) (isohyetlaw04_text.f (k + 1) a0 a1) := by
 intro a0 a1 k
 obtain ⟨ih0, ih1⟩ := isohyetlaw04_text.mono_l k
 unfold isohyetlaw04_text.f
 repeat' first
   | (with_reducible exact ih0 _ _ _ _ _)
   | (with_reducible exact ih1 _ _ _ _ _ _)
   | (with_reducible exact LeO.refl _)
   | (with_reducible exact LeO.none _)
   | (with_reducible refine LeO.ite ?_ ?_)
   | (with_reducible refine LeO.bind ?_ (fun _ => ?_))
   | exact ih0 _ _ _ _ _
   | exact ih1 _ _ _ _ _ _
   | exact LeO.none _
   | refine LeO.ite ?_ ?_
   | refine LeO.bind ?_ (fun _ => ?_)
set_option maxHeartbeats 8000000 in
set_option maxRecDepth 100000 in
theorem isohyetlaw04_text.calls (k : Nat) (a0 : Int) (a1 : Int) (r : ByteArray) (w : World) (h : isohyetlaw04_text.f k a0 a1 = some r) :
  Calls Tryd.prog 12 #[.int .i64 a0, .int .i64 a1] w fun e w' => e = .returned (.string r) ∧ Below w.heap.size w w' := by
 have HB := Aside0.mk (Below.refl w.heap.size w)
 have H : (isohyetlaw04_text.l0 k a0 a1 (decide (a0 < 0)) (⟨#[]⟩ : ByteArray) 0) = some r := h
 clear h
 have H' := Aside0.mk H
 clear H
 go_enter Tryd.func12, Tryd.ntmps12
 go_wp2
 all_goals (try (exfalso; omega))
 go_loopg [0, 6, 7] k (fun kq v0 v6 v7 w' => ∃ (x0_1 : Int) (x6_1 : ByteArray) (x7_1 : Int), v0 = .int .i64 x0_1 ∧ v6 = .string x6_1 ∧ v7 = .int .i64 x7_1 ∧ Aside0 (isohyetlaw04_text.l0 kq x0_1 a1 (decide (a0 < 0)) x6_1 x7_1 = some r) ∧ Aside0 (kq ≤ k) ∧ Aside0 (Below w.heap.size w w'))
 case atStart => exact ⟨(a0), ((⟨#[]⟩ : ByteArray)), (0), (by first | rfl | (simp; done) | (simp [*]; done)), (by first | rfl | (simp; done) | (simp [*]; done)), (by first | rfl | (simp; done) | (simp [*]; done)), H', ⟨Nat.le_refl _⟩, ⟨by repeat (first | (with_reducible first | exact HB.out | apply bA | apply bN | apply bD) | exact HB.out)⟩⟩
 case round =>
  clear H'
  try clear c1
  try clear p2
  obtain ⟨x0_1, x6_1, x7_1, rfl, rfl, rfl, HA, HK1, HB⟩ := hrel
  cases gk with
  | zero => exact absurd HA.out (by simp [isohyetlaw04_text.l0])
  | succ k1 =>
   have H := HA.out
   clear HA
   simp only [isohyetlaw04_text.l0] at H
   have HC3 := Aside0.mk H
   clear H
   go_upto_region 4 with (fail)
   go_cut [17] (fun v17 wc => ∃ (kq : Nat) (x17_2 : Bool), v17 = .bool x17_2 ∧ Aside0 (isohyetlaw04_text.j1 kq x0_1 a1 (decide (a0 < 0)) x6_1 x7_1 x17_2 = some r) ∧ Aside0 (kq ≤ k1) ∧ Aside0 (Below w.heap.size w wc))
   case first =>
    have H := HC3.out
    clear HC3
    by_cases c4 : x0_1 = 0
    ·rw [if_pos c4] at H
     have c4b0 : (x0_1 == 0) = true := beq_iff_eq.mpr c4
     have c4b1 : (x0_1 != 0) = false := bne_eq_false_iff_eq.mpr c4
     clear c4
     (first | rw [c4b0] | rw [c4b1] | (simp only [i64_w, i32_w]; rw [c4b0]) | skip)
     have H' := Aside0.mk H
     clear H
     go_wp2
     all_goals (try (exfalso; omega))
     go_meet
     case rel => exact ⟨_, (decide (x7_1 ≤ a1)), (by first | rfl | (simp; done) | (simp [*]; done)), H', ⟨by have := HK1.out; first | omega | exact Nat.le_refl _⟩, ⟨by repeat (first | (with_reducible first | exact HB.out | apply bA | apply bN | apply bD) | exact HB.out)⟩⟩
    ·rw [if_neg c4] at H
     have c4b0 : (x0_1 == 0) = false := beq_eq_false_iff_ne.mpr c4
     have c4b1 : (x0_1 != 0) = true := bne_iff_ne.mpr c4
     (first | rw [c4b0] | rw [c4b1] | (simp only [i64_w, i32_w]; rw [c4b0]) | skip)
     have H' := Aside0.mk H
     clear H
     go_wp2
     all_goals (try (exfalso; omega))
     go_meet
     case rel => exact ⟨_, (true), (by first | rfl | (simp; done) | (simp [*]; done)), H', ⟨by have := HK1.out; first | omega | exact Nat.le_refl _⟩, ⟨by repeat (first | (with_reducible first | exact HB.out | apply bA | apply bN | apply bD) | exact HB.out)⟩⟩
   case rest =>
    clear HC3
    try clear c1
    try clear p2
    try clear c4
    try clear c4b0
    try clear c4b1
    try clear p2
    obtain ⟨kq, x17_2, rfl, HA, HJ2, HB⟩ := hcut
    cases kq with
    | zero => exact absurd HA.out (by simp [isohyetlaw04_text.j1])
    | succ kj2 =>
     have H := HA.out
     clear HA
     simp only [isohyetlaw04_text.j1] at H
     by_cases c5 : x17_2 = true
     ·subst c5
      have H1 : (if (Int.tmod x0_1 10) < 0 then (if x7_1 = a1 then (if a1 > 0 then (if 1 + x6_1.size ≤ 9223372036854775807 then ((some (([(wrap64 (48 + (wrap64 (-(Int.tmod x0_1 10))))) % 256] : List Int) : List Int)).bind fun y378 => (if (strOfNums y378).size + ((⟨#[46]⟩ : ByteArray) ++ x6_1).size ≤ 9223372036854775807 then (isohyetlaw04_text.l0 kj2 (wrap64 (Int.tdiv x0_1 10)) a1 (decide (a0 < 0)) ((strOfNums y378) ++ ((⟨#[46]⟩ : ByteArray) ++ x6_1)) (wrap64 (x7_1 + 1))) else (none))) else (none)) else ((some (([(wrap64 (48 + (wrap64 (-(Int.tmod x0_1 10))))) % 256] : List Int) : List Int)).bind fun y381 => (if (strOfNums y381).size + x6_1.size ≤ 9223372036854775807 then (isohyetlaw04_text.l0 kj2 (wrap64 (Int.tdiv x0_1 10)) a1 (decide (a0 < 0)) ((strOfNums y381) ++ x6_1) (wrap64 (x7_1 + 1))) else (none)))) else ((some (([(wrap64 (48 + (wrap64 (-(Int.tmod x0_1 10))))) % 256] : List Int) : List Int)).bind fun y384 => (if (strOfNums y384).size + x6_1.size ≤ 9223372036854775807 then (isohyetlaw04_text.l0 kj2 (wrap64 (Int.tdiv x0_1 10)) a1 (decide (a0 < 0)) ((strOfNums y384) ++ x6_1) (wrap64 (x7_1 + 1))) else (none)))) else (if x7_1 = a1 then (if a1 > 0 then (if 1 + x6_1.size ≤ 9223372036854775807 then ((some (([(wrap64 (48 + (Int.tmod x0_1 10))) % 256] : List Int) : List Int)).bind fun y387 => (if (strOfNums y387).size + ((⟨#[46]⟩ : ByteArray) ++ x6_1).size ≤ 9223372036854775807 then (isohyetlaw04_text.l0 kj2 (wrap64 (Int.tdiv x0_1 10)) a1 (decide (a0 < 0)) ((strOfNums y387) ++ ((⟨#[46]⟩ : ByteArray) ++ x6_1)) (wrap64 (x7_1 + 1))) else (none))) else (none)) else ((some (([(wrap64 (48 + (Int.tmod x0_1 10))) % 256] : List Int) : List Int)).bind fun y390 => (if (strOfNums y390).size + x6_1.size ≤ 9223372036854775807 then (isohyetlaw04_text.l0 kj2 (wrap64 (Int.tdiv x0_1 10)) a1 (decide (a0 < 0)) ((strOfNums y390) ++ x6_1) (wrap64 (x7_1 + 1))) else (none)))) else ((some (([(wrap64 (48 + (Int.tmod x0_1 10))) % 256] : List Int) : List Int)).bind fun y393 => (if (strOfNums y393).size + x6_1.size ≤ 9223372036854775807 then (isohyetlaw04_text.l0 kj2 (wrap64 (Int.tdiv x0_1 10)) a1 (decide (a0 < 0)) ((strOfNums y393) ++ x6_1) (wrap64 (x7_1 + 1))) else (none))))) = some r := by rw [if_pos rfl] at H; exact H
      clear H
      have H := H1
      clear H1
      by_cases c6 : (Int.tmod x0_1 10) < 0
      ·rw [if_pos c6] at H
       have c6b0 : decide ((Int.tmod x0_1 10) < 0) = true := decide_eq_true c6
       clear c6
       by_cases c7 : x7_1 = a1
       ·rw [if_pos c7] at H
        have c7b0 : (x7_1 == a1) = true := beq_iff_eq.mpr c7
        have c7b1 : (x7_1 != a1) = false := bne_eq_false_iff_eq.mpr c7
        clear c7
        by_cases c8 : a1 > 0
        ·rw [if_pos c8] at H
         have c8b0 : decide (0 < a1) = true := decide_eq_true c8
         clear c8
         by_cases c9 : 1 + x6_1.size ≤ 9223372036854775807
         ·rw [if_pos c9] at H
          have c9b0 := eq_true c9
          have c9b1 : decide (1 + x6_1.size ≤ 9223372036854775807) = true := decide_eq_true c9
          try have c9b2 : (9223372036854775807 < 1 + x6_1.size) = False := eq_false (Nat.not_lt.2 c9)
          obtain ⟨y378, hy378⟩ : ∃ y_ : List Int, y_ = (([(wrap64 (48 + (wrap64 (-(Int.tmod x0_1 10))))) % 256] : List Int)) := ⟨_, rfl⟩
          replace H : (if (strOfNums y378).size + ((⟨#[46]⟩ : ByteArray) ++ x6_1).size ≤ 9223372036854775807 then (isohyetlaw04_text.l0 kj2 (wrap64 (Int.tdiv x0_1 10)) a1 (decide (a0 < 0)) ((strOfNums y378) ++ ((⟨#[46]⟩ : ByteArray) ++ x6_1)) (wrap64 (x7_1 + 1))) else (none)) = some r := by first | (rw [hy378]; with_reducible exact H) | (have H2_ := (Option.bind_some _ _).symm.trans H; rw [hy378]; with_reducible exact H2_) | (have H2_ := (Option.bind_some _ _).symm.trans H; with_reducible exact H2_) | with_reducible exact H | (rw [hy378]; exact H) | exact H
          have Ny378 := Aside0.mk hy378
          clear hy378
          by_cases c10 : (strOfNums y378).size + ((⟨#[46]⟩ : ByteArray) ++ x6_1).size ≤ 9223372036854775807
          ·rw [if_pos c10] at H
           have c10b0 := eq_true c10
           have c10b1 : decide ((strOfNums y378).size + ((⟨#[46]⟩ : ByteArray) ++ x6_1).size ≤ 9223372036854775807) = true := decide_eq_true c10
           try have c10b2 : (9223372036854775807 < (strOfNums y378).size + ((⟨#[46]⟩ : ByteArray) ++ x6_1).size) = False := eq_false (Nat.not_lt.2 c10)
           have H' := Aside0.mk H
           clear H
           go_wp2_with (first | ((with_reducible refine gate_dst (N := 38) rfl ?_); refine Kd.R_lit (Kd.int .u8) _ 5 ?hg (N := 38) ?hd (xs := ([(wrap64 (48 + (wrap64 (-(Int.tmod x0_1 10))))) % 256] : List Int)) (inner := [.int .u8 ((wrap64 (48 + (wrap64 (-(Int.tmod x0_1 10))))) % 256)]) (ok := fun _ => True) (okp := fun _ => True) ?hr ?hp (fun _ hk => hk) trivial (Below.refl _ _) (Nat.le_refl _) (by simp) ?_; (case hd => rfl); (case hg => rfl); (case hr => first | (go_simp; done) | (go_simp; rfl)); (case hp => exact (Reps.one (show Kd.M (Kd.int .u8) _ _ _ ((wrap64 (48 + (wrap64 (-(Int.tmod x0_1 10))))) % 256) [.int .u8 ((wrap64 (48 + (wrap64 (-(Int.tmod x0_1 10))))) % 256)] from rfl) (Reps.none _ _))); intro v379 w11 ho12 hb hg_ hnew_; clear hg_ hnew_; (first | rw [← Ny378.out] at ho12 | (simp only [Int.reduceToNat] at ho12; rw [← Ny378.out] at ho12)); have n0_ := Aside0.mk (Kd.R_lower ho12 (below_size (gB HB.out))); have n1_ := Aside0.mk (below_step (gB HB.out) hb); clear HB; have HO380 := n0_; have HB := n1_; clear n0_ n1_; clear hb ho12; have hcv13 := own_string (P := Tryd.prog) Tryd.underlying60 Tryd.underlying5 Tryd.underlying9 (Kd.own_of_R HO380.out)))
           go_roundg kj2
           case measure => have := HK1.out; have := HJ2.out; omega
           case rel => exact ⟨(wrap64 (Int.tdiv x0_1 10)), ((strOfNums y378) ++ ((⟨#[46]⟩ : ByteArray) ++ x6_1)), (wrap64 (x7_1 + 1)), (by first | rfl | (simp; done) | (simp [*]; done)), (by first | rfl | (simp; done) | (simp [*]; done)), (by first | rfl | (simp; done) | (simp [*]; done)), H', ⟨by have := HK1.out; have := HJ2.out; omega⟩, ⟨by repeat (first | (with_reducible first | exact HB.out | apply bA | apply bN | apply bD) | exact HB.out)⟩⟩
          ·rw [if_neg c10] at H
           exact absurd H (by simp)
         ·rw [if_neg c9] at H
          exact absurd H (by simp)
        ·rw [if_neg c8] at H
         have c8b0 : decide (0 < a1) = false := decide_eq_false c8
         clear c8
         obtain ⟨y381, hy381⟩ : ∃ y_ : List Int, y_ = (([(wrap64 (48 + (wrap64 (-(Int.tmod x0_1 10))))) % 256] : List Int)) := ⟨_, rfl⟩
         replace H : (if (strOfNums y381).size + x6_1.size ≤ 9223372036854775807 then (isohyetlaw04_text.l0 kj2 (wrap64 (Int.tdiv x0_1 10)) a1 (decide (a0 < 0)) ((strOfNums y381) ++ x6_1) (wrap64 (x7_1 + 1))) else (none)) = some r := by first | (rw [hy381]; with_reducible exact H) | (have H2_ := (Option.bind_some _ _).symm.trans H; rw [hy381]; with_reducible exact H2_) | (have H2_ := (Option.bind_some _ _).symm.trans H; with_reducible exact H2_) | with_reducible exact H | (rw [hy381]; exact H) | exact H
         have Ny381 := Aside0.mk hy381
         clear hy381
         by_cases c14 : (strOfNums y381).size + x6_1.size ≤ 9223372036854775807
         ·rw [if_pos c14] at H
          have c14b0 := eq_true c14
          have c14b1 : decide ((strOfNums y381).size + x6_1.size ≤ 9223372036854775807) = true := decide_eq_true c14
          try have c14b2 : (9223372036854775807 < (strOfNums y381).size + x6_1.size) = False := eq_false (Nat.not_lt.2 c14)
          have H' := Aside0.mk H
          clear H
          go_wp2_with (first | ((with_reducible refine gate_dst (N := 38) rfl ?_); refine Kd.R_lit (Kd.int .u8) _ 5 ?hg (N := 38) ?hd (xs := ([(wrap64 (48 + (wrap64 (-(Int.tmod x0_1 10))))) % 256] : List Int)) (inner := [.int .u8 ((wrap64 (48 + (wrap64 (-(Int.tmod x0_1 10))))) % 256)]) (ok := fun _ => True) (okp := fun _ => True) ?hr ?hp (fun _ hk => hk) trivial (Below.refl _ _) (Nat.le_refl _) (by simp) ?_; (case hd => rfl); (case hg => rfl); (case hr => first | (go_simp; done) | (go_simp; rfl)); (case hp => exact (Reps.one (show Kd.M (Kd.int .u8) _ _ _ ((wrap64 (48 + (wrap64 (-(Int.tmod x0_1 10))))) % 256) [.int .u8 ((wrap64 (48 + (wrap64 (-(Int.tmod x0_1 10))))) % 256)] from rfl) (Reps.none _ _))); intro v382 w15 ho16 hb hg_ hnew_; clear hg_ hnew_; (first | rw [← Ny381.out] at ho16 | (simp only [Int.reduceToNat] at ho16; rw [← Ny381.out] at ho16)); have n0_ := Aside0.mk (Kd.R_lower ho16 (below_size (gB HB.out))); have n1_ := Aside0.mk (below_step (gB HB.out) hb); clear HB; have HO383 := n0_; have HB := n1_; clear n0_ n1_; clear hb ho16; have hcv17 := own_string (P := Tryd.prog) Tryd.underlying60 Tryd.underlying5 Tryd.underlying9 (Kd.own_of_R HO383.out)))
          go_roundg kj2
          case measure => have := HK1.out; have := HJ2.out; omega
          case rel => exact ⟨(wrap64 (Int.tdiv x0_1 10)), ((strOfNums y381) ++ x6_1), (wrap64 (x7_1 + 1)), (by first | rfl | (simp; done) | (simp [*]; done)), (by first | rfl | (simp; done) | (simp [*]; done)), (by first | rfl | (simp; done) | (simp [*]; done)), H', ⟨by have := HK1.out; have := HJ2.out; omega⟩, ⟨by repeat (first | (with_reducible first | exact HB.out | apply bA | apply bN | apply bD) | exact HB.out)⟩⟩
         ·rw [if_neg c14] at H
          exact absurd H (by simp)
       ·rw [if_neg c7] at H
        have c7b0 : (x7_1 == a1) = false := beq_eq_false_iff_ne.mpr c7
        have c7b1 : (x7_1 != a1) = true := bne_iff_ne.mpr c7
        obtain ⟨y384, hy384⟩ : ∃ y_ : List Int, y_ = (([(wrap64 (48 + (wrap64 (-(Int.tmod x0_1 10))))) % 256] : List Int)) := ⟨_, rfl⟩
        replace H : (if (strOfNums y384).size + x6_1.size ≤ 9223372036854775807 then (isohyetlaw04_text.l0 kj2 (wrap64 (Int.tdiv x0_1 10)) a1 (decide (a0 < 0)) ((strOfNums y384) ++ x6_1) (wrap64 (x7_1 + 1))) else (none)) = some r := by first | (rw [hy384]; with_reducible exact H) | (have H2_ := (Option.bind_some _ _).symm.trans H; rw [hy384]; with_reducible exact H2_) | (have H2_ := (Option.bind_some _ _).symm.trans H; with_reducible exact H2_) | with_reducible exact H | (rw [hy384]; exact H) | exact H
        have Ny384 := Aside0.mk hy384
        clear hy384
        by_cases c18 : (strOfNums y384).size + x6_1.size ≤ 9223372036854775807
        ·rw [if_pos c18] at H
         have c18b0 := eq_true c18
         have c18b1 : decide ((strOfNums y384).size + x6_1.size ≤ 9223372036854775807) = true := decide_eq_true c18
         try have c18b2 : (9223372036854775807 < (strOfNums y384).size + x6_1.size) = False := eq_false (Nat.not_lt.2 c18)
         have H' := Aside0.mk H
         clear H
         go_wp2_with (first | ((with_reducible refine gate_dst (N := 38) rfl ?_); refine Kd.R_lit (Kd.int .u8) _ 5 ?hg (N := 38) ?hd (xs := ([(wrap64 (48 + (wrap64 (-(Int.tmod x0_1 10))))) % 256] : List Int)) (inner := [.int .u8 ((wrap64 (48 + (wrap64 (-(Int.tmod x0_1 10))))) % 256)]) (ok := fun _ => True) (okp := fun _ => True) ?hr ?hp (fun _ hk => hk) trivial (Below.refl _ _) (Nat.le_refl _) (by simp) ?_; (case hd => rfl); (case hg => rfl); (case hr => first | (go_simp; done) | (go_simp; rfl)); (case hp => exact (Reps.one (show Kd.M (Kd.int .u8) _ _ _ ((wrap64 (48 + (wrap64 (-(Int.tmod x0_1 10))))) % 256) [.int .u8 ((wrap64 (48 + (wrap64 (-(Int.tmod x0_1 10))))) % 256)] from rfl) (Reps.none _ _))); intro v385 w19 ho20 hb hg_ hnew_; clear hg_ hnew_; (first | rw [← Ny384.out] at ho20 | (simp only [Int.reduceToNat] at ho20; rw [← Ny384.out] at ho20)); have n0_ := Aside0.mk (Kd.R_lower ho20 (below_size (gB HB.out))); have n1_ := Aside0.mk (below_step (gB HB.out) hb); clear HB; have HO386 := n0_; have HB := n1_; clear n0_ n1_; clear hb ho20; have hcv21 := own_string (P := Tryd.prog) Tryd.underlying60 Tryd.underlying5 Tryd.underlying9 (Kd.own_of_R HO386.out)))
         go_roundg kj2
         case measure => have := HK1.out; have := HJ2.out; omega
         case rel => exact ⟨(wrap64 (Int.tdiv x0_1 10)), ((strOfNums y384) ++ x6_1), (wrap64 (x7_1 + 1)), (by first | rfl | (simp; done) | (simp [*]; done)), (by first | rfl | (simp; done) | (simp [*]; done)), (by first | rfl | (simp; done) | (simp [*]; done)), H', ⟨by have := HK1.out; have := HJ2.out; omega⟩, ⟨by repeat (first | (with_reducible first | exact HB.out | apply bA | apply bN | apply bD) | exact HB.out)⟩⟩
        ·rw [if_neg c18] at H
         exact absurd H (by simp)
      ·rw [if_neg c6] at H
       have c6b0 : decide ((Int.tmod x0_1 10) < 0) = false := decide_eq_false c6
       clear c6
       by_cases c22 : x7_1 = a1
       ·rw [if_pos c22] at H
        have c22b0 : (x7_1 == a1) = true := beq_iff_eq.mpr c22
        have c22b1 : (x7_1 != a1) = false := bne_eq_false_iff_eq.mpr c22
        clear c22
        by_cases c23 : a1 > 0
        ·rw [if_pos c23] at H
         have c23b0 : decide (0 < a1) = true := decide_eq_true c23
         clear c23
         by_cases c24 : 1 + x6_1.size ≤ 9223372036854775807
         ·rw [if_pos c24] at H
          have c24b0 := eq_true c24
          have c24b1 : decide (1 + x6_1.size ≤ 9223372036854775807) = true := decide_eq_true c24
          try have c24b2 : (9223372036854775807 < 1 + x6_1.size) = False := eq_false (Nat.not_lt.2 c24)
          obtain ⟨y387, hy387⟩ : ∃ y_ : List Int, y_ = (([(wrap64 (48 + (Int.tmod x0_1 10))) % 256] : List Int)) := ⟨_, rfl⟩
          replace H : (if (strOfNums y387).size + ((⟨#[46]⟩ : ByteArray) ++ x6_1).size ≤ 9223372036854775807 then (isohyetlaw04_text.l0 kj2 (wrap64 (Int.tdiv x0_1 10)) a1 (decide (a0 < 0)) ((strOfNums y387) ++ ((⟨#[46]⟩ : ByteArray) ++ x6_1)) (wrap64 (x7_1 + 1))) else (none)) = some r := by first | (rw [hy387]; with_reducible exact H) | (have H2_ := (Option.bind_some _ _).symm.trans H; rw [hy387]; with_reducible exact H2_) | (have H2_ := (Option.bind_some _ _).symm.trans H; with_reducible exact H2_) | with_reducible exact H | (rw [hy387]; exact H) | exact H
          have Ny387 := Aside0.mk hy387
          clear hy387
          by_cases c25 : (strOfNums y387).size + ((⟨#[46]⟩ : ByteArray) ++ x6_1).size ≤ 9223372036854775807
          ·rw [if_pos c25] at H
           have c25b0 := eq_true c25
           have c25b1 : decide ((strOfNums y387).size + ((⟨#[46]⟩ : ByteArray) ++ x6_1).size ≤ 9223372036854775807) = true := decide_eq_true c25
           try have c25b2 : (9223372036854775807 < (strOfNums y387).size + ((⟨#[46]⟩ : ByteArray) ++ x6_1).size) = False := eq_false (Nat.not_lt.2 c25)
           have H' := Aside0.mk H
           clear H
           go_wp2_with (first | ((with_reducible refine gate_dst (N := 38) rfl ?_); refine Kd.R_lit (Kd.int .u8) _ 5 ?hg (N := 38) ?hd (xs := ([(wrap64 (48 + (Int.tmod x0_1 10))) % 256] : List Int)) (inner := [.int .u8 ((wrap64 (48 + (Int.tmod x0_1 10))) % 256)]) (ok := fun _ => True) (okp := fun _ => True) ?hr ?hp (fun _ hk => hk) trivial (Below.refl _ _) (Nat.le_refl _) (by simp) ?_; (case hd => rfl); (case hg => rfl); (case hr => first | (go_simp; done) | (go_simp; rfl)); (case hp => exact (Reps.one (show Kd.M (Kd.int .u8) _ _ _ ((wrap64 (48 + (Int.tmod x0_1 10))) % 256) [.int .u8 ((wrap64 (48 + (Int.tmod x0_1 10))) % 256)] from rfl) (Reps.none _ _))); intro v388 w26 ho27 hb hg_ hnew_; clear hg_ hnew_; (first | rw [← Ny387.out] at ho27 | (simp only [Int.reduceToNat] at ho27; rw [← Ny387.out] at ho27)); have n0_ := Aside0.mk (Kd.R_lower ho27 (below_size (gB HB.out))); have n1_ := Aside0.mk (below_step (gB HB.out) hb); clear HB; have HO389 := n0_; have HB := n1_; clear n0_ n1_; clear hb ho27; have hcv28 := own_string (P := Tryd.prog) Tryd.underlying60 Tryd.underlying5 Tryd.underlying9 (Kd.own_of_R HO389.out)))
           go_roundg kj2
           case measure => have := HK1.out; have := HJ2.out; omega
           case rel => exact ⟨(wrap64 (Int.tdiv x0_1 10)), ((strOfNums y387) ++ ((⟨#[46]⟩ : ByteArray) ++ x6_1)), (wrap64 (x7_1 + 1)), (by first | rfl | (simp; done) | (simp [*]; done)), (by first | rfl | (simp; done) | (simp [*]; done)), (by first | rfl | (simp; done) | (simp [*]; done)), H', ⟨by have := HK1.out; have := HJ2.out; omega⟩, ⟨by repeat (first | (with_reducible first | exact HB.out | apply bA | apply bN | apply bD) | exact HB.out)⟩⟩
          ·rw [if_neg c25] at H
           exact absurd H (by simp)
         ·rw [if_neg c24] at H
          exact absurd H (by simp)
        ·rw [if_neg c23] at H
         have c23b0 : decide (0 < a1) = false := decide_eq_false c23
         clear c23
         obtain ⟨y390, hy390⟩ : ∃ y_ : List Int, y_ = (([(wrap64 (48 + (Int.tmod x0_1 10))) % 256] : List Int)) := ⟨_, rfl⟩
         replace H : (if (strOfNums y390).size + x6_1.size ≤ 9223372036854775807 then (isohyetlaw04_text.l0 kj2 (wrap64 (Int.tdiv x0_1 10)) a1 (decide (a0 < 0)) ((strOfNums y390) ++ x6_1) (wrap64 (x7_1 + 1))) else (none)) = some r := by first | (rw [hy390]; with_reducible exact H) | (have H2_ := (Option.bind_some _ _).symm.trans H; rw [hy390]; with_reducible exact H2_) | (have H2_ := (Option.bind_some _ _).symm.trans H; with_reducible exact H2_) | with_reducible exact H | (rw [hy390]; exact H) | exact H
         have Ny390 := Aside0.mk hy390
         clear hy390
         by_cases c29 : (strOfNums y390).size + x6_1.size ≤ 9223372036854775807
         ·rw [if_pos c29] at H
          have c29b0 := eq_true c29
          have c29b1 : decide ((strOfNums y390).size + x6_1.size ≤ 9223372036854775807) = true := decide_eq_true c29
          try have c29b2 : (9223372036854775807 < (strOfNums y390).size + x6_1.size) = False := eq_false (Nat.not_lt.2 c29)
          have H' := Aside0.mk H
          clear H
          go_wp2_with (first | ((with_reducible refine gate_dst (N := 38) rfl ?_); refine Kd.R_lit (Kd.int .u8) _ 5 ?hg (N := 38) ?hd (xs := ([(wrap64 (48 + (Int.tmod x0_1 10))) % 256] : List Int)) (inner := [.int .u8 ((wrap64 (48 + (Int.tmod x0_1 10))) % 256)]) (ok := fun _ => True) (okp := fun _ => True) ?hr ?hp (fun _ hk => hk) trivial (Below.refl _ _) (Nat.le_refl _) (by simp) ?_; (case hd => rfl); (case hg => rfl); (case hr => first | (go_simp; done) | (go_simp; rfl)); (case hp => exact (Reps.one (show Kd.M (Kd.int .u8) _ _ _ ((wrap64 (48 + (Int.tmod x0_1 10))) % 256) [.int .u8 ((wrap64 (48 + (Int.tmod x0_1 10))) % 256)] from rfl) (Reps.none _ _))); intro v391 w30 ho31 hb hg_ hnew_; clear hg_ hnew_; (first | rw [← Ny390.out] at ho31 | (simp only [Int.reduceToNat] at ho31; rw [← Ny390.out] at ho31)); have n0_ := Aside0.mk (Kd.R_lower ho31 (below_size (gB HB.out))); have n1_ := Aside0.mk (below_step (gB HB.out) hb); clear HB; have HO392 := n0_; have HB := n1_; clear n0_ n1_; clear hb ho31; have hcv32 := own_string (P := Tryd.prog) Tryd.underlying60 Tryd.underlying5 Tryd.underlying9 (Kd.own_of_R HO392.out)))
          go_roundg kj2
          case measure => have := HK1.out; have := HJ2.out; omega
          case rel => exact ⟨(wrap64 (Int.tdiv x0_1 10)), ((strOfNums y390) ++ x6_1), (wrap64 (x7_1 + 1)), (by first | rfl | (simp; done) | (simp [*]; done)), (by first | rfl | (simp; done) | (simp [*]; done)), (by first | rfl | (simp; done) | (simp [*]; done)), H', ⟨by have := HK1.out; have := HJ2.out; omega⟩, ⟨by repeat (first | (with_reducible first | exact HB.out | apply bA | apply bN | apply bD) | exact HB.out)⟩⟩
         ·rw [if_neg c29] at H
          exact absurd H (by simp)
       ·rw [if_neg c22] at H
        have c22b0 : (x7_1 == a1) = false := beq_eq_false_iff_ne.mpr c22
        have c22b1 : (x7_1 != a1) = true := bne_iff_ne.mpr c22
        obtain ⟨y393, hy393⟩ : ∃ y_ : List Int, y_ = (([(wrap64 (48 + (Int.tmod x0_1 10))) % 256] : List Int)) := ⟨_, rfl⟩
        replace H : (if (strOfNums y393).size + x6_1.size ≤ 9223372036854775807 then (isohyetlaw04_text.l0 kj2 (wrap64 (Int.tdiv x0_1 10)) a1 (decide (a0 < 0)) ((strOfNums y393) ++ x6_1) (wrap64 (x7_1 + 1))) else (none)) = some r := by first | (rw [hy393]; with_reducible exact H) | (have H2_ := (Option.bind_some _ _).symm.trans H; rw [hy393]; with_reducible exact H2_) | (have H2_ := (Option.bind_some _ _).symm.trans H; with_reducible exact H2_) | with_reducible exact H | (rw [hy393]; exact H) | exact H
        have Ny393 := Aside0.mk hy393
        clear hy393
        by_cases c33 : (strOfNums y393).size + x6_1.size ≤ 9223372036854775807
        ·rw [if_pos c33] at H
         have c33b0 := eq_true c33
         have c33b1 : decide ((strOfNums y393).size + x6_1.size ≤ 9223372036854775807) = true := decide_eq_true c33
         try have c33b2 : (9223372036854775807 < (strOfNums y393).size + x6_1.size) = False := eq_false (Nat.not_lt.2 c33)
         have H' := Aside0.mk H
         clear H
         go_wp2_with (first | ((with_reducible refine gate_dst (N := 38) rfl ?_); refine Kd.R_lit (Kd.int .u8) _ 5 ?hg (N := 38) ?hd (xs := ([(wrap64 (48 + (Int.tmod x0_1 10))) % 256] : List Int)) (inner := [.int .u8 ((wrap64 (48 + (Int.tmod x0_1 10))) % 256)]) (ok := fun _ => True) (okp := fun _ => True) ?hr ?hp (fun _ hk => hk) trivial (Below.refl _ _) (Nat.le_refl _) (by simp) ?_; (case hd => rfl); (case hg => rfl); (case hr => first | (go_simp; done) | (go_simp; rfl)); (case hp => exact (Reps.one (show Kd.M (Kd.int .u8) _ _ _ ((wrap64 (48 + (Int.tmod x0_1 10))) % 256) [.int .u8 ((wrap64 (48 + (Int.tmod x0_1 10))) % 256)] from rfl) (Reps.none _ _))); intro v394 w34 ho35 hb hg_ hnew_; clear hg_ hnew_; (first | rw [← Ny393.out] at ho35 | (simp only [Int.reduceToNat] at ho35; rw [← Ny393.out] at ho35)); have n0_ := Aside0.mk (Kd.R_lower ho35 (below_size (gB HB.out))); have n1_ := Aside0.mk (below_step (gB HB.out) hb); clear HB; have HO395 := n0_; have HB := n1_; clear n0_ n1_; clear hb ho35; have hcv36 := own_string (P := Tryd.prog) Tryd.underlying60 Tryd.underlying5 Tryd.underlying9 (Kd.own_of_R HO395.out)))
         go_roundg kj2
         case measure => have := HK1.out; have := HJ2.out; omega
         case rel => exact ⟨(wrap64 (Int.tdiv x0_1 10)), ((strOfNums y393) ++ x6_1), (wrap64 (x7_1 + 1)), (by first | rfl | (simp; done) | (simp [*]; done)), (by first | rfl | (simp; done) | (simp [*]; done)), (by first | rfl | (simp; done) | (simp [*]; done)), H', ⟨by have := HK1.out; have := HJ2.out; omega⟩, ⟨by repeat (first | (with_reducible first | exact HB.out | apply bA | apply bN | apply bD) | exact HB.out)⟩⟩
        ·rw [if_neg c33] at H
         exact absurd H (by simp)
     ·replace c5 := Bool.eq_false_iff.mpr c5
      subst c5
      have H1 : (if (decide (a0 < 0)) = true then (if 1 + x6_1.size ≤ 9223372036854775807 then (some ((⟨#[45]⟩ : ByteArray) ++ x6_1)) else (none)) else (some x6_1)) = some r := by rw [if_neg (show ¬ (false = true) by decide)] at H; exact H
      clear H
      have H := H1
      clear H1
      by_cases c37 : (decide (a0 < 0)) = true
      ·rw [if_pos c37] at H
       have c37b0 : (decide (a0 < 0)) = true := c37
       have c37q : (a0 < 0) := of_decide_eq_true c37b0
       clear c37
       by_cases c38 : 1 + x6_1.size ≤ 9223372036854775807
       ·rw [if_pos c38] at H
        have c38b0 := eq_true c38
        have c38b1 : decide (1 + x6_1.size ≤ 9223372036854775807) = true := decide_eq_true c38
        try have c38b2 : (9223372036854775807 < 1 + x6_1.size) = False := eq_false (Nat.not_lt.2 c38)
        obtain rfl := Option.some.inj H
        go_wp2
        all_goals (try (exfalso; omega))
        go_ret
        exact ⟨by first | rfl | (simp [errW_none, errW_some] <;> rfl) | (simp [*, errW_none, errW_some] <;> rfl), by repeat (first | (with_reducible first | exact HB.out | apply bA | apply bN | apply bD) | exact HB.out)⟩
       ·rw [if_neg c38] at H
        exact absurd H (by simp)
      ·rw [if_neg c37] at H
       have c37b0 : (decide (a0 < 0)) = false := by simpa using c37
       have c37q : ¬ (a0 < 0) := of_decide_eq_false c37b0
       clear c37
       obtain rfl := Option.some.inj H
       go_wp2
       all_goals (try (exfalso; omega))
       go_ret
       exact ⟨by first | rfl | (simp [errW_none, errW_some] <;> rfl) | (simp [*, errW_none, errW_some] <;> rfl), by repeat (first | (with_reducible first | exact HB.out | apply bA | apply bN | apply bD) | exact HB.out)⟩

end Go.Proofs.YtpdgjhaimfpacaaDoor.M
