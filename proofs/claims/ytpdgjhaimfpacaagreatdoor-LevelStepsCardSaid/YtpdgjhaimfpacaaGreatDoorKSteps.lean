-- By drive.py (this session's program), out of the translation. Lean checks it.
import Derived.Test.YtpdgjhaimfpacaaGreatDoorA0
import Derived.Test.YtpdgjhaimfpacaaGreatDoorA6
import Derived.Test.YtpdgjhaimfpacaaGreatDoorA7
import Derived.Test.YtpdgjhaimfpacaaGreatDoorE10
import Derived.Test.YtpdgjhaimfpacaaGreatDoorE5
import Derived.Test.YtpdgjhaimfpacaaGreatDoorE9
namespace Go.Proofs.YtpdgjhaimfpacaaGreatDoor.M
open Go.Proofs.YtpdgjhaimfpacaaGreatDoor.MB Go.Proofs.YtpdgjhaimfpacaaGreatDoor
open Go.RowKit Go.Proofs.YtpdgjhaimfpacaaGreatDoorW.PrintWords Go.Proofs.YtpdgjhaimfpacaaGreatDoorW.PrintLast Go.Proofs.YtpdgjhaimfpacaaGreatDoorW.PrintMore
attribute [local go_sem] max2_int min2_int max_two min_two max_three min_three max_four min_four   -- for this text's walks alone
set_option linter.unusedVariables false
set_option linter.unusedSimpArgs false
attribute [local go_sem] add64_run sub64_run

/-! ### isohyetlaw18_LevelSteps: function 6 -/
def isohyetlaw18_LevelSteps.l0 : Nat → Int → Int → Int → ByteArray → Int → Int → Option (Bool)
 | 0, _, _, _, _, _, _ => none
 | k + 1, x0, x1, x2, x7, x25, x26 => if x26 < x25 then (if x26 > 0 then (if x7.size + 1 ≤ 9223372036854775807 then ((deci_Text.f k (wrap64 (x0 + (wrap64 (x26 * x2)))) 2).bind fun t399 => (if (x7 ++ (⟨#[44]⟩ : ByteArray)).size + t399.size ≤ 9223372036854775807 then (isohyetlaw18_LevelSteps.l0 k x0 x1 x2 ((x7 ++ (⟨#[44]⟩ : ByteArray)) ++ t399) x25 (wrap64 (x26 + 1))) else (none))) else (none)) else ((deci_Text.f k (wrap64 (x0 + (wrap64 (x26 * x2)))) 2).bind fun t400 => (if x7.size + t400.size ≤ 9223372036854775807 then (isohyetlaw18_LevelSteps.l0 k x0 x1 x2 (x7 ++ t400) x25 (wrap64 (x26 + 1))) else (none)))) else ((deci_Text.f k x0 2).bind fun t401 => (if t401.size + 1 ≤ 9223372036854775807 then ((deci_Text.f k (wrap64 ((wrap64 ((wrap64 (x0 + (wrap64 (x1 * x2)))) + x2)) - 1)) 2).bind fun t402 => (if (t401 ++ (⟨#[58]⟩ : ByteArray)).size + t402.size ≤ 9223372036854775807 then (if ((t401 ++ (⟨#[58]⟩ : ByteArray)) ++ t402).size + 1 ≤ 9223372036854775807 then ((deci_Text.f k x2 2).bind fun t403 => (if (((t401 ++ (⟨#[58]⟩ : ByteArray)) ++ t402) ++ (⟨#[58]⟩ : ByteArray)).size + t403.size ≤ 9223372036854775807 then ((level_Parse.f k x7 2).bind fun bt404 => ((level_Parse.f k ((((t401 ++ (⟨#[58]⟩ : ByteArray)) ++ t402) ++ (⟨#[58]⟩ : ByteArray)) ++ t403) 2).bind fun bt408 => (if bt404.2 = 0 then (if bt408.2 = 0 then ((isohyetlaw18_same.f k bt404.1 bt408.1).bind fun t412 => (if t412 = true then (if (bt404.1.length : Int) = (wrap64 (x1 + 1)) then ((level_Print.f k bt408.1 2).bind fun t413 => (some (t413.toList == x7.toList))) else (some false)) else (some false))) else (some false)) else (some false)))) else (none))) else (none)) else (none))) else (none)))
def isohyetlaw18_LevelSteps.f (k : Nat) (a0 : Int) (a1 : Int) (a2 : Int) : Option (Bool) := (isohyetlaw18_fit.f k).bind fun t398 => (if t398 = true then (isohyetlaw18_LevelSteps.l0 k (wrap64 ((Go.bits .and .i64 a0 65535) - 32768)) (Go.bits .and .i64 a1 127) (wrap64 (1 + (Go.bits .and .i64 a2 4095))) (⟨#[]⟩ : ByteArray) (wrap64 ((Go.bits .and .i64 a1 127) + 1)) 0) else (some false))
theorem isohyetlaw18_LevelSteps.mono_l : ∀ k, (∀ y0 y1 y2 y3 y4 y5, LeO (isohyetlaw18_LevelSteps.l0 k y0 y1 y2 y3 y4 y5) (isohyetlaw18_LevelSteps.l0 (k + 1) y0 y1 y2 y3 y4 y5))
 | 0 => fun _ _ _ _ _ _ r h => by simp [isohyetlaw18_LevelSteps.l0] at h
 | k + 1 => by
  have ih0 := isohyetlaw18_LevelSteps.mono_l k
  ·intro y0 y1 y2 y3 y4 y5
   unfold isohyetlaw18_LevelSteps.l0
   repeat' first
   | (with_reducible exact ih0 _ _ _ _ _ _)
   | (with_reducible exact deci_Text.mono _ _ _)
   | (with_reducible exact isohyetlaw18_fit.mono _)
   | (with_reducible exact isohyetlaw18_same.mono _ _ _)
   | (with_reducible exact level_Parse.mono _ _ _)
   | (with_reducible exact level_Print.mono _ _ _)
   | (with_reducible exact LeO.refl _)
   | (with_reducible exact LeO.none _)
   | (with_reducible refine LeO.ite ?_ ?_)
   | (with_reducible refine LeO.bind ?_ (fun _ => ?_))
   | exact ih0 _ _ _ _ _ _
   | exact deci_Text.mono _ _ _
   | exact isohyetlaw18_fit.mono _
   | exact isohyetlaw18_same.mono _ _ _
   | exact level_Parse.mono _ _ _
   | exact level_Print.mono _ _ _
   | exact LeO.none _
   | refine LeO.ite ?_ ?_
   | refine LeO.bind ?_ (fun _ => ?_)
theorem isohyetlaw18_LevelSteps.mono : ∀ a0 a1 a2 k, LeO (isohyetlaw18_LevelSteps.f k a0 a1 a2) (isohyetlaw18_LevelSteps.f (k + 1) a0 a1 a2) := by
 intro a0 a1 a2 k
 have ih0 := isohyetlaw18_LevelSteps.mono_l k
 unfold isohyetlaw18_LevelSteps.f
 repeat' first
   | (with_reducible exact ih0 _ _ _ _ _ _)
   | (with_reducible exact deci_Text.mono _ _ _)
   | (with_reducible exact isohyetlaw18_fit.mono _)
   | (with_reducible exact isohyetlaw18_same.mono _ _ _)
   | (with_reducible exact level_Parse.mono _ _ _)
   | (with_reducible exact level_Print.mono _ _ _)
   | (with_reducible exact LeO.refl _)
   | (with_reducible exact LeO.none _)
   | (with_reducible refine LeO.ite ?_ ?_)
   | (with_reducible refine LeO.bind ?_ (fun _ => ?_))
   | exact ih0 _ _ _ _ _ _
   | exact deci_Text.mono _ _ _
   | exact isohyetlaw18_fit.mono _
   | exact isohyetlaw18_same.mono _ _ _
   | exact level_Parse.mono _ _ _
   | exact level_Print.mono _ _ _
   | exact LeO.none _
   | refine LeO.ite ?_ ?_
   | refine LeO.bind ?_ (fun _ => ?_)
set_option maxHeartbeats 8000000 in
set_option maxRecDepth 100000 in
theorem isohyetlaw18_LevelSteps.calls (k : Nat) (a0 : Int) (a1 : Int) (a2 : Int) (r : Bool) (w : World) (HT0 : MB.TabW w) (HTRUE : r = true) (h : isohyetlaw18_LevelSteps.f k a0 a1 a2 = some r) :
  Calls Tryz.prog 6 #[.int .i64 a0, .int .i64 a1, .int .i64 a2] w fun e w' => e = .returned (.bool r) ∧ Below w.heap.size w w' := by
 have HB := Aside0.mk (Below.refl w.heap.size w)
 have H : ((isohyetlaw18_fit.f k).bind fun t398 => (if t398 = true then (isohyetlaw18_LevelSteps.l0 k (wrap64 ((Go.bits .and .i64 a0 65535) - 32768)) (Go.bits .and .i64 a1 127) (wrap64 (1 + (Go.bits .and .i64 a2 4095))) (⟨#[]⟩ : ByteArray) (wrap64 ((Go.bits .and .i64 a1 127) + 1)) 0) else (some false))) = some r := h
 clear h
 replace H := Option.bind_eq_some_iff.mp H
 obtain ⟨t398, A40, H⟩ := H
 replace H : (if t398 = true then (isohyetlaw18_LevelSteps.l0 k (wrap64 ((Go.bits .and .i64 a0 65535) - 32768)) (Go.bits .and .i64 a1 127) (wrap64 (1 + (Go.bits .and .i64 a2 4095))) (⟨#[]⟩ : ByteArray) (wrap64 ((Go.bits .and .i64 a1 127) + 1)) 0) else (some false)) = some r := H
 have A4 := Aside0.mk A40
 clear A40
 by_cases c5 : t398 = true
 ·subst c5
  have H1 : (isohyetlaw18_LevelSteps.l0 k (wrap64 ((Go.bits .and .i64 a0 65535) - 32768)) (Go.bits .and .i64 a1 127) (wrap64 (1 + (Go.bits .and .i64 a2 4095))) (⟨#[]⟩ : ByteArray) (wrap64 ((Go.bits .and .i64 a1 127) + 1)) 0) = some r := by rw [if_pos rfl] at H; exact H
  clear H
  have H := H1
  clear H1
  have H' := Aside0.mk H
  clear H
  go_enter Tryz.func6, Tryz.ntmps6
  go_wp2_with (first | ((with_reducible refine gate_callee (f := 17) rfl ?_); refine goesL_ (some 14) rfl rfl Tryz.func17 (by kernel_rfl) rfl #[] rfl (by (try simp only [List.map_toArray, List.map_cons, List.map_nil]); first | done | rfl | (simp only [List.length_drop, List.length_take]; rfl)) ?_; (with_reducible refine (isohyetlaw18_fit.calls k  true _ (MB.tab_below HT0 (gB HB.out)) rfl A4.out).mono ?_); (try clear A4); rintro e w6 ⟨rfl, hb⟩; refine ⟨_, rfl, ?_⟩; have n0_ := Aside0.mk (below_step (gB HB.out) hb); clear HB; have HB := n0_; clear n0_; (try clear hb); (try clear hb2); (try clear hk); (try clear hi)))
  go_loopg [7, 26] k (fun kq v7 v26 w' => ∃ (x7_1 : ByteArray) (x26_1 : Int), v7 = .string x7_1 ∧ v26 = .int .i64 x26_1 ∧ Aside0 (isohyetlaw18_LevelSteps.l0 kq (wrap64 ((Go.bits .and .i64 a0 65535) - 32768)) (Go.bits .and .i64 a1 127) (wrap64 (1 + (Go.bits .and .i64 a2 4095))) x7_1 (wrap64 ((Go.bits .and .i64 a1 127) + 1)) x26_1 = some r) ∧ Aside0 (kq ≤ k) ∧ Aside0 (Below w.heap.size w w'))
  case atStart => exact ⟨((⟨#[]⟩ : ByteArray)), (0), (by first | rfl | (simp; done) | (simp [*]; done)), (by first | rfl | (simp; done) | (simp [*]; done)), H', ⟨Nat.le_refl _⟩, ⟨by repeat (first | (with_reducible first | exact HB.out | apply bA | apply bN | apply bD) | exact HB.out)⟩⟩
  case round =>
   clear H'
   try clear c1
   try clear p2
   try clear c5
   try clear c6
   try clear p6
   obtain ⟨x7_1, x26_1, rfl, rfl, HA, HK1, HB⟩ := hrel
   cases gk with
   | zero => exact absurd HA.out (by simp [isohyetlaw18_LevelSteps.l0])
   | succ k1 =>
    have H := HA.out
    clear HA
    simp only [isohyetlaw18_LevelSteps.l0] at H
    by_cases c7 : x26_1 < (wrap64 ((Go.bits .and .i64 a1 127) + 1))
    ·rw [if_pos c7] at H
     have c7b0 : decide (x26_1 < (wrap64 ((Go.bits .and .i64 a1 127) + 1))) = true := decide_eq_true c7
     clear c7
     by_cases c8 : x26_1 > 0
     ·rw [if_pos c8] at H
      have c8b0 : decide (0 < x26_1) = true := decide_eq_true c8
      clear c8
      by_cases c9 : x7_1.size + 1 ≤ 9223372036854775807
      ·rw [if_pos c9] at H
       have c9b0 := eq_true c9
       have c9b1 : decide (x7_1.size + 1 ≤ 9223372036854775807) = true := decide_eq_true c9
       try have c9b2 : (9223372036854775807 < x7_1.size + 1) = False := eq_false (Nat.not_lt.2 c9)
       replace H := Option.bind_eq_some_iff.mp H
       obtain ⟨t399, A100, H⟩ := H
       replace H : (if (x7_1 ++ (⟨#[44]⟩ : ByteArray)).size + t399.size ≤ 9223372036854775807 then (isohyetlaw18_LevelSteps.l0 k1 (wrap64 ((Go.bits .and .i64 a0 65535) - 32768)) (Go.bits .and .i64 a1 127) (wrap64 (1 + (Go.bits .and .i64 a2 4095))) ((x7_1 ++ (⟨#[44]⟩ : ByteArray)) ++ t399) (wrap64 ((Go.bits .and .i64 a1 127) + 1)) (wrap64 (x26_1 + 1))) else (none)) = some r := H
       have A10 := Aside0.mk A100
       clear A100
       by_cases c11 : (x7_1 ++ (⟨#[44]⟩ : ByteArray)).size + t399.size ≤ 9223372036854775807
       ·rw [if_pos c11] at H
        have c11b0 := eq_true c11
        have c11b1 : decide ((x7_1 ++ (⟨#[44]⟩ : ByteArray)).size + t399.size ≤ 9223372036854775807) = true := decide_eq_true c11
        try have c11b2 : (9223372036854775807 < (x7_1 ++ (⟨#[44]⟩ : ByteArray)).size + t399.size) = False := eq_false (Nat.not_lt.2 c11)
        have c11t : (9223372036854775807 < x7_1.size + 1 + t399.size) = False := eq_false (by have h := of_eq_true c11b0; simp only [ByteArray.size_append] at h; have h0_ : (⟨#[44]⟩ : ByteArray).size = 1 := rfl; omega)
        have H' := Aside0.mk H
        clear H
        go_wp2_with (first | ((with_reducible refine gate_callee (f := 19) rfl ?_); refine goesL_ (some 39) rfl rfl Tryz.func19 (by kernel_rfl) rfl #[.int .i64 (wrap64 ((wrap64 ((Go.bits .and .i64 a0 65535) - 32768)) + (wrap64 (x26_1 * (wrap64 (1 + (Go.bits .and .i64 a2 4095))))))), .int .i64 2] rfl (by (try simp only [List.map_toArray, List.map_cons, List.map_nil]); first | done | rfl | (simp only [List.length_drop, List.length_take]; rfl)) ?_; (with_reducible refine (deci_Text.calls k1 (wrap64 ((wrap64 ((Go.bits .and .i64 a0 65535) - 32768)) + (wrap64 (x26_1 * (wrap64 (1 + (Go.bits .and .i64 a2 4095))))))) 2 t399 _ A10.out).mono ?_); (try clear A10); rintro e w12 ⟨rfl, hb⟩; refine ⟨_, rfl, ?_⟩; have n0_ := Aside0.mk (below_step (gB HB.out) hb); clear HB; have HB := n0_; clear n0_; (try clear hb); (try clear hb2); (try clear hk); (try clear hi)))
        go_roundg k1
        case measure => have := HK1.out; omega
        case rel => exact ⟨((x7_1 ++ (⟨#[44]⟩ : ByteArray)) ++ t399), (wrap64 (x26_1 + 1)), (by first | rfl | (simp; done) | (simp [*]; done)), (by first | rfl | (simp; done) | (simp [*]; done)), H', ⟨by have := HK1.out; omega⟩, ⟨by repeat (first | (with_reducible first | exact HB.out | apply bA | apply bN | apply bD) | exact HB.out)⟩⟩
       ·rw [if_neg c11] at H
        exact absurd H (by simp)
      ·rw [if_neg c9] at H
       exact absurd H (by simp)
     ·rw [if_neg c8] at H
      have c8b0 : decide (0 < x26_1) = false := decide_eq_false c8
      clear c8
      replace H := Option.bind_eq_some_iff.mp H
      obtain ⟨t400, A130, H⟩ := H
      replace H : (if x7_1.size + t400.size ≤ 9223372036854775807 then (isohyetlaw18_LevelSteps.l0 k1 (wrap64 ((Go.bits .and .i64 a0 65535) - 32768)) (Go.bits .and .i64 a1 127) (wrap64 (1 + (Go.bits .and .i64 a2 4095))) (x7_1 ++ t400) (wrap64 ((Go.bits .and .i64 a1 127) + 1)) (wrap64 (x26_1 + 1))) else (none)) = some r := H
      have A13 := Aside0.mk A130
      clear A130
      by_cases c14 : x7_1.size + t400.size ≤ 9223372036854775807
      ·rw [if_pos c14] at H
       have c14b0 := eq_true c14
       have c14b1 : decide (x7_1.size + t400.size ≤ 9223372036854775807) = true := decide_eq_true c14
       try have c14b2 : (9223372036854775807 < x7_1.size + t400.size) = False := eq_false (Nat.not_lt.2 c14)
       have H' := Aside0.mk H
       clear H
       go_wp2_with (first | ((with_reducible refine gate_callee (f := 19) rfl ?_); refine goesL_ (some 39) rfl rfl Tryz.func19 (by kernel_rfl) rfl #[.int .i64 (wrap64 ((wrap64 ((Go.bits .and .i64 a0 65535) - 32768)) + (wrap64 (x26_1 * (wrap64 (1 + (Go.bits .and .i64 a2 4095))))))), .int .i64 2] rfl (by (try simp only [List.map_toArray, List.map_cons, List.map_nil]); first | done | rfl | (simp only [List.length_drop, List.length_take]; rfl)) ?_; (with_reducible refine (deci_Text.calls k1 (wrap64 ((wrap64 ((Go.bits .and .i64 a0 65535) - 32768)) + (wrap64 (x26_1 * (wrap64 (1 + (Go.bits .and .i64 a2 4095))))))) 2 t400 _ A13.out).mono ?_); (try clear A13); rintro e w15 ⟨rfl, hb⟩; refine ⟨_, rfl, ?_⟩; have n0_ := Aside0.mk (below_step (gB HB.out) hb); clear HB; have HB := n0_; clear n0_; (try clear hb); (try clear hb2); (try clear hk); (try clear hi)))
       go_roundg k1
       case measure => have := HK1.out; omega
       case rel => exact ⟨(x7_1 ++ t400), (wrap64 (x26_1 + 1)), (by first | rfl | (simp; done) | (simp [*]; done)), (by first | rfl | (simp; done) | (simp [*]; done)), H', ⟨by have := HK1.out; omega⟩, ⟨by repeat (first | (with_reducible first | exact HB.out | apply bA | apply bN | apply bD) | exact HB.out)⟩⟩
      ·rw [if_neg c14] at H
       exact absurd H (by simp)
    ·rw [if_neg c7] at H
     have c7b0 : decide (x26_1 < (wrap64 ((Go.bits .and .i64 a1 127) + 1))) = false := decide_eq_false c7
     clear c7
     replace H := Option.bind_eq_some_iff.mp H
     obtain ⟨t401, A160, H⟩ := H
     replace H : (if t401.size + 1 ≤ 9223372036854775807 then ((deci_Text.f k1 (wrap64 ((wrap64 ((wrap64 ((wrap64 ((Go.bits .and .i64 a0 65535) - 32768)) + (wrap64 ((Go.bits .and .i64 a1 127) * (wrap64 (1 + (Go.bits .and .i64 a2 4095))))))) + (wrap64 (1 + (Go.bits .and .i64 a2 4095))))) - 1)) 2).bind fun t402 => (if (t401 ++ (⟨#[58]⟩ : ByteArray)).size + t402.size ≤ 9223372036854775807 then (if ((t401 ++ (⟨#[58]⟩ : ByteArray)) ++ t402).size + 1 ≤ 9223372036854775807 then ((deci_Text.f k1 (wrap64 (1 + (Go.bits .and .i64 a2 4095))) 2).bind fun t403 => (if (((t401 ++ (⟨#[58]⟩ : ByteArray)) ++ t402) ++ (⟨#[58]⟩ : ByteArray)).size + t403.size ≤ 9223372036854775807 then ((level_Parse.f k1 x7_1 2).bind fun bt404 => ((level_Parse.f k1 ((((t401 ++ (⟨#[58]⟩ : ByteArray)) ++ t402) ++ (⟨#[58]⟩ : ByteArray)) ++ t403) 2).bind fun bt408 => (if bt404.2 = 0 then (if bt408.2 = 0 then ((isohyetlaw18_same.f k1 bt404.1 bt408.1).bind fun t412 => (if t412 = true then (if (bt404.1.length : Int) = (wrap64 ((Go.bits .and .i64 a1 127) + 1)) then ((level_Print.f k1 bt408.1 2).bind fun t413 => (some (t413.toList == x7_1.toList))) else (some false)) else (some false))) else (some false)) else (some false)))) else (none))) else (none)) else (none))) else (none)) = some r := H
     have A16 := Aside0.mk A160
     clear A160
     by_cases c17 : t401.size + 1 ≤ 9223372036854775807
     ·rw [if_pos c17] at H
      have c17b0 := eq_true c17
      have c17b1 : decide (t401.size + 1 ≤ 9223372036854775807) = true := decide_eq_true c17
      try have c17b2 : (9223372036854775807 < t401.size + 1) = False := eq_false (Nat.not_lt.2 c17)
      replace H := Option.bind_eq_some_iff.mp H
      obtain ⟨t402, A180, H⟩ := H
      replace H : (if (t401 ++ (⟨#[58]⟩ : ByteArray)).size + t402.size ≤ 9223372036854775807 then (if ((t401 ++ (⟨#[58]⟩ : ByteArray)) ++ t402).size + 1 ≤ 9223372036854775807 then ((deci_Text.f k1 (wrap64 (1 + (Go.bits .and .i64 a2 4095))) 2).bind fun t403 => (if (((t401 ++ (⟨#[58]⟩ : ByteArray)) ++ t402) ++ (⟨#[58]⟩ : ByteArray)).size + t403.size ≤ 9223372036854775807 then ((level_Parse.f k1 x7_1 2).bind fun bt404 => ((level_Parse.f k1 ((((t401 ++ (⟨#[58]⟩ : ByteArray)) ++ t402) ++ (⟨#[58]⟩ : ByteArray)) ++ t403) 2).bind fun bt408 => (if bt404.2 = 0 then (if bt408.2 = 0 then ((isohyetlaw18_same.f k1 bt404.1 bt408.1).bind fun t412 => (if t412 = true then (if (bt404.1.length : Int) = (wrap64 ((Go.bits .and .i64 a1 127) + 1)) then ((level_Print.f k1 bt408.1 2).bind fun t413 => (some (t413.toList == x7_1.toList))) else (some false)) else (some false))) else (some false)) else (some false)))) else (none))) else (none)) else (none)) = some r := H
      have A18 := Aside0.mk A180
      clear A180
      by_cases c19 : (t401 ++ (⟨#[58]⟩ : ByteArray)).size + t402.size ≤ 9223372036854775807
      ·rw [if_pos c19] at H
       have c19b0 := eq_true c19
       have c19b1 : decide ((t401 ++ (⟨#[58]⟩ : ByteArray)).size + t402.size ≤ 9223372036854775807) = true := decide_eq_true c19
       try have c19b2 : (9223372036854775807 < (t401 ++ (⟨#[58]⟩ : ByteArray)).size + t402.size) = False := eq_false (Nat.not_lt.2 c19)
       have c19t : (9223372036854775807 < t401.size + 1 + t402.size) = False := eq_false (by have h := of_eq_true c19b0; simp only [ByteArray.size_append] at h; have h0_ : (⟨#[58]⟩ : ByteArray).size = 1 := rfl; omega)
       by_cases c20 : ((t401 ++ (⟨#[58]⟩ : ByteArray)) ++ t402).size + 1 ≤ 9223372036854775807
       ·rw [if_pos c20] at H
        have c20b0 := eq_true c20
        have c20b1 : decide (((t401 ++ (⟨#[58]⟩ : ByteArray)) ++ t402).size + 1 ≤ 9223372036854775807) = true := decide_eq_true c20
        try have c20b2 : (9223372036854775807 < ((t401 ++ (⟨#[58]⟩ : ByteArray)) ++ t402).size + 1) = False := eq_false (Nat.not_lt.2 c20)
        have c20t : (9223372036854775807 < t401.size + 1 + t402.size + 1) = False := eq_false (by have h := of_eq_true c20b0; simp only [ByteArray.size_append] at h; have h0_ : (⟨#[58]⟩ : ByteArray).size = 1 := rfl; omega)
        replace H := Option.bind_eq_some_iff.mp H
        obtain ⟨t403, A210, H⟩ := H
        replace H : (if (((t401 ++ (⟨#[58]⟩ : ByteArray)) ++ t402) ++ (⟨#[58]⟩ : ByteArray)).size + t403.size ≤ 9223372036854775807 then ((level_Parse.f k1 x7_1 2).bind fun bt404 => ((level_Parse.f k1 ((((t401 ++ (⟨#[58]⟩ : ByteArray)) ++ t402) ++ (⟨#[58]⟩ : ByteArray)) ++ t403) 2).bind fun bt408 => (if bt404.2 = 0 then (if bt408.2 = 0 then ((isohyetlaw18_same.f k1 bt404.1 bt408.1).bind fun t412 => (if t412 = true then (if (bt404.1.length : Int) = (wrap64 ((Go.bits .and .i64 a1 127) + 1)) then ((level_Print.f k1 bt408.1 2).bind fun t413 => (some (t413.toList == x7_1.toList))) else (some false)) else (some false))) else (some false)) else (some false)))) else (none)) = some r := H
        have A21 := Aside0.mk A210
        clear A210
        by_cases c22 : (((t401 ++ (⟨#[58]⟩ : ByteArray)) ++ t402) ++ (⟨#[58]⟩ : ByteArray)).size + t403.size ≤ 9223372036854775807
        ·rw [if_pos c22] at H
         have c22b0 := eq_true c22
         have c22b1 : decide ((((t401 ++ (⟨#[58]⟩ : ByteArray)) ++ t402) ++ (⟨#[58]⟩ : ByteArray)).size + t403.size ≤ 9223372036854775807) = true := decide_eq_true c22
         try have c22b2 : (9223372036854775807 < (((t401 ++ (⟨#[58]⟩ : ByteArray)) ++ t402) ++ (⟨#[58]⟩ : ByteArray)).size + t403.size) = False := eq_false (Nat.not_lt.2 c22)
         have c22t : (9223372036854775807 < t401.size + 1 + t402.size + 1 + t403.size) = False := eq_false (by have h := of_eq_true c22b0; simp only [ByteArray.size_append] at h; have h0_ : (⟨#[58]⟩ : ByteArray).size = 1 := rfl; omega)
         replace H := Option.bind_eq_some_iff.mp H
         obtain ⟨⟨t404, t405⟩, A230, H⟩ := H
         replace H : ((level_Parse.f k1 ((((t401 ++ (⟨#[58]⟩ : ByteArray)) ++ t402) ++ (⟨#[58]⟩ : ByteArray)) ++ t403) 2).bind fun bt408 => (if t405 = 0 then (if bt408.2 = 0 then ((isohyetlaw18_same.f k1 t404 bt408.1).bind fun t412 => (if t412 = true then (if (t404.length : Int) = (wrap64 ((Go.bits .and .i64 a1 127) + 1)) then ((level_Print.f k1 bt408.1 2).bind fun t413 => (some (t413.toList == x7_1.toList))) else (some false)) else (some false))) else (some false)) else (some false))) = some r := H
         have A23 := Aside0.mk A230
         clear A230
         replace H := Option.bind_eq_some_iff.mp H
         obtain ⟨⟨t408, t409⟩, A240, H⟩ := H
         replace H : (if t405 = 0 then (if t409 = 0 then ((isohyetlaw18_same.f k1 t404 t408).bind fun t412 => (if t412 = true then (if (t404.length : Int) = (wrap64 ((Go.bits .and .i64 a1 127) + 1)) then ((level_Print.f k1 t408 2).bind fun t413 => (some (t413.toList == x7_1.toList))) else (some false)) else (some false))) else (some false)) else (some false)) = some r := H
         have A24 := Aside0.mk A240
         clear A240
         by_cases c25 : t405 = 0
         ·rw [if_pos c25] at H
          have c25b0 : (t405 == 0) = true := beq_iff_eq.mpr c25
          have c25b1 : (t405 != 0) = false := bne_eq_false_iff_eq.mpr c25
          clear c25
          by_cases c26 : t409 = 0
          ·rw [if_pos c26] at H
           have c26b0 : (t409 == 0) = true := beq_iff_eq.mpr c26
           have c26b1 : (t409 != 0) = false := bne_eq_false_iff_eq.mpr c26
           clear c26
           replace H := Option.bind_eq_some_iff.mp H
           obtain ⟨t412, A270, H⟩ := H
           replace H : (if t412 = true then (if (t404.length : Int) = (wrap64 ((Go.bits .and .i64 a1 127) + 1)) then ((level_Print.f k1 t408 2).bind fun t413 => (some (t413.toList == x7_1.toList))) else (some false)) else (some false)) = some r := H
           have A27 := Aside0.mk A270
           clear A270
           by_cases c28 : t412 = true
           ·subst c28
            have H1 : (if (t404.length : Int) = (wrap64 ((Go.bits .and .i64 a1 127) + 1)) then ((level_Print.f k1 t408 2).bind fun t413 => (some (t413.toList == x7_1.toList))) else (some false)) = some r := by rw [if_pos rfl] at H; exact H
            clear H
            have H := H1
            clear H1
            by_cases c29 : (t404.length : Int) = (wrap64 ((Go.bits .and .i64 a1 127) + 1))
            ·rw [if_pos c29] at H
             have c29b0 : ((t404.length : Int) == (wrap64 ((Go.bits .and .i64 a1 127) + 1))) = true := beq_iff_eq.mpr c29
             have c29b1 : ((t404.length : Int) != (wrap64 ((Go.bits .and .i64 a1 127) + 1))) = false := bne_eq_false_iff_eq.mpr c29
             clear c29
             replace H := Option.bind_eq_some_iff.mp H
             obtain ⟨t413, A300, H⟩ := H
             replace H : (some (t413.toList == x7_1.toList)) = some r := H
             have A30 := Aside0.mk A300
             clear A300
             obtain rfl := Option.some.inj H
             go_wp2_with (first | ((with_reducible refine gate_callee (f := 19) rfl ?_); refine goesL_ (some 43) rfl rfl Tryz.func19 (by kernel_rfl) rfl #[.int .i64 (wrap64 ((Go.bits .and .i64 a0 65535) - 32768)), .int .i64 2] rfl (by (try simp only [List.map_toArray, List.map_cons, List.map_nil]); first | done | rfl | (simp only [List.length_drop, List.length_take]; rfl)) ?_; (with_reducible refine (deci_Text.calls k1 (wrap64 ((Go.bits .and .i64 a0 65535) - 32768)) 2 t401 _ A16.out).mono ?_); (try clear A16); rintro e w31 ⟨rfl, hb⟩; refine ⟨_, rfl, ?_⟩; have n0_ := Aside0.mk (below_step (by repeat (first | (with_reducible first | exact HB.out | apply below_alloc | apply pw_below_drewN | apply below_drew1) | exact HB.out)) hb); clear HB; have HB := n0_; clear n0_; (try clear hb); (try clear hb2); (try clear hk); (try clear hi)) | ((with_reducible refine gate_callee (f := 19) rfl ?_); refine goesL_ (some 53) rfl rfl Tryz.func19 (by kernel_rfl) rfl #[.int .i64 (wrap64 ((wrap64 ((wrap64 ((wrap64 ((Go.bits .and .i64 a0 65535) - 32768)) + (wrap64 ((Go.bits .and .i64 a1 127) * (wrap64 (1 + (Go.bits .and .i64 a2 4095))))))) + (wrap64 (1 + (Go.bits .and .i64 a2 4095))))) - 1)), .int .i64 2] rfl (by (try simp only [List.map_toArray, List.map_cons, List.map_nil]); first | done | rfl | (simp only [List.length_drop, List.length_take]; rfl)) ?_; (with_reducible refine (deci_Text.calls k1 (wrap64 ((wrap64 ((wrap64 ((wrap64 ((Go.bits .and .i64 a0 65535) - 32768)) + (wrap64 ((Go.bits .and .i64 a1 127) * (wrap64 (1 + (Go.bits .and .i64 a2 4095))))))) + (wrap64 (1 + (Go.bits .and .i64 a2 4095))))) - 1)) 2 t402 _ A18.out).mono ?_); (try clear A18); rintro e w32 ⟨rfl, hb⟩; refine ⟨_, rfl, ?_⟩; have n0_ := Aside0.mk (below_step (by repeat (first | (with_reducible first | exact HB.out | apply below_alloc | apply pw_below_drewN | apply below_drew1) | exact HB.out)) hb); clear HB; have HB := n0_; clear n0_; (try clear hb); (try clear hb2); (try clear hk); (try clear hi)) | ((with_reducible refine gate_callee (f := 19) rfl ?_); refine goesL_ (some 57) rfl rfl Tryz.func19 (by kernel_rfl) rfl #[.int .i64 (wrap64 (1 + (Go.bits .and .i64 a2 4095))), .int .i64 2] rfl (by (try simp only [List.map_toArray, List.map_cons, List.map_nil]); first | done | rfl | (simp only [List.length_drop, List.length_take]; rfl)) ?_; (with_reducible refine (deci_Text.calls k1 (wrap64 (1 + (Go.bits .and .i64 a2 4095))) 2 t403 _ A21.out).mono ?_); (try clear A21); rintro e w33 ⟨rfl, hb⟩; refine ⟨_, rfl, ?_⟩; have n0_ := Aside0.mk (below_step (by repeat (first | (with_reducible first | exact HB.out | apply below_alloc | apply pw_below_drewN | apply below_drew1) | exact HB.out)) hb); clear HB; have HB := n0_; clear n0_; (try clear hb); (try clear hb2); (try clear hk); (try clear hi)) | ((with_reducible refine gate_callee (f := 20) rfl ?_); refine goesL_ (some 61) rfl rfl Tryz.func20 (by kernel_rfl) rfl #[.string x7_1, .int .i64 2] rfl (by (try simp only [List.map_toArray, List.map_cons, List.map_nil]); first | done | rfl | (simp only [List.length_drop, List.length_take]; rfl)) ?_; (with_reducible refine (level_Parse.calls k1 x7_1 2 t404 t405 _ (MB.tab_below HT0 (by repeat (first | (with_reducible first | exact HB.out | apply below_alloc | apply pw_below_drewN | apply below_drew1) | exact HB.out))) A23.out).mono ?_); (try clear A23); rintro e w34 ⟨v406, rfl, ho0, hb⟩; refine ⟨_, rfl, ?_⟩; have n0_ := Aside0.mk (Kd.R_lower ho0 (below_size (by repeat (first | (with_reducible first | exact HB.out | apply below_alloc | apply pw_below_drewN | apply below_drew1) | exact HB.out)))); have n1_ := Aside0.mk (below_step (by repeat (first | (with_reducible first | exact HB.out | apply below_alloc | apply pw_below_drewN | apply below_drew1) | exact HB.out)) hb); clear HB; have HO407 := n0_; have HB := n1_; clear n0_ n1_; (try clear hb); (try clear hb2); (try clear hk); (try clear hi); (try clear ho0)) | ((with_reducible refine gate_callee (f := 20) rfl ?_); refine goesL_ (some 66) rfl rfl Tryz.func20 (by kernel_rfl) rfl #[.string ((((t401 ++ (⟨#[58]⟩ : ByteArray)) ++ t402) ++ (⟨#[58]⟩ : ByteArray)) ++ t403), .int .i64 2] rfl (by (try simp only [List.map_toArray, List.map_cons, List.map_nil]); first | done | rfl | (simp only [List.length_drop, List.length_take]; rfl)) ?_; (with_reducible refine (level_Parse.calls k1 ((((t401 ++ (⟨#[58]⟩ : ByteArray)) ++ t402) ++ (⟨#[58]⟩ : ByteArray)) ++ t403) 2 t408 t409 _ (MB.tab_below HT0 (by repeat (first | (with_reducible first | exact HB.out | apply below_alloc | apply pw_below_drewN | apply below_drew1) | exact HB.out))) A24.out).mono ?_); (try clear A24); rintro e w35 ⟨v410, rfl, ho0, hb⟩; refine ⟨_, rfl, ?_⟩; have n0_ := Aside0.mk (Kd.R_elder' (by (with_reducible repeat (first | apply Kd.R_alloc | apply Kd.R_drewN | apply Kd.R_drew)); exact HO407.out) (Kd.R_base ho0) hb); have n1_ := Aside0.mk (Kd.R_lower (Kd.R_new' ho0 (Kd.R_lt (by (with_reducible repeat (first | apply Kd.R_alloc | apply Kd.R_drewN | apply Kd.R_drew)); exact HO407.out))) (below_size (by repeat (first | (with_reducible first | exact HB.out | apply below_alloc | apply pw_below_drewN | apply below_drew1) | exact HB.out)))); have n2_ := Aside0.mk (below_step (by repeat (first | (with_reducible first | exact HB.out | apply below_alloc | apply pw_below_drewN | apply below_drew1) | exact HB.out)) hb); clear HO407; clear HB; have HO407 := n0_; have HO411 := n1_; have HB := n2_; clear n0_ n1_ n2_; (try clear hb); (try clear hb2); (try clear hk); (try clear hi); (try clear ho0); obtain ⟨Ao36, co36, eo36⟩ := Kd.R_slice HO407.out; subst eo36; obtain ⟨Ao37, co37, eo37⟩ := Kd.R_slice HO411.out; subst eo37) | (go_at_call 22; (with_reducible refine (isohyetlaw18_same.calls k1 _ _ t404 _ _ t408 true _ ?side1 ?side2 ?side3 ?side4 A27.out).mono ?_); (case side1 => repeat (first | exact (Kd.R_reads' HO407.out).2.2 | (with_reducible refine Kd.C_alloc ?_ _) | (with_reducible refine Kd.C_drewN ?_ _) | (with_reducible refine Kd.C_drew ?_))); (case side2 => exact (Kd.R_reads' HO407.out).2.1); (case side3 => repeat (first | exact (Kd.R_reads' HO411.out).2.2 | (with_reducible refine Kd.C_alloc ?_ _) | (with_reducible refine Kd.C_drewN ?_ _) | (with_reducible refine Kd.C_drew ?_))); (case side4 => exact (Kd.R_reads' HO411.out).2.1); (try clear A27); rintro e w' ⟨rfl, ⟨nd, rfl⟩⟩) | (go_at_call 21; (with_reducible refine (level_Print.calls k1 _ _ t408 2 t413 _ ?side1 ?side2 A30.out).mono ?_); (case side1 => repeat (first | exact (Kd.R_reads' HO411.out).2.2 | (with_reducible refine Kd.C_alloc ?_ _) | (with_reducible refine Kd.C_drewN ?_ _) | (with_reducible refine Kd.C_drew ?_))); (case side2 => exact (Kd.R_reads' HO411.out).2.1); (try clear A30); rintro e w38 ⟨rfl, hb⟩; have n0_ := Aside0.mk (Kd.R_below (by (with_reducible repeat (first | apply Kd.R_alloc | apply Kd.R_drewN | apply Kd.R_drew)); exact HO407.out) hb); have n1_ := Aside0.mk (Kd.R_below (by (with_reducible repeat (first | apply Kd.R_alloc | apply Kd.R_drewN | apply Kd.R_drew)); exact HO411.out) hb); have n2_ := Aside0.mk (below_step (by repeat (first | (with_reducible first | exact HB.out | apply below_alloc | apply pw_below_drewN | apply below_drew1) | exact HB.out)) hb); clear HO407; clear HO411; clear HB; have HO407 := n0_; have HO411 := n1_; have HB := n2_; clear n0_ n1_ n2_; (try clear hb); (try clear hb2); (try clear hk); (try clear hi)))
             go_ret
             exact ⟨by first | rfl | (simp [errW_none, errW_some] <;> rfl) | (simp [*, errW_none, errW_some] <;> rfl), by repeat (first | (with_reducible first | exact HB.out | apply bA | apply bN | apply bD) | exact HB.out)⟩
            ·rw [if_neg c29] at H
             have c29b0 : ((t404.length : Int) == (wrap64 ((Go.bits .and .i64 a1 127) + 1))) = false := beq_eq_false_iff_ne.mpr c29
             have c29b1 : ((t404.length : Int) != (wrap64 ((Go.bits .and .i64 a1 127) + 1))) = true := bne_iff_ne.mpr c29
             exact absurd ((Option.some.inj H).trans HTRUE) (by decide)
           ·replace c28 := Bool.eq_false_iff.mpr c28
            subst c28
            have H1 : (some false) = some r := by rw [if_neg (show ¬ (false = true) by decide)] at H; exact H
            clear H
            have H := H1
            clear H1
            exact absurd ((Option.some.inj H).trans HTRUE) (by decide)
          ·rw [if_neg c26] at H
           have c26b0 : (t409 == 0) = false := beq_eq_false_iff_ne.mpr c26
           have c26b1 : (t409 != 0) = true := bne_iff_ne.mpr c26
           exact absurd ((Option.some.inj H).trans HTRUE) (by decide)
         ·rw [if_neg c25] at H
          have c25b0 : (t405 == 0) = false := beq_eq_false_iff_ne.mpr c25
          have c25b1 : (t405 != 0) = true := bne_iff_ne.mpr c25
          exact absurd ((Option.some.inj H).trans HTRUE) (by decide)
        ·rw [if_neg c22] at H
         exact absurd H (by simp)
       ·rw [if_neg c20] at H
        exact absurd H (by simp)
      ·rw [if_neg c19] at H
       exact absurd H (by simp)
     ·rw [if_neg c17] at H
      exact absurd H (by simp)
 ·replace c5 := Bool.eq_false_iff.mpr c5
  subst c5
  have H1 : (some false) = some r := by rw [if_neg (show ¬ (false = true) by decide)] at H; exact H
  clear H
  have H := H1
  clear H1
  exact absurd ((Option.some.inj H).trans HTRUE) (by decide)

end Go.Proofs.YtpdgjhaimfpacaaGreatDoor.M
