-- By drive.py (this session's program), out of the translation. Lean checks it.
import Derived.Test.YtknekneicecgiaaGreatDoorA0
import Derived.Test.YtknekneicecgiaaGreatDoorE5
import Derived.Test.YtknekneicecgiaaGreatDoorE7
import Derived.Test.YtknekneicecgiaaGreatDoorX9
import Derived.Test.YtknekneicecgiaaGreatDoorX8
namespace Go.Proofs.YtknekneicecgiaaGreatDoor.M
open Go.Proofs.YtknekneicecgiaaGreatDoor.MB Go.Proofs.YtknekneicecgiaaGreatDoor
open Go.RowKit Go.Proofs.YtknekneicecgiaaGreatDoorW.PrintWords Go.Proofs.YtknekneicecgiaaGreatDoorW.PrintLast Go.Proofs.YtknekneicecgiaaGreatDoorW.PrintMore
attribute [local go_sem] max2_int min2_int max_two min_two max_three min_three max_four min_four   -- for this text's walks alone
set_option linter.unusedVariables false
set_option linter.unusedSimpArgs false
attribute [local go_sem] add64_run sub64_run

attribute [local go_sem high] eqA34

/-! ### isohyetlaw25_DataRemarks: function 5 -/
mutual
def isohyetlaw25_DataRemarks.l0 : Nat → Int → List (S34) → ByteArray → List (S34) → Int → Int → Option (Bool)
 | 0, _, _, _, _, _, _ => none
 | k + 1, x1, x5, x6, x22, x23, x24 => if x24 < x23 then (if 0 ≤ x24 then (if x24 < (x22.length : Int) then (if x5.length < 5864062014805 then ((some (([(⟨#[]⟩ : ByteArray), (⟨#[10]⟩ : ByteArray), (⟨#[35, 32, 49, 32, 50, 32, 51, 10]⟩ : ByteArray), (⟨#[32, 9, 13, 10]⟩ : ByteArray)] : List ByteArray) : List ByteArray)).bind fun y364 => (if 0 ≤ (Int.tmod x24 16) then (if 0 ≤ (Go.bits .and .i64 (shr .i64 x1 (Int.tmod x24 16)) 3) then (if (Go.bits .and .i64 (shr .i64 x1 (Int.tmod x24 16)) 3) < (y364.length : Int) then ((some (([(⟨#[32]⟩ : ByteArray), (⟨#[9]⟩ : ByteArray), (⟨#[]⟩ : ByteArray)] : List ByteArray) : List ByteArray)).bind fun y368 => (if 0 ≤ (Int.tmod x24 3) then (if (Int.tmod x24 3) < (y368.length : Int) then (if (rdOf ByteArray.empty y364 (Go.bits .and .i64 (shr .i64 x1 (Int.tmod x24 16)) 3)).size + (rdOf ByteArray.empty y368 (Int.tmod x24 3)).size ≤ 9223372036854775807 then ((deci_Text.f k (Go.bits .and .i64 ((rd_T34 x22 x24).f0) 65535) 1).bind fun t372 => (if ((rdOf ByteArray.empty y364 (Go.bits .and .i64 (shr .i64 x1 (Int.tmod x24 16)) 3)) ++ (rdOf ByteArray.empty y368 (Int.tmod x24 3))).size + t372.size ≤ 9223372036854775807 then (if (((rdOf ByteArray.empty y364 (Go.bits .and .i64 (shr .i64 x1 (Int.tmod x24 16)) 3)) ++ (rdOf ByteArray.empty y368 (Int.tmod x24 3))) ++ t372).size + 2 ≤ 9223372036854775807 then ((deci_Text.f k (wrap64 (-(Go.bits .and .i64 ((rd_T34 x22 x24).f1) 65535))) 1).bind fun t373 => (if ((((rdOf ByteArray.empty y364 (Go.bits .and .i64 (shr .i64 x1 (Int.tmod x24 16)) 3)) ++ (rdOf ByteArray.empty y368 (Int.tmod x24 3))) ++ t372) ++ (⟨#[32, 32]⟩ : ByteArray)).size + t373.size ≤ 9223372036854775807 then (if (((((rdOf ByteArray.empty y364 (Go.bits .and .i64 (shr .i64 x1 (Int.tmod x24 16)) 3)) ++ (rdOf ByteArray.empty y368 (Int.tmod x24 3))) ++ t372) ++ (⟨#[32, 32]⟩ : ByteArray)) ++ t373).size + 1 ≤ 9223372036854775807 then ((deci_Text.f k (Go.bits .and .i64 ((rd_T34 x22 x24).f2) 255) 0).bind fun t374 => (if ((((((rdOf ByteArray.empty y364 (Go.bits .and .i64 (shr .i64 x1 (Int.tmod x24 16)) 3)) ++ (rdOf ByteArray.empty y368 (Int.tmod x24 3))) ++ t372) ++ (⟨#[32, 32]⟩ : ByteArray)) ++ t373) ++ (⟨#[9]⟩ : ByteArray)).size + t374.size ≤ 9223372036854775807 then ((some (([(⟨#[]⟩ : ByteArray), (⟨#[32]⟩ : ByteArray), (⟨#[13]⟩ : ByteArray)] : List ByteArray) : List ByteArray)).bind fun y375 => (if 0 ≤ (Int.tmod (wrap64 ((Go.bits .and .i64 x1 255) + x24)) 3) then (if (Int.tmod (wrap64 ((Go.bits .and .i64 x1 255) + x24)) 3) < (y375.length : Int) then (if (((((((rdOf ByteArray.empty y364 (Go.bits .and .i64 (shr .i64 x1 (Int.tmod x24 16)) 3)) ++ (rdOf ByteArray.empty y368 (Int.tmod x24 3))) ++ t372) ++ (⟨#[32, 32]⟩ : ByteArray)) ++ t373) ++ (⟨#[9]⟩ : ByteArray)) ++ t374).size + (rdOf ByteArray.empty y375 (Int.tmod (wrap64 ((Go.bits .and .i64 x1 255) + x24)) 3)).size ≤ 9223372036854775807 then (if ((((((((rdOf ByteArray.empty y364 (Go.bits .and .i64 (shr .i64 x1 (Int.tmod x24 16)) 3)) ++ (rdOf ByteArray.empty y368 (Int.tmod x24 3))) ++ t372) ++ (⟨#[32, 32]⟩ : ByteArray)) ++ t373) ++ (⟨#[9]⟩ : ByteArray)) ++ t374) ++ (rdOf ByteArray.empty y375 (Int.tmod (wrap64 ((Go.bits .and .i64 x1 255) + x24)) 3))).size + 1 ≤ 9223372036854775807 then (if x6.size + (((((((((rdOf ByteArray.empty y364 (Go.bits .and .i64 (shr .i64 x1 (Int.tmod x24 16)) 3)) ++ (rdOf ByteArray.empty y368 (Int.tmod x24 3))) ++ t372) ++ (⟨#[32, 32]⟩ : ByteArray)) ++ t373) ++ (⟨#[9]⟩ : ByteArray)) ++ t374) ++ (rdOf ByteArray.empty y375 (Int.tmod (wrap64 ((Go.bits .and .i64 x1 255) + x24)) 3))) ++ (⟨#[10]⟩ : ByteArray)).size ≤ 9223372036854775807 then (isohyetlaw25_DataRemarks.l0 k x1 (x5 ++ [(⟨Go.bits .and .i64 ((rd_T34 x22 x24).f0) 65535, wrap64 (-(Go.bits .and .i64 ((rd_T34 x22 x24).f1) 65535)), Go.bits .and .i64 ((rd_T34 x22 x24).f2) 255⟩ : S34)]) (x6 ++ (((((((((rdOf ByteArray.empty y364 (Go.bits .and .i64 (shr .i64 x1 (Int.tmod x24 16)) 3)) ++ (rdOf ByteArray.empty y368 (Int.tmod x24 3))) ++ t372) ++ (⟨#[32, 32]⟩ : ByteArray)) ++ t373) ++ (⟨#[9]⟩ : ByteArray)) ++ t374) ++ (rdOf ByteArray.empty y375 (Int.tmod (wrap64 ((Go.bits .and .i64 x1 255) + x24)) 3))) ++ (⟨#[10]⟩ : ByteArray))) x22 x23 (wrap64 (x24 + 1))) else (none)) else (none)) else (none)) else (none)) else (none))) else (none))) else (none)) else (none))) else (none)) else (none))) else (none)) else (none)) else (none))) else (none)) else (none)) else (none))) else (none)) else (none)) else (none)) else ((data_Samples.f k x6 1 0).bind fun bt379 => (if bt379.2.2 = 0 then (if bt379.2.1 = 0 then (isohyetlaw25_DataRemarks.j1 k x5 x6 bt379.1 ((bt379.1.length : Int) != (x5.length : Int))) else (isohyetlaw25_DataRemarks.j1 k x5 x6 bt379.1 true)) else (isohyetlaw25_DataRemarks.j1 k x5 x6 bt379.1 true)))
def isohyetlaw25_DataRemarks.j1 : Nat → List (S34) → ByteArray → List (S34) → Bool → Option (Bool)
 | 0, _, _, _, _ => none
 | k + 1, x5, x6, x10, x103 => if x103 = true then (some false) else (isohyetlaw25_DataRemarks.l1 k x5 x6 x10 (x5.length : Int) 0)
def isohyetlaw25_DataRemarks.l1 : Nat → List (S34) → ByteArray → List (S34) → Int → Int → Option (Bool)
 | 0, _, _, _, _, _ => none
 | k + 1, x5, x6, x10, x105, x106 => if x106 < x105 then (if 0 ≤ x106 then (if x106 < (x10.length : Int) then (if x106 < (x5.length : Int) then (if (!(((rd_T34 x10 x106).f0) == ((rd_T34 x5 x106).f0)) || (!(((rd_T34 x10 x106).f1) == ((rd_T34 x5 x106).f1)) || (!(((rd_T34 x10 x106).f2) == ((rd_T34 x5 x106).f2))))) = true then (some false) else (isohyetlaw25_DataRemarks.l1 k x5 x6 x10 x105 (wrap64 (x106 + 1)))) else (none)) else (none)) else (none)) else (if x6.size + 5 ≤ 9223372036854775807 then ((data_Samples.f k (x6 ++ (⟨#[35, 10, 49, 32, 50]⟩ : ByteArray)) 1 0).bind fun bt386 => (if bt386.2.2 = 1 then ((isohyetlaw25_lines.f k x6).bind fun t391 => (some (bt386.2.1 == (wrap64 ((t391.length : Int) + 1))))) else (some false))) else (none))
end
def isohyetlaw25_DataRemarks.f (k : Nat) (l0 : List (S34)) (a1 : Int) : Option (Bool) := (isohyetlaw25_fit.f).bind fun t357 => (if t357 = true then (if (l0.length : Int) > 20 then (some true) else (isohyetlaw25_DataRemarks.l0 k a1 ([] : List (S34)) (⟨#[]⟩ : ByteArray) l0 (l0.length : Int) 0)) else (some false))
theorem isohyetlaw25_DataRemarks.mono_l : ∀ k, (∀ y0 y1 y2 y3 y4 y5, LeO (isohyetlaw25_DataRemarks.l0 k y0 y1 y2 y3 y4 y5) (isohyetlaw25_DataRemarks.l0 (k + 1) y0 y1 y2 y3 y4 y5)) ∧ (∀ y0 y1 y2 y3, LeO (isohyetlaw25_DataRemarks.j1 k y0 y1 y2 y3) (isohyetlaw25_DataRemarks.j1 (k + 1) y0 y1 y2 y3)) ∧ (∀ y0 y1 y2 y3 y4, LeO (isohyetlaw25_DataRemarks.l1 k y0 y1 y2 y3 y4) (isohyetlaw25_DataRemarks.l1 (k + 1) y0 y1 y2 y3 y4))
 | 0 => ⟨fun _ _ _ _ _ _ r h => by simp [isohyetlaw25_DataRemarks.l0] at h, fun _ _ _ _ r h => by simp [isohyetlaw25_DataRemarks.j1] at h, fun _ _ _ _ _ r h => by simp [isohyetlaw25_DataRemarks.l1] at h⟩
 | k + 1 => by
  obtain ⟨ih0, ih1, ih2⟩ := isohyetlaw25_DataRemarks.mono_l k
  refine ⟨?_, ?_, ?_⟩
  ·intro y0 y1 y2 y3 y4 y5
   unfold isohyetlaw25_DataRemarks.l0
   repeat' first
   | (with_reducible exact ih0 _ _ _ _ _ _)
   | (with_reducible exact ih1 _ _ _ _)
   | (with_reducible exact ih2 _ _ _ _ _)
   | (with_reducible exact data_Samples.mono _ _ _ _)
   | (with_reducible exact deci_Text.mono _ _ _)
   | (with_reducible exact isohyetlaw25_lines.mono _ _)
   | (with_reducible exact LeO.refl _)
   | (with_reducible exact LeO.none _)
   | (with_reducible refine LeO.ite ?_ ?_)
   | (with_reducible refine LeO.bind ?_ (fun _ => ?_))
   | exact ih0 _ _ _ _ _ _
   | exact ih1 _ _ _ _
   | exact ih2 _ _ _ _ _
   | exact data_Samples.mono _ _ _ _
   | exact deci_Text.mono _ _ _
   | exact isohyetlaw25_lines.mono _ _
   | exact LeO.none _
   | refine LeO.ite ?_ ?_
   | refine LeO.bind ?_ (fun _ => ?_)
  ·intro y0 y1 y2 y3
   unfold isohyetlaw25_DataRemarks.j1
   repeat' first
   | (with_reducible exact ih0 _ _ _ _ _ _)
   | (with_reducible exact ih1 _ _ _ _)
   | (with_reducible exact ih2 _ _ _ _ _)
   | (with_reducible exact data_Samples.mono _ _ _ _)
   | (with_reducible exact deci_Text.mono _ _ _)
   | (with_reducible exact isohyetlaw25_lines.mono _ _)
   | (with_reducible exact LeO.refl _)
   | (with_reducible exact LeO.none _)
   | (with_reducible refine LeO.ite ?_ ?_)
   | (with_reducible refine LeO.bind ?_ (fun _ => ?_))
   | exact ih0 _ _ _ _ _ _
   | exact ih1 _ _ _ _
   | exact ih2 _ _ _ _ _
   | exact data_Samples.mono _ _ _ _
   | exact deci_Text.mono _ _ _
   | exact isohyetlaw25_lines.mono _ _
   | exact LeO.none _
   | refine LeO.ite ?_ ?_
   | refine LeO.bind ?_ (fun _ => ?_)
  ·intro y0 y1 y2 y3 y4
   unfold isohyetlaw25_DataRemarks.l1
   repeat' first
   | (with_reducible exact ih0 _ _ _ _ _ _)
   | (with_reducible exact ih1 _ _ _ _)
   | (with_reducible exact ih2 _ _ _ _ _)
   | (with_reducible exact data_Samples.mono _ _ _ _)
   | (with_reducible exact deci_Text.mono _ _ _)
   | (with_reducible exact isohyetlaw25_lines.mono _ _)
   | (with_reducible exact LeO.refl _)
   | (with_reducible exact LeO.none _)
   | (with_reducible refine LeO.ite ?_ ?_)
   | (with_reducible refine LeO.bind ?_ (fun _ => ?_))
   | exact ih0 _ _ _ _ _ _
   | exact ih1 _ _ _ _
   | exact ih2 _ _ _ _ _
   | exact data_Samples.mono _ _ _ _
   | exact deci_Text.mono _ _ _
   | exact isohyetlaw25_lines.mono _ _
   | exact LeO.none _
   | refine LeO.ite ?_ ?_
   | refine LeO.bind ?_ (fun _ => ?_)
theorem isohyetlaw25_DataRemarks.mono : ∀ a0 a1 k, LeO (isohyetlaw25_DataRemarks.f k a0 a1) (isohyetlaw25_DataRemarks.f (k + 1) a0 a1) := by
 intro a0 a1 k
 obtain ⟨ih0, ih1, ih2⟩ := isohyetlaw25_DataRemarks.mono_l k
 unfold isohyetlaw25_DataRemarks.f
 repeat' first
   | (with_reducible exact ih0 _ _ _ _ _ _)
   | (with_reducible exact ih1 _ _ _ _)
   | (with_reducible exact ih2 _ _ _ _ _)
   | (with_reducible exact data_Samples.mono _ _ _ _)
   | (with_reducible exact deci_Text.mono _ _ _)
   | (with_reducible exact isohyetlaw25_lines.mono _ _)
   | (with_reducible exact LeO.refl _)
   | (with_reducible exact LeO.none _)
   | (with_reducible refine LeO.ite ?_ ?_)
   | (with_reducible refine LeO.bind ?_ (fun _ => ?_))
   | exact ih0 _ _ _ _ _ _
   | exact ih1 _ _ _ _
   | exact ih2 _ _ _ _ _
   | exact data_Samples.mono _ _ _ _
   | exact deci_Text.mono _ _ _
   | exact isohyetlaw25_lines.mono _ _
   | exact LeO.none _
   | refine LeO.ite ?_ ?_
   | refine LeO.bind ?_ (fun _ => ?_)
def isohyetlaw25_DataRemarks.T12 : Bool × List (List Nat × List Nat) := (true, [([], []), ([], []), ([], []), ([], []), ([3], [3]), ([2, 4], [2, 4]), ([5], [5]), ([1, 6], [1, 6]), ([7], [7]), ([], []), ([], []), ([10], [10]), ([9, 11], [9, 11]), ([12], [12]), ([8, 13], [8, 13]), ([], []), ([15], [15]), ([16], [16]), ([14, 17], [14, 17]), ([18], [18]), ([], []), ([20], [20]), ([21, 17], [21]), ([19, 22], [19, 22]), ([23], [23]), ([], []), ([25], [25]), ([26, 22], [26]), ([24, 27], [24, 27]), ([], []), ([], []), ([30], [30]), ([], []), ([31, 32], [31, 32]), ([33], [33]), ([29, 34], [29, 34]), ([35], [35]), ([28, 36], [28, 36]), ([37], [37]), ([0, 38], [0, 38]), ([39, 27, 0, 1, 2, 3, 4, 5, 6, 7, 8, 9, 10, 11, 12, 13, 14, 15, 16, 17, 18, 19, 20, 21, 22, 23, 24, 25, 26, 27, 28, 29, 30, 31, 32, 33, 34, 35, 36, 37, 38, 39], [0, 39])])
def isohyetlaw25_DataRemarks.B12 : List Nat := [0, 0, 0, 0, 8, 28, 60, 126, 254, 0, 0, 1024, 3584, 7680, 16382, 0, 32768, 98304, 262142, 524286, 0, 1048576, 3375104, 8388606, 16777214, 0, 33554432, 108232704, 268435454, 0, 0, 1073741824, 0, 7516192768, 16106127360, 33822867456, 68182605824, 137438953470, 274877906942, 549755813887, 1099511627775]
theorem isohyetlaw25_DataRemarks.tab12 : rtab .any (opsOf Tryz.f5 12) = isohyetlaw25_DataRemarks.T12 := by kernel_rfl
theorem isohyetlaw25_DataRemarks.bits12 : waitsOk isohyetlaw25_DataRemarks.T12.2 isohyetlaw25_DataRemarks.B12 = true := by kernel_rfl
def isohyetlaw25_DataRemarks.T20 : Bool × List (List Nat × List Nat) := (true, [([], []), ([], []), ([0, 1], [0, 1]), ([2], [2]), ([], []), ([], []), ([4, 5], [4, 5]), ([6], [6]), ([3, 7], [3, 7])])
def isohyetlaw25_DataRemarks.B20 : List Nat := [0, 0, 3, 7, 0, 0, 48, 112, 255]
theorem isohyetlaw25_DataRemarks.tab20 : rtab .any (opsOf Tryz.f5 20) = isohyetlaw25_DataRemarks.T20 := by kernel_rfl
theorem isohyetlaw25_DataRemarks.bits20 : waitsOk isohyetlaw25_DataRemarks.T20.2 isohyetlaw25_DataRemarks.B20 = true := by kernel_rfl
set_option maxHeartbeats 8000000 in
set_option maxRecDepth 100000 in
theorem isohyetlaw25_DataRemarks.calls (k : Nat) (A0 : Option Addr) (c0 : Nat) (l0 : List (S34)) (a1 : Int) (r : Bool) (w : World) (hr0 : Kd.C k34 w A0 l0.length l0) (hc0 : l0.length ≤ c0) (HT0 : MB.TabW w) (HTRUE : r = true) (h : isohyetlaw25_DataRemarks.f k l0 a1 = some r) :
  Calls Tryz.prog 5 #[.slice A0 l0.length c0, .int .i64 a1] w fun e w' => e = .returned (.bool r) ∧ Below w.heap.size w w' := by
 have hu34 := Tryz.underlying34
 have HR0 := Aside0.mk hr0
 have HC0 := Aside0.mk hc0
 clear hr0 hc0
 have HB := Aside0.mk (Below.refl w.heap.size w)
 have H : ((isohyetlaw25_fit.f).bind fun t357 => (if t357 = true then (if (l0.length : Int) > 20 then (some true) else (isohyetlaw25_DataRemarks.l0 k a1 ([] : List (S34)) (⟨#[]⟩ : ByteArray) l0 (l0.length : Int) 0)) else (some false))) = some r := h
 clear h
 replace H := Option.bind_eq_some_iff.mp H
 obtain ⟨t357, A30, H⟩ := H
 replace H : (if t357 = true then (if (l0.length : Int) > 20 then (some true) else (isohyetlaw25_DataRemarks.l0 k a1 ([] : List (S34)) (⟨#[]⟩ : ByteArray) l0 (l0.length : Int) 0)) else (some false)) = some r := H
 have A3 := Aside0.mk A30
 clear A30
 by_cases c4 : t357 = true
 ·subst c4
  have H1 : (if (l0.length : Int) > 20 then (some true) else (isohyetlaw25_DataRemarks.l0 k a1 ([] : List (S34)) (⟨#[]⟩ : ByteArray) l0 (l0.length : Int) 0)) = some r := by rw [if_pos rfl] at H; exact H
  clear H
  have H := H1
  clear H1
  by_cases c5 : (l0.length : Int) > 20
  ·rw [if_pos c5] at H
   have c5b0 : decide (20 < (l0.length : Int)) = true := decide_eq_true c5
   have c5b1 : decide (20 < l0.length) = true := decide_eq_true (by omega)
   clear c5
   obtain rfl := Option.some.inj H
   go_enter Tryz.func5, Tryz.ntmps5
   go_wp2_with (first | ((with_reducible refine gate_callee (f := 8) rfl ?_); refine goesL_ (some 17) rfl rfl Tryz.func8 (by kernel_rfl) rfl #[] rfl (by (try simp only [List.map_toArray, List.map_cons, List.map_nil]); first | done | rfl | (simp only [List.length_drop, List.length_take]; rfl)) ?_; (with_reducible refine (isohyetlaw25_fit.calls  true _ (MB.tab_below HT0 (gB HB.out)) rfl A3.out).mono ?_); (try clear A3); rintro e w6 ⟨rfl, hb⟩; refine ⟨_, rfl, ?_⟩; have n0_ := Aside0.mk (below_step (gB HB.out) hb); clear HB; have HB := n0_; clear n0_; (try clear hb); (try clear hb2); (try clear hk); (try clear hi)))
   go_ret
   exact ⟨by first | rfl | (simp [errW_none, errW_some] <;> rfl) | (simp [*, errW_none, errW_some] <;> rfl), by repeat (first | (with_reducible first | exact HB.out | apply bA | apply bN | apply bD) | exact HB.out)⟩
  ·rw [if_neg c5] at H
   have c5b0 : decide (20 < (l0.length : Int)) = false := decide_eq_false c5
   have c5b1 : decide (20 < l0.length) = false := decide_eq_false (by omega)
   clear c5
   have H' := Aside0.mk H
   clear H
   go_enter Tryz.func5, Tryz.ntmps5
   go_wp2_with (first | ((with_reducible refine gate_callee (f := 8) rfl ?_); refine goesL_ (some 17) rfl rfl Tryz.func8 (by kernel_rfl) rfl #[] rfl (by (try simp only [List.map_toArray, List.map_cons, List.map_nil]); first | done | rfl | (simp only [List.length_drop, List.length_take]; rfl)) ?_; (with_reducible refine (isohyetlaw25_fit.calls  true _ (MB.tab_below HT0 (gB HB.out)) rfl A3.out).mono ?_); (try clear A3); rintro e w7 ⟨rfl, hb⟩; refine ⟨_, rfl, ?_⟩; have n0_ := Aside0.mk (below_step (gB HB.out) hb); clear HB; have HB := n0_; clear n0_; (try clear hb); (try clear hb2); (try clear hk); (try clear hi)))
   go_loopg [5, 6, 24] k (fun kq v5 v6 v24 w' => ∃ (x5_1 : List (S34)) (x6_1 : ByteArray) (x24_1 : Int), v6 = .string x6_1 ∧ v24 = .int .i64 x24_1 ∧ Aside0 (isohyetlaw25_DataRemarks.l0 kq a1 x5_1 x6_1 l0 (l0.length : Int) x24_1 = some r) ∧ Aside0 (kq ≤ k) ∧ Aside0 (Kd.R k34 34 w' w.heap.size (fun _ => True) v5 x5_1) ∧ Aside0 (Below w.heap.size w w'))
   case atStart => exact ⟨(([] : List (S34))), ((⟨#[]⟩ : ByteArray)), (0), (by first | rfl | (simp; done) | (simp [*]; done)), (by first | rfl | (simp; done) | (simp [*]; done)), H', ⟨Nat.le_refl _⟩, ⟨by first | exact Kd.R_nil _ _ _ _ _ | exact Kd.N_nil _ _ _ _ _ | exact Kd.V_nil _ _ _ _ _ | exact Kd.Q_nil _ _ _ _ _ | exact Kd.S_nil _ _ _ _ _⟩, ⟨by repeat (first | (with_reducible first | exact HB.out | apply bA | apply bN | apply bD) | exact HB.out)⟩⟩
   case round =>
    clear H'
    try clear p2
    try clear c4
    try clear c5
    try clear c5b0
    try clear c5b1
    obtain ⟨x5_1, x6_1, x24_1, rfl, rfl, HA, HK1, HO_5, HB⟩ := hrel
    cases gk with
    | zero => exact absurd HA.out (by simp [isohyetlaw25_DataRemarks.l0])
    | succ k1 =>
     have H := HA.out
     clear HA
     simp only [isohyetlaw25_DataRemarks.l0] at H
     by_cases c8 : x24_1 < (l0.length : Int)
     ·rw [if_pos c8] at H
      have c8b0 : decide (x24_1 < (l0.length : Int)) = true := decide_eq_true c8
      clear c8
      by_cases c9 : 0 ≤ x24_1
      ·rw [if_pos c9] at H
       have c9b0 : decide (0 ≤ x24_1) = true := decide_eq_true c9
       clear c9
       by_cases c10 : x24_1 < (l0.length : Int)
       ·rw [if_pos c10] at H
        have c10b0 : decide (x24_1 < (l0.length : Int)) = true := decide_eq_true c10
        clear c10
        by_cases c11 : x5_1.length < 5864062014805
        ·rw [if_pos c11] at H
         have LMc11 := Aside0.mk c11
         clear c11
         obtain ⟨y361, hy361⟩ : ∃ y_ : List (S34), y_ = (x5_1 ++ [(⟨Go.bits .and .i64 ((rd_T34 l0 x24_1).f0) 65535, wrap64 (-(Go.bits .and .i64 ((rd_T34 l0 x24_1).f1) 65535)), Go.bits .and .i64 ((rd_T34 l0 x24_1).f2) 255⟩ : S34)]) := ⟨_, rfl⟩
         replace H : ((some (([(⟨#[]⟩ : ByteArray), (⟨#[10]⟩ : ByteArray), (⟨#[35, 32, 49, 32, 50, 32, 51, 10]⟩ : ByteArray), (⟨#[32, 9, 13, 10]⟩ : ByteArray)] : List ByteArray) : List ByteArray)).bind fun y364 => (if 0 ≤ (Int.tmod x24_1 16) then (if 0 ≤ (Go.bits .and .i64 (shr .i64 a1 (Int.tmod x24_1 16)) 3) then (if (Go.bits .and .i64 (shr .i64 a1 (Int.tmod x24_1 16)) 3) < (y364.length : Int) then ((some (([(⟨#[32]⟩ : ByteArray), (⟨#[9]⟩ : ByteArray), (⟨#[]⟩ : ByteArray)] : List ByteArray) : List ByteArray)).bind fun y368 => (if 0 ≤ (Int.tmod x24_1 3) then (if (Int.tmod x24_1 3) < (y368.length : Int) then (if (rdOf ByteArray.empty y364 (Go.bits .and .i64 (shr .i64 a1 (Int.tmod x24_1 16)) 3)).size + (rdOf ByteArray.empty y368 (Int.tmod x24_1 3)).size ≤ 9223372036854775807 then ((deci_Text.f k1 (Go.bits .and .i64 ((rd_T34 l0 x24_1).f0) 65535) 1).bind fun t372 => (if ((rdOf ByteArray.empty y364 (Go.bits .and .i64 (shr .i64 a1 (Int.tmod x24_1 16)) 3)) ++ (rdOf ByteArray.empty y368 (Int.tmod x24_1 3))).size + t372.size ≤ 9223372036854775807 then (if (((rdOf ByteArray.empty y364 (Go.bits .and .i64 (shr .i64 a1 (Int.tmod x24_1 16)) 3)) ++ (rdOf ByteArray.empty y368 (Int.tmod x24_1 3))) ++ t372).size + 2 ≤ 9223372036854775807 then ((deci_Text.f k1 (wrap64 (-(Go.bits .and .i64 ((rd_T34 l0 x24_1).f1) 65535))) 1).bind fun t373 => (if ((((rdOf ByteArray.empty y364 (Go.bits .and .i64 (shr .i64 a1 (Int.tmod x24_1 16)) 3)) ++ (rdOf ByteArray.empty y368 (Int.tmod x24_1 3))) ++ t372) ++ (⟨#[32, 32]⟩ : ByteArray)).size + t373.size ≤ 9223372036854775807 then (if (((((rdOf ByteArray.empty y364 (Go.bits .and .i64 (shr .i64 a1 (Int.tmod x24_1 16)) 3)) ++ (rdOf ByteArray.empty y368 (Int.tmod x24_1 3))) ++ t372) ++ (⟨#[32, 32]⟩ : ByteArray)) ++ t373).size + 1 ≤ 9223372036854775807 then ((deci_Text.f k1 (Go.bits .and .i64 ((rd_T34 l0 x24_1).f2) 255) 0).bind fun t374 => (if ((((((rdOf ByteArray.empty y364 (Go.bits .and .i64 (shr .i64 a1 (Int.tmod x24_1 16)) 3)) ++ (rdOf ByteArray.empty y368 (Int.tmod x24_1 3))) ++ t372) ++ (⟨#[32, 32]⟩ : ByteArray)) ++ t373) ++ (⟨#[9]⟩ : ByteArray)).size + t374.size ≤ 9223372036854775807 then ((some (([(⟨#[]⟩ : ByteArray), (⟨#[32]⟩ : ByteArray), (⟨#[13]⟩ : ByteArray)] : List ByteArray) : List ByteArray)).bind fun y375 => (if 0 ≤ (Int.tmod (wrap64 ((Go.bits .and .i64 a1 255) + x24_1)) 3) then (if (Int.tmod (wrap64 ((Go.bits .and .i64 a1 255) + x24_1)) 3) < (y375.length : Int) then (if (((((((rdOf ByteArray.empty y364 (Go.bits .and .i64 (shr .i64 a1 (Int.tmod x24_1 16)) 3)) ++ (rdOf ByteArray.empty y368 (Int.tmod x24_1 3))) ++ t372) ++ (⟨#[32, 32]⟩ : ByteArray)) ++ t373) ++ (⟨#[9]⟩ : ByteArray)) ++ t374).size + (rdOf ByteArray.empty y375 (Int.tmod (wrap64 ((Go.bits .and .i64 a1 255) + x24_1)) 3)).size ≤ 9223372036854775807 then (if ((((((((rdOf ByteArray.empty y364 (Go.bits .and .i64 (shr .i64 a1 (Int.tmod x24_1 16)) 3)) ++ (rdOf ByteArray.empty y368 (Int.tmod x24_1 3))) ++ t372) ++ (⟨#[32, 32]⟩ : ByteArray)) ++ t373) ++ (⟨#[9]⟩ : ByteArray)) ++ t374) ++ (rdOf ByteArray.empty y375 (Int.tmod (wrap64 ((Go.bits .and .i64 a1 255) + x24_1)) 3))).size + 1 ≤ 9223372036854775807 then (if x6_1.size + (((((((((rdOf ByteArray.empty y364 (Go.bits .and .i64 (shr .i64 a1 (Int.tmod x24_1 16)) 3)) ++ (rdOf ByteArray.empty y368 (Int.tmod x24_1 3))) ++ t372) ++ (⟨#[32, 32]⟩ : ByteArray)) ++ t373) ++ (⟨#[9]⟩ : ByteArray)) ++ t374) ++ (rdOf ByteArray.empty y375 (Int.tmod (wrap64 ((Go.bits .and .i64 a1 255) + x24_1)) 3))) ++ (⟨#[10]⟩ : ByteArray)).size ≤ 9223372036854775807 then (isohyetlaw25_DataRemarks.l0 k1 a1 y361 (x6_1 ++ (((((((((rdOf ByteArray.empty y364 (Go.bits .and .i64 (shr .i64 a1 (Int.tmod x24_1 16)) 3)) ++ (rdOf ByteArray.empty y368 (Int.tmod x24_1 3))) ++ t372) ++ (⟨#[32, 32]⟩ : ByteArray)) ++ t373) ++ (⟨#[9]⟩ : ByteArray)) ++ t374) ++ (rdOf ByteArray.empty y375 (Int.tmod (wrap64 ((Go.bits .and .i64 a1 255) + x24_1)) 3))) ++ (⟨#[10]⟩ : ByteArray))) l0 (l0.length : Int) (wrap64 (x24_1 + 1))) else (none)) else (none)) else (none)) else (none)) else (none))) else (none))) else (none)) else (none))) else (none)) else (none))) else (none)) else (none)) else (none))) else (none)) else (none)) else (none))) = some r := by first | (rw [hy361]; with_reducible exact H) | (have H2_ := (Option.bind_some _ _).symm.trans H; rw [hy361]; with_reducible exact H2_) | (have H2_ := (Option.bind_some _ _).symm.trans H; with_reducible exact H2_) | with_reducible exact H | (rw [hy361]; exact H) | exact H
         have Ny361 := Aside0.mk hy361
         clear hy361
         obtain ⟨y364, hy364⟩ : ∃ y_ : List ByteArray, y_ = (([(⟨#[]⟩ : ByteArray), (⟨#[10]⟩ : ByteArray), (⟨#[35, 32, 49, 32, 50, 32, 51, 10]⟩ : ByteArray), (⟨#[32, 9, 13, 10]⟩ : ByteArray)] : List ByteArray)) := ⟨_, rfl⟩
         replace H : (if 0 ≤ (Int.tmod x24_1 16) then (if 0 ≤ (Go.bits .and .i64 (shr .i64 a1 (Int.tmod x24_1 16)) 3) then (if (Go.bits .and .i64 (shr .i64 a1 (Int.tmod x24_1 16)) 3) < (y364.length : Int) then ((some (([(⟨#[32]⟩ : ByteArray), (⟨#[9]⟩ : ByteArray), (⟨#[]⟩ : ByteArray)] : List ByteArray) : List ByteArray)).bind fun y368 => (if 0 ≤ (Int.tmod x24_1 3) then (if (Int.tmod x24_1 3) < (y368.length : Int) then (if (rdOf ByteArray.empty y364 (Go.bits .and .i64 (shr .i64 a1 (Int.tmod x24_1 16)) 3)).size + (rdOf ByteArray.empty y368 (Int.tmod x24_1 3)).size ≤ 9223372036854775807 then ((deci_Text.f k1 (Go.bits .and .i64 ((rd_T34 l0 x24_1).f0) 65535) 1).bind fun t372 => (if ((rdOf ByteArray.empty y364 (Go.bits .and .i64 (shr .i64 a1 (Int.tmod x24_1 16)) 3)) ++ (rdOf ByteArray.empty y368 (Int.tmod x24_1 3))).size + t372.size ≤ 9223372036854775807 then (if (((rdOf ByteArray.empty y364 (Go.bits .and .i64 (shr .i64 a1 (Int.tmod x24_1 16)) 3)) ++ (rdOf ByteArray.empty y368 (Int.tmod x24_1 3))) ++ t372).size + 2 ≤ 9223372036854775807 then ((deci_Text.f k1 (wrap64 (-(Go.bits .and .i64 ((rd_T34 l0 x24_1).f1) 65535))) 1).bind fun t373 => (if ((((rdOf ByteArray.empty y364 (Go.bits .and .i64 (shr .i64 a1 (Int.tmod x24_1 16)) 3)) ++ (rdOf ByteArray.empty y368 (Int.tmod x24_1 3))) ++ t372) ++ (⟨#[32, 32]⟩ : ByteArray)).size + t373.size ≤ 9223372036854775807 then (if (((((rdOf ByteArray.empty y364 (Go.bits .and .i64 (shr .i64 a1 (Int.tmod x24_1 16)) 3)) ++ (rdOf ByteArray.empty y368 (Int.tmod x24_1 3))) ++ t372) ++ (⟨#[32, 32]⟩ : ByteArray)) ++ t373).size + 1 ≤ 9223372036854775807 then ((deci_Text.f k1 (Go.bits .and .i64 ((rd_T34 l0 x24_1).f2) 255) 0).bind fun t374 => (if ((((((rdOf ByteArray.empty y364 (Go.bits .and .i64 (shr .i64 a1 (Int.tmod x24_1 16)) 3)) ++ (rdOf ByteArray.empty y368 (Int.tmod x24_1 3))) ++ t372) ++ (⟨#[32, 32]⟩ : ByteArray)) ++ t373) ++ (⟨#[9]⟩ : ByteArray)).size + t374.size ≤ 9223372036854775807 then ((some (([(⟨#[]⟩ : ByteArray), (⟨#[32]⟩ : ByteArray), (⟨#[13]⟩ : ByteArray)] : List ByteArray) : List ByteArray)).bind fun y375 => (if 0 ≤ (Int.tmod (wrap64 ((Go.bits .and .i64 a1 255) + x24_1)) 3) then (if (Int.tmod (wrap64 ((Go.bits .and .i64 a1 255) + x24_1)) 3) < (y375.length : Int) then (if (((((((rdOf ByteArray.empty y364 (Go.bits .and .i64 (shr .i64 a1 (Int.tmod x24_1 16)) 3)) ++ (rdOf ByteArray.empty y368 (Int.tmod x24_1 3))) ++ t372) ++ (⟨#[32, 32]⟩ : ByteArray)) ++ t373) ++ (⟨#[9]⟩ : ByteArray)) ++ t374).size + (rdOf ByteArray.empty y375 (Int.tmod (wrap64 ((Go.bits .and .i64 a1 255) + x24_1)) 3)).size ≤ 9223372036854775807 then (if ((((((((rdOf ByteArray.empty y364 (Go.bits .and .i64 (shr .i64 a1 (Int.tmod x24_1 16)) 3)) ++ (rdOf ByteArray.empty y368 (Int.tmod x24_1 3))) ++ t372) ++ (⟨#[32, 32]⟩ : ByteArray)) ++ t373) ++ (⟨#[9]⟩ : ByteArray)) ++ t374) ++ (rdOf ByteArray.empty y375 (Int.tmod (wrap64 ((Go.bits .and .i64 a1 255) + x24_1)) 3))).size + 1 ≤ 9223372036854775807 then (if x6_1.size + (((((((((rdOf ByteArray.empty y364 (Go.bits .and .i64 (shr .i64 a1 (Int.tmod x24_1 16)) 3)) ++ (rdOf ByteArray.empty y368 (Int.tmod x24_1 3))) ++ t372) ++ (⟨#[32, 32]⟩ : ByteArray)) ++ t373) ++ (⟨#[9]⟩ : ByteArray)) ++ t374) ++ (rdOf ByteArray.empty y375 (Int.tmod (wrap64 ((Go.bits .and .i64 a1 255) + x24_1)) 3))) ++ (⟨#[10]⟩ : ByteArray)).size ≤ 9223372036854775807 then (isohyetlaw25_DataRemarks.l0 k1 a1 y361 (x6_1 ++ (((((((((rdOf ByteArray.empty y364 (Go.bits .and .i64 (shr .i64 a1 (Int.tmod x24_1 16)) 3)) ++ (rdOf ByteArray.empty y368 (Int.tmod x24_1 3))) ++ t372) ++ (⟨#[32, 32]⟩ : ByteArray)) ++ t373) ++ (⟨#[9]⟩ : ByteArray)) ++ t374) ++ (rdOf ByteArray.empty y375 (Int.tmod (wrap64 ((Go.bits .and .i64 a1 255) + x24_1)) 3))) ++ (⟨#[10]⟩ : ByteArray))) l0 (l0.length : Int) (wrap64 (x24_1 + 1))) else (none)) else (none)) else (none)) else (none)) else (none))) else (none))) else (none)) else (none))) else (none)) else (none))) else (none)) else (none)) else (none))) else (none)) else (none)) else (none)) = some r := by first | (rw [hy364]; with_reducible exact H) | (have H2_ := (Option.bind_some _ _).symm.trans H; rw [hy364]; with_reducible exact H2_) | (have H2_ := (Option.bind_some _ _).symm.trans H; with_reducible exact H2_) | with_reducible exact H | (rw [hy364]; exact H) | exact H
         have Ny364 := Aside0.mk hy364
         clear hy364
         obtain ⟨ji12, hji12⟩ : ∃ j_ : Int, (Int.tmod x24_1 16) = j_ := ⟨_, rfl⟩
         replace H : (if 0 ≤ (ji12) then (if 0 ≤ (Go.bits .and .i64 (shr .i64 a1 (ji12)) 3) then (if (Go.bits .and .i64 (shr .i64 a1 (ji12)) 3) < (y364.length : Int) then ((some (([(⟨#[32]⟩ : ByteArray), (⟨#[9]⟩ : ByteArray), (⟨#[]⟩ : ByteArray)] : List ByteArray) : List ByteArray)).bind fun y368 => (if 0 ≤ (Int.tmod x24_1 3) then (if (Int.tmod x24_1 3) < (y368.length : Int) then (if (rdOf ByteArray.empty y364 (Go.bits .and .i64 (shr .i64 a1 (ji12)) 3)).size + (rdOf ByteArray.empty y368 (Int.tmod x24_1 3)).size ≤ 9223372036854775807 then ((deci_Text.f k1 (Go.bits .and .i64 ((rd_T34 l0 x24_1).f0) 65535) 1).bind fun t372 => (if ((rdOf ByteArray.empty y364 (Go.bits .and .i64 (shr .i64 a1 (ji12)) 3)) ++ (rdOf ByteArray.empty y368 (Int.tmod x24_1 3))).size + t372.size ≤ 9223372036854775807 then (if (((rdOf ByteArray.empty y364 (Go.bits .and .i64 (shr .i64 a1 (ji12)) 3)) ++ (rdOf ByteArray.empty y368 (Int.tmod x24_1 3))) ++ t372).size + 2 ≤ 9223372036854775807 then ((deci_Text.f k1 (wrap64 (-(Go.bits .and .i64 ((rd_T34 l0 x24_1).f1) 65535))) 1).bind fun t373 => (if ((((rdOf ByteArray.empty y364 (Go.bits .and .i64 (shr .i64 a1 (ji12)) 3)) ++ (rdOf ByteArray.empty y368 (Int.tmod x24_1 3))) ++ t372) ++ (⟨#[32, 32]⟩ : ByteArray)).size + t373.size ≤ 9223372036854775807 then (if (((((rdOf ByteArray.empty y364 (Go.bits .and .i64 (shr .i64 a1 (ji12)) 3)) ++ (rdOf ByteArray.empty y368 (Int.tmod x24_1 3))) ++ t372) ++ (⟨#[32, 32]⟩ : ByteArray)) ++ t373).size + 1 ≤ 9223372036854775807 then ((deci_Text.f k1 (Go.bits .and .i64 ((rd_T34 l0 x24_1).f2) 255) 0).bind fun t374 => (if ((((((rdOf ByteArray.empty y364 (Go.bits .and .i64 (shr .i64 a1 (ji12)) 3)) ++ (rdOf ByteArray.empty y368 (Int.tmod x24_1 3))) ++ t372) ++ (⟨#[32, 32]⟩ : ByteArray)) ++ t373) ++ (⟨#[9]⟩ : ByteArray)).size + t374.size ≤ 9223372036854775807 then ((some (([(⟨#[]⟩ : ByteArray), (⟨#[32]⟩ : ByteArray), (⟨#[13]⟩ : ByteArray)] : List ByteArray) : List ByteArray)).bind fun y375 => (if 0 ≤ (Int.tmod (wrap64 ((Go.bits .and .i64 a1 255) + x24_1)) 3) then (if (Int.tmod (wrap64 ((Go.bits .and .i64 a1 255) + x24_1)) 3) < (y375.length : Int) then (if (((((((rdOf ByteArray.empty y364 (Go.bits .and .i64 (shr .i64 a1 (ji12)) 3)) ++ (rdOf ByteArray.empty y368 (Int.tmod x24_1 3))) ++ t372) ++ (⟨#[32, 32]⟩ : ByteArray)) ++ t373) ++ (⟨#[9]⟩ : ByteArray)) ++ t374).size + (rdOf ByteArray.empty y375 (Int.tmod (wrap64 ((Go.bits .and .i64 a1 255) + x24_1)) 3)).size ≤ 9223372036854775807 then (if ((((((((rdOf ByteArray.empty y364 (Go.bits .and .i64 (shr .i64 a1 (ji12)) 3)) ++ (rdOf ByteArray.empty y368 (Int.tmod x24_1 3))) ++ t372) ++ (⟨#[32, 32]⟩ : ByteArray)) ++ t373) ++ (⟨#[9]⟩ : ByteArray)) ++ t374) ++ (rdOf ByteArray.empty y375 (Int.tmod (wrap64 ((Go.bits .and .i64 a1 255) + x24_1)) 3))).size + 1 ≤ 9223372036854775807 then (if x6_1.size + (((((((((rdOf ByteArray.empty y364 (Go.bits .and .i64 (shr .i64 a1 (ji12)) 3)) ++ (rdOf ByteArray.empty y368 (Int.tmod x24_1 3))) ++ t372) ++ (⟨#[32, 32]⟩ : ByteArray)) ++ t373) ++ (⟨#[9]⟩ : ByteArray)) ++ t374) ++ (rdOf ByteArray.empty y375 (Int.tmod (wrap64 ((Go.bits .and .i64 a1 255) + x24_1)) 3))) ++ (⟨#[10]⟩ : ByteArray)).size ≤ 9223372036854775807 then (isohyetlaw25_DataRemarks.l0 k1 a1 y361 (x6_1 ++ (((((((((rdOf ByteArray.empty y364 (Go.bits .and .i64 (shr .i64 a1 (ji12)) 3)) ++ (rdOf ByteArray.empty y368 (Int.tmod x24_1 3))) ++ t372) ++ (⟨#[32, 32]⟩ : ByteArray)) ++ t373) ++ (⟨#[9]⟩ : ByteArray)) ++ t374) ++ (rdOf ByteArray.empty y375 (Int.tmod (wrap64 ((Go.bits .and .i64 a1 255) + x24_1)) 3))) ++ (⟨#[10]⟩ : ByteArray))) l0 (l0.length : Int) (wrap64 (x24_1 + 1))) else (none)) else (none)) else (none)) else (none)) else (none))) else (none))) else (none)) else (none))) else (none)) else (none))) else (none)) else (none)) else (none))) else (none)) else (none)) else (none)) = some r := by first | (rw [hji12] at H; exact H) | (simp only [hji12] at H ⊢; exact H)
         by_cases c13 : 0 ≤ (ji12)
         ·rw [if_pos c13] at H
          have c13b0 := eq_true c13
          have c13b1 : decide (0 ≤ (ji12)) = true := decide_eq_true c13
          clear c13
          obtain ⟨ji14, hji14⟩ : ∃ j_ : Int, (shr .i64 a1 (ji12)) = j_ := ⟨_, rfl⟩
          replace H : (if 0 ≤ (Go.bits .and .i64 (ji14) 3) then (if (Go.bits .and .i64 (ji14) 3) < (y364.length : Int) then ((some (([(⟨#[32]⟩ : ByteArray), (⟨#[9]⟩ : ByteArray), (⟨#[]⟩ : ByteArray)] : List ByteArray) : List ByteArray)).bind fun y368 => (if 0 ≤ (Int.tmod x24_1 3) then (if (Int.tmod x24_1 3) < (y368.length : Int) then (if (rdOf ByteArray.empty y364 (Go.bits .and .i64 (ji14) 3)).size + (rdOf ByteArray.empty y368 (Int.tmod x24_1 3)).size ≤ 9223372036854775807 then ((deci_Text.f k1 (Go.bits .and .i64 ((rd_T34 l0 x24_1).f0) 65535) 1).bind fun t372 => (if ((rdOf ByteArray.empty y364 (Go.bits .and .i64 (ji14) 3)) ++ (rdOf ByteArray.empty y368 (Int.tmod x24_1 3))).size + t372.size ≤ 9223372036854775807 then (if (((rdOf ByteArray.empty y364 (Go.bits .and .i64 (ji14) 3)) ++ (rdOf ByteArray.empty y368 (Int.tmod x24_1 3))) ++ t372).size + 2 ≤ 9223372036854775807 then ((deci_Text.f k1 (wrap64 (-(Go.bits .and .i64 ((rd_T34 l0 x24_1).f1) 65535))) 1).bind fun t373 => (if ((((rdOf ByteArray.empty y364 (Go.bits .and .i64 (ji14) 3)) ++ (rdOf ByteArray.empty y368 (Int.tmod x24_1 3))) ++ t372) ++ (⟨#[32, 32]⟩ : ByteArray)).size + t373.size ≤ 9223372036854775807 then (if (((((rdOf ByteArray.empty y364 (Go.bits .and .i64 (ji14) 3)) ++ (rdOf ByteArray.empty y368 (Int.tmod x24_1 3))) ++ t372) ++ (⟨#[32, 32]⟩ : ByteArray)) ++ t373).size + 1 ≤ 9223372036854775807 then ((deci_Text.f k1 (Go.bits .and .i64 ((rd_T34 l0 x24_1).f2) 255) 0).bind fun t374 => (if ((((((rdOf ByteArray.empty y364 (Go.bits .and .i64 (ji14) 3)) ++ (rdOf ByteArray.empty y368 (Int.tmod x24_1 3))) ++ t372) ++ (⟨#[32, 32]⟩ : ByteArray)) ++ t373) ++ (⟨#[9]⟩ : ByteArray)).size + t374.size ≤ 9223372036854775807 then ((some (([(⟨#[]⟩ : ByteArray), (⟨#[32]⟩ : ByteArray), (⟨#[13]⟩ : ByteArray)] : List ByteArray) : List ByteArray)).bind fun y375 => (if 0 ≤ (Int.tmod (wrap64 ((Go.bits .and .i64 a1 255) + x24_1)) 3) then (if (Int.tmod (wrap64 ((Go.bits .and .i64 a1 255) + x24_1)) 3) < (y375.length : Int) then (if (((((((rdOf ByteArray.empty y364 (Go.bits .and .i64 (ji14) 3)) ++ (rdOf ByteArray.empty y368 (Int.tmod x24_1 3))) ++ t372) ++ (⟨#[32, 32]⟩ : ByteArray)) ++ t373) ++ (⟨#[9]⟩ : ByteArray)) ++ t374).size + (rdOf ByteArray.empty y375 (Int.tmod (wrap64 ((Go.bits .and .i64 a1 255) + x24_1)) 3)).size ≤ 9223372036854775807 then (if ((((((((rdOf ByteArray.empty y364 (Go.bits .and .i64 (ji14) 3)) ++ (rdOf ByteArray.empty y368 (Int.tmod x24_1 3))) ++ t372) ++ (⟨#[32, 32]⟩ : ByteArray)) ++ t373) ++ (⟨#[9]⟩ : ByteArray)) ++ t374) ++ (rdOf ByteArray.empty y375 (Int.tmod (wrap64 ((Go.bits .and .i64 a1 255) + x24_1)) 3))).size + 1 ≤ 9223372036854775807 then (if x6_1.size + (((((((((rdOf ByteArray.empty y364 (Go.bits .and .i64 (ji14) 3)) ++ (rdOf ByteArray.empty y368 (Int.tmod x24_1 3))) ++ t372) ++ (⟨#[32, 32]⟩ : ByteArray)) ++ t373) ++ (⟨#[9]⟩ : ByteArray)) ++ t374) ++ (rdOf ByteArray.empty y375 (Int.tmod (wrap64 ((Go.bits .and .i64 a1 255) + x24_1)) 3))) ++ (⟨#[10]⟩ : ByteArray)).size ≤ 9223372036854775807 then (isohyetlaw25_DataRemarks.l0 k1 a1 y361 (x6_1 ++ (((((((((rdOf ByteArray.empty y364 (Go.bits .and .i64 (ji14) 3)) ++ (rdOf ByteArray.empty y368 (Int.tmod x24_1 3))) ++ t372) ++ (⟨#[32, 32]⟩ : ByteArray)) ++ t373) ++ (⟨#[9]⟩ : ByteArray)) ++ t374) ++ (rdOf ByteArray.empty y375 (Int.tmod (wrap64 ((Go.bits .and .i64 a1 255) + x24_1)) 3))) ++ (⟨#[10]⟩ : ByteArray))) l0 (l0.length : Int) (wrap64 (x24_1 + 1))) else (none)) else (none)) else (none)) else (none)) else (none))) else (none))) else (none)) else (none))) else (none)) else (none))) else (none)) else (none)) else (none))) else (none)) else (none)) = some r := by first | (rw [hji14] at H; exact H) | (simp only [hji14] at H ⊢; exact H)
          have hji14_ : (a1 / 2 ^ min (ji12).toNat 64) = ji14 := hji14
          have hji14z : (ji12) ≤ 64 → (a1 / 2 ^ (ji12).toNat) = ji14 := shr_small hji14
          by_cases c15 : 0 ≤ (Go.bits .and .i64 (ji14) 3)
          ·rw [if_pos c15] at H
           have c15b0 : decide (0 ≤ (Go.bits .and .i64 (ji14) 3)) = true := decide_eq_true c15
           clear c15
           by_cases c16 : (Go.bits .and .i64 (ji14) 3) < (y364.length : Int)
           ·rw [if_pos c16] at H
            have c16b0 : decide ((Go.bits .and .i64 (ji14) 3) < (y364.length : Int)) = true := decide_eq_true c16
            clear c16
            obtain ⟨y368, hy368⟩ : ∃ y_ : List ByteArray, y_ = (([(⟨#[32]⟩ : ByteArray), (⟨#[9]⟩ : ByteArray), (⟨#[]⟩ : ByteArray)] : List ByteArray)) := ⟨_, rfl⟩
            replace H : (if 0 ≤ (Int.tmod x24_1 3) then (if (Int.tmod x24_1 3) < (y368.length : Int) then (if (rdOf ByteArray.empty y364 (Go.bits .and .i64 (ji14) 3)).size + (rdOf ByteArray.empty y368 (Int.tmod x24_1 3)).size ≤ 9223372036854775807 then ((deci_Text.f k1 (Go.bits .and .i64 ((rd_T34 l0 x24_1).f0) 65535) 1).bind fun t372 => (if ((rdOf ByteArray.empty y364 (Go.bits .and .i64 (ji14) 3)) ++ (rdOf ByteArray.empty y368 (Int.tmod x24_1 3))).size + t372.size ≤ 9223372036854775807 then (if (((rdOf ByteArray.empty y364 (Go.bits .and .i64 (ji14) 3)) ++ (rdOf ByteArray.empty y368 (Int.tmod x24_1 3))) ++ t372).size + 2 ≤ 9223372036854775807 then ((deci_Text.f k1 (wrap64 (-(Go.bits .and .i64 ((rd_T34 l0 x24_1).f1) 65535))) 1).bind fun t373 => (if ((((rdOf ByteArray.empty y364 (Go.bits .and .i64 (ji14) 3)) ++ (rdOf ByteArray.empty y368 (Int.tmod x24_1 3))) ++ t372) ++ (⟨#[32, 32]⟩ : ByteArray)).size + t373.size ≤ 9223372036854775807 then (if (((((rdOf ByteArray.empty y364 (Go.bits .and .i64 (ji14) 3)) ++ (rdOf ByteArray.empty y368 (Int.tmod x24_1 3))) ++ t372) ++ (⟨#[32, 32]⟩ : ByteArray)) ++ t373).size + 1 ≤ 9223372036854775807 then ((deci_Text.f k1 (Go.bits .and .i64 ((rd_T34 l0 x24_1).f2) 255) 0).bind fun t374 => (if ((((((rdOf ByteArray.empty y364 (Go.bits .and .i64 (ji14) 3)) ++ (rdOf ByteArray.empty y368 (Int.tmod x24_1 3))) ++ t372) ++ (⟨#[32, 32]⟩ : ByteArray)) ++ t373) ++ (⟨#[9]⟩ : ByteArray)).size + t374.size ≤ 9223372036854775807 then ((some (([(⟨#[]⟩ : ByteArray), (⟨#[32]⟩ : ByteArray), (⟨#[13]⟩ : ByteArray)] : List ByteArray) : List ByteArray)).bind fun y375 => (if 0 ≤ (Int.tmod (wrap64 ((Go.bits .and .i64 a1 255) + x24_1)) 3) then (if (Int.tmod (wrap64 ((Go.bits .and .i64 a1 255) + x24_1)) 3) < (y375.length : Int) then (if (((((((rdOf ByteArray.empty y364 (Go.bits .and .i64 (ji14) 3)) ++ (rdOf ByteArray.empty y368 (Int.tmod x24_1 3))) ++ t372) ++ (⟨#[32, 32]⟩ : ByteArray)) ++ t373) ++ (⟨#[9]⟩ : ByteArray)) ++ t374).size + (rdOf ByteArray.empty y375 (Int.tmod (wrap64 ((Go.bits .and .i64 a1 255) + x24_1)) 3)).size ≤ 9223372036854775807 then (if ((((((((rdOf ByteArray.empty y364 (Go.bits .and .i64 (ji14) 3)) ++ (rdOf ByteArray.empty y368 (Int.tmod x24_1 3))) ++ t372) ++ (⟨#[32, 32]⟩ : ByteArray)) ++ t373) ++ (⟨#[9]⟩ : ByteArray)) ++ t374) ++ (rdOf ByteArray.empty y375 (Int.tmod (wrap64 ((Go.bits .and .i64 a1 255) + x24_1)) 3))).size + 1 ≤ 9223372036854775807 then (if x6_1.size + (((((((((rdOf ByteArray.empty y364 (Go.bits .and .i64 (ji14) 3)) ++ (rdOf ByteArray.empty y368 (Int.tmod x24_1 3))) ++ t372) ++ (⟨#[32, 32]⟩ : ByteArray)) ++ t373) ++ (⟨#[9]⟩ : ByteArray)) ++ t374) ++ (rdOf ByteArray.empty y375 (Int.tmod (wrap64 ((Go.bits .and .i64 a1 255) + x24_1)) 3))) ++ (⟨#[10]⟩ : ByteArray)).size ≤ 9223372036854775807 then (isohyetlaw25_DataRemarks.l0 k1 a1 y361 (x6_1 ++ (((((((((rdOf ByteArray.empty y364 (Go.bits .and .i64 (ji14) 3)) ++ (rdOf ByteArray.empty y368 (Int.tmod x24_1 3))) ++ t372) ++ (⟨#[32, 32]⟩ : ByteArray)) ++ t373) ++ (⟨#[9]⟩ : ByteArray)) ++ t374) ++ (rdOf ByteArray.empty y375 (Int.tmod (wrap64 ((Go.bits .and .i64 a1 255) + x24_1)) 3))) ++ (⟨#[10]⟩ : ByteArray))) l0 (l0.length : Int) (wrap64 (x24_1 + 1))) else (none)) else (none)) else (none)) else (none)) else (none))) else (none))) else (none)) else (none))) else (none)) else (none))) else (none)) else (none)) else (none)) = some r := by first | (rw [hy368]; with_reducible exact H) | (have H2_ := (Option.bind_some _ _).symm.trans H; rw [hy368]; with_reducible exact H2_) | (have H2_ := (Option.bind_some _ _).symm.trans H; with_reducible exact H2_) | with_reducible exact H | (rw [hy368]; exact H) | exact H
            have Ny368 := Aside0.mk hy368
            clear hy368
            obtain ⟨ji17, hji17⟩ : ∃ j_ : Int, (Int.tmod x24_1 3) = j_ := ⟨_, rfl⟩
            replace H : (if 0 ≤ (ji17) then (if (ji17) < (y368.length : Int) then (if (rdOf ByteArray.empty y364 (Go.bits .and .i64 (ji14) 3)).size + (rdOf ByteArray.empty y368 (ji17)).size ≤ 9223372036854775807 then ((deci_Text.f k1 (Go.bits .and .i64 ((rd_T34 l0 x24_1).f0) 65535) 1).bind fun t372 => (if ((rdOf ByteArray.empty y364 (Go.bits .and .i64 (ji14) 3)) ++ (rdOf ByteArray.empty y368 (ji17))).size + t372.size ≤ 9223372036854775807 then (if (((rdOf ByteArray.empty y364 (Go.bits .and .i64 (ji14) 3)) ++ (rdOf ByteArray.empty y368 (ji17))) ++ t372).size + 2 ≤ 9223372036854775807 then ((deci_Text.f k1 (wrap64 (-(Go.bits .and .i64 ((rd_T34 l0 x24_1).f1) 65535))) 1).bind fun t373 => (if ((((rdOf ByteArray.empty y364 (Go.bits .and .i64 (ji14) 3)) ++ (rdOf ByteArray.empty y368 (ji17))) ++ t372) ++ (⟨#[32, 32]⟩ : ByteArray)).size + t373.size ≤ 9223372036854775807 then (if (((((rdOf ByteArray.empty y364 (Go.bits .and .i64 (ji14) 3)) ++ (rdOf ByteArray.empty y368 (ji17))) ++ t372) ++ (⟨#[32, 32]⟩ : ByteArray)) ++ t373).size + 1 ≤ 9223372036854775807 then ((deci_Text.f k1 (Go.bits .and .i64 ((rd_T34 l0 x24_1).f2) 255) 0).bind fun t374 => (if ((((((rdOf ByteArray.empty y364 (Go.bits .and .i64 (ji14) 3)) ++ (rdOf ByteArray.empty y368 (ji17))) ++ t372) ++ (⟨#[32, 32]⟩ : ByteArray)) ++ t373) ++ (⟨#[9]⟩ : ByteArray)).size + t374.size ≤ 9223372036854775807 then ((some (([(⟨#[]⟩ : ByteArray), (⟨#[32]⟩ : ByteArray), (⟨#[13]⟩ : ByteArray)] : List ByteArray) : List ByteArray)).bind fun y375 => (if 0 ≤ (Int.tmod (wrap64 ((Go.bits .and .i64 a1 255) + x24_1)) 3) then (if (Int.tmod (wrap64 ((Go.bits .and .i64 a1 255) + x24_1)) 3) < (y375.length : Int) then (if (((((((rdOf ByteArray.empty y364 (Go.bits .and .i64 (ji14) 3)) ++ (rdOf ByteArray.empty y368 (ji17))) ++ t372) ++ (⟨#[32, 32]⟩ : ByteArray)) ++ t373) ++ (⟨#[9]⟩ : ByteArray)) ++ t374).size + (rdOf ByteArray.empty y375 (Int.tmod (wrap64 ((Go.bits .and .i64 a1 255) + x24_1)) 3)).size ≤ 9223372036854775807 then (if ((((((((rdOf ByteArray.empty y364 (Go.bits .and .i64 (ji14) 3)) ++ (rdOf ByteArray.empty y368 (ji17))) ++ t372) ++ (⟨#[32, 32]⟩ : ByteArray)) ++ t373) ++ (⟨#[9]⟩ : ByteArray)) ++ t374) ++ (rdOf ByteArray.empty y375 (Int.tmod (wrap64 ((Go.bits .and .i64 a1 255) + x24_1)) 3))).size + 1 ≤ 9223372036854775807 then (if x6_1.size + (((((((((rdOf ByteArray.empty y364 (Go.bits .and .i64 (ji14) 3)) ++ (rdOf ByteArray.empty y368 (ji17))) ++ t372) ++ (⟨#[32, 32]⟩ : ByteArray)) ++ t373) ++ (⟨#[9]⟩ : ByteArray)) ++ t374) ++ (rdOf ByteArray.empty y375 (Int.tmod (wrap64 ((Go.bits .and .i64 a1 255) + x24_1)) 3))) ++ (⟨#[10]⟩ : ByteArray)).size ≤ 9223372036854775807 then (isohyetlaw25_DataRemarks.l0 k1 a1 y361 (x6_1 ++ (((((((((rdOf ByteArray.empty y364 (Go.bits .and .i64 (ji14) 3)) ++ (rdOf ByteArray.empty y368 (ji17))) ++ t372) ++ (⟨#[32, 32]⟩ : ByteArray)) ++ t373) ++ (⟨#[9]⟩ : ByteArray)) ++ t374) ++ (rdOf ByteArray.empty y375 (Int.tmod (wrap64 ((Go.bits .and .i64 a1 255) + x24_1)) 3))) ++ (⟨#[10]⟩ : ByteArray))) l0 (l0.length : Int) (wrap64 (x24_1 + 1))) else (none)) else (none)) else (none)) else (none)) else (none))) else (none))) else (none)) else (none))) else (none)) else (none))) else (none)) else (none)) else (none)) = some r := by first | (rw [hji17] at H; exact H) | (simp only [hji17] at H ⊢; exact H)
            by_cases c18 : 0 ≤ (ji17)
            ·rw [if_pos c18] at H
             have c18b0 : decide (0 ≤ (ji17)) = true := decide_eq_true c18
             clear c18
             by_cases c19 : (ji17) < (y368.length : Int)
             ·rw [if_pos c19] at H
              have c19b0 : decide ((ji17) < (y368.length : Int)) = true := decide_eq_true c19
              clear c19
              by_cases c20 : (rdOf ByteArray.empty y364 (Go.bits .and .i64 (ji14) 3)).size + (rdOf ByteArray.empty y368 (ji17)).size ≤ 9223372036854775807
              ·rw [if_pos c20] at H
               have c20b0 := eq_true c20
               have c20b1 : decide ((rdOf ByteArray.empty y364 (Go.bits .and .i64 (ji14) 3)).size + (rdOf ByteArray.empty y368 (ji17)).size ≤ 9223372036854775807) = true := decide_eq_true c20
               try have c20b2 : (9223372036854775807 < (rdOf ByteArray.empty y364 (Go.bits .and .i64 (ji14) 3)).size + (rdOf ByteArray.empty y368 (ji17)).size) = False := eq_false (Nat.not_lt.2 c20)
               replace H := Option.bind_eq_some_iff.mp H
               obtain ⟨t372, A210, H⟩ := H
               replace H : (if ((rdOf ByteArray.empty y364 (Go.bits .and .i64 (ji14) 3)) ++ (rdOf ByteArray.empty y368 (ji17))).size + t372.size ≤ 9223372036854775807 then (if (((rdOf ByteArray.empty y364 (Go.bits .and .i64 (ji14) 3)) ++ (rdOf ByteArray.empty y368 (ji17))) ++ t372).size + 2 ≤ 9223372036854775807 then ((deci_Text.f k1 (wrap64 (-(Go.bits .and .i64 ((rd_T34 l0 x24_1).f1) 65535))) 1).bind fun t373 => (if ((((rdOf ByteArray.empty y364 (Go.bits .and .i64 (ji14) 3)) ++ (rdOf ByteArray.empty y368 (ji17))) ++ t372) ++ (⟨#[32, 32]⟩ : ByteArray)).size + t373.size ≤ 9223372036854775807 then (if (((((rdOf ByteArray.empty y364 (Go.bits .and .i64 (ji14) 3)) ++ (rdOf ByteArray.empty y368 (ji17))) ++ t372) ++ (⟨#[32, 32]⟩ : ByteArray)) ++ t373).size + 1 ≤ 9223372036854775807 then ((deci_Text.f k1 (Go.bits .and .i64 ((rd_T34 l0 x24_1).f2) 255) 0).bind fun t374 => (if ((((((rdOf ByteArray.empty y364 (Go.bits .and .i64 (ji14) 3)) ++ (rdOf ByteArray.empty y368 (ji17))) ++ t372) ++ (⟨#[32, 32]⟩ : ByteArray)) ++ t373) ++ (⟨#[9]⟩ : ByteArray)).size + t374.size ≤ 9223372036854775807 then ((some (([(⟨#[]⟩ : ByteArray), (⟨#[32]⟩ : ByteArray), (⟨#[13]⟩ : ByteArray)] : List ByteArray) : List ByteArray)).bind fun y375 => (if 0 ≤ (Int.tmod (wrap64 ((Go.bits .and .i64 a1 255) + x24_1)) 3) then (if (Int.tmod (wrap64 ((Go.bits .and .i64 a1 255) + x24_1)) 3) < (y375.length : Int) then (if (((((((rdOf ByteArray.empty y364 (Go.bits .and .i64 (ji14) 3)) ++ (rdOf ByteArray.empty y368 (ji17))) ++ t372) ++ (⟨#[32, 32]⟩ : ByteArray)) ++ t373) ++ (⟨#[9]⟩ : ByteArray)) ++ t374).size + (rdOf ByteArray.empty y375 (Int.tmod (wrap64 ((Go.bits .and .i64 a1 255) + x24_1)) 3)).size ≤ 9223372036854775807 then (if ((((((((rdOf ByteArray.empty y364 (Go.bits .and .i64 (ji14) 3)) ++ (rdOf ByteArray.empty y368 (ji17))) ++ t372) ++ (⟨#[32, 32]⟩ : ByteArray)) ++ t373) ++ (⟨#[9]⟩ : ByteArray)) ++ t374) ++ (rdOf ByteArray.empty y375 (Int.tmod (wrap64 ((Go.bits .and .i64 a1 255) + x24_1)) 3))).size + 1 ≤ 9223372036854775807 then (if x6_1.size + (((((((((rdOf ByteArray.empty y364 (Go.bits .and .i64 (ji14) 3)) ++ (rdOf ByteArray.empty y368 (ji17))) ++ t372) ++ (⟨#[32, 32]⟩ : ByteArray)) ++ t373) ++ (⟨#[9]⟩ : ByteArray)) ++ t374) ++ (rdOf ByteArray.empty y375 (Int.tmod (wrap64 ((Go.bits .and .i64 a1 255) + x24_1)) 3))) ++ (⟨#[10]⟩ : ByteArray)).size ≤ 9223372036854775807 then (isohyetlaw25_DataRemarks.l0 k1 a1 y361 (x6_1 ++ (((((((((rdOf ByteArray.empty y364 (Go.bits .and .i64 (ji14) 3)) ++ (rdOf ByteArray.empty y368 (ji17))) ++ t372) ++ (⟨#[32, 32]⟩ : ByteArray)) ++ t373) ++ (⟨#[9]⟩ : ByteArray)) ++ t374) ++ (rdOf ByteArray.empty y375 (Int.tmod (wrap64 ((Go.bits .and .i64 a1 255) + x24_1)) 3))) ++ (⟨#[10]⟩ : ByteArray))) l0 (l0.length : Int) (wrap64 (x24_1 + 1))) else (none)) else (none)) else (none)) else (none)) else (none))) else (none))) else (none)) else (none))) else (none)) else (none)) = some r := H
               have A21 := Aside0.mk A210
               clear A210
               by_cases c22 : ((rdOf ByteArray.empty y364 (Go.bits .and .i64 (ji14) 3)) ++ (rdOf ByteArray.empty y368 (ji17))).size + t372.size ≤ 9223372036854775807
               ·rw [if_pos c22] at H
                have c22b0 := eq_true c22
                have c22b1 : decide (((rdOf ByteArray.empty y364 (Go.bits .and .i64 (ji14) 3)) ++ (rdOf ByteArray.empty y368 (ji17))).size + t372.size ≤ 9223372036854775807) = true := decide_eq_true c22
                try have c22b2 : (9223372036854775807 < ((rdOf ByteArray.empty y364 (Go.bits .and .i64 (ji14) 3)) ++ (rdOf ByteArray.empty y368 (ji17))).size + t372.size) = False := eq_false (Nat.not_lt.2 c22)
                by_cases c23 : (((rdOf ByteArray.empty y364 (Go.bits .and .i64 (ji14) 3)) ++ (rdOf ByteArray.empty y368 (ji17))) ++ t372).size + 2 ≤ 9223372036854775807
                ·rw [if_pos c23] at H
                 have c23b0 := eq_true c23
                 have c23b1 : decide ((((rdOf ByteArray.empty y364 (Go.bits .and .i64 (ji14) 3)) ++ (rdOf ByteArray.empty y368 (ji17))) ++ t372).size + 2 ≤ 9223372036854775807) = true := decide_eq_true c23
                 try have c23b2 : (9223372036854775807 < (((rdOf ByteArray.empty y364 (Go.bits .and .i64 (ji14) 3)) ++ (rdOf ByteArray.empty y368 (ji17))) ++ t372).size + 2) = False := eq_false (Nat.not_lt.2 c23)
                 replace H := Option.bind_eq_some_iff.mp H
                 obtain ⟨t373, A240, H⟩ := H
                 replace H : (if ((((rdOf ByteArray.empty y364 (Go.bits .and .i64 (ji14) 3)) ++ (rdOf ByteArray.empty y368 (ji17))) ++ t372) ++ (⟨#[32, 32]⟩ : ByteArray)).size + t373.size ≤ 9223372036854775807 then (if (((((rdOf ByteArray.empty y364 (Go.bits .and .i64 (ji14) 3)) ++ (rdOf ByteArray.empty y368 (ji17))) ++ t372) ++ (⟨#[32, 32]⟩ : ByteArray)) ++ t373).size + 1 ≤ 9223372036854775807 then ((deci_Text.f k1 (Go.bits .and .i64 ((rd_T34 l0 x24_1).f2) 255) 0).bind fun t374 => (if ((((((rdOf ByteArray.empty y364 (Go.bits .and .i64 (ji14) 3)) ++ (rdOf ByteArray.empty y368 (ji17))) ++ t372) ++ (⟨#[32, 32]⟩ : ByteArray)) ++ t373) ++ (⟨#[9]⟩ : ByteArray)).size + t374.size ≤ 9223372036854775807 then ((some (([(⟨#[]⟩ : ByteArray), (⟨#[32]⟩ : ByteArray), (⟨#[13]⟩ : ByteArray)] : List ByteArray) : List ByteArray)).bind fun y375 => (if 0 ≤ (Int.tmod (wrap64 ((Go.bits .and .i64 a1 255) + x24_1)) 3) then (if (Int.tmod (wrap64 ((Go.bits .and .i64 a1 255) + x24_1)) 3) < (y375.length : Int) then (if (((((((rdOf ByteArray.empty y364 (Go.bits .and .i64 (ji14) 3)) ++ (rdOf ByteArray.empty y368 (ji17))) ++ t372) ++ (⟨#[32, 32]⟩ : ByteArray)) ++ t373) ++ (⟨#[9]⟩ : ByteArray)) ++ t374).size + (rdOf ByteArray.empty y375 (Int.tmod (wrap64 ((Go.bits .and .i64 a1 255) + x24_1)) 3)).size ≤ 9223372036854775807 then (if ((((((((rdOf ByteArray.empty y364 (Go.bits .and .i64 (ji14) 3)) ++ (rdOf ByteArray.empty y368 (ji17))) ++ t372) ++ (⟨#[32, 32]⟩ : ByteArray)) ++ t373) ++ (⟨#[9]⟩ : ByteArray)) ++ t374) ++ (rdOf ByteArray.empty y375 (Int.tmod (wrap64 ((Go.bits .and .i64 a1 255) + x24_1)) 3))).size + 1 ≤ 9223372036854775807 then (if x6_1.size + (((((((((rdOf ByteArray.empty y364 (Go.bits .and .i64 (ji14) 3)) ++ (rdOf ByteArray.empty y368 (ji17))) ++ t372) ++ (⟨#[32, 32]⟩ : ByteArray)) ++ t373) ++ (⟨#[9]⟩ : ByteArray)) ++ t374) ++ (rdOf ByteArray.empty y375 (Int.tmod (wrap64 ((Go.bits .and .i64 a1 255) + x24_1)) 3))) ++ (⟨#[10]⟩ : ByteArray)).size ≤ 9223372036854775807 then (isohyetlaw25_DataRemarks.l0 k1 a1 y361 (x6_1 ++ (((((((((rdOf ByteArray.empty y364 (Go.bits .and .i64 (ji14) 3)) ++ (rdOf ByteArray.empty y368 (ji17))) ++ t372) ++ (⟨#[32, 32]⟩ : ByteArray)) ++ t373) ++ (⟨#[9]⟩ : ByteArray)) ++ t374) ++ (rdOf ByteArray.empty y375 (Int.tmod (wrap64 ((Go.bits .and .i64 a1 255) + x24_1)) 3))) ++ (⟨#[10]⟩ : ByteArray))) l0 (l0.length : Int) (wrap64 (x24_1 + 1))) else (none)) else (none)) else (none)) else (none)) else (none))) else (none))) else (none)) else (none)) = some r := H
                 have A24 := Aside0.mk A240
                 clear A240
                 by_cases c25 : ((((rdOf ByteArray.empty y364 (Go.bits .and .i64 (ji14) 3)) ++ (rdOf ByteArray.empty y368 (ji17))) ++ t372) ++ (⟨#[32, 32]⟩ : ByteArray)).size + t373.size ≤ 9223372036854775807
                 ·rw [if_pos c25] at H
                  have c25b0 := eq_true c25
                  have c25b1 : decide (((((rdOf ByteArray.empty y364 (Go.bits .and .i64 (ji14) 3)) ++ (rdOf ByteArray.empty y368 (ji17))) ++ t372) ++ (⟨#[32, 32]⟩ : ByteArray)).size + t373.size ≤ 9223372036854775807) = true := decide_eq_true c25
                  try have c25b2 : (9223372036854775807 < ((((rdOf ByteArray.empty y364 (Go.bits .and .i64 (ji14) 3)) ++ (rdOf ByteArray.empty y368 (ji17))) ++ t372) ++ (⟨#[32, 32]⟩ : ByteArray)).size + t373.size) = False := eq_false (Nat.not_lt.2 c25)
                  by_cases c26 : (((((rdOf ByteArray.empty y364 (Go.bits .and .i64 (ji14) 3)) ++ (rdOf ByteArray.empty y368 (ji17))) ++ t372) ++ (⟨#[32, 32]⟩ : ByteArray)) ++ t373).size + 1 ≤ 9223372036854775807
                  ·rw [if_pos c26] at H
                   have c26b0 := eq_true c26
                   have c26b1 : decide ((((((rdOf ByteArray.empty y364 (Go.bits .and .i64 (ji14) 3)) ++ (rdOf ByteArray.empty y368 (ji17))) ++ t372) ++ (⟨#[32, 32]⟩ : ByteArray)) ++ t373).size + 1 ≤ 9223372036854775807) = true := decide_eq_true c26
                   try have c26b2 : (9223372036854775807 < (((((rdOf ByteArray.empty y364 (Go.bits .and .i64 (ji14) 3)) ++ (rdOf ByteArray.empty y368 (ji17))) ++ t372) ++ (⟨#[32, 32]⟩ : ByteArray)) ++ t373).size + 1) = False := eq_false (Nat.not_lt.2 c26)
                   replace H := Option.bind_eq_some_iff.mp H
                   obtain ⟨t374, A270, H⟩ := H
                   replace H : (if ((((((rdOf ByteArray.empty y364 (Go.bits .and .i64 (ji14) 3)) ++ (rdOf ByteArray.empty y368 (ji17))) ++ t372) ++ (⟨#[32, 32]⟩ : ByteArray)) ++ t373) ++ (⟨#[9]⟩ : ByteArray)).size + t374.size ≤ 9223372036854775807 then ((some (([(⟨#[]⟩ : ByteArray), (⟨#[32]⟩ : ByteArray), (⟨#[13]⟩ : ByteArray)] : List ByteArray) : List ByteArray)).bind fun y375 => (if 0 ≤ (Int.tmod (wrap64 ((Go.bits .and .i64 a1 255) + x24_1)) 3) then (if (Int.tmod (wrap64 ((Go.bits .and .i64 a1 255) + x24_1)) 3) < (y375.length : Int) then (if (((((((rdOf ByteArray.empty y364 (Go.bits .and .i64 (ji14) 3)) ++ (rdOf ByteArray.empty y368 (ji17))) ++ t372) ++ (⟨#[32, 32]⟩ : ByteArray)) ++ t373) ++ (⟨#[9]⟩ : ByteArray)) ++ t374).size + (rdOf ByteArray.empty y375 (Int.tmod (wrap64 ((Go.bits .and .i64 a1 255) + x24_1)) 3)).size ≤ 9223372036854775807 then (if ((((((((rdOf ByteArray.empty y364 (Go.bits .and .i64 (ji14) 3)) ++ (rdOf ByteArray.empty y368 (ji17))) ++ t372) ++ (⟨#[32, 32]⟩ : ByteArray)) ++ t373) ++ (⟨#[9]⟩ : ByteArray)) ++ t374) ++ (rdOf ByteArray.empty y375 (Int.tmod (wrap64 ((Go.bits .and .i64 a1 255) + x24_1)) 3))).size + 1 ≤ 9223372036854775807 then (if x6_1.size + (((((((((rdOf ByteArray.empty y364 (Go.bits .and .i64 (ji14) 3)) ++ (rdOf ByteArray.empty y368 (ji17))) ++ t372) ++ (⟨#[32, 32]⟩ : ByteArray)) ++ t373) ++ (⟨#[9]⟩ : ByteArray)) ++ t374) ++ (rdOf ByteArray.empty y375 (Int.tmod (wrap64 ((Go.bits .and .i64 a1 255) + x24_1)) 3))) ++ (⟨#[10]⟩ : ByteArray)).size ≤ 9223372036854775807 then (isohyetlaw25_DataRemarks.l0 k1 a1 y361 (x6_1 ++ (((((((((rdOf ByteArray.empty y364 (Go.bits .and .i64 (ji14) 3)) ++ (rdOf ByteArray.empty y368 (ji17))) ++ t372) ++ (⟨#[32, 32]⟩ : ByteArray)) ++ t373) ++ (⟨#[9]⟩ : ByteArray)) ++ t374) ++ (rdOf ByteArray.empty y375 (Int.tmod (wrap64 ((Go.bits .and .i64 a1 255) + x24_1)) 3))) ++ (⟨#[10]⟩ : ByteArray))) l0 (l0.length : Int) (wrap64 (x24_1 + 1))) else (none)) else (none)) else (none)) else (none)) else (none))) else (none)) = some r := H
                   have A27 := Aside0.mk A270
                   clear A270
                   by_cases c28 : ((((((rdOf ByteArray.empty y364 (Go.bits .and .i64 (ji14) 3)) ++ (rdOf ByteArray.empty y368 (ji17))) ++ t372) ++ (⟨#[32, 32]⟩ : ByteArray)) ++ t373) ++ (⟨#[9]⟩ : ByteArray)).size + t374.size ≤ 9223372036854775807
                   ·rw [if_pos c28] at H
                    have c28b0 := eq_true c28
                    have c28b1 : decide (((((((rdOf ByteArray.empty y364 (Go.bits .and .i64 (ji14) 3)) ++ (rdOf ByteArray.empty y368 (ji17))) ++ t372) ++ (⟨#[32, 32]⟩ : ByteArray)) ++ t373) ++ (⟨#[9]⟩ : ByteArray)).size + t374.size ≤ 9223372036854775807) = true := decide_eq_true c28
                    try have c28b2 : (9223372036854775807 < ((((((rdOf ByteArray.empty y364 (Go.bits .and .i64 (ji14) 3)) ++ (rdOf ByteArray.empty y368 (ji17))) ++ t372) ++ (⟨#[32, 32]⟩ : ByteArray)) ++ t373) ++ (⟨#[9]⟩ : ByteArray)).size + t374.size) = False := eq_false (Nat.not_lt.2 c28)
                    obtain ⟨y375, hy375⟩ : ∃ y_ : List ByteArray, y_ = (([(⟨#[]⟩ : ByteArray), (⟨#[32]⟩ : ByteArray), (⟨#[13]⟩ : ByteArray)] : List ByteArray)) := ⟨_, rfl⟩
                    replace H : (if 0 ≤ (Int.tmod (wrap64 ((Go.bits .and .i64 a1 255) + x24_1)) 3) then (if (Int.tmod (wrap64 ((Go.bits .and .i64 a1 255) + x24_1)) 3) < (y375.length : Int) then (if (((((((rdOf ByteArray.empty y364 (Go.bits .and .i64 (ji14) 3)) ++ (rdOf ByteArray.empty y368 (ji17))) ++ t372) ++ (⟨#[32, 32]⟩ : ByteArray)) ++ t373) ++ (⟨#[9]⟩ : ByteArray)) ++ t374).size + (rdOf ByteArray.empty y375 (Int.tmod (wrap64 ((Go.bits .and .i64 a1 255) + x24_1)) 3)).size ≤ 9223372036854775807 then (if ((((((((rdOf ByteArray.empty y364 (Go.bits .and .i64 (ji14) 3)) ++ (rdOf ByteArray.empty y368 (ji17))) ++ t372) ++ (⟨#[32, 32]⟩ : ByteArray)) ++ t373) ++ (⟨#[9]⟩ : ByteArray)) ++ t374) ++ (rdOf ByteArray.empty y375 (Int.tmod (wrap64 ((Go.bits .and .i64 a1 255) + x24_1)) 3))).size + 1 ≤ 9223372036854775807 then (if x6_1.size + (((((((((rdOf ByteArray.empty y364 (Go.bits .and .i64 (ji14) 3)) ++ (rdOf ByteArray.empty y368 (ji17))) ++ t372) ++ (⟨#[32, 32]⟩ : ByteArray)) ++ t373) ++ (⟨#[9]⟩ : ByteArray)) ++ t374) ++ (rdOf ByteArray.empty y375 (Int.tmod (wrap64 ((Go.bits .and .i64 a1 255) + x24_1)) 3))) ++ (⟨#[10]⟩ : ByteArray)).size ≤ 9223372036854775807 then (isohyetlaw25_DataRemarks.l0 k1 a1 y361 (x6_1 ++ (((((((((rdOf ByteArray.empty y364 (Go.bits .and .i64 (ji14) 3)) ++ (rdOf ByteArray.empty y368 (ji17))) ++ t372) ++ (⟨#[32, 32]⟩ : ByteArray)) ++ t373) ++ (⟨#[9]⟩ : ByteArray)) ++ t374) ++ (rdOf ByteArray.empty y375 (Int.tmod (wrap64 ((Go.bits .and .i64 a1 255) + x24_1)) 3))) ++ (⟨#[10]⟩ : ByteArray))) l0 (l0.length : Int) (wrap64 (x24_1 + 1))) else (none)) else (none)) else (none)) else (none)) else (none)) = some r := by first | (rw [hy375]; with_reducible exact H) | (have H2_ := (Option.bind_some _ _).symm.trans H; rw [hy375]; with_reducible exact H2_) | (have H2_ := (Option.bind_some _ _).symm.trans H; with_reducible exact H2_) | with_reducible exact H | (rw [hy375]; exact H) | exact H
                    have Ny375 := Aside0.mk hy375
                    clear hy375
                    obtain ⟨ji29, hji29⟩ : ∃ j_ : Int, (Int.tmod (wrap64 ((Go.bits .and .i64 a1 255) + x24_1)) 3) = j_ := ⟨_, rfl⟩
                    replace H : (if 0 ≤ (ji29) then (if (ji29) < (y375.length : Int) then (if (((((((rdOf ByteArray.empty y364 (Go.bits .and .i64 (ji14) 3)) ++ (rdOf ByteArray.empty y368 (ji17))) ++ t372) ++ (⟨#[32, 32]⟩ : ByteArray)) ++ t373) ++ (⟨#[9]⟩ : ByteArray)) ++ t374).size + (rdOf ByteArray.empty y375 (ji29)).size ≤ 9223372036854775807 then (if ((((((((rdOf ByteArray.empty y364 (Go.bits .and .i64 (ji14) 3)) ++ (rdOf ByteArray.empty y368 (ji17))) ++ t372) ++ (⟨#[32, 32]⟩ : ByteArray)) ++ t373) ++ (⟨#[9]⟩ : ByteArray)) ++ t374) ++ (rdOf ByteArray.empty y375 (ji29))).size + 1 ≤ 9223372036854775807 then (if x6_1.size + (((((((((rdOf ByteArray.empty y364 (Go.bits .and .i64 (ji14) 3)) ++ (rdOf ByteArray.empty y368 (ji17))) ++ t372) ++ (⟨#[32, 32]⟩ : ByteArray)) ++ t373) ++ (⟨#[9]⟩ : ByteArray)) ++ t374) ++ (rdOf ByteArray.empty y375 (ji29))) ++ (⟨#[10]⟩ : ByteArray)).size ≤ 9223372036854775807 then (isohyetlaw25_DataRemarks.l0 k1 a1 y361 (x6_1 ++ (((((((((rdOf ByteArray.empty y364 (Go.bits .and .i64 (ji14) 3)) ++ (rdOf ByteArray.empty y368 (ji17))) ++ t372) ++ (⟨#[32, 32]⟩ : ByteArray)) ++ t373) ++ (⟨#[9]⟩ : ByteArray)) ++ t374) ++ (rdOf ByteArray.empty y375 (ji29))) ++ (⟨#[10]⟩ : ByteArray))) l0 (l0.length : Int) (wrap64 (x24_1 + 1))) else (none)) else (none)) else (none)) else (none)) else (none)) = some r := by first | (rw [hji29] at H; exact H) | (simp only [hji29] at H ⊢; exact H)
                    (try rw [hji29] at A21)
                    (try rw [hji29] at A24)
                    (try rw [hji29] at A27)
                    by_cases c30 : 0 ≤ (ji29)
                    ·rw [if_pos c30] at H
                     have c30b0 : decide (0 ≤ (ji29)) = true := decide_eq_true c30
                     clear c30
                     by_cases c31 : (ji29) < (y375.length : Int)
                     ·rw [if_pos c31] at H
                      have c31b0 : decide ((ji29) < (y375.length : Int)) = true := decide_eq_true c31
                      clear c31
                      by_cases c32 : (((((((rdOf ByteArray.empty y364 (Go.bits .and .i64 (ji14) 3)) ++ (rdOf ByteArray.empty y368 (ji17))) ++ t372) ++ (⟨#[32, 32]⟩ : ByteArray)) ++ t373) ++ (⟨#[9]⟩ : ByteArray)) ++ t374).size + (rdOf ByteArray.empty y375 (ji29)).size ≤ 9223372036854775807
                      ·rw [if_pos c32] at H
                       have c32b0 := eq_true c32
                       have c32b1 : decide ((((((((rdOf ByteArray.empty y364 (Go.bits .and .i64 (ji14) 3)) ++ (rdOf ByteArray.empty y368 (ji17))) ++ t372) ++ (⟨#[32, 32]⟩ : ByteArray)) ++ t373) ++ (⟨#[9]⟩ : ByteArray)) ++ t374).size + (rdOf ByteArray.empty y375 (ji29)).size ≤ 9223372036854775807) = true := decide_eq_true c32
                       try have c32b2 : (9223372036854775807 < (((((((rdOf ByteArray.empty y364 (Go.bits .and .i64 (ji14) 3)) ++ (rdOf ByteArray.empty y368 (ji17))) ++ t372) ++ (⟨#[32, 32]⟩ : ByteArray)) ++ t373) ++ (⟨#[9]⟩ : ByteArray)) ++ t374).size + (rdOf ByteArray.empty y375 (ji29)).size) = False := eq_false (Nat.not_lt.2 c32)
                       by_cases c33 : ((((((((rdOf ByteArray.empty y364 (Go.bits .and .i64 (ji14) 3)) ++ (rdOf ByteArray.empty y368 (ji17))) ++ t372) ++ (⟨#[32, 32]⟩ : ByteArray)) ++ t373) ++ (⟨#[9]⟩ : ByteArray)) ++ t374) ++ (rdOf ByteArray.empty y375 (ji29))).size + 1 ≤ 9223372036854775807
                       ·rw [if_pos c33] at H
                        have c33b0 := eq_true c33
                        have c33b1 : decide (((((((((rdOf ByteArray.empty y364 (Go.bits .and .i64 (ji14) 3)) ++ (rdOf ByteArray.empty y368 (ji17))) ++ t372) ++ (⟨#[32, 32]⟩ : ByteArray)) ++ t373) ++ (⟨#[9]⟩ : ByteArray)) ++ t374) ++ (rdOf ByteArray.empty y375 (ji29))).size + 1 ≤ 9223372036854775807) = true := decide_eq_true c33
                        try have c33b2 : (9223372036854775807 < ((((((((rdOf ByteArray.empty y364 (Go.bits .and .i64 (ji14) 3)) ++ (rdOf ByteArray.empty y368 (ji17))) ++ t372) ++ (⟨#[32, 32]⟩ : ByteArray)) ++ t373) ++ (⟨#[9]⟩ : ByteArray)) ++ t374) ++ (rdOf ByteArray.empty y375 (ji29))).size + 1) = False := eq_false (Nat.not_lt.2 c33)
                        by_cases c34 : x6_1.size + (((((((((rdOf ByteArray.empty y364 (Go.bits .and .i64 (ji14) 3)) ++ (rdOf ByteArray.empty y368 (ji17))) ++ t372) ++ (⟨#[32, 32]⟩ : ByteArray)) ++ t373) ++ (⟨#[9]⟩ : ByteArray)) ++ t374) ++ (rdOf ByteArray.empty y375 (ji29))) ++ (⟨#[10]⟩ : ByteArray)).size ≤ 9223372036854775807
                        ·rw [if_pos c34] at H
                         have c34b0 := eq_true c34
                         have c34b1 : decide (x6_1.size + (((((((((rdOf ByteArray.empty y364 (Go.bits .and .i64 (ji14) 3)) ++ (rdOf ByteArray.empty y368 (ji17))) ++ t372) ++ (⟨#[32, 32]⟩ : ByteArray)) ++ t373) ++ (⟨#[9]⟩ : ByteArray)) ++ t374) ++ (rdOf ByteArray.empty y375 (ji29))) ++ (⟨#[10]⟩ : ByteArray)).size ≤ 9223372036854775807) = true := decide_eq_true c34
                         try have c34b2 : (9223372036854775807 < x6_1.size + (((((((((rdOf ByteArray.empty y364 (Go.bits .and .i64 (ji14) 3)) ++ (rdOf ByteArray.empty y368 (ji17))) ++ t372) ++ (⟨#[32, 32]⟩ : ByteArray)) ++ t373) ++ (⟨#[9]⟩ : ByteArray)) ++ t374) ++ (rdOf ByteArray.empty y375 (ji29))) ++ (⟨#[10]⟩ : ByteArray)).size) = False := eq_false (Nat.not_lt.2 c34)
                         have H' := Aside0.mk H
                         clear H
                         have p358 : 0 ≤ (x24_1 : Int) := of_decide_eq_true (by first | (with_reducible assumption) | assumption)
                         have q358 : x24_1 < (l0.length : Int) := of_decide_eq_true (by first | (with_reducible assumption) | assumption)
                         obtain ⟨ad358, e358, hx358_0, hx358_1, hx358_2⟩ := at_T34 HR0.out x24_1 p358 q358
                         cases e358
                         replace hx358_0 := (HB.out.cell (World.block_lt_of_cell? w _ hx358_0)).trans hx358_0
                         replace hx358_1 := (HB.out.cell (World.block_lt_of_cell? w _ hx358_1)).trans hx358_1
                         replace hx358_2 := (HB.out.cell (World.block_lt_of_cell? w _ hx358_2)).trans hx358_2
                         replace p358 := eq_true p358
                         replace q358 := eq_true q358
                         try go_wp2_with (first | ((with_reducible refine gate_dst (N := 8) rfl ?_); (try (refine gate_guard (by rfl) ?_; dsimp only)); refine box_event ?hg (N := 8) ?hd (cs := #[.int .i64 0, .int .i64 0, .int .i64 0]) (t := 34) ?hr ?_; (case hd => rfl); (case hg => rfl); (case hr => first | (go_simp; done) | (go_simp; rfl)); intro gb359 hg w35 hbox hb; have n0_ := Aside0.mk (Kd.R_below (Kd.R_elderB (gR HO_5.out) gb359 (Nat.le_of_eq hg.symm)) hb); have n1_ := Aside0.mk (below_step (gB HB.out) hb); have n2_ := Aside0.mk (hbox); have n3_ := Aside0.mk ((by rw [hg]; exact (below_size (gB HB.out)) : w.heap.size ≤ gb359)); have n4_ := Aside0.mk ((by rw [hg]; exact (below_size (gB HB.out)) : w.heap.size ≤ gb359)); clear HO_5; clear HB; have HO_5 := n0_; have HB := n1_; have BK359 := n2_; have GW359 := n3_; have GE359 := n4_; clear n0_ n1_ n2_ n3_ n4_; clear hb hbox hg; have hcz36_0 : w35.cell? ⟨gb359, 0, none⟩ = some (.int .i64 0) := (blk_cell BK359.out 0).trans rfl; have hcz36_1 : w35.cell? ⟨gb359, 1, none⟩ = some (.int .i64 0) := (blk_cell BK359.out 1).trans rfl; have hcz36_2 : w35.cell? ⟨gb359, 2, none⟩ = some (.int .i64 0) := (blk_cell BK359.out 2).trans rfl; have hfz36_0 := blk_frozen BK359.out 0; have hfz36_1 := blk_frozen BK359.out 1; have hfz36_2 := blk_frozen BK359.out 2) | ((with_reducible refine gate_dst (N := 9) rfl ?_); (try (refine gate_guard (by rfl) ?_; dsimp only)); refine box_event ?hg (N := 9) ?hd (cs := #[.int .i64 0, .int .i64 0, .int .i64 0]) (t := 34) ?hr ?_; (case hd => rfl); (case hg => rfl); (case hr => first | (go_simp; done) | (go_simp; rfl)); intro gb360 hg w37 hbox hb; have n0_ := Aside0.mk (Kd.R_below (Kd.R_elderB (gR (Kd.R_mono (Kd.R_far (p := ⟨gb359, 2, none⟩) (Kd.R_far (p := ⟨gb359, 1, none⟩) (Kd.R_far (p := ⟨gb359, 0, none⟩) (Kd.R_mono HO_5.out (fun k_ hk => (⟨hk, hk.2⟩ : _ ∧ k_ ≠ gb359))) (fun _ hk => hk.2) (.int .i64 ((rd_T34 l0 x24_1).f0))) (fun _ hk => hk.2) (.int .i64 ((rd_T34 l0 x24_1).f1))) (fun _ hk => hk.2) (.int .i64 ((rd_T34 l0 x24_1).f2))) (fun _ h_ => h_.1))) gb360 (Nat.le_of_eq hg.symm)) hb); have n1_ := Aside0.mk (blk_below (g := gb359) (o := .cells #[.int .i64 ((rd_T34 l0 x24_1).f0), .int .i64 ((rd_T34 l0 x24_1).f1), .int .i64 ((rd_T34 l0 x24_1).f2)] 34 (0, 0)) (by (with_reducible repeat (first | refine blk_drewN ?_ _ | refine blk_drew ?_ | refine blk_alloc ?_ _)); refine blk_put (cs := #[.int .i64 ((rd_T34 l0 x24_1).f0), .int .i64 ((rd_T34 l0 x24_1).f1), .int .i64 0]) ?_ 2 _ rfl; (with_reducible repeat (first | refine blk_drewN ?_ _ | refine blk_drew ?_ | refine blk_alloc ?_ _)); refine blk_put (cs := #[.int .i64 ((rd_T34 l0 x24_1).f0), .int .i64 0, .int .i64 0]) ?_ 1 _ rfl; (with_reducible repeat (first | refine blk_drewN ?_ _ | refine blk_drew ?_ | refine blk_alloc ?_ _)); refine blk_put (cs := #[.int .i64 0, .int .i64 0, .int .i64 0]) ?_ 0 _ rfl; (with_reducible repeat (first | refine blk_drewN ?_ _ | refine blk_drew ?_ | refine blk_alloc ?_ _)); exact BK359.out) hb); have n2_ := Aside0.mk (below_step (by repeat (first | (with_reducible first | exact HB.out | apply bA | apply bN | apply bD | refine bS ?_ GE359.out) | exact HB.out)) hb); have n3_ := Aside0.mk (hbox); have n4_ := Aside0.mk ((by rw [hg]; exact (below_size (by repeat (first | (with_reducible first | exact HB.out | apply bA | apply bN | apply bD | refine bS ?_ GE359.out) | exact HB.out))) : w.heap.size ≤ gb360)); have n5_ := Aside0.mk ((by rw [hg]; exact (below_size (by repeat (first | (with_reducible first | exact HB.out | apply bA | apply bN | apply bD | refine bS ?_ GE359.out) | exact HB.out))) : w.heap.size ≤ gb360)); have n6_ := Aside0.mk ((by rw [hg]; exact Nat.ne_of_lt (blk_lt (g := gb359) (o := .cells #[.int .i64 ((rd_T34 l0 x24_1).f0), .int .i64 ((rd_T34 l0 x24_1).f1), .int .i64 ((rd_T34 l0 x24_1).f2)] 34 (0, 0)) (by (with_reducible repeat (first | refine blk_drewN ?_ _ | refine blk_drew ?_ | refine blk_alloc ?_ _)); refine blk_put (cs := #[.int .i64 ((rd_T34 l0 x24_1).f0), .int .i64 ((rd_T34 l0 x24_1).f1), .int .i64 0]) ?_ 2 _ rfl; (with_reducible repeat (first | refine blk_drewN ?_ _ | refine blk_drew ?_ | refine blk_alloc ?_ _)); refine blk_put (cs := #[.int .i64 ((rd_T34 l0 x24_1).f0), .int .i64 0, .int .i64 0]) ?_ 1 _ rfl; (with_reducible repeat (first | refine blk_drewN ?_ _ | refine blk_drew ?_ | refine blk_alloc ?_ _)); refine blk_put (cs := #[.int .i64 0, .int .i64 0, .int .i64 0]) ?_ 0 _ rfl; (with_reducible repeat (first | refine blk_drewN ?_ _ | refine blk_drew ?_ | refine blk_alloc ?_ _)); exact BK359.out)) : gb359 ≠ gb360)); have n7_ := Aside0.mk ((by rw [hg]; exact Nat.ne_of_gt (blk_lt (g := gb359) (o := .cells #[.int .i64 ((rd_T34 l0 x24_1).f0), .int .i64 ((rd_T34 l0 x24_1).f1), .int .i64 ((rd_T34 l0 x24_1).f2)] 34 (0, 0)) (by (with_reducible repeat (first | refine blk_drewN ?_ _ | refine blk_drew ?_ | refine blk_alloc ?_ _)); refine blk_put (cs := #[.int .i64 ((rd_T34 l0 x24_1).f0), .int .i64 ((rd_T34 l0 x24_1).f1), .int .i64 0]) ?_ 2 _ rfl; (with_reducible repeat (first | refine blk_drewN ?_ _ | refine blk_drew ?_ | refine blk_alloc ?_ _)); refine blk_put (cs := #[.int .i64 ((rd_T34 l0 x24_1).f0), .int .i64 0, .int .i64 0]) ?_ 1 _ rfl; (with_reducible repeat (first | refine blk_drewN ?_ _ | refine blk_drew ?_ | refine blk_alloc ?_ _)); refine blk_put (cs := #[.int .i64 0, .int .i64 0, .int .i64 0]) ?_ 0 _ rfl; (with_reducible repeat (first | refine blk_drewN ?_ _ | refine blk_drew ?_ | refine blk_alloc ?_ _)); exact BK359.out)) : gb360 ≠ gb359)); clear HO_5; clear BK359; clear HB; have HO_5 := n0_; have BK359 := n1_; have HB := n2_; have BK360 := n3_; have GW360 := n4_; have GE360 := n5_; have NB359_360 := n6_; have NB360_359 := n7_; clear n0_ n1_ n2_ n3_ n4_ n5_ n6_ n7_; clear hb hbox hg; have hnb38 := NB360_359.out; have hnc38 := NB359_360.out; have hcz39_0 : w37.cell? ⟨gb360, 0, none⟩ = some (.int .i64 0) := (blk_cell BK360.out 0).trans rfl; have hcz39_1 : w37.cell? ⟨gb360, 1, none⟩ = some (.int .i64 0) := (blk_cell BK360.out 1).trans rfl; have hcz39_2 : w37.cell? ⟨gb360, 2, none⟩ = some (.int .i64 0) := (blk_cell BK360.out 2).trans rfl; have hfz39_0 := blk_frozen BK360.out 0; have hfz39_1 := blk_frozen BK360.out 1; have hfz39_2 := blk_frozen BK360.out 2) | ((with_reducible refine gate_builtin (b := .append) (xs := #[.tmp 40, .tmp 42]) rfl ?_); (try (refine gate_guard (by rfl) ?_; dsimp only)); at_builtin; refine Kd.R_append k34 (w0 := w) w.heap.size rfl (.tmp 40) (.tmp 42) 23 34 (.agg #[(.int .i64 0), (.int .i64 0), (.int .i64 0)]) 24 rfl Tryz.underlying23 info34 rfl (by decide) (by omega) u5 x5_1 (⟨Go.bits .and .i64 ((rd_T34 l0 x24_1).f0) 65535, wrap64 (-(Go.bits .and .i64 ((rd_T34 l0 x24_1).f1) 65535)), Go.bits .and .i64 ((rd_T34 l0 x24_1).f2) 255⟩ : S34) [.int .i64 (Go.bits .and .i64 ((rd_T34 l0 x24_1).f0) 65535), .int .i64 (wrap64 (-(Go.bits .and .i64 ((rd_T34 l0 x24_1).f1) 65535))), .int .i64 (Go.bits .and .i64 ((rd_T34 l0 x24_1).f2) 255)] (fun k_ => k_ ≠ gb359 ∧ k_ ≠ gb360) (fun _ => False) rfl (by first | (go_simp; done) | (go_simp; rfl)) ?aP (fun _ hk => hk.elim) ?aF ?aO ?aB ?aS ?aL ?_; (case aP => exact k34_mkM _ _ _ (⟨Go.bits .and .i64 ((rd_T34 l0 x24_1).f0) 65535, wrap64 (-(Go.bits .and .i64 ((rd_T34 l0 x24_1).f1) 65535)), Go.bits .and .i64 ((rd_T34 l0 x24_1).f2) 255⟩ : S34)); (case aB => exact (by repeat (first | (with_reducible first | exact HB.out | apply bA | apply bN | apply bD | refine bS ?_ GE359.out | refine bS ?_ GE360.out) | exact HB.out))); (case aF => exact (fun k_ hk => ⟨Kd.freshB (g := gb359) (o := .cells #[.int .i64 ((rd_T34 l0 x24_1).f0), .int .i64 ((rd_T34 l0 x24_1).f1), .int .i64 ((rd_T34 l0 x24_1).f2)] 34 (0, 0)) (by (with_reducible repeat (first | refine blk_drewN ?_ _ | refine blk_drew ?_ | refine blk_alloc ?_ _)); refine blk_far ?_ NB359_360.out _; (with_reducible repeat (first | refine blk_drewN ?_ _ | refine blk_drew ?_ | refine blk_alloc ?_ _)); refine blk_far ?_ NB359_360.out _; (with_reducible repeat (first | refine blk_drewN ?_ _ | refine blk_drew ?_ | refine blk_alloc ?_ _)); refine blk_far ?_ NB359_360.out _; (with_reducible repeat (first | refine blk_drewN ?_ _ | refine blk_drew ?_ | refine blk_alloc ?_ _)); exact BK359.out) k_ hk, Kd.freshB (g := gb360) (o := .cells #[.int .i64 (Go.bits .and .i64 ((rd_T34 l0 x24_1).f0) 65535), .int .i64 (wrap64 (-(Go.bits .and .i64 ((rd_T34 l0 x24_1).f1) 65535))), .int .i64 (Go.bits .and .i64 ((rd_T34 l0 x24_1).f2) 255)] 34 (0, 0)) (by (with_reducible repeat (first | refine blk_drewN ?_ _ | refine blk_drew ?_ | refine blk_alloc ?_ _)); refine blk_put (cs := #[.int .i64 (Go.bits .and .i64 ((rd_T34 l0 x24_1).f0) 65535), .int .i64 (wrap64 (-(Go.bits .and .i64 ((rd_T34 l0 x24_1).f1) 65535))), .int .i64 0]) ?_ 2 _ rfl; (with_reducible repeat (first | refine blk_drewN ?_ _ | refine blk_drew ?_ | refine blk_alloc ?_ _)); refine blk_put (cs := #[.int .i64 (Go.bits .and .i64 ((rd_T34 l0 x24_1).f0) 65535), .int .i64 0, .int .i64 0]) ?_ 1 _ rfl; (with_reducible repeat (first | refine blk_drewN ?_ _ | refine blk_drew ?_ | refine blk_alloc ?_ _)); refine blk_put (cs := #[.int .i64 0, .int .i64 0, .int .i64 0]) ?_ 0 _ rfl; (with_reducible repeat (first | refine blk_drewN ?_ _ | refine blk_drew ?_ | refine blk_alloc ?_ _)); exact BK360.out) k_ hk⟩)); (case aO => exact (gR (Kd.R_mono (Kd.R_far (p := ⟨gb360, 2, none⟩) (Kd.R_far (p := ⟨gb360, 1, none⟩) (Kd.R_far (p := ⟨gb360, 0, none⟩) (Kd.R_mono HO_5.out (fun k_ hk => (⟨hk, hk.2⟩ : _ ∧ k_ ≠ gb360))) (fun _ hk => hk.2) (.int .i64 (Go.bits .and .i64 ((rd_T34 l0 x24_1).f0) 65535))) (fun _ hk => hk.2) (.int .i64 (wrap64 (-(Go.bits .and .i64 ((rd_T34 l0 x24_1).f1) 65535))))) (fun _ hk => hk.2) (.int .i64 (Go.bits .and .i64 ((rd_T34 l0 x24_1).f2) 255))) (fun _ hk => ⟨hk.1.1.2, hk.1.2⟩)))); (case aS => exact (below_size (by repeat (first | (with_reducible first | exact HB.out | apply bA | apply bN | apply bD | refine bS ?_ GE359.out | refine bS ?_ GE360.out) | exact HB.out)))); (case aL => have := LMc11.out; omega); intro v362 w40 ho hb hg hat; rw [← Ny361.out] at ho; have n0_ := Aside0.mk (blk_grown (g := gb359) (o := .cells #[.int .i64 ((rd_T34 l0 x24_1).f0), .int .i64 ((rd_T34 l0 x24_1).f1), .int .i64 ((rd_T34 l0 x24_1).f2)] 34 (0, 0)) (by (with_reducible repeat (first | refine blk_drewN ?_ _ | refine blk_drew ?_ | refine blk_alloc ?_ _)); refine blk_far ?_ NB359_360.out _; (with_reducible repeat (first | refine blk_drewN ?_ _ | refine blk_drew ?_ | refine blk_alloc ?_ _)); refine blk_far ?_ NB359_360.out _; (with_reducible repeat (first | refine blk_drewN ?_ _ | refine blk_drew ?_ | refine blk_alloc ?_ _)); refine blk_far ?_ NB359_360.out _; (with_reducible repeat (first | refine blk_drewN ?_ _ | refine blk_drew ?_ | refine blk_alloc ?_ _)); exact BK359.out) hg (Kd.R_away HO_5.out (fun _ hk => hk.1.2))); have n1_ := Aside0.mk (blk_grown (g := gb360) (o := .cells #[.int .i64 (Go.bits .and .i64 ((rd_T34 l0 x24_1).f0) 65535), .int .i64 (wrap64 (-(Go.bits .and .i64 ((rd_T34 l0 x24_1).f1) 65535))), .int .i64 (Go.bits .and .i64 ((rd_T34 l0 x24_1).f2) 255)] 34 (0, 0)) (by (with_reducible repeat (first | refine blk_drewN ?_ _ | refine blk_drew ?_ | refine blk_alloc ?_ _)); refine blk_put (cs := #[.int .i64 (Go.bits .and .i64 ((rd_T34 l0 x24_1).f0) 65535), .int .i64 (wrap64 (-(Go.bits .and .i64 ((rd_T34 l0 x24_1).f1) 65535))), .int .i64 0]) ?_ 2 _ rfl; (with_reducible repeat (first | refine blk_drewN ?_ _ | refine blk_drew ?_ | refine blk_alloc ?_ _)); refine blk_put (cs := #[.int .i64 (Go.bits .and .i64 ((rd_T34 l0 x24_1).f0) 65535), .int .i64 0, .int .i64 0]) ?_ 1 _ rfl; (with_reducible repeat (first | refine blk_drewN ?_ _ | refine blk_drew ?_ | refine blk_alloc ?_ _)); refine blk_put (cs := #[.int .i64 0, .int .i64 0, .int .i64 0]) ?_ 0 _ rfl; (with_reducible repeat (first | refine blk_drewN ?_ _ | refine blk_drew ?_ | refine blk_alloc ?_ _)); exact BK360.out) hg (Kd.R_away HO_5.out (fun _ hk => hk.2))); have n2_ := Aside0.mk (hb); have n3_ := Aside0.mk (ho); clear BK359; clear BK360; clear HB; clear HO_5; have BK359 := n0_; have BK360 := n1_; have HB := n2_; have HO363 := n3_; clear n0_ n1_ n2_ n3_; clear ho hb hg hat))
                         have pi367 : (0 ≤ ((Go.bits .and .i64 (ji14) 3) : Int)) = True := eq_true (of_decide_eq_true (by first | (with_reducible assumption) | assumption))
                         have qi367 : ((Go.bits .and .i64 (ji14) 3) < (y364.length : Int)) = True := eq_true (of_decide_eq_true (by first | (with_reducible assumption) | assumption))
                         have pi371 : (0 ≤ ((ji17) : Int)) = True := eq_true (of_decide_eq_true (by first | (with_reducible assumption) | assumption))
                         have qi371 : ((ji17) < (y368.length : Int)) = True := eq_true (of_decide_eq_true (by first | (with_reducible assumption) | assumption))
                         have pi378 : (0 ≤ ((ji29) : Int)) = True := eq_true (of_decide_eq_true (by first | (with_reducible assumption) | assumption))
                         have qi378 : ((ji29) < (y375.length : Int)) = True := eq_true (of_decide_eq_true (by first | (with_reducible assumption) | assumption))
                         have n0_ := Aside0.mk (Kd.R_drew HO363.out)
                         have n1_ := Aside0.mk (blk_drew BK359.out)
                         have n2_ := Aside0.mk (blk_drew BK360.out)
                         have n3_ := Aside0.mk (bD HB.out)
                         clear HO363
                         clear BK359
                         clear BK360
                         clear HB
                         have HO363 := n0_
                         have BK359 := n1_
                         have BK360 := n2_
                         have HB := n3_
                         clear n0_ n1_ n2_ n3_
                         refine start_ (n := 41) (S := fun w' => True) (ds := []) #[false, false, false, false, false, false, false, false, false, false, false, false, false, false, false, false, false, false, false, false, false, false, false, false, false, false, false, false, false, false, false, false, false, false, false, false, false, false, false, false, false] (by kernel_rfl) rfl rfl trivial (fun hHeld => ?_); refine with_tabW isohyetlaw25_DataRemarks.tab12 isohyetlaw25_DataRemarks.bits12 (fun HT_ HW_ => ?_)
                         generalize w40.drew = w41 at HO363 BK359 BK360 HB hHeld ⊢
                         refine pure_ (i := 0) (N := some 44) (v := ?_) (a' := ?_) #[true, false, false, false, false, false, false, false, false, false, false, false, false, false, false, false, false, false, false, false, false, false, false, false, false, false, false, false, false, false, false, false, false, false, false, false, false, false, false, false, false] rfl rfl (any_of HT_.out (by kernel_rfl)) (fun _ _ _ h => h) (Or.inl ⟨by rfl, ?_⟩) ?_ ?_
                         rotate_left
                         ·intro w'
                          go_simp
                          with_reducible rfl
                         rotate_left
                         ·simp only [Act.put, List.setIfInBounds_toArray, List.set_cons_zero, List.set_cons_succ, i64_w, i32_w]
                          rfl
                         refine pure_ (i := 2) (N := some 46) (v := ?_) (a' := ?_) #[true, false, true, false, false, false, false, false, false, false, false, false, false, false, false, false, false, false, false, false, false, false, false, false, false, false, false, false, false, false, false, false, false, false, false, false, false, false, false, false, false] rfl rfl (any_of HT_.out (by kernel_rfl)) (fun _ _ _ h => h) (Or.inl ⟨by rfl, ?_⟩) ?_ ?_
                         rotate_left
                         ·intro w'
                          go_simp
                          with_reducible rfl
                         rotate_left
                         ·simp only [Act.put, List.setIfInBounds_toArray, List.set_cons_zero, List.set_cons_succ, i64_w, i32_w]
                          rfl
                         refine pure_ (i := 3) (N := some 47) (v := ?_) (a' := ?_) #[true, false, true, true, false, false, false, false, false, false, false, false, false, false, false, false, false, false, false, false, false, false, false, false, false, false, false, false, false, false, false, false, false, false, false, false, false, false, false, false, false] rfl rfl (any_of HT_.out (by kernel_rfl)) (fun _ _ _ h => h) (Or.inl ⟨by rfl, ?_⟩) ?_ ?_
                         rotate_left
                         ·intro w'
                          go_simp
                          with_reducible rfl
                         rotate_left
                         ·simp only [Act.put, List.setIfInBounds_toArray, List.set_cons_zero, List.set_cons_succ, i64_w, i32_w]
                          rfl
                         refine pure_ (i := 10) (N := some 54) (v := ?_) (a' := ?_) #[true, false, true, true, false, false, false, false, false, false, true, false, false, false, false, false, false, false, false, false, false, false, false, false, false, false, false, false, false, false, false, false, false, false, false, false, false, false, false, false, false] rfl rfl (any_of HT_.out (by kernel_rfl)) (fun _ _ _ h => h) (Or.inl ⟨by rfl, ?_⟩) ?_ ?_
                         rotate_left
                         ·intro w'
                          go_simp
                          with_reducible rfl
                         rotate_left
                         ·simp only [Act.put, List.setIfInBounds_toArray, List.set_cons_zero, List.set_cons_succ, i64_w, i32_w]
                          rfl
                         refine pure_ (i := 15) (N := some 59) (v := ?_) (a' := ?_) #[true, false, true, true, false, false, false, false, false, false, true, false, false, false, false, true, false, false, false, false, false, false, false, false, false, false, false, false, false, false, false, false, false, false, false, false, false, false, false, false, false] rfl rfl (any_of HT_.out (by kernel_rfl)) (fun _ _ _ h => h) (Or.inl ⟨by rfl, ?_⟩) ?_ ?_
                         rotate_left
                         ·intro w'
                          go_simp
                          with_reducible rfl
                         rotate_left
                         ·simp only [Act.put, List.setIfInBounds_toArray, List.set_cons_zero, List.set_cons_succ, i64_w, i32_w]
                          rfl
                         refine pure_ (i := 20) (N := some 64) (v := ?_) (a' := ?_) #[true, false, true, true, false, false, false, false, false, false, true, false, false, false, false, true, false, false, false, false, true, false, false, false, false, false, false, false, false, false, false, false, false, false, false, false, false, false, false, false, false] rfl rfl (any_of HT_.out (by kernel_rfl)) (fun _ _ _ h => h) (Or.inl ⟨by rfl, ?_⟩) ?_ ?_
                         rotate_left
                         ·intro w'
                          go_simp
                          with_reducible rfl
                         rotate_left
                         ·simp only [Act.put, List.setIfInBounds_toArray, List.set_cons_zero, List.set_cons_succ, i64_w, i32_w]
                          rfl
                         refine pure_ (i := 25) (N := some 69) (v := ?_) (a' := ?_) #[true, false, true, true, false, false, false, false, false, false, true, false, false, false, false, true, false, false, false, false, true, false, false, false, false, true, false, false, false, false, false, false, false, false, false, false, false, false, false, false, false] rfl rfl (any_of HT_.out (by kernel_rfl)) (fun _ _ _ h => h) (Or.inl ⟨by rfl, ?_⟩) ?_ ?_
                         rotate_left
                         ·intro w'
                          go_simp
                          with_reducible rfl
                         rotate_left
                         ·simp only [Act.put, List.setIfInBounds_toArray, List.set_cons_zero, List.set_cons_succ, i64_w, i32_w]
                          rfl
                         refine pure_ (i := 30) (N := some 74) (v := ?_) (a' := ?_) #[true, false, true, true, false, false, false, false, false, false, true, false, false, false, false, true, false, false, false, false, true, false, false, false, false, true, false, false, false, false, true, false, false, false, false, false, false, false, false, false, false] rfl rfl (any_of HT_.out (by kernel_rfl)) (fun _ _ _ h => h) (Or.inl ⟨by rfl, ?_⟩) ?_ ?_
                         rotate_left
                         ·intro w'
                          go_simp
                          with_reducible rfl
                         rotate_left
                         ·simp only [Act.put, List.setIfInBounds_toArray, List.set_cons_zero, List.set_cons_succ, i64_w, i32_w]
                          rfl
                         refine pure_ (i := 32) (N := some 76) (v := ?_) (a' := ?_) #[true, false, true, true, false, false, false, false, false, false, true, false, false, false, false, true, false, false, false, false, true, false, false, false, false, true, false, false, false, false, true, false, true, false, false, false, false, false, false, false, false] rfl rfl (any_of HT_.out (by kernel_rfl)) (fun _ _ _ h => h) (Or.inl ⟨by rfl, ?_⟩) ?_ ?_
                         rotate_left
                         ·intro w'
                          go_simp
                          with_reducible rfl
                         rotate_left
                         ·simp only [Act.put, List.setIfInBounds_toArray, List.set_cons_zero, List.set_cons_succ, i64_w, i32_w]
                          rfl
                         refine inv_at [1, 4, 5, 6, 7, 8, 9, 11, 12, 13, 14, 16, 17, 18, 19, 21, 22, 23, 24, 26, 27, 28, 29, 31, 33, 34, 35, 36, 37, 38, 39, 40] (fun a0_ b a w' => ∃ (v365 : Value) (adz_v365 : Addr) (v369 : Value) (adz_v369 : Addr) (v376 : Value) (adz_v376 : Addr) (m7_ : Value) (m12_ : Value) (m35_ : Value), a = putSel a0_ b [(1, 45, v365), (4, 48, .int .i64 ji12), (5, 49, .int .i64 ji14), (6, 50, .int .i64 (Go.bits .and .i64 (ji14) 3)), (7, 51, m7_), (8, 52, .string (rdOf ByteArray.empty y364 (Go.bits .and .i64 (ji14) 3))), (9, 53, v369), (11, 55, .int .i64 ji17), (12, 56, m12_), (13, 57, .string (rdOf ByteArray.empty y368 (ji17))), (14, 58, .string ((rdOf ByteArray.empty y364 (Go.bits .and .i64 (ji14) 3)) ++ (rdOf ByteArray.empty y368 (ji17)))), (16, 60, .int .i64 (Go.bits .and .i64 ((rd_T34 l0 x24_1).f0) 65535)), (17, 61, .string t372), (18, 62, .string (((rdOf ByteArray.empty y364 (Go.bits .and .i64 (ji14) 3)) ++ (rdOf ByteArray.empty y368 (ji17))) ++ t372)), (19, 63, .string ((((rdOf ByteArray.empty y364 (Go.bits .and .i64 (ji14) 3)) ++ (rdOf ByteArray.empty y368 (ji17))) ++ t372) ++ (⟨#[32, 32]⟩ : ByteArray))), (21, 65, .int .i64 (wrap64 (-(Go.bits .and .i64 ((rd_T34 l0 x24_1).f1) 65535)))), (22, 66, .string t373), (23, 67, .string (((((rdOf ByteArray.empty y364 (Go.bits .and .i64 (ji14) 3)) ++ (rdOf ByteArray.empty y368 (ji17))) ++ t372) ++ (⟨#[32, 32]⟩ : ByteArray)) ++ t373)), (24, 68, .string ((((((rdOf ByteArray.empty y364 (Go.bits .and .i64 (ji14) 3)) ++ (rdOf ByteArray.empty y368 (ji17))) ++ t372) ++ (⟨#[32, 32]⟩ : ByteArray)) ++ t373) ++ (⟨#[9]⟩ : ByteArray))), (26, 70, .int .i64 (Go.bits .and .i64 ((rd_T34 l0 x24_1).f2) 255)), (27, 71, .string t374), (28, 72, .string (((((((rdOf ByteArray.empty y364 (Go.bits .and .i64 (ji14) 3)) ++ (rdOf ByteArray.empty y368 (ji17))) ++ t372) ++ (⟨#[32, 32]⟩ : ByteArray)) ++ t373) ++ (⟨#[9]⟩ : ByteArray)) ++ t374)), (29, 73, v376), (31, 75, .int .i64 (Go.bits .and .i64 a1 255)), (33, 77, .int .i64 (wrap64 ((Go.bits .and .i64 a1 255) + x24_1))), (34, 78, .int .i64 ji29), (35, 79, m35_), (36, 80, .string (rdOf ByteArray.empty y375 (ji29))), (37, 81, .string ((((((((rdOf ByteArray.empty y364 (Go.bits .and .i64 (ji14) 3)) ++ (rdOf ByteArray.empty y368 (ji17))) ++ t372) ++ (⟨#[32, 32]⟩ : ByteArray)) ++ t373) ++ (⟨#[9]⟩ : ByteArray)) ++ t374) ++ (rdOf ByteArray.empty y375 (ji29)))), (38, 82, .string (((((((((rdOf ByteArray.empty y364 (Go.bits .and .i64 (ji14) 3)) ++ (rdOf ByteArray.empty y368 (ji17))) ++ t372) ++ (⟨#[32, 32]⟩ : ByteArray)) ++ t373) ++ (⟨#[9]⟩ : ByteArray)) ++ t374) ++ (rdOf ByteArray.empty y375 (ji29))) ++ (⟨#[10]⟩ : ByteArray))), (39, 83, .string (x6_1 ++ (((((((((rdOf ByteArray.empty y364 (Go.bits .and .i64 (ji14) 3)) ++ (rdOf ByteArray.empty y368 (ji17))) ++ t372) ++ (⟨#[32, 32]⟩ : ByteArray)) ++ t373) ++ (⟨#[9]⟩ : ByteArray)) ++ t374) ++ (rdOf ByteArray.empty y375 (ji29))) ++ (⟨#[10]⟩ : ByteArray)))), (40, 6, .string (x6_1 ++ (((((((((rdOf ByteArray.empty y364 (Go.bits .and .i64 (ji14) 3)) ++ (rdOf ByteArray.empty y368 (ji17))) ++ t372) ++ (⟨#[32, 32]⟩ : ByteArray)) ++ t373) ++ (⟨#[9]⟩ : ByteArray)) ++ t374) ++ (rdOf ByteArray.empty y375 (ji29))) ++ (⟨#[10]⟩ : ByteArray))))] ∧ (Kd.R k34 34 w' w.heap.size (fun k_ => k_ ≠ gb359 ∧ k_ ≠ gb360) v362 y361) ∧ (w'.heap[gb359]? = some (.cells #[.int .i64 ((rd_T34 l0 x24_1).f0), .int .i64 ((rd_T34 l0 x24_1).f1), .int .i64 ((rd_T34 l0 x24_1).f2)] 34 (0, 0))) ∧ (w'.heap[gb360]? = some (.cells #[.int .i64 (Go.bits .and .i64 ((rd_T34 l0 x24_1).f0) 65535), .int .i64 (wrap64 (-(Go.bits .and .i64 ((rd_T34 l0 x24_1).f1) 65535))), .int .i64 (Go.bits .and .i64 ((rd_T34 l0 x24_1).f2) 255)] 34 (0, 0))) ∧ (Below w.heap.size w w') ∧ (b 1 = true → Kd.R Kd.string 9 w' w.heap.size (fun _ => True) v365 y364) ∧ (b 1 = true → ∃ c_, (v365 : Value) = .slice (some adz_v365) y364.length c_) ∧ (b 9 = true → Kd.R Kd.string 9 w' w.heap.size (fun _ => True) v369 y368) ∧ (b 9 = true → ∃ c_, (v369 : Value) = .slice (some adz_v369) y368.length c_) ∧ (b 29 = true → Kd.R Kd.string 9 w' w.heap.size (fun _ => True) v376 y375) ∧ (b 29 = true → ∃ c_, (v376 : Value) = .slice (some adz_v376) y375.length c_) ∧ (b 7 = true → (m7_ : Value) = .pointer (some (adz_v365.add ((Go.bits .and .i64 (ji14) 3)).toNat))) ∧ (b 12 = true → (m12_ : Value) = .pointer (some (adz_v369.add ((ji17)).toNat))) ∧ (b 35 = true → (m35_ : Value) = .pointer (some (adz_v376.add ((ji29)).toNat)))) HT_.out HW_.out (by kernel_rfl) (by kernel_rfl) ?_ ?_ ?_
                         ·exact ⟨.bool false, ⟨0, 0, none⟩, .bool false, ⟨0, 0, none⟩, .bool false, ⟨0, 0, none⟩, .bool false, .bool false, .bool false, by simp only [putSel, Bool.false_eq_true, if_false], HO363.out, BK359.out, BK360.out, HB.out, fun h_ => absurd h_ (by decide), fun h_ => absurd h_ (by decide), fun h_ => absurd h_ (by decide), fun h_ => absurd h_ (by decide), fun h_ => absurd h_ (by decide), fun h_ => absurd h_ (by decide), fun h_ => absurd h_ (by decide), fun h_ => absurd h_ (by decide), fun h_ => absurd h_ (by decide)⟩
                         ·skip
                          clear BK359 BK360 HB HO363
                          refine steps_cons ?_ ?_
                          ·rintro b a w' ⟨v365, adz_v365, v369, adz_v369, v376, adz_v376, m7_, m12_, m35_, ha, Q_HO363, Q_BK359, Q_BK360, Q_HB, Q_HO366, Q_HA_HO366, Q_HO370, Q_HA_HO370, Q_HO377, Q_HA_HO377, Q_X7_, Q_X12_, Q_X35_⟩ hb_ hon hoff
                           refine ⟨_, rfl, fun K hK => ?_⟩
                           replace ha := Aside0.mk ha
                           have HO363 := Aside0.mk Q_HO363
                           have BK359 := Aside0.mk Q_BK359
                           have BK360 := Aside0.mk Q_BK360
                           have HB := Aside0.mk Q_HB
                           refine Kd.R_lit_step Kd.string _ 9 ?hg (N := 45) ?hd (xs := ([(⟨#[]⟩ : ByteArray), (⟨#[10]⟩ : ByteArray), (⟨#[35, 32, 49, 32, 50, 32, 51, 10]⟩ : ByteArray), (⟨#[32, 9, 13, 10]⟩ : ByteArray)] : List ByteArray)) (inner := [.string (⟨#[]⟩ : ByteArray), .string (⟨#[10]⟩ : ByteArray), .string (⟨#[35, 32, 49, 32, 50, 32, 51, 10]⟩ : ByteArray), .string (⟨#[32, 9, 13, 10]⟩ : ByteArray)]) (ok := fun _ => True) (okp := fun _ => True) ?hr ?hp (fun _ hk => hk) trivial (Below.refl _ _) (Nat.le_refl _) (by simp) ?_; (case hd => rfl); (case hg => rfl); (case hr => first | (go_simp; done) | (go_simp; rfl)); (case hp => exact (Reps.one (show Kd.M Kd.string _ _ _ (⟨#[]⟩ : ByteArray) [.string (⟨#[]⟩ : ByteArray)] from rfl) (Reps.one (show Kd.M Kd.string _ _ _ (⟨#[10]⟩ : ByteArray) [.string (⟨#[10]⟩ : ByteArray)] from rfl) (Reps.one (show Kd.M Kd.string _ _ _ (⟨#[35, 32, 49, 32, 50, 32, 51, 10]⟩ : ByteArray) [.string (⟨#[35, 32, 49, 32, 50, 32, 51, 10]⟩ : ByteArray)] from rfl) (Reps.one (show Kd.M Kd.string _ _ _ (⟨#[32, 9, 13, 10]⟩ : ByteArray) [.string (⟨#[32, 9, 13, 10]⟩ : ByteArray)] from rfl) (Reps.none _ _))))))
                           intro v365 w42 ho43 hb hg_ hnew_
                           clear hg_ hnew_
                           (first | rw [← Ny364.out] at ho43 | (simp only [Int.reduceToNat] at ho43; rw [← Ny364.out] at ho43))
                           have n0_ := Aside0.mk (Kd.R_below (gR HO363.out) hb)
                           have n1_ := Aside0.mk (Kd.R_lower ho43 (below_size (by repeat (first | (with_reducible first | exact HB.out | apply bA | apply bN | apply bD | refine bS ?_ GE359.out | refine bS ?_ GE360.out) | exact HB.out))))
                           have n2_ := Aside0.mk (blk_below (g := gb359) (o := .cells #[.int .i64 ((rd_T34 l0 x24_1).f0), .int .i64 ((rd_T34 l0 x24_1).f1), .int .i64 ((rd_T34 l0 x24_1).f2)] 34 (0, 0)) (gK BK359.out) hb)
                           have n3_ := Aside0.mk (blk_below (g := gb360) (o := .cells #[.int .i64 (Go.bits .and .i64 ((rd_T34 l0 x24_1).f0) 65535), .int .i64 (wrap64 (-(Go.bits .and .i64 ((rd_T34 l0 x24_1).f1) 65535))), .int .i64 (Go.bits .and .i64 ((rd_T34 l0 x24_1).f2) 255)] 34 (0, 0)) (gK BK360.out) hb)
                           have n4_ := Aside0.mk (below_step (by repeat (first | (with_reducible first | exact HB.out | apply bA | apply bN | apply bD | refine bS ?_ GE359.out | refine bS ?_ GE360.out) | exact HB.out)) hb)
                           have z_HO370 := fun (h0_ : b 9 = true) => (show Kd.R Kd.string 9 w42 w.heap.size (fun _ => True) v369 y368 from by first | exact (Kd.R_elder' (gR (Q_HO370 h0_)) (Kd.R_base ho43) hb) | exact Kd.R_mono (Kd.R_elder' (gR (Q_HO370 h0_)) (Kd.R_base ho43) hb) (fun _ h_ => by first | trivial | exact h_ | exact h_.1))
                           have z_HO377 := fun (h0_ : b 29 = true) => (show Kd.R Kd.string 9 w42 w.heap.size (fun _ => True) v376 y375 from by first | exact (Kd.R_elder' (gR (Q_HO377 h0_)) (Kd.R_base ho43) hb) | exact Kd.R_mono (Kd.R_elder' (gR (Q_HO377 h0_)) (Kd.R_base ho43) hb) (fun _ h_ => by first | trivial | exact h_ | exact h_.1))
                           clear HO363
                           clear BK359
                           clear BK360
                           clear HB
                           have HO363 := n0_
                           have HO366 := n1_
                           have BK359 := n2_
                           have BK360 := n3_
                           have HB := n4_
                           clear n0_ n1_ n2_ n3_ n4_
                           clear hb ho43
                           obtain ⟨Ao44, co44, eo44⟩ := Kd.R_slice HO366.out
                           subst eo44
                           obtain ⟨ado44, fo44, _⟩ := Kd.at_string (Kd.R_reads' HO366.out).2.2 0 (by decide) (by rw [Ny364.out]; simp)
                           cases fo44
                           refine hK.out _ _ ⟨.slice (some ado44) y364.length co44, ado44, v369, adz_v369, v376, adz_v376, m7_, m12_, m35_, (by rw [ha.out]; exact putSel_upk 0 hb_ rfl rfl rfl), (gR HO363.out), (gK BK359.out), (gK BK360.out), (by repeat (first | (with_reducible first | exact HB.out | apply bA | apply bN | apply bD | refine bS ?_ GE359.out | refine bS ?_ GE360.out) | exact HB.out)), fun _ => (gR HO366.out), fun _ => ⟨_, rfl⟩, z_HO370, Q_HA_HO370, z_HO377, Q_HA_HO377, fun h0_ => absurd ((hoff 7 (by kernel_rfl)).symm.trans h0_) (by decide), Q_X12_, Q_X35_⟩
                          refine steps_cons ?_ ?_
                          ·rintro b a w' ⟨v365, adz_v365, v369, adz_v369, v376, adz_v376, m7_, m12_, m35_, ha, Q_HO363, Q_BK359, Q_BK360, Q_HB, Q_HO366, Q_HA_HO366, Q_HO370, Q_HA_HO370, Q_HO377, Q_HA_HO377, Q_X7_, Q_X12_, Q_X35_⟩ hb_ hon hoff
                           refine ⟨_, rfl, fun K hK => ?_⟩
                           have e47 : a.tmps[47]? = some (.int .i64 x24_1) := by rw [ha]; exact (putSel_off rfl).trans rfl
                           replace ha := Aside0.mk ha
                           have HO363 := Aside0.mk Q_HO363
                           have BK359 := Aside0.mk Q_BK359
                           have BK360 := Aside0.mk Q_BK360
                           have HB := Aside0.mk Q_HB
                           refine value_ (w1 := w') (v := .int .i64 ji12) (by rfl) rfl ?_ ?_
                           ·go_simp
                            (try simp only [i64_w])
                            try rfl
                            try (simp only [ByteArray.size_append] at c22 c23 c25 c26 c28 c32 c33 c34; have e1_ : (⟨#[32, 32]⟩ : ByteArray).size = 2 := rfl; have e2_ : (⟨#[9]⟩ : ByteArray).size = 1 := rfl; have e3_ : (⟨#[10]⟩ : ByteArray).size = 1 := rfl; omega)
                           refine hK.out _ _ ⟨v365, adz_v365, v369, adz_v369, v376, adz_v376, m7_, m12_, m35_, (by rw [ha.out]; exact putSel_upk 1 hb_ rfl rfl rfl), Q_HO363, Q_BK359, Q_BK360, Q_HB, Q_HO366, Q_HA_HO366, Q_HO370, Q_HA_HO370, Q_HO377, Q_HA_HO377, fun h0_ => absurd ((hoff 7 (by kernel_rfl)).symm.trans h0_) (by decide), Q_X12_, Q_X35_⟩
                          refine steps_cons ?_ ?_
                          ·rintro b a w' ⟨v365, adz_v365, v369, adz_v369, v376, adz_v376, m7_, m12_, m35_, ha, Q_HO363, Q_BK359, Q_BK360, Q_HB, Q_HO366, Q_HA_HO366, Q_HO370, Q_HA_HO370, Q_HO377, Q_HA_HO377, Q_X7_, Q_X12_, Q_X35_⟩ hb_ hon hoff
                           refine ⟨_, rfl, fun K hK => ?_⟩
                           have e46 : a.tmps[46]? = some (.int .i64 a1) := by rw [ha]; exact (putSel_off rfl).trans rfl
                           have e48 : a.tmps[48]? = some (.int .i64 ji12) := by rw [ha]; exact putSel_on (e := (4, 48, .int .i64 ji12)) 1 rfl rfl (hon 4 (by kernel_rfl)) rfl
                           replace ha := Aside0.mk ha
                           have HO363 := Aside0.mk Q_HO363
                           have BK359 := Aside0.mk Q_BK359
                           have BK360 := Aside0.mk Q_BK360
                           have HB := Aside0.mk Q_HB
                           refine value_ (w1 := w') (v := .int .i64 ji14) (by rfl) rfl ?_ ?_
                           ·go_simp
                            (try simp only [i64_w])
                            try rfl
                            try (simp only [ByteArray.size_append] at c22 c23 c25 c26 c28 c32 c33 c34; have e1_ : (⟨#[32, 32]⟩ : ByteArray).size = 2 := rfl; have e2_ : (⟨#[9]⟩ : ByteArray).size = 1 := rfl; have e3_ : (⟨#[10]⟩ : ByteArray).size = 1 := rfl; omega)
                           refine hK.out _ _ ⟨v365, adz_v365, v369, adz_v369, v376, adz_v376, m7_, m12_, m35_, (by rw [ha.out]; exact putSel_upk 2 hb_ rfl rfl rfl), Q_HO363, Q_BK359, Q_BK360, Q_HB, Q_HO366, Q_HA_HO366, Q_HO370, Q_HA_HO370, Q_HO377, Q_HA_HO377, fun h0_ => absurd ((hoff 7 (by kernel_rfl)).symm.trans h0_) (by decide), Q_X12_, Q_X35_⟩
                          refine steps_cons ?_ ?_
                          ·rintro b a w' ⟨v365, adz_v365, v369, adz_v369, v376, adz_v376, m7_, m12_, m35_, ha, Q_HO363, Q_BK359, Q_BK360, Q_HB, Q_HO366, Q_HA_HO366, Q_HO370, Q_HA_HO370, Q_HO377, Q_HA_HO377, Q_X7_, Q_X12_, Q_X35_⟩ hb_ hon hoff
                           refine ⟨_, rfl, fun K hK => ?_⟩
                           have e49 : a.tmps[49]? = some (.int .i64 ji14) := by rw [ha]; exact putSel_on (e := (5, 49, .int .i64 ji14)) 2 rfl rfl (hon 5 (by kernel_rfl)) rfl
                           replace ha := Aside0.mk ha
                           have HO363 := Aside0.mk Q_HO363
                           have BK359 := Aside0.mk Q_BK359
                           have BK360 := Aside0.mk Q_BK360
                           have HB := Aside0.mk Q_HB
                           refine value_ (w1 := w') (v := .int .i64 (Go.bits .and .i64 (ji14) 3)) (by rfl) rfl ?_ ?_
                           ·go_simp
                            (try simp only [i64_w])
                            try rfl
                            try (simp only [ByteArray.size_append] at c22 c23 c25 c26 c28 c32 c33 c34; have e1_ : (⟨#[32, 32]⟩ : ByteArray).size = 2 := rfl; have e2_ : (⟨#[9]⟩ : ByteArray).size = 1 := rfl; have e3_ : (⟨#[10]⟩ : ByteArray).size = 1 := rfl; omega)
                           refine hK.out _ _ ⟨v365, adz_v365, v369, adz_v369, v376, adz_v376, m7_, m12_, m35_, (by rw [ha.out]; exact putSel_upk 3 hb_ rfl rfl rfl), Q_HO363, Q_BK359, Q_BK360, Q_HB, Q_HO366, Q_HA_HO366, Q_HO370, Q_HA_HO370, Q_HO377, Q_HA_HO377, fun h0_ => absurd ((hoff 7 (by kernel_rfl)).symm.trans h0_) (by decide), Q_X12_, Q_X35_⟩
                          refine steps_cons ?_ ?_
                          ·rintro b a w' ⟨v365, adz_v365, v369, adz_v369, v376, adz_v376, m7_, m12_, m35_, ha, Q_HO363, Q_BK359, Q_BK360, Q_HB, Q_HO366, Q_HA_HO366, Q_HO370, Q_HA_HO370, Q_HO377, Q_HA_HO377, Q_X7_, Q_X12_, Q_X35_⟩ hb_ hon hoff
                           refine ⟨_, rfl, fun K hK => ?_⟩
                           have e45 : a.tmps[45]? = some (v365) := by rw [ha]; exact putSel_on (e := (1, 45, v365)) 0 rfl rfl (hon 1 (by kernel_rfl)) rfl
                           have e50 : a.tmps[50]? = some (.int .i64 (Go.bits .and .i64 (ji14) 3)) := by rw [ha]; exact putSel_on (e := (6, 50, .int .i64 (Go.bits .and .i64 (ji14) 3))) 3 rfl rfl (hon 6 (by kernel_rfl)) rfl
                           replace ha := Aside0.mk ha
                           have HO363 := Aside0.mk Q_HO363
                           have BK359 := Aside0.mk Q_BK359
                           have BK360 := Aside0.mk Q_BK360
                           have HB := Aside0.mk Q_HB
                           have HO366 := Aside0.mk (Q_HO366 (hon 1 (by kernel_rfl)))
                           have HA_HO366 := Aside0.mk (Q_HA_HO366 (hon 1 (by kernel_rfl)))
                           obtain ⟨c_, hv_⟩ := HA_HO366.out
                           rw [hv_] at e45
                           refine value_ (w1 := w') (v := .pointer (some (adz_v365.add ((Go.bits .and .i64 (ji14) 3)).toNat))) (by rfl) rfl ?_ ?_
                           ·go_simp
                            (try simp only [i64_w])
                            try rfl
                            try (simp only [ByteArray.size_append] at c22 c23 c25 c26 c28 c32 c33 c34; have e1_ : (⟨#[32, 32]⟩ : ByteArray).size = 2 := rfl; have e2_ : (⟨#[9]⟩ : ByteArray).size = 1 := rfl; have e3_ : (⟨#[10]⟩ : ByteArray).size = 1 := rfl; omega)
                           refine hK.out _ _ ⟨v365, adz_v365, v369, adz_v369, v376, adz_v376, (.pointer (some (adz_v365.add ((Go.bits .and .i64 (ji14) 3)).toNat))), m12_, m35_, (by rw [ha.out]; exact putSel_upk 4 hb_ rfl rfl rfl), Q_HO363, Q_BK359, Q_BK360, Q_HB, Q_HO366, Q_HA_HO366, Q_HO370, Q_HA_HO370, Q_HO377, Q_HA_HO377, fun _ => rfl, Q_X12_, Q_X35_⟩
                          refine steps_cons ?_ ?_
                          ·rintro b a w' ⟨v365, adz_v365, v369, adz_v369, v376, adz_v376, m7_, m12_, m35_, ha, Q_HO363, Q_BK359, Q_BK360, Q_HB, Q_HO366, Q_HA_HO366, Q_HO370, Q_HA_HO370, Q_HO377, Q_HA_HO377, Q_X7_, Q_X12_, Q_X35_⟩ hb_ hon hoff
                           refine ⟨_, rfl, fun K hK => ?_⟩
                           have e51 : a.tmps[51]? = some (m7_) := by rw [ha]; exact putSel_on (e := (7, 51, m7_)) 4 rfl rfl (hon 7 (by kernel_rfl)) rfl
                           rw [Q_X7_ (hon 7 (by kernel_rfl))] at e51
                           replace ha := Aside0.mk ha
                           have HO363 := Aside0.mk Q_HO363
                           have BK359 := Aside0.mk Q_BK359
                           have BK360 := Aside0.mk Q_BK360
                           have HB := Aside0.mk Q_HB
                           have HO366 := Aside0.mk (Q_HO366 (hon 1 (by kernel_rfl)))
                           have HA_HO366 := Aside0.mk (Q_HA_HO366 (hon 1 (by kernel_rfl)))
                           obtain ⟨c_, hv_⟩ := HA_HO366.out
                           have hF_ := HO366.out
                           rw [hv_] at hF_
                           obtain ⟨ad_, ea_, hx_⟩ := Kd.at_string (Kd.R_reads' hF_).2.2 (Go.bits .and .i64 (ji14) 3) (of_eq_true pi367) (of_eq_true qi367)
                           cases ea_
                           refine value_ (w1 := w') (v := .string (rdOf ByteArray.empty y364 (Go.bits .and .i64 (ji14) 3))) (by rfl) rfl ?_ ?_
                           ·go_simp
                            (try simp only [i64_w])
                            try rfl
                            try (simp only [ByteArray.size_append] at c22 c23 c25 c26 c28 c32 c33 c34; have e1_ : (⟨#[32, 32]⟩ : ByteArray).size = 2 := rfl; have e2_ : (⟨#[9]⟩ : ByteArray).size = 1 := rfl; have e3_ : (⟨#[10]⟩ : ByteArray).size = 1 := rfl; omega)
                           refine hK.out _ _ ⟨v365, adz_v365, v369, adz_v369, v376, adz_v376, m7_, m12_, m35_, (by rw [ha.out]; exact putSel_upk 5 hb_ rfl rfl rfl), Q_HO363, Q_BK359, Q_BK360, Q_HB, Q_HO366, Q_HA_HO366, Q_HO370, Q_HA_HO370, Q_HO377, Q_HA_HO377, Q_X7_, Q_X12_, Q_X35_⟩
                          refine steps_cons ?_ ?_
                          ·rintro b a w' ⟨v365, adz_v365, v369, adz_v369, v376, adz_v376, m7_, m12_, m35_, ha, Q_HO363, Q_BK359, Q_BK360, Q_HB, Q_HO366, Q_HA_HO366, Q_HO370, Q_HA_HO370, Q_HO377, Q_HA_HO377, Q_X7_, Q_X12_, Q_X35_⟩ hb_ hon hoff
                           refine ⟨_, rfl, fun K hK => ?_⟩
                           replace ha := Aside0.mk ha
                           have HO363 := Aside0.mk Q_HO363
                           have BK359 := Aside0.mk Q_BK359
                           have BK360 := Aside0.mk Q_BK360
                           have HB := Aside0.mk Q_HB
                           refine Kd.R_lit_step Kd.string _ 9 ?hg (N := 53) ?hd (xs := ([(⟨#[32]⟩ : ByteArray), (⟨#[9]⟩ : ByteArray), (⟨#[]⟩ : ByteArray)] : List ByteArray)) (inner := [.string (⟨#[32]⟩ : ByteArray), .string (⟨#[9]⟩ : ByteArray), .string (⟨#[]⟩ : ByteArray)]) (ok := fun _ => True) (okp := fun _ => True) ?hr ?hp (fun _ hk => hk) trivial (Below.refl _ _) (Nat.le_refl _) (by simp) ?_; (case hd => rfl); (case hg => rfl); (case hr => first | (go_simp; done) | (go_simp; rfl)); (case hp => exact (Reps.one (show Kd.M Kd.string _ _ _ (⟨#[32]⟩ : ByteArray) [.string (⟨#[32]⟩ : ByteArray)] from rfl) (Reps.one (show Kd.M Kd.string _ _ _ (⟨#[9]⟩ : ByteArray) [.string (⟨#[9]⟩ : ByteArray)] from rfl) (Reps.one (show Kd.M Kd.string _ _ _ (⟨#[]⟩ : ByteArray) [.string (⟨#[]⟩ : ByteArray)] from rfl) (Reps.none _ _)))))
                           intro v369 w42 ho43 hb hg_ hnew_
                           clear hg_ hnew_
                           (first | rw [← Ny368.out] at ho43 | (simp only [Int.reduceToNat] at ho43; rw [← Ny368.out] at ho43))
                           have n0_ := Aside0.mk (Kd.R_below (gR HO363.out) hb)
                           have n1_ := Aside0.mk (Kd.R_lower ho43 (below_size (by repeat (first | (with_reducible first | exact HB.out | apply bA | apply bN | apply bD | refine bS ?_ GE359.out | refine bS ?_ GE360.out) | exact HB.out))))
                           have n2_ := Aside0.mk (blk_below (g := gb359) (o := .cells #[.int .i64 ((rd_T34 l0 x24_1).f0), .int .i64 ((rd_T34 l0 x24_1).f1), .int .i64 ((rd_T34 l0 x24_1).f2)] 34 (0, 0)) (gK BK359.out) hb)
                           have n3_ := Aside0.mk (blk_below (g := gb360) (o := .cells #[.int .i64 (Go.bits .and .i64 ((rd_T34 l0 x24_1).f0) 65535), .int .i64 (wrap64 (-(Go.bits .and .i64 ((rd_T34 l0 x24_1).f1) 65535))), .int .i64 (Go.bits .and .i64 ((rd_T34 l0 x24_1).f2) 255)] 34 (0, 0)) (gK BK360.out) hb)
                           have n4_ := Aside0.mk (below_step (by repeat (first | (with_reducible first | exact HB.out | apply bA | apply bN | apply bD | refine bS ?_ GE359.out | refine bS ?_ GE360.out) | exact HB.out)) hb)
                           have z_HO366 := fun (h0_ : b 1 = true) => (show Kd.R Kd.string 9 w42 w.heap.size (fun _ => True) v365 y364 from by first | exact (Kd.R_elder' (gR (Q_HO366 h0_)) (Kd.R_base ho43) hb) | exact Kd.R_mono (Kd.R_elder' (gR (Q_HO366 h0_)) (Kd.R_base ho43) hb) (fun _ h_ => by first | trivial | exact h_ | exact h_.1))
                           have z_HO377 := fun (h0_ : b 29 = true) => (show Kd.R Kd.string 9 w42 w.heap.size (fun _ => True) v376 y375 from by first | exact (Kd.R_elder' (gR (Q_HO377 h0_)) (Kd.R_base ho43) hb) | exact Kd.R_mono (Kd.R_elder' (gR (Q_HO377 h0_)) (Kd.R_base ho43) hb) (fun _ h_ => by first | trivial | exact h_ | exact h_.1))
                           clear HO363
                           clear BK359
                           clear BK360
                           clear HB
                           have HO363 := n0_
                           have HO370 := n1_
                           have BK359 := n2_
                           have BK360 := n3_
                           have HB := n4_
                           clear n0_ n1_ n2_ n3_ n4_
                           clear hb ho43
                           obtain ⟨Ao44, co44, eo44⟩ := Kd.R_slice HO370.out
                           subst eo44
                           obtain ⟨ado44, fo44, _⟩ := Kd.at_string (Kd.R_reads' HO370.out).2.2 0 (by decide) (by rw [Ny368.out]; simp)
                           cases fo44
                           refine hK.out _ _ ⟨v365, adz_v365, .slice (some ado44) y368.length co44, ado44, v376, adz_v376, m7_, m12_, m35_, (by rw [ha.out]; exact putSel_upk 6 hb_ rfl rfl rfl), (gR HO363.out), (gK BK359.out), (gK BK360.out), (by repeat (first | (with_reducible first | exact HB.out | apply bA | apply bN | apply bD | refine bS ?_ GE359.out | refine bS ?_ GE360.out) | exact HB.out)), z_HO366, Q_HA_HO366, fun _ => (gR HO370.out), fun _ => ⟨_, rfl⟩, z_HO377, Q_HA_HO377, Q_X7_, fun h0_ => absurd ((hoff 12 (by kernel_rfl)).symm.trans h0_) (by decide), Q_X35_⟩
                          refine steps_cons ?_ ?_
                          ·rintro b a w' ⟨v365, adz_v365, v369, adz_v369, v376, adz_v376, m7_, m12_, m35_, ha, Q_HO363, Q_BK359, Q_BK360, Q_HB, Q_HO366, Q_HA_HO366, Q_HO370, Q_HA_HO370, Q_HO377, Q_HA_HO377, Q_X7_, Q_X12_, Q_X35_⟩ hb_ hon hoff
                           refine ⟨_, rfl, fun K hK => ?_⟩
                           have e54 : a.tmps[54]? = some (.int .i64 x24_1) := by rw [ha]; exact (putSel_off rfl).trans rfl
                           replace ha := Aside0.mk ha
                           have HO363 := Aside0.mk Q_HO363
                           have BK359 := Aside0.mk Q_BK359
                           have BK360 := Aside0.mk Q_BK360
                           have HB := Aside0.mk Q_HB
                           refine value_ (w1 := w') (v := .int .i64 ji17) (by rfl) rfl ?_ ?_
                           ·go_simp
                            (try simp only [i64_w])
                            try rfl
                            try (simp only [ByteArray.size_append] at c22 c23 c25 c26 c28 c32 c33 c34; have e1_ : (⟨#[32, 32]⟩ : ByteArray).size = 2 := rfl; have e2_ : (⟨#[9]⟩ : ByteArray).size = 1 := rfl; have e3_ : (⟨#[10]⟩ : ByteArray).size = 1 := rfl; omega)
                           refine hK.out _ _ ⟨v365, adz_v365, v369, adz_v369, v376, adz_v376, m7_, m12_, m35_, (by rw [ha.out]; exact putSel_upk 7 hb_ rfl rfl rfl), Q_HO363, Q_BK359, Q_BK360, Q_HB, Q_HO366, Q_HA_HO366, Q_HO370, Q_HA_HO370, Q_HO377, Q_HA_HO377, Q_X7_, fun h0_ => absurd ((hoff 12 (by kernel_rfl)).symm.trans h0_) (by decide), Q_X35_⟩
                          refine steps_cons ?_ ?_
                          ·rintro b a w' ⟨v365, adz_v365, v369, adz_v369, v376, adz_v376, m7_, m12_, m35_, ha, Q_HO363, Q_BK359, Q_BK360, Q_HB, Q_HO366, Q_HA_HO366, Q_HO370, Q_HA_HO370, Q_HO377, Q_HA_HO377, Q_X7_, Q_X12_, Q_X35_⟩ hb_ hon hoff
                           refine ⟨_, rfl, fun K hK => ?_⟩
                           have e53 : a.tmps[53]? = some (v369) := by rw [ha]; exact putSel_on (e := (9, 53, v369)) 6 rfl rfl (hon 9 (by kernel_rfl)) rfl
                           have e55 : a.tmps[55]? = some (.int .i64 ji17) := by rw [ha]; exact putSel_on (e := (11, 55, .int .i64 ji17)) 7 rfl rfl (hon 11 (by kernel_rfl)) rfl
                           replace ha := Aside0.mk ha
                           have HO363 := Aside0.mk Q_HO363
                           have BK359 := Aside0.mk Q_BK359
                           have BK360 := Aside0.mk Q_BK360
                           have HB := Aside0.mk Q_HB
                           have HO370 := Aside0.mk (Q_HO370 (hon 9 (by kernel_rfl)))
                           have HA_HO370 := Aside0.mk (Q_HA_HO370 (hon 9 (by kernel_rfl)))
                           obtain ⟨c_, hv_⟩ := HA_HO370.out
                           rw [hv_] at e53
                           refine value_ (w1 := w') (v := .pointer (some (adz_v369.add ((ji17)).toNat))) (by rfl) rfl ?_ ?_
                           ·go_simp
                            (try simp only [i64_w])
                            try rfl
                            try (simp only [ByteArray.size_append] at c22 c23 c25 c26 c28 c32 c33 c34; have e1_ : (⟨#[32, 32]⟩ : ByteArray).size = 2 := rfl; have e2_ : (⟨#[9]⟩ : ByteArray).size = 1 := rfl; have e3_ : (⟨#[10]⟩ : ByteArray).size = 1 := rfl; omega)
                           refine hK.out _ _ ⟨v365, adz_v365, v369, adz_v369, v376, adz_v376, m7_, (.pointer (some (adz_v369.add ((ji17)).toNat))), m35_, (by rw [ha.out]; exact putSel_upk 8 hb_ rfl rfl rfl), Q_HO363, Q_BK359, Q_BK360, Q_HB, Q_HO366, Q_HA_HO366, Q_HO370, Q_HA_HO370, Q_HO377, Q_HA_HO377, Q_X7_, fun _ => rfl, Q_X35_⟩
                          refine steps_cons ?_ ?_
                          ·rintro b a w' ⟨v365, adz_v365, v369, adz_v369, v376, adz_v376, m7_, m12_, m35_, ha, Q_HO363, Q_BK359, Q_BK360, Q_HB, Q_HO366, Q_HA_HO366, Q_HO370, Q_HA_HO370, Q_HO377, Q_HA_HO377, Q_X7_, Q_X12_, Q_X35_⟩ hb_ hon hoff
                           refine ⟨_, rfl, fun K hK => ?_⟩
                           have e56 : a.tmps[56]? = some (m12_) := by rw [ha]; exact putSel_on (e := (12, 56, m12_)) 8 rfl rfl (hon 12 (by kernel_rfl)) rfl
                           rw [Q_X12_ (hon 12 (by kernel_rfl))] at e56
                           replace ha := Aside0.mk ha
                           have HO363 := Aside0.mk Q_HO363
                           have BK359 := Aside0.mk Q_BK359
                           have BK360 := Aside0.mk Q_BK360
                           have HB := Aside0.mk Q_HB
                           have HO370 := Aside0.mk (Q_HO370 (hon 9 (by kernel_rfl)))
                           have HA_HO370 := Aside0.mk (Q_HA_HO370 (hon 9 (by kernel_rfl)))
                           obtain ⟨c_, hv_⟩ := HA_HO370.out
                           have hF_ := HO370.out
                           rw [hv_] at hF_
                           obtain ⟨ad_, ea_, hx_⟩ := Kd.at_string (Kd.R_reads' hF_).2.2 (ji17) (of_eq_true pi371) (of_eq_true qi371)
                           cases ea_
                           refine value_ (w1 := w') (v := .string (rdOf ByteArray.empty y368 (ji17))) (by rfl) rfl ?_ ?_
                           ·go_simp
                            (try simp only [i64_w])
                            try rfl
                            try (simp only [ByteArray.size_append] at c22 c23 c25 c26 c28 c32 c33 c34; have e1_ : (⟨#[32, 32]⟩ : ByteArray).size = 2 := rfl; have e2_ : (⟨#[9]⟩ : ByteArray).size = 1 := rfl; have e3_ : (⟨#[10]⟩ : ByteArray).size = 1 := rfl; omega)
                           refine hK.out _ _ ⟨v365, adz_v365, v369, adz_v369, v376, adz_v376, m7_, m12_, m35_, (by rw [ha.out]; exact putSel_upk 9 hb_ rfl rfl rfl), Q_HO363, Q_BK359, Q_BK360, Q_HB, Q_HO366, Q_HA_HO366, Q_HO370, Q_HA_HO370, Q_HO377, Q_HA_HO377, Q_X7_, Q_X12_, Q_X35_⟩
                          refine steps_cons ?_ ?_
                          ·rintro b a w' ⟨v365, adz_v365, v369, adz_v369, v376, adz_v376, m7_, m12_, m35_, ha, Q_HO363, Q_BK359, Q_BK360, Q_HB, Q_HO366, Q_HA_HO366, Q_HO370, Q_HA_HO370, Q_HO377, Q_HA_HO377, Q_X7_, Q_X12_, Q_X35_⟩ hb_ hon hoff
                           refine ⟨_, rfl, fun K hK => ?_⟩
                           have e52 : a.tmps[52]? = some (.string (rdOf ByteArray.empty y364 (Go.bits .and .i64 (ji14) 3))) := by rw [ha]; exact putSel_on (e := (8, 52, .string (rdOf ByteArray.empty y364 (Go.bits .and .i64 (ji14) 3)))) 5 rfl rfl (hon 8 (by kernel_rfl)) rfl
                           have e57 : a.tmps[57]? = some (.string (rdOf ByteArray.empty y368 (ji17))) := by rw [ha]; exact putSel_on (e := (13, 57, .string (rdOf ByteArray.empty y368 (ji17)))) 9 rfl rfl (hon 13 (by kernel_rfl)) rfl
                           replace ha := Aside0.mk ha
                           have HO363 := Aside0.mk Q_HO363
                           have BK359 := Aside0.mk Q_BK359
                           have BK360 := Aside0.mk Q_BK360
                           have HB := Aside0.mk Q_HB
                           have HO366 := Aside0.mk (Q_HO366 (hon 1 (by kernel_rfl)))
                           have HA_HO366 := Aside0.mk (Q_HA_HO366 (hon 1 (by kernel_rfl)))
                           have HO370 := Aside0.mk (Q_HO370 (hon 9 (by kernel_rfl)))
                           have HA_HO370 := Aside0.mk (Q_HA_HO370 (hon 9 (by kernel_rfl)))
                           refine value_ (w1 := w') (v := .string ((rdOf ByteArray.empty y364 (Go.bits .and .i64 (ji14) 3)) ++ (rdOf ByteArray.empty y368 (ji17)))) (by rfl) rfl ?_ ?_
                           ·go_simp
                            (try simp only [i64_w])
                            try rfl
                            try (simp only [ByteArray.size_append] at c22 c23 c25 c26 c28 c32 c33 c34; have e1_ : (⟨#[32, 32]⟩ : ByteArray).size = 2 := rfl; have e2_ : (⟨#[9]⟩ : ByteArray).size = 1 := rfl; have e3_ : (⟨#[10]⟩ : ByteArray).size = 1 := rfl; omega)
                           refine hK.out _ _ ⟨v365, adz_v365, v369, adz_v369, v376, adz_v376, m7_, m12_, m35_, (by rw [ha.out]; exact putSel_upk 10 hb_ rfl rfl rfl), Q_HO363, Q_BK359, Q_BK360, Q_HB, Q_HO366, Q_HA_HO366, Q_HO370, Q_HA_HO370, Q_HO377, Q_HA_HO377, Q_X7_, Q_X12_, Q_X35_⟩
                          refine steps_cons ?_ ?_
                          ·rintro b a w' ⟨v365, adz_v365, v369, adz_v369, v376, adz_v376, m7_, m12_, m35_, ha, Q_HO363, Q_BK359, Q_BK360, Q_HB, Q_HO366, Q_HA_HO366, Q_HO370, Q_HA_HO370, Q_HO377, Q_HA_HO377, Q_X7_, Q_X12_, Q_X35_⟩ hb_ hon hoff
                           refine ⟨_, rfl, fun K hK => ?_⟩
                           have e59 : a.tmps[59]? = some (.pointer (some ⟨gb360, 0, none⟩)) := by rw [ha]; exact (putSel_off rfl).trans rfl
                           replace ha := Aside0.mk ha
                           have HO363 := Aside0.mk Q_HO363
                           have BK359 := Aside0.mk Q_BK359
                           have BK360 := Aside0.mk Q_BK360
                           have HB := Aside0.mk Q_HB
                           have hc0_ : w'.cell? ⟨gb360, 0, none⟩ = some (.int .i64 (Go.bits .and .i64 ((rd_T34 l0 x24_1).f0) 65535)) := (blk_cell BK360.out 0).trans rfl
                           have hc1_ : w'.cell? ⟨gb360, 1, none⟩ = some (.int .i64 (wrap64 (-(Go.bits .and .i64 ((rd_T34 l0 x24_1).f1) 65535)))) := (blk_cell BK360.out 1).trans rfl
                           have hc2_ : w'.cell? ⟨gb360, 2, none⟩ = some (.int .i64 (Go.bits .and .i64 ((rd_T34 l0 x24_1).f2) 255)) := (blk_cell BK360.out 2).trans rfl
                           refine value_ (w1 := w') (v := .int .i64 (Go.bits .and .i64 ((rd_T34 l0 x24_1).f0) 65535)) (by rfl) rfl ?_ ?_
                           ·go_simp
                            (try simp only [i64_w])
                            try rfl
                            try (simp only [ByteArray.size_append] at c22 c23 c25 c26 c28 c32 c33 c34; have e1_ : (⟨#[32, 32]⟩ : ByteArray).size = 2 := rfl; have e2_ : (⟨#[9]⟩ : ByteArray).size = 1 := rfl; have e3_ : (⟨#[10]⟩ : ByteArray).size = 1 := rfl; omega)
                           refine hK.out _ _ ⟨v365, adz_v365, v369, adz_v369, v376, adz_v376, m7_, m12_, m35_, (by rw [ha.out]; exact putSel_upk 11 hb_ rfl rfl rfl), Q_HO363, Q_BK359, Q_BK360, Q_HB, Q_HO366, Q_HA_HO366, Q_HO370, Q_HA_HO370, Q_HO377, Q_HA_HO377, Q_X7_, Q_X12_, Q_X35_⟩
                          refine steps_cons ?_ ?_
                          ·rintro b a w' ⟨v365, adz_v365, v369, adz_v369, v376, adz_v376, m7_, m12_, m35_, ha, Q_HO363, Q_BK359, Q_BK360, Q_HB, Q_HO366, Q_HA_HO366, Q_HO370, Q_HA_HO370, Q_HO377, Q_HA_HO377, Q_X7_, Q_X12_, Q_X35_⟩ hb_ hon hoff
                           refine ⟨_, rfl, fun K hK => ?_⟩
                           have e60 : a.tmps[60]? = some (.int .i64 (Go.bits .and .i64 ((rd_T34 l0 x24_1).f0) 65535)) := by rw [ha]; exact putSel_on (e := (16, 60, .int .i64 (Go.bits .and .i64 ((rd_T34 l0 x24_1).f0) 65535))) 11 rfl rfl (hon 16 (by kernel_rfl)) rfl
                           replace ha := Aside0.mk ha
                           have HO363 := Aside0.mk Q_HO363
                           have BK359 := Aside0.mk Q_BK359
                           have BK360 := Aside0.mk Q_BK360
                           have HB := Aside0.mk Q_HB
                           refine goes_ Tryz.func14 (by kernel_rfl) rfl #[.int .i64 (Go.bits .and .i64 ((rd_T34 l0 x24_1).f0) 65535), .int .i64 1] (by rfl) rfl rfl (by first | (simp only [List.map_toArray, List.map_cons, List.map_nil, Act.eval, Array.getD_eq_getD_getElem?, Option.getD_some, e60]; done) | (simp only [List.map_toArray, List.map_cons, List.map_nil, Act.eval, Array.getD_eq_getD_getElem?, Option.getD_some, e60]; rfl)) ?_
                           with_reducible refine (deci_Text.calls k1 (Go.bits .and .i64 ((rd_T34 l0 x24_1).f0) 65535) 1 t372 _ A21.out).mono ?_
                           rintro e w42 ⟨rfl, hb⟩
                           refine ⟨_, rfl, ?_⟩
                           have n0_ := Aside0.mk (Kd.R_below (gR HO363.out) hb)
                           have n1_ := Aside0.mk (blk_below (g := gb359) (o := .cells #[.int .i64 ((rd_T34 l0 x24_1).f0), .int .i64 ((rd_T34 l0 x24_1).f1), .int .i64 ((rd_T34 l0 x24_1).f2)] 34 (0, 0)) (gK BK359.out) hb)
                           have n2_ := Aside0.mk (blk_below (g := gb360) (o := .cells #[.int .i64 (Go.bits .and .i64 ((rd_T34 l0 x24_1).f0) 65535), .int .i64 (wrap64 (-(Go.bits .and .i64 ((rd_T34 l0 x24_1).f1) 65535))), .int .i64 (Go.bits .and .i64 ((rd_T34 l0 x24_1).f2) 255)] 34 (0, 0)) (gK BK360.out) hb)
                           have n3_ := Aside0.mk (below_step (by repeat (first | (with_reducible first | exact HB.out | apply bA | apply bN | apply bD | refine bS ?_ GE359.out | refine bS ?_ GE360.out) | exact HB.out)) hb)
                           have z_HO366 := fun (h0_ : b 1 = true) => (show Kd.R Kd.string 9 w42 w.heap.size (fun _ => True) v365 y364 from by first | exact (Kd.R_below (gR (Q_HO366 h0_)) hb) | exact Kd.R_mono (Kd.R_below (gR (Q_HO366 h0_)) hb) (fun _ h_ => by first | trivial | exact h_ | exact h_.1))
                           have z_HO370 := fun (h0_ : b 9 = true) => (show Kd.R Kd.string 9 w42 w.heap.size (fun _ => True) v369 y368 from by first | exact (Kd.R_below (gR (Q_HO370 h0_)) hb) | exact Kd.R_mono (Kd.R_below (gR (Q_HO370 h0_)) hb) (fun _ h_ => by first | trivial | exact h_ | exact h_.1))
                           have z_HO377 := fun (h0_ : b 29 = true) => (show Kd.R Kd.string 9 w42 w.heap.size (fun _ => True) v376 y375 from by first | exact (Kd.R_below (gR (Q_HO377 h0_)) hb) | exact Kd.R_mono (Kd.R_below (gR (Q_HO377 h0_)) hb) (fun _ h_ => by first | trivial | exact h_ | exact h_.1))
                           clear HO363
                           clear BK359
                           clear BK360
                           clear HB
                           have HO363 := n0_
                           have BK359 := n1_
                           have BK360 := n2_
                           have HB := n3_
                           clear n0_ n1_ n2_ n3_
                           (try clear hb)
                           (try clear hb2)
                           (try clear hk)
                           (try clear hi)
                           refine hK.out _ _ ⟨v365, adz_v365, v369, adz_v369, v376, adz_v376, m7_, m12_, m35_, (by rw [ha.out]; exact putSel_upk 12 hb_ rfl rfl rfl), (gR HO363.out), (gK BK359.out), (gK BK360.out), (by repeat (first | (with_reducible first | exact HB.out | apply bA | apply bN | apply bD | refine bS ?_ GE359.out | refine bS ?_ GE360.out) | exact HB.out)), z_HO366, Q_HA_HO366, z_HO370, Q_HA_HO370, z_HO377, Q_HA_HO377, Q_X7_, Q_X12_, Q_X35_⟩
                          refine steps_cons ?_ ?_
                          ·rintro b a w' ⟨v365, adz_v365, v369, adz_v369, v376, adz_v376, m7_, m12_, m35_, ha, Q_HO363, Q_BK359, Q_BK360, Q_HB, Q_HO366, Q_HA_HO366, Q_HO370, Q_HA_HO370, Q_HO377, Q_HA_HO377, Q_X7_, Q_X12_, Q_X35_⟩ hb_ hon hoff
                           refine ⟨_, rfl, fun K hK => ?_⟩
                           have e58 : a.tmps[58]? = some (.string ((rdOf ByteArray.empty y364 (Go.bits .and .i64 (ji14) 3)) ++ (rdOf ByteArray.empty y368 (ji17)))) := by rw [ha]; exact putSel_on (e := (14, 58, .string ((rdOf ByteArray.empty y364 (Go.bits .and .i64 (ji14) 3)) ++ (rdOf ByteArray.empty y368 (ji17))))) 10 rfl rfl (hon 14 (by kernel_rfl)) rfl
                           have e61 : a.tmps[61]? = some (.string t372) := by rw [ha]; exact putSel_on (e := (17, 61, .string t372)) 12 rfl rfl (hon 17 (by kernel_rfl)) rfl
                           replace ha := Aside0.mk ha
                           have HO363 := Aside0.mk Q_HO363
                           have BK359 := Aside0.mk Q_BK359
                           have BK360 := Aside0.mk Q_BK360
                           have HB := Aside0.mk Q_HB
                           have HO366 := Aside0.mk (Q_HO366 (hon 1 (by kernel_rfl)))
                           have HA_HO366 := Aside0.mk (Q_HA_HO366 (hon 1 (by kernel_rfl)))
                           have HO370 := Aside0.mk (Q_HO370 (hon 9 (by kernel_rfl)))
                           have HA_HO370 := Aside0.mk (Q_HA_HO370 (hon 9 (by kernel_rfl)))
                           refine value_ (w1 := w') (v := .string (((rdOf ByteArray.empty y364 (Go.bits .and .i64 (ji14) 3)) ++ (rdOf ByteArray.empty y368 (ji17))) ++ t372)) (by rfl) rfl ?_ ?_
                           ·go_simp
                            (try simp only [i64_w])
                            try rfl
                            try (simp only [ByteArray.size_append] at c22 c23 c25 c26 c28 c32 c33 c34; have e1_ : (⟨#[32, 32]⟩ : ByteArray).size = 2 := rfl; have e2_ : (⟨#[9]⟩ : ByteArray).size = 1 := rfl; have e3_ : (⟨#[10]⟩ : ByteArray).size = 1 := rfl; omega)
                           refine hK.out _ _ ⟨v365, adz_v365, v369, adz_v369, v376, adz_v376, m7_, m12_, m35_, (by rw [ha.out]; exact putSel_upk 13 hb_ rfl rfl rfl), Q_HO363, Q_BK359, Q_BK360, Q_HB, Q_HO366, Q_HA_HO366, Q_HO370, Q_HA_HO370, Q_HO377, Q_HA_HO377, Q_X7_, Q_X12_, Q_X35_⟩
                          refine steps_cons ?_ ?_
                          ·rintro b a w' ⟨v365, adz_v365, v369, adz_v369, v376, adz_v376, m7_, m12_, m35_, ha, Q_HO363, Q_BK359, Q_BK360, Q_HB, Q_HO366, Q_HA_HO366, Q_HO370, Q_HA_HO370, Q_HO377, Q_HA_HO377, Q_X7_, Q_X12_, Q_X35_⟩ hb_ hon hoff
                           refine ⟨_, rfl, fun K hK => ?_⟩
                           have e62 : a.tmps[62]? = some (.string (((rdOf ByteArray.empty y364 (Go.bits .and .i64 (ji14) 3)) ++ (rdOf ByteArray.empty y368 (ji17))) ++ t372)) := by rw [ha]; exact putSel_on (e := (18, 62, .string (((rdOf ByteArray.empty y364 (Go.bits .and .i64 (ji14) 3)) ++ (rdOf ByteArray.empty y368 (ji17))) ++ t372))) 13 rfl rfl (hon 18 (by kernel_rfl)) rfl
                           replace ha := Aside0.mk ha
                           have HO363 := Aside0.mk Q_HO363
                           have BK359 := Aside0.mk Q_BK359
                           have BK360 := Aside0.mk Q_BK360
                           have HB := Aside0.mk Q_HB
                           have HO366 := Aside0.mk (Q_HO366 (hon 1 (by kernel_rfl)))
                           have HA_HO366 := Aside0.mk (Q_HA_HO366 (hon 1 (by kernel_rfl)))
                           have HO370 := Aside0.mk (Q_HO370 (hon 9 (by kernel_rfl)))
                           have HA_HO370 := Aside0.mk (Q_HA_HO370 (hon 9 (by kernel_rfl)))
                           refine value_ (w1 := w') (v := .string ((((rdOf ByteArray.empty y364 (Go.bits .and .i64 (ji14) 3)) ++ (rdOf ByteArray.empty y368 (ji17))) ++ t372) ++ (⟨#[32, 32]⟩ : ByteArray))) (by rfl) rfl ?_ ?_
                           ·go_simp
                            (try simp only [i64_w])
                            try rfl
                            try (simp only [ByteArray.size_append] at c22 c23 c25 c26 c28 c32 c33 c34; have e1_ : (⟨#[32, 32]⟩ : ByteArray).size = 2 := rfl; have e2_ : (⟨#[9]⟩ : ByteArray).size = 1 := rfl; have e3_ : (⟨#[10]⟩ : ByteArray).size = 1 := rfl; omega)
                           refine hK.out _ _ ⟨v365, adz_v365, v369, adz_v369, v376, adz_v376, m7_, m12_, m35_, (by rw [ha.out]; exact putSel_upk 14 hb_ rfl rfl rfl), Q_HO363, Q_BK359, Q_BK360, Q_HB, Q_HO366, Q_HA_HO366, Q_HO370, Q_HA_HO370, Q_HO377, Q_HA_HO377, Q_X7_, Q_X12_, Q_X35_⟩
                          refine steps_cons ?_ ?_
                          ·rintro b a w' ⟨v365, adz_v365, v369, adz_v369, v376, adz_v376, m7_, m12_, m35_, ha, Q_HO363, Q_BK359, Q_BK360, Q_HB, Q_HO366, Q_HA_HO366, Q_HO370, Q_HA_HO370, Q_HO377, Q_HA_HO377, Q_X7_, Q_X12_, Q_X35_⟩ hb_ hon hoff
                           refine ⟨_, rfl, fun K hK => ?_⟩
                           have e64 : a.tmps[64]? = some (.pointer (some ⟨gb360, 1, none⟩)) := by rw [ha]; exact (putSel_off rfl).trans rfl
                           replace ha := Aside0.mk ha
                           have HO363 := Aside0.mk Q_HO363
                           have BK359 := Aside0.mk Q_BK359
                           have BK360 := Aside0.mk Q_BK360
                           have HB := Aside0.mk Q_HB
                           have hc0_ : w'.cell? ⟨gb360, 0, none⟩ = some (.int .i64 (Go.bits .and .i64 ((rd_T34 l0 x24_1).f0) 65535)) := (blk_cell BK360.out 0).trans rfl
                           have hc1_ : w'.cell? ⟨gb360, 1, none⟩ = some (.int .i64 (wrap64 (-(Go.bits .and .i64 ((rd_T34 l0 x24_1).f1) 65535)))) := (blk_cell BK360.out 1).trans rfl
                           have hc2_ : w'.cell? ⟨gb360, 2, none⟩ = some (.int .i64 (Go.bits .and .i64 ((rd_T34 l0 x24_1).f2) 255)) := (blk_cell BK360.out 2).trans rfl
                           refine value_ (w1 := w') (v := .int .i64 (wrap64 (-(Go.bits .and .i64 ((rd_T34 l0 x24_1).f1) 65535)))) (by rfl) rfl ?_ ?_
                           ·go_simp
                            (try simp only [i64_w])
                            try rfl
                            try (simp only [ByteArray.size_append] at c22 c23 c25 c26 c28 c32 c33 c34; have e1_ : (⟨#[32, 32]⟩ : ByteArray).size = 2 := rfl; have e2_ : (⟨#[9]⟩ : ByteArray).size = 1 := rfl; have e3_ : (⟨#[10]⟩ : ByteArray).size = 1 := rfl; omega)
                           refine hK.out _ _ ⟨v365, adz_v365, v369, adz_v369, v376, adz_v376, m7_, m12_, m35_, (by rw [ha.out]; exact putSel_upk 15 hb_ rfl rfl rfl), Q_HO363, Q_BK359, Q_BK360, Q_HB, Q_HO366, Q_HA_HO366, Q_HO370, Q_HA_HO370, Q_HO377, Q_HA_HO377, Q_X7_, Q_X12_, Q_X35_⟩
                          refine steps_cons ?_ ?_
                          ·rintro b a w' ⟨v365, adz_v365, v369, adz_v369, v376, adz_v376, m7_, m12_, m35_, ha, Q_HO363, Q_BK359, Q_BK360, Q_HB, Q_HO366, Q_HA_HO366, Q_HO370, Q_HA_HO370, Q_HO377, Q_HA_HO377, Q_X7_, Q_X12_, Q_X35_⟩ hb_ hon hoff
                           refine ⟨_, rfl, fun K hK => ?_⟩
                           have e65 : a.tmps[65]? = some (.int .i64 (wrap64 (-(Go.bits .and .i64 ((rd_T34 l0 x24_1).f1) 65535)))) := by rw [ha]; exact putSel_on (e := (21, 65, .int .i64 (wrap64 (-(Go.bits .and .i64 ((rd_T34 l0 x24_1).f1) 65535))))) 15 rfl rfl (hon 21 (by kernel_rfl)) rfl
                           replace ha := Aside0.mk ha
                           have HO363 := Aside0.mk Q_HO363
                           have BK359 := Aside0.mk Q_BK359
                           have BK360 := Aside0.mk Q_BK360
                           have HB := Aside0.mk Q_HB
                           refine goes_ Tryz.func14 (by kernel_rfl) rfl #[.int .i64 (wrap64 (-(Go.bits .and .i64 ((rd_T34 l0 x24_1).f1) 65535))), .int .i64 1] (by rfl) rfl rfl (by first | (simp only [List.map_toArray, List.map_cons, List.map_nil, Act.eval, Array.getD_eq_getD_getElem?, Option.getD_some, e65]; done) | (simp only [List.map_toArray, List.map_cons, List.map_nil, Act.eval, Array.getD_eq_getD_getElem?, Option.getD_some, e65]; rfl)) ?_
                           with_reducible refine (deci_Text.calls k1 (wrap64 (-(Go.bits .and .i64 ((rd_T34 l0 x24_1).f1) 65535))) 1 t373 _ A24.out).mono ?_
                           rintro e w44 ⟨rfl, hb⟩
                           refine ⟨_, rfl, ?_⟩
                           have n0_ := Aside0.mk (Kd.R_below (gR HO363.out) hb)
                           have n1_ := Aside0.mk (blk_below (g := gb359) (o := .cells #[.int .i64 ((rd_T34 l0 x24_1).f0), .int .i64 ((rd_T34 l0 x24_1).f1), .int .i64 ((rd_T34 l0 x24_1).f2)] 34 (0, 0)) (gK BK359.out) hb)
                           have n2_ := Aside0.mk (blk_below (g := gb360) (o := .cells #[.int .i64 (Go.bits .and .i64 ((rd_T34 l0 x24_1).f0) 65535), .int .i64 (wrap64 (-(Go.bits .and .i64 ((rd_T34 l0 x24_1).f1) 65535))), .int .i64 (Go.bits .and .i64 ((rd_T34 l0 x24_1).f2) 255)] 34 (0, 0)) (gK BK360.out) hb)
                           have n3_ := Aside0.mk (below_step (by repeat (first | (with_reducible first | exact HB.out | apply bA | apply bN | apply bD | refine bS ?_ GE359.out | refine bS ?_ GE360.out) | exact HB.out)) hb)
                           have z_HO366 := fun (h0_ : b 1 = true) => (show Kd.R Kd.string 9 w44 w.heap.size (fun _ => True) v365 y364 from by first | exact (Kd.R_below (gR (Q_HO366 h0_)) hb) | exact Kd.R_mono (Kd.R_below (gR (Q_HO366 h0_)) hb) (fun _ h_ => by first | trivial | exact h_ | exact h_.1))
                           have z_HO370 := fun (h0_ : b 9 = true) => (show Kd.R Kd.string 9 w44 w.heap.size (fun _ => True) v369 y368 from by first | exact (Kd.R_below (gR (Q_HO370 h0_)) hb) | exact Kd.R_mono (Kd.R_below (gR (Q_HO370 h0_)) hb) (fun _ h_ => by first | trivial | exact h_ | exact h_.1))
                           have z_HO377 := fun (h0_ : b 29 = true) => (show Kd.R Kd.string 9 w44 w.heap.size (fun _ => True) v376 y375 from by first | exact (Kd.R_below (gR (Q_HO377 h0_)) hb) | exact Kd.R_mono (Kd.R_below (gR (Q_HO377 h0_)) hb) (fun _ h_ => by first | trivial | exact h_ | exact h_.1))
                           clear HO363
                           clear BK359
                           clear BK360
                           clear HB
                           have HO363 := n0_
                           have BK359 := n1_
                           have BK360 := n2_
                           have HB := n3_
                           clear n0_ n1_ n2_ n3_
                           (try clear hb)
                           (try clear hb2)
                           (try clear hk)
                           (try clear hi)
                           refine hK.out _ _ ⟨v365, adz_v365, v369, adz_v369, v376, adz_v376, m7_, m12_, m35_, (by rw [ha.out]; exact putSel_upk 16 hb_ rfl rfl rfl), (gR HO363.out), (gK BK359.out), (gK BK360.out), (by repeat (first | (with_reducible first | exact HB.out | apply bA | apply bN | apply bD | refine bS ?_ GE359.out | refine bS ?_ GE360.out) | exact HB.out)), z_HO366, Q_HA_HO366, z_HO370, Q_HA_HO370, z_HO377, Q_HA_HO377, Q_X7_, Q_X12_, Q_X35_⟩
                          refine steps_cons ?_ ?_
                          ·rintro b a w' ⟨v365, adz_v365, v369, adz_v369, v376, adz_v376, m7_, m12_, m35_, ha, Q_HO363, Q_BK359, Q_BK360, Q_HB, Q_HO366, Q_HA_HO366, Q_HO370, Q_HA_HO370, Q_HO377, Q_HA_HO377, Q_X7_, Q_X12_, Q_X35_⟩ hb_ hon hoff
                           refine ⟨_, rfl, fun K hK => ?_⟩
                           have e63 : a.tmps[63]? = some (.string ((((rdOf ByteArray.empty y364 (Go.bits .and .i64 (ji14) 3)) ++ (rdOf ByteArray.empty y368 (ji17))) ++ t372) ++ (⟨#[32, 32]⟩ : ByteArray))) := by rw [ha]; exact putSel_on (e := (19, 63, .string ((((rdOf ByteArray.empty y364 (Go.bits .and .i64 (ji14) 3)) ++ (rdOf ByteArray.empty y368 (ji17))) ++ t372) ++ (⟨#[32, 32]⟩ : ByteArray)))) 14 rfl rfl (hon 19 (by kernel_rfl)) rfl
                           have e66 : a.tmps[66]? = some (.string t373) := by rw [ha]; exact putSel_on (e := (22, 66, .string t373)) 16 rfl rfl (hon 22 (by kernel_rfl)) rfl
                           replace ha := Aside0.mk ha
                           have HO363 := Aside0.mk Q_HO363
                           have BK359 := Aside0.mk Q_BK359
                           have BK360 := Aside0.mk Q_BK360
                           have HB := Aside0.mk Q_HB
                           have HO366 := Aside0.mk (Q_HO366 (hon 1 (by kernel_rfl)))
                           have HA_HO366 := Aside0.mk (Q_HA_HO366 (hon 1 (by kernel_rfl)))
                           have HO370 := Aside0.mk (Q_HO370 (hon 9 (by kernel_rfl)))
                           have HA_HO370 := Aside0.mk (Q_HA_HO370 (hon 9 (by kernel_rfl)))
                           refine value_ (w1 := w') (v := .string (((((rdOf ByteArray.empty y364 (Go.bits .and .i64 (ji14) 3)) ++ (rdOf ByteArray.empty y368 (ji17))) ++ t372) ++ (⟨#[32, 32]⟩ : ByteArray)) ++ t373)) (by rfl) rfl ?_ ?_
                           ·go_simp
                            (try simp only [i64_w])
                            try rfl
                            try (simp only [ByteArray.size_append] at c22 c23 c25 c26 c28 c32 c33 c34; have e1_ : (⟨#[32, 32]⟩ : ByteArray).size = 2 := rfl; have e2_ : (⟨#[9]⟩ : ByteArray).size = 1 := rfl; have e3_ : (⟨#[10]⟩ : ByteArray).size = 1 := rfl; omega)
                           refine hK.out _ _ ⟨v365, adz_v365, v369, adz_v369, v376, adz_v376, m7_, m12_, m35_, (by rw [ha.out]; exact putSel_upk 17 hb_ rfl rfl rfl), Q_HO363, Q_BK359, Q_BK360, Q_HB, Q_HO366, Q_HA_HO366, Q_HO370, Q_HA_HO370, Q_HO377, Q_HA_HO377, Q_X7_, Q_X12_, Q_X35_⟩
                          refine steps_cons ?_ ?_
                          ·rintro b a w' ⟨v365, adz_v365, v369, adz_v369, v376, adz_v376, m7_, m12_, m35_, ha, Q_HO363, Q_BK359, Q_BK360, Q_HB, Q_HO366, Q_HA_HO366, Q_HO370, Q_HA_HO370, Q_HO377, Q_HA_HO377, Q_X7_, Q_X12_, Q_X35_⟩ hb_ hon hoff
                           refine ⟨_, rfl, fun K hK => ?_⟩
                           have e67 : a.tmps[67]? = some (.string (((((rdOf ByteArray.empty y364 (Go.bits .and .i64 (ji14) 3)) ++ (rdOf ByteArray.empty y368 (ji17))) ++ t372) ++ (⟨#[32, 32]⟩ : ByteArray)) ++ t373)) := by rw [ha]; exact putSel_on (e := (23, 67, .string (((((rdOf ByteArray.empty y364 (Go.bits .and .i64 (ji14) 3)) ++ (rdOf ByteArray.empty y368 (ji17))) ++ t372) ++ (⟨#[32, 32]⟩ : ByteArray)) ++ t373))) 17 rfl rfl (hon 23 (by kernel_rfl)) rfl
                           replace ha := Aside0.mk ha
                           have HO363 := Aside0.mk Q_HO363
                           have BK359 := Aside0.mk Q_BK359
                           have BK360 := Aside0.mk Q_BK360
                           have HB := Aside0.mk Q_HB
                           have HO366 := Aside0.mk (Q_HO366 (hon 1 (by kernel_rfl)))
                           have HA_HO366 := Aside0.mk (Q_HA_HO366 (hon 1 (by kernel_rfl)))
                           have HO370 := Aside0.mk (Q_HO370 (hon 9 (by kernel_rfl)))
                           have HA_HO370 := Aside0.mk (Q_HA_HO370 (hon 9 (by kernel_rfl)))
                           refine value_ (w1 := w') (v := .string ((((((rdOf ByteArray.empty y364 (Go.bits .and .i64 (ji14) 3)) ++ (rdOf ByteArray.empty y368 (ji17))) ++ t372) ++ (⟨#[32, 32]⟩ : ByteArray)) ++ t373) ++ (⟨#[9]⟩ : ByteArray))) (by rfl) rfl ?_ ?_
                           ·go_simp
                            (try simp only [i64_w])
                            try rfl
                            try (simp only [ByteArray.size_append] at c22 c23 c25 c26 c28 c32 c33 c34; have e1_ : (⟨#[32, 32]⟩ : ByteArray).size = 2 := rfl; have e2_ : (⟨#[9]⟩ : ByteArray).size = 1 := rfl; have e3_ : (⟨#[10]⟩ : ByteArray).size = 1 := rfl; omega)
                           refine hK.out _ _ ⟨v365, adz_v365, v369, adz_v369, v376, adz_v376, m7_, m12_, m35_, (by rw [ha.out]; exact putSel_upk 18 hb_ rfl rfl rfl), Q_HO363, Q_BK359, Q_BK360, Q_HB, Q_HO366, Q_HA_HO366, Q_HO370, Q_HA_HO370, Q_HO377, Q_HA_HO377, Q_X7_, Q_X12_, Q_X35_⟩
                          refine steps_cons ?_ ?_
                          ·rintro b a w' ⟨v365, adz_v365, v369, adz_v369, v376, adz_v376, m7_, m12_, m35_, ha, Q_HO363, Q_BK359, Q_BK360, Q_HB, Q_HO366, Q_HA_HO366, Q_HO370, Q_HA_HO370, Q_HO377, Q_HA_HO377, Q_X7_, Q_X12_, Q_X35_⟩ hb_ hon hoff
                           refine ⟨_, rfl, fun K hK => ?_⟩
                           have e69 : a.tmps[69]? = some (.pointer (some ⟨gb360, 2, none⟩)) := by rw [ha]; exact (putSel_off rfl).trans rfl
                           replace ha := Aside0.mk ha
                           have HO363 := Aside0.mk Q_HO363
                           have BK359 := Aside0.mk Q_BK359
                           have BK360 := Aside0.mk Q_BK360
                           have HB := Aside0.mk Q_HB
                           have hc0_ : w'.cell? ⟨gb360, 0, none⟩ = some (.int .i64 (Go.bits .and .i64 ((rd_T34 l0 x24_1).f0) 65535)) := (blk_cell BK360.out 0).trans rfl
                           have hc1_ : w'.cell? ⟨gb360, 1, none⟩ = some (.int .i64 (wrap64 (-(Go.bits .and .i64 ((rd_T34 l0 x24_1).f1) 65535)))) := (blk_cell BK360.out 1).trans rfl
                           have hc2_ : w'.cell? ⟨gb360, 2, none⟩ = some (.int .i64 (Go.bits .and .i64 ((rd_T34 l0 x24_1).f2) 255)) := (blk_cell BK360.out 2).trans rfl
                           refine value_ (w1 := w') (v := .int .i64 (Go.bits .and .i64 ((rd_T34 l0 x24_1).f2) 255)) (by rfl) rfl ?_ ?_
                           ·go_simp
                            (try simp only [i64_w])
                            try rfl
                            try (simp only [ByteArray.size_append] at c22 c23 c25 c26 c28 c32 c33 c34; have e1_ : (⟨#[32, 32]⟩ : ByteArray).size = 2 := rfl; have e2_ : (⟨#[9]⟩ : ByteArray).size = 1 := rfl; have e3_ : (⟨#[10]⟩ : ByteArray).size = 1 := rfl; omega)
                           refine hK.out _ _ ⟨v365, adz_v365, v369, adz_v369, v376, adz_v376, m7_, m12_, m35_, (by rw [ha.out]; exact putSel_upk 19 hb_ rfl rfl rfl), Q_HO363, Q_BK359, Q_BK360, Q_HB, Q_HO366, Q_HA_HO366, Q_HO370, Q_HA_HO370, Q_HO377, Q_HA_HO377, Q_X7_, Q_X12_, Q_X35_⟩
                          refine steps_cons ?_ ?_
                          ·rintro b a w' ⟨v365, adz_v365, v369, adz_v369, v376, adz_v376, m7_, m12_, m35_, ha, Q_HO363, Q_BK359, Q_BK360, Q_HB, Q_HO366, Q_HA_HO366, Q_HO370, Q_HA_HO370, Q_HO377, Q_HA_HO377, Q_X7_, Q_X12_, Q_X35_⟩ hb_ hon hoff
                           refine ⟨_, rfl, fun K hK => ?_⟩
                           have e70 : a.tmps[70]? = some (.int .i64 (Go.bits .and .i64 ((rd_T34 l0 x24_1).f2) 255)) := by rw [ha]; exact putSel_on (e := (26, 70, .int .i64 (Go.bits .and .i64 ((rd_T34 l0 x24_1).f2) 255))) 19 rfl rfl (hon 26 (by kernel_rfl)) rfl
                           replace ha := Aside0.mk ha
                           have HO363 := Aside0.mk Q_HO363
                           have BK359 := Aside0.mk Q_BK359
                           have BK360 := Aside0.mk Q_BK360
                           have HB := Aside0.mk Q_HB
                           refine goes_ Tryz.func14 (by kernel_rfl) rfl #[.int .i64 (Go.bits .and .i64 ((rd_T34 l0 x24_1).f2) 255), .int .i64 0] (by rfl) rfl rfl (by first | (simp only [List.map_toArray, List.map_cons, List.map_nil, Act.eval, Array.getD_eq_getD_getElem?, Option.getD_some, e70]; done) | (simp only [List.map_toArray, List.map_cons, List.map_nil, Act.eval, Array.getD_eq_getD_getElem?, Option.getD_some, e70]; rfl)) ?_
                           with_reducible refine (deci_Text.calls k1 (Go.bits .and .i64 ((rd_T34 l0 x24_1).f2) 255) 0 t374 _ A27.out).mono ?_
                           rintro e w45 ⟨rfl, hb⟩
                           refine ⟨_, rfl, ?_⟩
                           have n0_ := Aside0.mk (Kd.R_below (gR HO363.out) hb)
                           have n1_ := Aside0.mk (blk_below (g := gb359) (o := .cells #[.int .i64 ((rd_T34 l0 x24_1).f0), .int .i64 ((rd_T34 l0 x24_1).f1), .int .i64 ((rd_T34 l0 x24_1).f2)] 34 (0, 0)) (gK BK359.out) hb)
                           have n2_ := Aside0.mk (blk_below (g := gb360) (o := .cells #[.int .i64 (Go.bits .and .i64 ((rd_T34 l0 x24_1).f0) 65535), .int .i64 (wrap64 (-(Go.bits .and .i64 ((rd_T34 l0 x24_1).f1) 65535))), .int .i64 (Go.bits .and .i64 ((rd_T34 l0 x24_1).f2) 255)] 34 (0, 0)) (gK BK360.out) hb)
                           have n3_ := Aside0.mk (below_step (by repeat (first | (with_reducible first | exact HB.out | apply bA | apply bN | apply bD | refine bS ?_ GE359.out | refine bS ?_ GE360.out) | exact HB.out)) hb)
                           have z_HO366 := fun (h0_ : b 1 = true) => (show Kd.R Kd.string 9 w45 w.heap.size (fun _ => True) v365 y364 from by first | exact (Kd.R_below (gR (Q_HO366 h0_)) hb) | exact Kd.R_mono (Kd.R_below (gR (Q_HO366 h0_)) hb) (fun _ h_ => by first | trivial | exact h_ | exact h_.1))
                           have z_HO370 := fun (h0_ : b 9 = true) => (show Kd.R Kd.string 9 w45 w.heap.size (fun _ => True) v369 y368 from by first | exact (Kd.R_below (gR (Q_HO370 h0_)) hb) | exact Kd.R_mono (Kd.R_below (gR (Q_HO370 h0_)) hb) (fun _ h_ => by first | trivial | exact h_ | exact h_.1))
                           have z_HO377 := fun (h0_ : b 29 = true) => (show Kd.R Kd.string 9 w45 w.heap.size (fun _ => True) v376 y375 from by first | exact (Kd.R_below (gR (Q_HO377 h0_)) hb) | exact Kd.R_mono (Kd.R_below (gR (Q_HO377 h0_)) hb) (fun _ h_ => by first | trivial | exact h_ | exact h_.1))
                           clear HO363
                           clear BK359
                           clear BK360
                           clear HB
                           have HO363 := n0_
                           have BK359 := n1_
                           have BK360 := n2_
                           have HB := n3_
                           clear n0_ n1_ n2_ n3_
                           (try clear hb)
                           (try clear hb2)
                           (try clear hk)
                           (try clear hi)
                           refine hK.out _ _ ⟨v365, adz_v365, v369, adz_v369, v376, adz_v376, m7_, m12_, m35_, (by rw [ha.out]; exact putSel_upk 20 hb_ rfl rfl rfl), (gR HO363.out), (gK BK359.out), (gK BK360.out), (by repeat (first | (with_reducible first | exact HB.out | apply bA | apply bN | apply bD | refine bS ?_ GE359.out | refine bS ?_ GE360.out) | exact HB.out)), z_HO366, Q_HA_HO366, z_HO370, Q_HA_HO370, z_HO377, Q_HA_HO377, Q_X7_, Q_X12_, Q_X35_⟩
                          refine steps_cons ?_ ?_
                          ·rintro b a w' ⟨v365, adz_v365, v369, adz_v369, v376, adz_v376, m7_, m12_, m35_, ha, Q_HO363, Q_BK359, Q_BK360, Q_HB, Q_HO366, Q_HA_HO366, Q_HO370, Q_HA_HO370, Q_HO377, Q_HA_HO377, Q_X7_, Q_X12_, Q_X35_⟩ hb_ hon hoff
                           refine ⟨_, rfl, fun K hK => ?_⟩
                           have e68 : a.tmps[68]? = some (.string ((((((rdOf ByteArray.empty y364 (Go.bits .and .i64 (ji14) 3)) ++ (rdOf ByteArray.empty y368 (ji17))) ++ t372) ++ (⟨#[32, 32]⟩ : ByteArray)) ++ t373) ++ (⟨#[9]⟩ : ByteArray))) := by rw [ha]; exact putSel_on (e := (24, 68, .string ((((((rdOf ByteArray.empty y364 (Go.bits .and .i64 (ji14) 3)) ++ (rdOf ByteArray.empty y368 (ji17))) ++ t372) ++ (⟨#[32, 32]⟩ : ByteArray)) ++ t373) ++ (⟨#[9]⟩ : ByteArray)))) 18 rfl rfl (hon 24 (by kernel_rfl)) rfl
                           have e71 : a.tmps[71]? = some (.string t374) := by rw [ha]; exact putSel_on (e := (27, 71, .string t374)) 20 rfl rfl (hon 27 (by kernel_rfl)) rfl
                           replace ha := Aside0.mk ha
                           have HO363 := Aside0.mk Q_HO363
                           have BK359 := Aside0.mk Q_BK359
                           have BK360 := Aside0.mk Q_BK360
                           have HB := Aside0.mk Q_HB
                           have HO366 := Aside0.mk (Q_HO366 (hon 1 (by kernel_rfl)))
                           have HA_HO366 := Aside0.mk (Q_HA_HO366 (hon 1 (by kernel_rfl)))
                           have HO370 := Aside0.mk (Q_HO370 (hon 9 (by kernel_rfl)))
                           have HA_HO370 := Aside0.mk (Q_HA_HO370 (hon 9 (by kernel_rfl)))
                           refine value_ (w1 := w') (v := .string (((((((rdOf ByteArray.empty y364 (Go.bits .and .i64 (ji14) 3)) ++ (rdOf ByteArray.empty y368 (ji17))) ++ t372) ++ (⟨#[32, 32]⟩ : ByteArray)) ++ t373) ++ (⟨#[9]⟩ : ByteArray)) ++ t374)) (by rfl) rfl ?_ ?_
                           ·go_simp
                            (try simp only [i64_w])
                            try rfl
                            try (simp only [ByteArray.size_append] at c22 c23 c25 c26 c28 c32 c33 c34; have e1_ : (⟨#[32, 32]⟩ : ByteArray).size = 2 := rfl; have e2_ : (⟨#[9]⟩ : ByteArray).size = 1 := rfl; have e3_ : (⟨#[10]⟩ : ByteArray).size = 1 := rfl; omega)
                           refine hK.out _ _ ⟨v365, adz_v365, v369, adz_v369, v376, adz_v376, m7_, m12_, m35_, (by rw [ha.out]; exact putSel_upk 21 hb_ rfl rfl rfl), Q_HO363, Q_BK359, Q_BK360, Q_HB, Q_HO366, Q_HA_HO366, Q_HO370, Q_HA_HO370, Q_HO377, Q_HA_HO377, Q_X7_, Q_X12_, Q_X35_⟩
                          refine steps_cons ?_ ?_
                          ·rintro b a w' ⟨v365, adz_v365, v369, adz_v369, v376, adz_v376, m7_, m12_, m35_, ha, Q_HO363, Q_BK359, Q_BK360, Q_HB, Q_HO366, Q_HA_HO366, Q_HO370, Q_HA_HO370, Q_HO377, Q_HA_HO377, Q_X7_, Q_X12_, Q_X35_⟩ hb_ hon hoff
                           refine ⟨_, rfl, fun K hK => ?_⟩
                           replace ha := Aside0.mk ha
                           have HO363 := Aside0.mk Q_HO363
                           have BK359 := Aside0.mk Q_BK359
                           have BK360 := Aside0.mk Q_BK360
                           have HB := Aside0.mk Q_HB
                           refine Kd.R_lit_step Kd.string _ 9 ?hg (N := 73) ?hd (xs := ([(⟨#[]⟩ : ByteArray), (⟨#[32]⟩ : ByteArray), (⟨#[13]⟩ : ByteArray)] : List ByteArray)) (inner := [.string (⟨#[]⟩ : ByteArray), .string (⟨#[32]⟩ : ByteArray), .string (⟨#[13]⟩ : ByteArray)]) (ok := fun _ => True) (okp := fun _ => True) ?hr ?hp (fun _ hk => hk) trivial (Below.refl _ _) (Nat.le_refl _) (by simp) ?_; (case hd => rfl); (case hg => rfl); (case hr => first | (go_simp; done) | (go_simp; rfl)); (case hp => exact (Reps.one (show Kd.M Kd.string _ _ _ (⟨#[]⟩ : ByteArray) [.string (⟨#[]⟩ : ByteArray)] from rfl) (Reps.one (show Kd.M Kd.string _ _ _ (⟨#[32]⟩ : ByteArray) [.string (⟨#[32]⟩ : ByteArray)] from rfl) (Reps.one (show Kd.M Kd.string _ _ _ (⟨#[13]⟩ : ByteArray) [.string (⟨#[13]⟩ : ByteArray)] from rfl) (Reps.none _ _)))))
                           intro v376 w42 ho43 hb hg_ hnew_
                           clear hg_ hnew_
                           (first | rw [← Ny375.out] at ho43 | (simp only [Int.reduceToNat] at ho43; rw [← Ny375.out] at ho43))
                           have n0_ := Aside0.mk (Kd.R_below (gR HO363.out) hb)
                           have n1_ := Aside0.mk (Kd.R_lower ho43 (below_size (by repeat (first | (with_reducible first | exact HB.out | apply bA | apply bN | apply bD | refine bS ?_ GE359.out | refine bS ?_ GE360.out) | exact HB.out))))
                           have n2_ := Aside0.mk (blk_below (g := gb359) (o := .cells #[.int .i64 ((rd_T34 l0 x24_1).f0), .int .i64 ((rd_T34 l0 x24_1).f1), .int .i64 ((rd_T34 l0 x24_1).f2)] 34 (0, 0)) (gK BK359.out) hb)
                           have n3_ := Aside0.mk (blk_below (g := gb360) (o := .cells #[.int .i64 (Go.bits .and .i64 ((rd_T34 l0 x24_1).f0) 65535), .int .i64 (wrap64 (-(Go.bits .and .i64 ((rd_T34 l0 x24_1).f1) 65535))), .int .i64 (Go.bits .and .i64 ((rd_T34 l0 x24_1).f2) 255)] 34 (0, 0)) (gK BK360.out) hb)
                           have n4_ := Aside0.mk (below_step (by repeat (first | (with_reducible first | exact HB.out | apply bA | apply bN | apply bD | refine bS ?_ GE359.out | refine bS ?_ GE360.out) | exact HB.out)) hb)
                           have z_HO366 := fun (h0_ : b 1 = true) => (show Kd.R Kd.string 9 w42 w.heap.size (fun _ => True) v365 y364 from by first | exact (Kd.R_elder' (gR (Q_HO366 h0_)) (Kd.R_base ho43) hb) | exact Kd.R_mono (Kd.R_elder' (gR (Q_HO366 h0_)) (Kd.R_base ho43) hb) (fun _ h_ => by first | trivial | exact h_ | exact h_.1))
                           have z_HO370 := fun (h0_ : b 9 = true) => (show Kd.R Kd.string 9 w42 w.heap.size (fun _ => True) v369 y368 from by first | exact (Kd.R_elder' (gR (Q_HO370 h0_)) (Kd.R_base ho43) hb) | exact Kd.R_mono (Kd.R_elder' (gR (Q_HO370 h0_)) (Kd.R_base ho43) hb) (fun _ h_ => by first | trivial | exact h_ | exact h_.1))
                           clear HO363
                           clear BK359
                           clear BK360
                           clear HB
                           have HO363 := n0_
                           have HO377 := n1_
                           have BK359 := n2_
                           have BK360 := n3_
                           have HB := n4_
                           clear n0_ n1_ n2_ n3_ n4_
                           clear hb ho43
                           obtain ⟨Ao44, co44, eo44⟩ := Kd.R_slice HO377.out
                           subst eo44
                           obtain ⟨ado44, fo44, _⟩ := Kd.at_string (Kd.R_reads' HO377.out).2.2 0 (by decide) (by rw [Ny375.out]; simp)
                           cases fo44
                           refine hK.out _ _ ⟨v365, adz_v365, v369, adz_v369, .slice (some ado44) y375.length co44, ado44, m7_, m12_, m35_, (by rw [ha.out]; exact putSel_upk 22 hb_ rfl rfl rfl), (gR HO363.out), (gK BK359.out), (gK BK360.out), (by repeat (first | (with_reducible first | exact HB.out | apply bA | apply bN | apply bD | refine bS ?_ GE359.out | refine bS ?_ GE360.out) | exact HB.out)), z_HO366, Q_HA_HO366, z_HO370, Q_HA_HO370, fun _ => (gR HO377.out), fun _ => ⟨_, rfl⟩, Q_X7_, Q_X12_, fun h0_ => absurd ((hoff 35 (by kernel_rfl)).symm.trans h0_) (by decide)⟩
                          refine steps_cons ?_ ?_
                          ·rintro b a w' ⟨v365, adz_v365, v369, adz_v369, v376, adz_v376, m7_, m12_, m35_, ha, Q_HO363, Q_BK359, Q_BK360, Q_HB, Q_HO366, Q_HA_HO366, Q_HO370, Q_HA_HO370, Q_HO377, Q_HA_HO377, Q_X7_, Q_X12_, Q_X35_⟩ hb_ hon hoff
                           refine ⟨_, rfl, fun K hK => ?_⟩
                           have e74 : a.tmps[74]? = some (.int .i64 a1) := by rw [ha]; exact (putSel_off rfl).trans rfl
                           replace ha := Aside0.mk ha
                           have HO363 := Aside0.mk Q_HO363
                           have BK359 := Aside0.mk Q_BK359
                           have BK360 := Aside0.mk Q_BK360
                           have HB := Aside0.mk Q_HB
                           refine value_ (w1 := w') (v := .int .i64 (Go.bits .and .i64 a1 255)) (by rfl) rfl ?_ ?_
                           ·go_simp
                            (try simp only [i64_w])
                            try rfl
                            try (simp only [ByteArray.size_append] at c22 c23 c25 c26 c28 c32 c33 c34; have e1_ : (⟨#[32, 32]⟩ : ByteArray).size = 2 := rfl; have e2_ : (⟨#[9]⟩ : ByteArray).size = 1 := rfl; have e3_ : (⟨#[10]⟩ : ByteArray).size = 1 := rfl; omega)
                           refine hK.out _ _ ⟨v365, adz_v365, v369, adz_v369, v376, adz_v376, m7_, m12_, m35_, (by rw [ha.out]; exact putSel_upk 23 hb_ rfl rfl rfl), Q_HO363, Q_BK359, Q_BK360, Q_HB, Q_HO366, Q_HA_HO366, Q_HO370, Q_HA_HO370, Q_HO377, Q_HA_HO377, Q_X7_, Q_X12_, fun h0_ => absurd ((hoff 35 (by kernel_rfl)).symm.trans h0_) (by decide)⟩
                          refine steps_cons ?_ ?_
                          ·rintro b a w' ⟨v365, adz_v365, v369, adz_v369, v376, adz_v376, m7_, m12_, m35_, ha, Q_HO363, Q_BK359, Q_BK360, Q_HB, Q_HO366, Q_HA_HO366, Q_HO370, Q_HA_HO370, Q_HO377, Q_HA_HO377, Q_X7_, Q_X12_, Q_X35_⟩ hb_ hon hoff
                           refine ⟨_, rfl, fun K hK => ?_⟩
                           have e75 : a.tmps[75]? = some (.int .i64 (Go.bits .and .i64 a1 255)) := by rw [ha]; exact putSel_on (e := (31, 75, .int .i64 (Go.bits .and .i64 a1 255))) 23 rfl rfl (hon 31 (by kernel_rfl)) rfl
                           have e76 : a.tmps[76]? = some (.int .i64 x24_1) := by rw [ha]; exact (putSel_off rfl).trans rfl
                           replace ha := Aside0.mk ha
                           have HO363 := Aside0.mk Q_HO363
                           have BK359 := Aside0.mk Q_BK359
                           have BK360 := Aside0.mk Q_BK360
                           have HB := Aside0.mk Q_HB
                           refine value_ (w1 := w') (v := .int .i64 (wrap64 ((Go.bits .and .i64 a1 255) + x24_1))) (by rfl) rfl ?_ ?_
                           ·go_simp
                            (try simp only [i64_w])
                            try rfl
                            try (simp only [ByteArray.size_append] at c22 c23 c25 c26 c28 c32 c33 c34; have e1_ : (⟨#[32, 32]⟩ : ByteArray).size = 2 := rfl; have e2_ : (⟨#[9]⟩ : ByteArray).size = 1 := rfl; have e3_ : (⟨#[10]⟩ : ByteArray).size = 1 := rfl; omega)
                           refine hK.out _ _ ⟨v365, adz_v365, v369, adz_v369, v376, adz_v376, m7_, m12_, m35_, (by rw [ha.out]; exact putSel_upk 24 hb_ rfl rfl rfl), Q_HO363, Q_BK359, Q_BK360, Q_HB, Q_HO366, Q_HA_HO366, Q_HO370, Q_HA_HO370, Q_HO377, Q_HA_HO377, Q_X7_, Q_X12_, fun h0_ => absurd ((hoff 35 (by kernel_rfl)).symm.trans h0_) (by decide)⟩
                          refine steps_cons ?_ ?_
                          ·rintro b a w' ⟨v365, adz_v365, v369, adz_v369, v376, adz_v376, m7_, m12_, m35_, ha, Q_HO363, Q_BK359, Q_BK360, Q_HB, Q_HO366, Q_HA_HO366, Q_HO370, Q_HA_HO370, Q_HO377, Q_HA_HO377, Q_X7_, Q_X12_, Q_X35_⟩ hb_ hon hoff
                           refine ⟨_, rfl, fun K hK => ?_⟩
                           have e77 : a.tmps[77]? = some (.int .i64 (wrap64 ((Go.bits .and .i64 a1 255) + x24_1))) := by rw [ha]; exact putSel_on (e := (33, 77, .int .i64 (wrap64 ((Go.bits .and .i64 a1 255) + x24_1)))) 24 rfl rfl (hon 33 (by kernel_rfl)) rfl
                           replace ha := Aside0.mk ha
                           have HO363 := Aside0.mk Q_HO363
                           have BK359 := Aside0.mk Q_BK359
                           have BK360 := Aside0.mk Q_BK360
                           have HB := Aside0.mk Q_HB
                           refine value_ (w1 := w') (v := .int .i64 ji29) (by rfl) rfl ?_ ?_
                           ·go_simp
                            (try simp only [i64_w])
                            try rfl
                            try (simp only [ByteArray.size_append] at c22 c23 c25 c26 c28 c32 c33 c34; have e1_ : (⟨#[32, 32]⟩ : ByteArray).size = 2 := rfl; have e2_ : (⟨#[9]⟩ : ByteArray).size = 1 := rfl; have e3_ : (⟨#[10]⟩ : ByteArray).size = 1 := rfl; omega)
                           refine hK.out _ _ ⟨v365, adz_v365, v369, adz_v369, v376, adz_v376, m7_, m12_, m35_, (by rw [ha.out]; exact putSel_upk 25 hb_ rfl rfl rfl), Q_HO363, Q_BK359, Q_BK360, Q_HB, Q_HO366, Q_HA_HO366, Q_HO370, Q_HA_HO370, Q_HO377, Q_HA_HO377, Q_X7_, Q_X12_, fun h0_ => absurd ((hoff 35 (by kernel_rfl)).symm.trans h0_) (by decide)⟩
                          refine steps_cons ?_ ?_
                          ·rintro b a w' ⟨v365, adz_v365, v369, adz_v369, v376, adz_v376, m7_, m12_, m35_, ha, Q_HO363, Q_BK359, Q_BK360, Q_HB, Q_HO366, Q_HA_HO366, Q_HO370, Q_HA_HO370, Q_HO377, Q_HA_HO377, Q_X7_, Q_X12_, Q_X35_⟩ hb_ hon hoff
                           refine ⟨_, rfl, fun K hK => ?_⟩
                           have e73 : a.tmps[73]? = some (v376) := by rw [ha]; exact putSel_on (e := (29, 73, v376)) 22 rfl rfl (hon 29 (by kernel_rfl)) rfl
                           have e78 : a.tmps[78]? = some (.int .i64 ji29) := by rw [ha]; exact putSel_on (e := (34, 78, .int .i64 ji29)) 25 rfl rfl (hon 34 (by kernel_rfl)) rfl
                           replace ha := Aside0.mk ha
                           have HO363 := Aside0.mk Q_HO363
                           have BK359 := Aside0.mk Q_BK359
                           have BK360 := Aside0.mk Q_BK360
                           have HB := Aside0.mk Q_HB
                           have HO377 := Aside0.mk (Q_HO377 (hon 29 (by kernel_rfl)))
                           have HA_HO377 := Aside0.mk (Q_HA_HO377 (hon 29 (by kernel_rfl)))
                           obtain ⟨c_, hv_⟩ := HA_HO377.out
                           rw [hv_] at e73
                           refine value_ (w1 := w') (v := .pointer (some (adz_v376.add ((ji29)).toNat))) (by rfl) rfl ?_ ?_
                           ·go_simp
                            (try simp only [i64_w])
                            try rfl
                            try (simp only [ByteArray.size_append] at c22 c23 c25 c26 c28 c32 c33 c34; have e1_ : (⟨#[32, 32]⟩ : ByteArray).size = 2 := rfl; have e2_ : (⟨#[9]⟩ : ByteArray).size = 1 := rfl; have e3_ : (⟨#[10]⟩ : ByteArray).size = 1 := rfl; omega)
                           refine hK.out _ _ ⟨v365, adz_v365, v369, adz_v369, v376, adz_v376, m7_, m12_, (.pointer (some (adz_v376.add ((ji29)).toNat))), (by rw [ha.out]; exact putSel_upk 26 hb_ rfl rfl rfl), Q_HO363, Q_BK359, Q_BK360, Q_HB, Q_HO366, Q_HA_HO366, Q_HO370, Q_HA_HO370, Q_HO377, Q_HA_HO377, Q_X7_, Q_X12_, fun _ => rfl⟩
                          refine steps_cons ?_ ?_
                          ·rintro b a w' ⟨v365, adz_v365, v369, adz_v369, v376, adz_v376, m7_, m12_, m35_, ha, Q_HO363, Q_BK359, Q_BK360, Q_HB, Q_HO366, Q_HA_HO366, Q_HO370, Q_HA_HO370, Q_HO377, Q_HA_HO377, Q_X7_, Q_X12_, Q_X35_⟩ hb_ hon hoff
                           refine ⟨_, rfl, fun K hK => ?_⟩
                           have e79 : a.tmps[79]? = some (m35_) := by rw [ha]; exact putSel_on (e := (35, 79, m35_)) 26 rfl rfl (hon 35 (by kernel_rfl)) rfl
                           rw [Q_X35_ (hon 35 (by kernel_rfl))] at e79
                           replace ha := Aside0.mk ha
                           have HO363 := Aside0.mk Q_HO363
                           have BK359 := Aside0.mk Q_BK359
                           have BK360 := Aside0.mk Q_BK360
                           have HB := Aside0.mk Q_HB
                           have HO377 := Aside0.mk (Q_HO377 (hon 29 (by kernel_rfl)))
                           have HA_HO377 := Aside0.mk (Q_HA_HO377 (hon 29 (by kernel_rfl)))
                           obtain ⟨c_, hv_⟩ := HA_HO377.out
                           have hF_ := HO377.out
                           rw [hv_] at hF_
                           obtain ⟨ad_, ea_, hx_⟩ := Kd.at_string (Kd.R_reads' hF_).2.2 (ji29) (of_eq_true pi378) (of_eq_true qi378)
                           cases ea_
                           refine value_ (w1 := w') (v := .string (rdOf ByteArray.empty y375 (ji29))) (by rfl) rfl ?_ ?_
                           ·go_simp
                            (try simp only [i64_w])
                            try rfl
                            try (simp only [ByteArray.size_append] at c22 c23 c25 c26 c28 c32 c33 c34; have e1_ : (⟨#[32, 32]⟩ : ByteArray).size = 2 := rfl; have e2_ : (⟨#[9]⟩ : ByteArray).size = 1 := rfl; have e3_ : (⟨#[10]⟩ : ByteArray).size = 1 := rfl; omega)
                           refine hK.out _ _ ⟨v365, adz_v365, v369, adz_v369, v376, adz_v376, m7_, m12_, m35_, (by rw [ha.out]; exact putSel_upk 27 hb_ rfl rfl rfl), Q_HO363, Q_BK359, Q_BK360, Q_HB, Q_HO366, Q_HA_HO366, Q_HO370, Q_HA_HO370, Q_HO377, Q_HA_HO377, Q_X7_, Q_X12_, Q_X35_⟩
                          refine steps_cons ?_ ?_
                          ·rintro b a w' ⟨v365, adz_v365, v369, adz_v369, v376, adz_v376, m7_, m12_, m35_, ha, Q_HO363, Q_BK359, Q_BK360, Q_HB, Q_HO366, Q_HA_HO366, Q_HO370, Q_HA_HO370, Q_HO377, Q_HA_HO377, Q_X7_, Q_X12_, Q_X35_⟩ hb_ hon hoff
                           refine ⟨_, rfl, fun K hK => ?_⟩
                           have e72 : a.tmps[72]? = some (.string (((((((rdOf ByteArray.empty y364 (Go.bits .and .i64 (ji14) 3)) ++ (rdOf ByteArray.empty y368 (ji17))) ++ t372) ++ (⟨#[32, 32]⟩ : ByteArray)) ++ t373) ++ (⟨#[9]⟩ : ByteArray)) ++ t374)) := by rw [ha]; exact putSel_on (e := (28, 72, .string (((((((rdOf ByteArray.empty y364 (Go.bits .and .i64 (ji14) 3)) ++ (rdOf ByteArray.empty y368 (ji17))) ++ t372) ++ (⟨#[32, 32]⟩ : ByteArray)) ++ t373) ++ (⟨#[9]⟩ : ByteArray)) ++ t374))) 21 rfl rfl (hon 28 (by kernel_rfl)) rfl
                           have e80 : a.tmps[80]? = some (.string (rdOf ByteArray.empty y375 (ji29))) := by rw [ha]; exact putSel_on (e := (36, 80, .string (rdOf ByteArray.empty y375 (ji29)))) 27 rfl rfl (hon 36 (by kernel_rfl)) rfl
                           replace ha := Aside0.mk ha
                           have HO363 := Aside0.mk Q_HO363
                           have BK359 := Aside0.mk Q_BK359
                           have BK360 := Aside0.mk Q_BK360
                           have HB := Aside0.mk Q_HB
                           have HO366 := Aside0.mk (Q_HO366 (hon 1 (by kernel_rfl)))
                           have HA_HO366 := Aside0.mk (Q_HA_HO366 (hon 1 (by kernel_rfl)))
                           have HO370 := Aside0.mk (Q_HO370 (hon 9 (by kernel_rfl)))
                           have HA_HO370 := Aside0.mk (Q_HA_HO370 (hon 9 (by kernel_rfl)))
                           have HO377 := Aside0.mk (Q_HO377 (hon 29 (by kernel_rfl)))
                           have HA_HO377 := Aside0.mk (Q_HA_HO377 (hon 29 (by kernel_rfl)))
                           refine value_ (w1 := w') (v := .string ((((((((rdOf ByteArray.empty y364 (Go.bits .and .i64 (ji14) 3)) ++ (rdOf ByteArray.empty y368 (ji17))) ++ t372) ++ (⟨#[32, 32]⟩ : ByteArray)) ++ t373) ++ (⟨#[9]⟩ : ByteArray)) ++ t374) ++ (rdOf ByteArray.empty y375 (ji29)))) (by rfl) rfl ?_ ?_
                           ·go_simp
                            (try simp only [i64_w])
                            try rfl
                            try (simp only [ByteArray.size_append] at c22 c23 c25 c26 c28 c32 c33 c34; have e1_ : (⟨#[32, 32]⟩ : ByteArray).size = 2 := rfl; have e2_ : (⟨#[9]⟩ : ByteArray).size = 1 := rfl; have e3_ : (⟨#[10]⟩ : ByteArray).size = 1 := rfl; omega)
                           refine hK.out _ _ ⟨v365, adz_v365, v369, adz_v369, v376, adz_v376, m7_, m12_, m35_, (by rw [ha.out]; exact putSel_upk 28 hb_ rfl rfl rfl), Q_HO363, Q_BK359, Q_BK360, Q_HB, Q_HO366, Q_HA_HO366, Q_HO370, Q_HA_HO370, Q_HO377, Q_HA_HO377, Q_X7_, Q_X12_, Q_X35_⟩
                          refine steps_cons ?_ ?_
                          ·rintro b a w' ⟨v365, adz_v365, v369, adz_v369, v376, adz_v376, m7_, m12_, m35_, ha, Q_HO363, Q_BK359, Q_BK360, Q_HB, Q_HO366, Q_HA_HO366, Q_HO370, Q_HA_HO370, Q_HO377, Q_HA_HO377, Q_X7_, Q_X12_, Q_X35_⟩ hb_ hon hoff
                           refine ⟨_, rfl, fun K hK => ?_⟩
                           have e81 : a.tmps[81]? = some (.string ((((((((rdOf ByteArray.empty y364 (Go.bits .and .i64 (ji14) 3)) ++ (rdOf ByteArray.empty y368 (ji17))) ++ t372) ++ (⟨#[32, 32]⟩ : ByteArray)) ++ t373) ++ (⟨#[9]⟩ : ByteArray)) ++ t374) ++ (rdOf ByteArray.empty y375 (ji29)))) := by rw [ha]; exact putSel_on (e := (37, 81, .string ((((((((rdOf ByteArray.empty y364 (Go.bits .and .i64 (ji14) 3)) ++ (rdOf ByteArray.empty y368 (ji17))) ++ t372) ++ (⟨#[32, 32]⟩ : ByteArray)) ++ t373) ++ (⟨#[9]⟩ : ByteArray)) ++ t374) ++ (rdOf ByteArray.empty y375 (ji29))))) 28 rfl rfl (hon 37 (by kernel_rfl)) rfl
                           replace ha := Aside0.mk ha
                           have HO363 := Aside0.mk Q_HO363
                           have BK359 := Aside0.mk Q_BK359
                           have BK360 := Aside0.mk Q_BK360
                           have HB := Aside0.mk Q_HB
                           have HO366 := Aside0.mk (Q_HO366 (hon 1 (by kernel_rfl)))
                           have HA_HO366 := Aside0.mk (Q_HA_HO366 (hon 1 (by kernel_rfl)))
                           have HO370 := Aside0.mk (Q_HO370 (hon 9 (by kernel_rfl)))
                           have HA_HO370 := Aside0.mk (Q_HA_HO370 (hon 9 (by kernel_rfl)))
                           have HO377 := Aside0.mk (Q_HO377 (hon 29 (by kernel_rfl)))
                           have HA_HO377 := Aside0.mk (Q_HA_HO377 (hon 29 (by kernel_rfl)))
                           refine value_ (w1 := w') (v := .string (((((((((rdOf ByteArray.empty y364 (Go.bits .and .i64 (ji14) 3)) ++ (rdOf ByteArray.empty y368 (ji17))) ++ t372) ++ (⟨#[32, 32]⟩ : ByteArray)) ++ t373) ++ (⟨#[9]⟩ : ByteArray)) ++ t374) ++ (rdOf ByteArray.empty y375 (ji29))) ++ (⟨#[10]⟩ : ByteArray))) (by rfl) rfl ?_ ?_
                           ·go_simp
                            (try simp only [i64_w])
                            try rfl
                            try (simp only [ByteArray.size_append] at c22 c23 c25 c26 c28 c32 c33 c34; have e1_ : (⟨#[32, 32]⟩ : ByteArray).size = 2 := rfl; have e2_ : (⟨#[9]⟩ : ByteArray).size = 1 := rfl; have e3_ : (⟨#[10]⟩ : ByteArray).size = 1 := rfl; omega)
                           refine hK.out _ _ ⟨v365, adz_v365, v369, adz_v369, v376, adz_v376, m7_, m12_, m35_, (by rw [ha.out]; exact putSel_upk 29 hb_ rfl rfl rfl), Q_HO363, Q_BK359, Q_BK360, Q_HB, Q_HO366, Q_HA_HO366, Q_HO370, Q_HA_HO370, Q_HO377, Q_HA_HO377, Q_X7_, Q_X12_, Q_X35_⟩
                          refine steps_cons ?_ ?_
                          ·rintro b a w' ⟨v365, adz_v365, v369, adz_v369, v376, adz_v376, m7_, m12_, m35_, ha, Q_HO363, Q_BK359, Q_BK360, Q_HB, Q_HO366, Q_HA_HO366, Q_HO370, Q_HA_HO370, Q_HO377, Q_HA_HO377, Q_X7_, Q_X12_, Q_X35_⟩ hb_ hon hoff
                           refine ⟨_, rfl, fun K hK => ?_⟩
                           have e44 : a.tmps[44]? = some (.string x6_1) := by rw [ha]; exact (putSel_off rfl).trans rfl
                           have e82 : a.tmps[82]? = some (.string (((((((((rdOf ByteArray.empty y364 (Go.bits .and .i64 (ji14) 3)) ++ (rdOf ByteArray.empty y368 (ji17))) ++ t372) ++ (⟨#[32, 32]⟩ : ByteArray)) ++ t373) ++ (⟨#[9]⟩ : ByteArray)) ++ t374) ++ (rdOf ByteArray.empty y375 (ji29))) ++ (⟨#[10]⟩ : ByteArray))) := by rw [ha]; exact putSel_on (e := (38, 82, .string (((((((((rdOf ByteArray.empty y364 (Go.bits .and .i64 (ji14) 3)) ++ (rdOf ByteArray.empty y368 (ji17))) ++ t372) ++ (⟨#[32, 32]⟩ : ByteArray)) ++ t373) ++ (⟨#[9]⟩ : ByteArray)) ++ t374) ++ (rdOf ByteArray.empty y375 (ji29))) ++ (⟨#[10]⟩ : ByteArray)))) 29 rfl rfl (hon 38 (by kernel_rfl)) rfl
                           replace ha := Aside0.mk ha
                           have HO363 := Aside0.mk Q_HO363
                           have BK359 := Aside0.mk Q_BK359
                           have BK360 := Aside0.mk Q_BK360
                           have HB := Aside0.mk Q_HB
                           have HO366 := Aside0.mk (Q_HO366 (hon 1 (by kernel_rfl)))
                           have HA_HO366 := Aside0.mk (Q_HA_HO366 (hon 1 (by kernel_rfl)))
                           have HO370 := Aside0.mk (Q_HO370 (hon 9 (by kernel_rfl)))
                           have HA_HO370 := Aside0.mk (Q_HA_HO370 (hon 9 (by kernel_rfl)))
                           have HO377 := Aside0.mk (Q_HO377 (hon 29 (by kernel_rfl)))
                           have HA_HO377 := Aside0.mk (Q_HA_HO377 (hon 29 (by kernel_rfl)))
                           refine value_ (w1 := w') (v := .string (x6_1 ++ (((((((((rdOf ByteArray.empty y364 (Go.bits .and .i64 (ji14) 3)) ++ (rdOf ByteArray.empty y368 (ji17))) ++ t372) ++ (⟨#[32, 32]⟩ : ByteArray)) ++ t373) ++ (⟨#[9]⟩ : ByteArray)) ++ t374) ++ (rdOf ByteArray.empty y375 (ji29))) ++ (⟨#[10]⟩ : ByteArray)))) (by rfl) rfl ?_ ?_
                           ·go_simp
                            (try simp only [i64_w])
                            try rfl
                            try (simp only [ByteArray.size_append] at c22 c23 c25 c26 c28 c32 c33 c34; have e1_ : (⟨#[32, 32]⟩ : ByteArray).size = 2 := rfl; have e2_ : (⟨#[9]⟩ : ByteArray).size = 1 := rfl; have e3_ : (⟨#[10]⟩ : ByteArray).size = 1 := rfl; omega)
                           refine hK.out _ _ ⟨v365, adz_v365, v369, adz_v369, v376, adz_v376, m7_, m12_, m35_, (by rw [ha.out]; exact putSel_upk 30 hb_ rfl rfl rfl), Q_HO363, Q_BK359, Q_BK360, Q_HB, Q_HO366, Q_HA_HO366, Q_HO370, Q_HA_HO370, Q_HO377, Q_HA_HO377, Q_X7_, Q_X12_, Q_X35_⟩
                          refine steps_cons ?_ ?_
                          ·rintro b a w' ⟨v365, adz_v365, v369, adz_v369, v376, adz_v376, m7_, m12_, m35_, ha, Q_HO363, Q_BK359, Q_BK360, Q_HB, Q_HO366, Q_HA_HO366, Q_HO370, Q_HA_HO370, Q_HO377, Q_HA_HO377, Q_X7_, Q_X12_, Q_X35_⟩ hb_ hon hoff
                           refine ⟨_, rfl, fun K hK => ?_⟩
                           have e83 : a.tmps[83]? = some (.string (x6_1 ++ (((((((((rdOf ByteArray.empty y364 (Go.bits .and .i64 (ji14) 3)) ++ (rdOf ByteArray.empty y368 (ji17))) ++ t372) ++ (⟨#[32, 32]⟩ : ByteArray)) ++ t373) ++ (⟨#[9]⟩ : ByteArray)) ++ t374) ++ (rdOf ByteArray.empty y375 (ji29))) ++ (⟨#[10]⟩ : ByteArray)))) := by rw [ha]; exact putSel_on (e := (39, 83, .string (x6_1 ++ (((((((((rdOf ByteArray.empty y364 (Go.bits .and .i64 (ji14) 3)) ++ (rdOf ByteArray.empty y368 (ji17))) ++ t372) ++ (⟨#[32, 32]⟩ : ByteArray)) ++ t373) ++ (⟨#[9]⟩ : ByteArray)) ++ t374) ++ (rdOf ByteArray.empty y375 (ji29))) ++ (⟨#[10]⟩ : ByteArray))))) 30 rfl rfl (hon 39 (by kernel_rfl)) rfl
                           replace ha := Aside0.mk ha
                           have HO363 := Aside0.mk Q_HO363
                           have BK359 := Aside0.mk Q_BK359
                           have BK360 := Aside0.mk Q_BK360
                           have HB := Aside0.mk Q_HB
                           have HO366 := Aside0.mk (Q_HO366 (hon 1 (by kernel_rfl)))
                           have HA_HO366 := Aside0.mk (Q_HA_HO366 (hon 1 (by kernel_rfl)))
                           have HO370 := Aside0.mk (Q_HO370 (hon 9 (by kernel_rfl)))
                           have HA_HO370 := Aside0.mk (Q_HA_HO370 (hon 9 (by kernel_rfl)))
                           have HO377 := Aside0.mk (Q_HO377 (hon 29 (by kernel_rfl)))
                           have HA_HO377 := Aside0.mk (Q_HA_HO377 (hon 29 (by kernel_rfl)))
                           refine value_ (w1 := w') (v := .string (x6_1 ++ (((((((((rdOf ByteArray.empty y364 (Go.bits .and .i64 (ji14) 3)) ++ (rdOf ByteArray.empty y368 (ji17))) ++ t372) ++ (⟨#[32, 32]⟩ : ByteArray)) ++ t373) ++ (⟨#[9]⟩ : ByteArray)) ++ t374) ++ (rdOf ByteArray.empty y375 (ji29))) ++ (⟨#[10]⟩ : ByteArray)))) (by rfl) rfl ?_ ?_
                           ·go_simp
                            (try simp only [i64_w])
                            try rfl
                            try (simp only [ByteArray.size_append] at c22 c23 c25 c26 c28 c32 c33 c34; have e1_ : (⟨#[32, 32]⟩ : ByteArray).size = 2 := rfl; have e2_ : (⟨#[9]⟩ : ByteArray).size = 1 := rfl; have e3_ : (⟨#[10]⟩ : ByteArray).size = 1 := rfl; omega)
                           refine hK.out _ _ ⟨v365, adz_v365, v369, adz_v369, v376, adz_v376, m7_, m12_, m35_, (by rw [ha.out]; exact putSel_upk 31 hb_ rfl rfl rfl), Q_HO363, Q_BK359, Q_BK360, Q_HB, Q_HO366, Q_HA_HO366, Q_HO370, Q_HA_HO370, Q_HO377, Q_HA_HO377, Q_X7_, Q_X12_, Q_X35_⟩
                          exact steps_nil
                         rintro b a w54 hall ⟨v365, adz_v365, v369, adz_v369, v376, adz_v376, m7_, m12_, m35_, ha, Q_HO363, Q_BK359, Q_BK360, Q_HB, Q_HO366, Q_HA_HO366, Q_HO370, Q_HA_HO370, Q_HO377, Q_HA_HO377, Q_X7_, Q_X12_, Q_X35_⟩
                         clear BK359 BK360 HB HO363
                         have hb1_ := hall 1 (by kernel_rfl)
                         have hb4_ := hall 4 (by kernel_rfl)
                         have hb5_ := hall 5 (by kernel_rfl)
                         have hb6_ := hall 6 (by kernel_rfl)
                         have hb7_ := hall 7 (by kernel_rfl)
                         have hb8_ := hall 8 (by kernel_rfl)
                         have hb9_ := hall 9 (by kernel_rfl)
                         have hb11_ := hall 11 (by kernel_rfl)
                         have hb12_ := hall 12 (by kernel_rfl)
                         have hb13_ := hall 13 (by kernel_rfl)
                         have hb14_ := hall 14 (by kernel_rfl)
                         have hb16_ := hall 16 (by kernel_rfl)
                         have hb17_ := hall 17 (by kernel_rfl)
                         have hb18_ := hall 18 (by kernel_rfl)
                         have hb19_ := hall 19 (by kernel_rfl)
                         have hb21_ := hall 21 (by kernel_rfl)
                         have hb22_ := hall 22 (by kernel_rfl)
                         have hb23_ := hall 23 (by kernel_rfl)
                         have hb24_ := hall 24 (by kernel_rfl)
                         have hb26_ := hall 26 (by kernel_rfl)
                         have hb27_ := hall 27 (by kernel_rfl)
                         have hb28_ := hall 28 (by kernel_rfl)
                         have hb29_ := hall 29 (by kernel_rfl)
                         have hb31_ := hall 31 (by kernel_rfl)
                         have hb33_ := hall 33 (by kernel_rfl)
                         have hb34_ := hall 34 (by kernel_rfl)
                         have hb35_ := hall 35 (by kernel_rfl)
                         have hb36_ := hall 36 (by kernel_rfl)
                         have hb37_ := hall 37 (by kernel_rfl)
                         have hb38_ := hall 38 (by kernel_rfl)
                         have hb39_ := hall 39 (by kernel_rfl)
                         have hb40_ := hall 40 (by kernel_rfl)
                         subst ha
                         obtain rfl := Q_X7_ hb7_
                         obtain rfl := Q_X12_ hb12_
                         obtain rfl := Q_X35_ hb35_
                         simp only [putSel, hb1_, hb4_, hb5_, hb6_, hb7_, hb8_, hb9_, hb11_, hb12_, hb13_, hb14_, hb16_, hb17_, hb18_, hb19_, hb21_, hb22_, hb23_, hb24_, hb26_, hb27_, hb28_, hb29_, hb31_, hb33_, hb34_, hb35_, hb36_, hb37_, hb38_, hb39_, hb40_, if_true, Act.put, List.setIfInBounds_toArray, List.set_cons_zero, List.set_cons_succ]
                         have HO363 := Aside0.mk Q_HO363
                         clear Q_HO363
                         have BK359 := Aside0.mk Q_BK359
                         clear Q_BK359
                         have BK360 := Aside0.mk Q_BK360
                         clear Q_BK360
                         have HB := Aside0.mk Q_HB
                         clear Q_HB
                         have HO366 := Aside0.mk (Q_HO366 hb1_)
                         clear Q_HO366
                         have HA_HO366 := Aside0.mk (Q_HA_HO366 hb1_)
                         clear Q_HA_HO366
                         have HO370 := Aside0.mk (Q_HO370 hb9_)
                         clear Q_HO370
                         have HA_HO370 := Aside0.mk (Q_HA_HO370 hb9_)
                         clear Q_HA_HO370
                         have HO377 := Aside0.mk (Q_HO377 hb29_)
                         clear Q_HO377
                         have HA_HO377 := Aside0.mk (Q_HA_HO377 hb29_)
                         clear Q_HA_HO377
                         clear hall hb1_ hb4_ hb5_ hb6_ hb7_ hb8_ hb9_ hb11_ hb12_ hb13_ hb14_ hb16_ hb17_ hb18_ hb19_ hb21_ hb22_ hb23_ hb24_ hb26_ hb27_ hb28_ hb29_ hb31_ hb33_ hb34_ hb35_ hb36_ hb37_ hb38_ hb39_ hb40_
                         obtain ⟨co55, eo55⟩ := HA_HO366.out
                         clear HA_HO366
                         subst eo55
                         obtain ⟨co56, eo56⟩ := HA_HO370.out
                         clear HA_HO370
                         subst eo56
                         obtain ⟨co57, eo57⟩ := HA_HO377.out
                         clear HA_HO377
                         subst eo57
                         try go_wp2
                         go_roundg k1
                         case measure => have := HK1.out; omega
                         case rel => exact ⟨(y361), (x6_1 ++ (((((((((rdOf ByteArray.empty y364 (Go.bits .and .i64 (ji14) 3)) ++ (rdOf ByteArray.empty y368 (ji17))) ++ t372) ++ (⟨#[32, 32]⟩ : ByteArray)) ++ t373) ++ (⟨#[9]⟩ : ByteArray)) ++ t374) ++ (rdOf ByteArray.empty y375 (ji29))) ++ (⟨#[10]⟩ : ByteArray))), (wrap64 (x24_1 + 1)), (by first | rfl | (simp; done) | (simp only [← hji14, ← hji17, ← hji29] <;> (first | rfl | simp)) | (simp [*]; done)), (by first | rfl | (simp; done) | (simp [*]; done)), H', ⟨by have := HK1.out; omega⟩, ⟨by (with_reducible repeat (first | apply Kd.R_alloc | apply Kd.R_drewN | apply Kd.R_drew)); exact Kd.R_mono HO363.out (fun _ hk => trivial)⟩, ⟨by repeat (first | (with_reducible first | exact HB.out | apply bA | apply bN | apply bD | refine bS ?_ GE359.out | refine bS ?_ GE360.out) | exact HB.out)⟩⟩
                        ·rw [if_neg c34] at H
                         exact absurd H (by simp)
                       ·rw [if_neg c33] at H
                        exact absurd H (by simp)
                      ·rw [if_neg c32] at H
                       exact absurd H (by simp)
                     ·rw [if_neg c31] at H
                      exact absurd H (by simp)
                    ·rw [if_neg c30] at H
                     exact absurd H (by simp)
                   ·rw [if_neg c28] at H
                    exact absurd H (by simp)
                  ·rw [if_neg c26] at H
                   exact absurd H (by simp)
                 ·rw [if_neg c25] at H
                  exact absurd H (by simp)
                ·rw [if_neg c23] at H
                 exact absurd H (by simp)
               ·rw [if_neg c22] at H
                exact absurd H (by simp)
              ·rw [if_neg c20] at H
               exact absurd H (by simp)
             ·rw [if_neg c19] at H
              exact absurd H (by simp)
            ·rw [if_neg c18] at H
             exact absurd H (by simp)
           ·rw [if_neg c16] at H
            exact absurd H (by simp)
          ·rw [if_neg c15] at H
           exact absurd H (by simp)
         ·rw [if_neg c13] at H
          exact absurd H (by simp)
        ·rw [if_neg c11] at H
         exact absurd H (by simp)
       ·rw [if_neg c10] at H
        exact absurd H (by simp)
      ·rw [if_neg c9] at H
       exact absurd H (by simp)
     ·rw [if_neg c8] at H
      have c8b0 : decide (x24_1 < (l0.length : Int)) = false := decide_eq_false c8
      clear c8
      replace H := Option.bind_eq_some_iff.mp H
      obtain ⟨⟨t379, t380, t381⟩, A580, H⟩ := H
      replace H : (if t381 = 0 then (if t380 = 0 then (isohyetlaw25_DataRemarks.j1 k1 x5_1 x6_1 t379 ((t379.length : Int) != (x5_1.length : Int))) else (isohyetlaw25_DataRemarks.j1 k1 x5_1 x6_1 t379 true)) else (isohyetlaw25_DataRemarks.j1 k1 x5_1 x6_1 t379 true)) = some r := H
      have A58 := Aside0.mk A580
      clear A580
      have HC59 := Aside0.mk H
      clear H
      go_upto_region 15 with (first | ((with_reducible refine gate_callee (f := 9) rfl ?_); refine goesL_ (some 87) rfl rfl Tryz.func9 (by kernel_rfl) rfl #[.string x6_1, .int .i64 1, .int .i64 0] rfl (by (try simp only [List.map_toArray, List.map_cons, List.map_nil]); first | done | rfl | (simp only [List.length_drop, List.length_take]; rfl)) ?_; (with_reducible refine (data_Samples.calls k1 x6_1 1 0 t379 t380 t381 _ (MB.tab_below HT0 (gB HB.out)) A58.out).mono ?_); (try clear A58); rintro e w60 ⟨v382, rfl, ho0, hb⟩; refine ⟨_, rfl, ?_⟩; have n0_ := Aside0.mk (Kd.R_elder' (gR HO_5.out) (Kd.R_base ho0) hb); have n1_ := Aside0.mk (Kd.R_lower (Kd.R_new' ho0 (Kd.R_lt (gR HO_5.out))) (below_size (gB HB.out))); have n2_ := Aside0.mk (below_step (gB HB.out) hb); clear HO_5; clear HB; have HO_5 := n0_; have HO383 := n1_; have HB := n2_; clear n0_ n1_ n2_; (try clear hb); (try clear hb2); (try clear hk); (try clear hi); (try clear ho0)))
      (try simp only [Act.put, List.setIfInBounds_toArray, List.set_cons_zero, List.set_cons_succ])
      go_cut [103] (fun v103 wc => ∃ (kq : Nat) (x103_58 : Bool), v103 = .bool x103_58 ∧ Aside0 (isohyetlaw25_DataRemarks.j1 kq x5_1 x6_1 t379 x103_58 = some r) ∧ Aside0 (kq ≤ k1) ∧ Aside0 (Kd.R k34 34 wc w.heap.size (fun k_ => some k_ ≠ (v382 : Value).ownBlock) u5 x5_1) ∧ Aside0 (Kd.R k34 34 wc w.heap.size (fun k_ => some k_ ≠ (u5 : Value).ownBlock) v382 t379) ∧ Aside0 (Below w.heap.size w wc))
      case first =>
       have H := HC59.out
       clear HC59
       by_cases c61 : t381 = 0
       ·rw [if_pos c61] at H
        have c61b0 : (t381 == 0) = true := beq_iff_eq.mpr c61
        have c61b1 : (t381 != 0) = false := bne_eq_false_iff_eq.mpr c61
        clear c61
        (first | rw [c61b0] | rw [c61b1] | (simp only [i64_w, i32_w]; rw [c61b0]) | skip)
        by_cases c62 : t380 = 0
        ·rw [if_pos c62] at H
         have c62b0 : (t380 == 0) = true := beq_iff_eq.mpr c62
         have c62b1 : (t380 != 0) = false := bne_eq_false_iff_eq.mpr c62
         clear c62
         have H' := Aside0.mk H
         clear H
         obtain ⟨Ao63, co63, eo63⟩ := Kd.R_slice HO383.out
         subst eo63
         obtain ⟨Ao64, co64, eo64⟩ := Kd.R_slice HO_5.out
         subst eo64
         go_wp2
         go_meet
         case rel => exact ⟨_, (((t379.length : Int) != (x5_1.length : Int))), (by first | rfl | (simp; done) | (simp [*]; done)), H', ⟨by have := HK1.out; first | omega | exact Nat.le_refl _⟩, ⟨by (with_reducible repeat (first | apply Kd.R_alloc | apply Kd.R_drewN | apply Kd.R_drew)); exact Kd.R_mono HO_5.out (fun _ hk => hk.2)⟩, ⟨by (with_reducible repeat (first | apply Kd.R_alloc | apply Kd.R_drewN | apply Kd.R_drew)); exact Kd.R_mono HO383.out (fun _ hk => hk.2)⟩, ⟨by repeat (first | (with_reducible first | exact HB.out | apply bA | apply bN | apply bD) | exact HB.out)⟩⟩
        ·rw [if_neg c62] at H
         have c62b0 : (t380 == 0) = false := beq_eq_false_iff_ne.mpr c62
         have c62b1 : (t380 != 0) = true := bne_iff_ne.mpr c62
         have H' := Aside0.mk H
         clear H
         go_wp2
         go_meet
         case rel => exact ⟨_, (true), (by first | rfl | (simp; done) | (simp [*]; done)), H', ⟨by have := HK1.out; first | omega | exact Nat.le_refl _⟩, ⟨by (with_reducible repeat (first | apply Kd.R_alloc | apply Kd.R_drewN | apply Kd.R_drew)); exact Kd.R_mono HO_5.out (fun _ hk => hk.2)⟩, ⟨by (with_reducible repeat (first | apply Kd.R_alloc | apply Kd.R_drewN | apply Kd.R_drew)); exact Kd.R_mono HO383.out (fun _ hk => hk.2)⟩, ⟨by repeat (first | (with_reducible first | exact HB.out | apply bA | apply bN | apply bD) | exact HB.out)⟩⟩
       ·rw [if_neg c61] at H
        have c61b0 : (t381 == 0) = false := beq_eq_false_iff_ne.mpr c61
        have c61b1 : (t381 != 0) = true := bne_iff_ne.mpr c61
        (first | rw [c61b0] | rw [c61b1] | (simp only [i64_w, i32_w]; rw [c61b0]) | skip)
        have H' := Aside0.mk H
        clear H
        go_wp2
        go_meet
        case rel => exact ⟨_, (true), (by first | rfl | (simp; done) | (simp [*]; done)), H', ⟨by have := HK1.out; first | omega | exact Nat.le_refl _⟩, ⟨by (with_reducible repeat (first | apply Kd.R_alloc | apply Kd.R_drewN | apply Kd.R_drew)); exact Kd.R_mono HO_5.out (fun _ hk => hk.2)⟩, ⟨by (with_reducible repeat (first | apply Kd.R_alloc | apply Kd.R_drewN | apply Kd.R_drew)); exact Kd.R_mono HO383.out (fun _ hk => hk.2)⟩, ⟨by repeat (first | (with_reducible first | exact HB.out | apply bA | apply bN | apply bD) | exact HB.out)⟩⟩
      case rest =>
       clear HC59
       try clear c1
       try clear c2
       try clear p2
       try clear c3
       try clear qi3
       try clear c6
       try clear p6
       try clear c8
       try clear c8b0
       try clear c9
       try clear c10
       try clear c11
       try clear c13
       try clear c14
       try clear c15
       try clear c16
       try clear c18
       try clear c19
       try clear c20
       try clear c22
       try clear c23
       try clear c25
       try clear c26
       try clear c28
       try clear c30
       try clear c31
       try clear c32
       try clear c33
       try clear c34
       try clear qi37
       try clear c61
       try clear c61b0
       try clear c61b1
       try clear c62
       try clear c62b0
       try clear c62b1
       try clear p64
       obtain ⟨kq, x103_58, rfl, HA, HJ58, HO_5, HO_10, HB⟩ := hcut
       cases kq with
       | zero => exact absurd HA.out (by simp [isohyetlaw25_DataRemarks.j1])
       | succ kj58 =>
        have H := HA.out
        clear HA
        simp only [isohyetlaw25_DataRemarks.j1] at H
        by_cases c65 : x103_58 = true
        ·subst c65
         have H1 : (some false) = some r := by rw [if_pos rfl] at H; exact H
         clear H
         have H := H1
         clear H1
         exact absurd ((Option.some.inj H).trans HTRUE) (by decide)
        ·replace c65 := Bool.eq_false_iff.mpr c65
         subst c65
         have H1 : (isohyetlaw25_DataRemarks.l1 kj58 x5_1 x6_1 t379 (x5_1.length : Int) 0) = some r := by rw [if_neg (show ¬ (false = true) by decide)] at H; exact H
         clear H
         have H := H1
         clear H1
         have H' := Aside0.mk H
         clear H
         obtain ⟨Ao66, co66, eo66⟩ := Kd.R_slice HO_5.out
         subst eo66
         go_wp2
         go_loopg [106] kj58 (fun kq v106 w' => ∃ (x106_3 : Int), v106 = .int .i64 x106_3 ∧ Aside0 (isohyetlaw25_DataRemarks.l1 kq x5_1 x6_1 t379 (x5_1.length : Int) x106_3 = some r) ∧ Aside0 (kq ≤ kj58) ∧ Aside0 (Kd.R k34 34 w' w.heap.size (fun k_ => some k_ ≠ (v382 : Value).ownBlock) (.slice Ao66 x5_1.length co66) x5_1) ∧ Aside0 (Kd.R k34 34 w' w.heap.size (fun k_ => some k_ ≠ ((.slice Ao66 x5_1.length co66) : Value).ownBlock) v382 t379) ∧ Aside0 (Below w.heap.size w w'))
         case atStart => exact ⟨(0), (by first | rfl | (simp; done) | (simp [*]; done)), H', ⟨Nat.le_refl _⟩, ⟨by (with_reducible repeat (first | apply Kd.R_alloc | apply Kd.R_drewN | apply Kd.R_drew)); exact HO_5.out⟩, ⟨by (with_reducible repeat (first | apply Kd.R_alloc | apply Kd.R_drewN | apply Kd.R_drew)); exact HO_10.out⟩, ⟨by repeat (first | (with_reducible first | exact HB.out | apply bA | apply bN | apply bD) | exact HB.out)⟩⟩
         case round =>
          clear H'
          try clear c1
          try clear c2
          try clear p2
          try clear c3
          try clear qi3
          try clear c6
          try clear p6
          try clear c8
          try clear c8b0
          try clear c9
          try clear c10
          try clear c11
          try clear c13
          try clear c14
          try clear c15
          try clear c16
          try clear c18
          try clear c19
          try clear c20
          try clear c22
          try clear c23
          try clear c25
          try clear c26
          try clear c28
          try clear c30
          try clear c31
          try clear c32
          try clear c33
          try clear c34
          try clear qi37
          try clear c61
          try clear c61b0
          try clear c61b1
          try clear c62
          try clear c62b0
          try clear c62b1
          try clear p64
          try clear c65
          try clear p2
          try clear p6
          try clear p64
          obtain ⟨x106_3, rfl, HA, HK3, HO_5, HO_10, HB⟩ := hrel
          cases gk with
          | zero => exact absurd HA.out (by simp [isohyetlaw25_DataRemarks.l1])
          | succ k3 =>
           have H := HA.out
           clear HA
           simp only [isohyetlaw25_DataRemarks.l1] at H
           by_cases c67 : x106_3 < (x5_1.length : Int)
           ·rw [if_pos c67] at H
            have c67b0 : decide (x106_3 < (x5_1.length : Int)) = true := decide_eq_true c67
            clear c67
            by_cases c68 : 0 ≤ x106_3
            ·rw [if_pos c68] at H
             have c68b0 : decide (0 ≤ x106_3) = true := decide_eq_true c68
             clear c68
             by_cases c69 : x106_3 < (t379.length : Int)
             ·rw [if_pos c69] at H
              have c69b0 : decide (x106_3 < (t379.length : Int)) = true := decide_eq_true c69
              clear c69
              by_cases c70 : x106_3 < (x5_1.length : Int)
              ·rw [if_pos c70] at H
               have c70b0 : decide (x106_3 < (x5_1.length : Int)) = true := decide_eq_true c70
               clear c70
               by_cases c71 : (!(((rd_T34 t379 x106_3).f0) == ((rd_T34 x5_1 x106_3).f0)) || (!(((rd_T34 t379 x106_3).f1) == ((rd_T34 x5_1 x106_3).f1)) || (!(((rd_T34 t379 x106_3).f2) == ((rd_T34 x5_1 x106_3).f2))))) = true
               ·rw [if_pos c71] at H
                have c71b0 : (!(((rd_T34 t379 x106_3).f0) == ((rd_T34 x5_1 x106_3).f0)) || (!(((rd_T34 t379 x106_3).f1) == ((rd_T34 x5_1 x106_3).f1)) || (!(((rd_T34 t379 x106_3).f2) == ((rd_T34 x5_1 x106_3).f2))))) = true := c71
                clear c71
                exact absurd ((Option.some.inj H).trans HTRUE) (by decide)
               ·rw [if_neg c71] at H
                have c71b0 : (!(((rd_T34 t379 x106_3).f0) == ((rd_T34 x5_1 x106_3).f0)) || (!(((rd_T34 t379 x106_3).f1) == ((rd_T34 x5_1 x106_3).f1)) || (!(((rd_T34 t379 x106_3).f2) == ((rd_T34 x5_1 x106_3).f2))))) = false := by simpa using c71
                clear c71
                have H' := Aside0.mk H
                clear H
                try go_wp2
                have n0_ := Aside0.mk (Kd.R_drew HO_5.out)
                have n1_ := Aside0.mk (Kd.R_drew HO_10.out)
                have n2_ := Aside0.mk (bD HB.out)
                clear HO_5
                clear HO_10
                clear HB
                have HO_5 := n0_
                have HO_10 := n1_
                have HB := n2_
                clear n0_ n1_ n2_
                obtain ⟨Ao73, co73, eo73⟩ := Kd.R_slice HO_10.out
                (first | subst eo73 | (injection eo73 with f1_ f2_ f3_; have f4_ := f1_.symm; have f5_ := f3_.symm; clear f1_ f2_ f3_; subst f4_; subst f5_))
                have p384 : 0 ≤ (x106_3 : Int) := of_decide_eq_true (by first | (with_reducible assumption) | assumption)
                have q384 : x106_3 < (t379.length : Int) := of_decide_eq_true (by first | (with_reducible assumption) | assumption)
                obtain ⟨ad384, e384, hx384_0, hx384_1, hx384_2⟩ := at_T34 (Kd.R_reads' HO_10.out).2.2 x106_3 p384 q384
                cases e384
                replace p384 := eq_true p384
                replace q384 := eq_true q384
                have p385 : 0 ≤ (x106_3 : Int) := of_decide_eq_true (by first | (with_reducible assumption) | assumption)
                have q385 : x106_3 < (x5_1.length : Int) := of_decide_eq_true (by first | (with_reducible assumption) | assumption)
                obtain ⟨ad385, e385, hx385_0, hx385_1, hx385_2⟩ := at_T34 (Kd.R_reads' HO_5.out).2.2 x106_3 p385 q385
                cases e385
                replace p385 := eq_true p385
                replace q385 := eq_true q385
                refine start_ (n := 9) (S := fun w' => w'.cell? (ad384.add ((x106_3).toNat * 3)) = some (.int .i64 ((rd_T34 t379 x106_3).f0)) ∧ w'.cell? ⟨(ad384.add ((x106_3).toNat * 3)).block, (ad384.add ((x106_3).toNat * 3)).off + 1, none⟩ = some (.int .i64 ((rd_T34 t379 x106_3).f1)) ∧ w'.cell? ⟨(ad384.add ((x106_3).toNat * 3)).block, (ad384.add ((x106_3).toNat * 3)).off + 2, none⟩ = some (.int .i64 ((rd_T34 t379 x106_3).f2)) ∧ w'.cell? (ad385.add ((x106_3).toNat * 3)) = some (.int .i64 ((rd_T34 x5_1 x106_3).f0)) ∧ w'.cell? ⟨(ad385.add ((x106_3).toNat * 3)).block, (ad385.add ((x106_3).toNat * 3)).off + 1, none⟩ = some (.int .i64 ((rd_T34 x5_1 x106_3).f1)) ∧ w'.cell? ⟨(ad385.add ((x106_3).toNat * 3)).block, (ad385.add ((x106_3).toNat * 3)).off + 2, none⟩ = some (.int .i64 ((rd_T34 x5_1 x106_3).f2))) (ds := []) #[false, false, false, false, false, false, false, false, false] (by kernel_rfl) rfl rfl ⟨hx384_0, hx384_1, hx384_2, hx385_0, hx385_1, hx385_2⟩ (fun hHeld => ?_); refine with_tabW isohyetlaw25_DataRemarks.tab20 isohyetlaw25_DataRemarks.bits20 (fun HT_ HW_ => ?_)
                generalize wr.drew = w72 at HO_5 HO_10 HB hx384_0 hx384_1 hx384_2 hx385_0 hx385_1 hx385_2 hHeld ⊢
                refine pure_ (i := 0) (N := some 109) (v := ?_) (a' := ?_) #[true, false, false, false, false, false, false, false, false] rfl rfl (any_of HT_.out (by kernel_rfl)) (fun _ _ _ h => h) (Or.inl ⟨by rfl, ?_⟩) ?_ ?_
                rotate_left
                ·intro w'
                 go_simp
                 with_reducible rfl
                rotate_left
                ·simp only [Act.put, List.setIfInBounds_toArray, List.set_cons_zero, List.set_cons_succ, i64_w, i32_w]
                 rfl
                refine pure_ (i := 1) (N := some 110) (v := ?_) (a' := ?_) #[true, true, false, false, false, false, false, false, false] rfl rfl (any_of HT_.out (by kernel_rfl)) (fun _ _ _ h => h) (Or.inl ⟨by rfl, ?_⟩) ?_ ?_
                rotate_left
                ·intro w'
                 go_simp
                 with_reducible rfl
                rotate_left
                ·simp only [Act.put, List.setIfInBounds_toArray, List.set_cons_zero, List.set_cons_succ, i64_w, i32_w]
                 rfl
                refine pure_ (i := 2) (N := some 111) (v := ?_) (a' := ?_) #[true, true, true, false, false, false, false, false, false] rfl rfl (any_of HT_.out (by kernel_rfl)) (fun _ _ _ h => h) (Or.inl ⟨by rfl, ?_⟩) ?_ ?_
                rotate_left
                ·intro w'
                 go_simp
                 with_reducible rfl
                rotate_left
                ·simp only [Act.put, List.setIfInBounds_toArray, List.set_cons_zero, List.set_cons_succ, i64_w, i32_w]
                 rfl
                refine pure_ (i := 4) (N := some 113) (v := ?_) (a' := ?_) #[true, true, true, false, true, false, false, false, false] rfl rfl (any_of HT_.out (by kernel_rfl)) (fun _ _ _ h => h) (Or.inl ⟨by rfl, ?_⟩) ?_ ?_
                rotate_left
                ·intro w'
                 go_simp
                 with_reducible rfl
                rotate_left
                ·simp only [Act.put, List.setIfInBounds_toArray, List.set_cons_zero, List.set_cons_succ, i64_w, i32_w]
                 rfl
                refine pure_ (i := 5) (N := some 114) (v := ?_) (a' := ?_) #[true, true, true, false, true, true, false, false, false] rfl rfl (any_of HT_.out (by kernel_rfl)) (fun _ _ _ h => h) (Or.inl ⟨by rfl, ?_⟩) ?_ ?_
                rotate_left
                ·intro w'
                 go_simp
                 with_reducible rfl
                rotate_left
                ·simp only [Act.put, List.setIfInBounds_toArray, List.set_cons_zero, List.set_cons_succ, i64_w, i32_w]
                 rfl
                refine pure_ (i := 6) (N := some 115) (v := ?_) (a' := ?_) #[true, true, true, false, true, true, true, false, false] rfl rfl (any_of HT_.out (by kernel_rfl)) (fun _ _ _ h => h) (Or.inl ⟨by rfl, ?_⟩) ?_ ?_
                rotate_left
                ·intro w'
                 go_simp
                 with_reducible rfl
                rotate_left
                ·simp only [Act.put, List.setIfInBounds_toArray, List.set_cons_zero, List.set_cons_succ, i64_w, i32_w]
                 rfl
                refine take_ (i := 3) (N := some 112) (v := ?_) (a' := ?_) #[true, true, true, true, true, true, true, false, false] rfl rfl (take_ofW HT_.out HW_.out (by kernel_rfl)) (fun _ _ _ h => h) (Or.inl ⟨by rfl, ?_⟩) hHeld ?_ ?_
                rotate_left
                ·rintro w' ⟨s0, s1, s2, s3, s4, s5⟩
                 go_simp
                 with_reducible rfl
                rotate_left
                ·simp only [Act.put, List.setIfInBounds_toArray, List.set_cons_zero, List.set_cons_succ, i64_w, i32_w]
                 rfl
                refine take_ (i := 7) (N := some 116) (v := ?_) (a' := ?_) #[true, true, true, true, true, true, true, true, false] rfl rfl (take_ofW HT_.out HW_.out (by kernel_rfl)) (fun _ _ _ h => h) (Or.inl ⟨by rfl, ?_⟩) hHeld ?_ ?_
                rotate_left
                ·rintro w' ⟨s0, s1, s2, s3, s4, s5⟩
                 go_simp
                 with_reducible rfl
                rotate_left
                ·simp only [Act.put, List.setIfInBounds_toArray, List.set_cons_zero, List.set_cons_succ, i64_w, i32_w]
                 rfl
                refine pure_ (i := 8) (N := some 117) (v := ?_) (a' := ?_) #[true, true, true, true, true, true, true, true, true] rfl rfl (any_of HT_.out (by kernel_rfl)) (fun _ _ _ h => h) (Or.inl ⟨by rfl, ?_⟩) ?_ ?_
                rotate_left
                ·intro w'
                 go_simp
                 with_reducible rfl
                rotate_left
                ·simp only [Act.put, List.setIfInBounds_toArray, List.set_cons_zero, List.set_cons_succ, i64_w, i32_w]
                 rfl
                refine done_ (done_of HT_.out (by kernel_rfl)) ?_
                try go_wp2
                go_roundg k3
                case measure => have := HK1.out; have := HJ58.out; have := HK3.out; omega
                case rel => exact ⟨(wrap64 (x106_3 + 1)), (by first | rfl | (simp; done) | (simp [*]; done)), H', ⟨by have := HK1.out; have := HJ58.out; have := HK3.out; omega⟩, ⟨by (with_reducible repeat (first | apply Kd.R_alloc | apply Kd.R_drewN | apply Kd.R_drew)); exact HO_5.out⟩, ⟨by (with_reducible repeat (first | apply Kd.R_alloc | apply Kd.R_drewN | apply Kd.R_drew)); exact HO_10.out⟩, ⟨by repeat (first | (with_reducible first | exact HB.out | apply bA | apply bN | apply bD) | exact HB.out)⟩⟩
              ·rw [if_neg c70] at H
               exact absurd H (by simp)
             ·rw [if_neg c69] at H
              exact absurd H (by simp)
            ·rw [if_neg c68] at H
             exact absurd H (by simp)
           ·rw [if_neg c67] at H
            have c67b0 : decide (x106_3 < (x5_1.length : Int)) = false := decide_eq_false c67
            clear c67
            by_cases c74 : x6_1.size + 5 ≤ 9223372036854775807
            ·rw [if_pos c74] at H
             have c74b0 := eq_true c74
             have c74b1 : decide (x6_1.size + 5 ≤ 9223372036854775807) = true := decide_eq_true c74
             try have c74b2 : (9223372036854775807 < x6_1.size + 5) = False := eq_false (Nat.not_lt.2 c74)
             replace H := Option.bind_eq_some_iff.mp H
             obtain ⟨⟨t386, t387, t388⟩, A750, H⟩ := H
             replace H : (if t388 = 1 then ((isohyetlaw25_lines.f k3 x6_1).bind fun t391 => (some (t387 == (wrap64 ((t391.length : Int) + 1))))) else (some false)) = some r := H
             have A75 := Aside0.mk A750
             clear A750
             by_cases c76 : t388 = 1
             ·rw [if_pos c76] at H
              have c76b0 : (t388 == 1) = true := beq_iff_eq.mpr c76
              have c76b1 : (t388 != 1) = false := bne_eq_false_iff_eq.mpr c76
              clear c76
              replace H := Option.bind_eq_some_iff.mp H
              obtain ⟨t391, A770, H⟩ := H
              replace H : (some (t387 == (wrap64 ((t391.length : Int) + 1)))) = some r := H
              have A77 := Aside0.mk A770
              clear A770
              obtain rfl := Option.some.inj H
              go_wp2_with (first | ((with_reducible refine gate_callee (f := 9) rfl ?_); refine goesL_ (some 122) rfl rfl Tryz.func9 (by kernel_rfl) rfl #[.string (x6_1 ++ (⟨#[35, 10, 49, 32, 50]⟩ : ByteArray)), .int .i64 1, .int .i64 0] rfl (by (try simp only [List.map_toArray, List.map_cons, List.map_nil]); first | done | rfl | (simp only [List.length_drop, List.length_take]; rfl)) ?_; (with_reducible refine (data_Samples.calls k3 (x6_1 ++ (⟨#[35, 10, 49, 32, 50]⟩ : ByteArray)) 1 0 t386 t387 t388 _ (MB.tab_below HT0 (gB HB.out)) A75.out).mono ?_); (try clear A75); rintro e w78 ⟨v389, rfl, ho0, hb⟩; refine ⟨_, rfl, ?_⟩; have n0_ := Aside0.mk (Kd.R_elder' (gR HO_5.out) (Kd.R_base ho0) hb); have n1_ := Aside0.mk (Kd.R_elder' (gR HO_10.out) (Kd.R_base ho0) hb); have n2_ := Aside0.mk (Kd.R_lower (Kd.R_new' (Kd.R_new' ho0 (Kd.R_lt (gR HO_5.out))) (Kd.R_lt (gR HO_10.out))) (below_size (gB HB.out))); have n3_ := Aside0.mk (below_step (gB HB.out) hb); clear HO_5; clear HO_10; clear HB; have HO_5 := n0_; have HO_10 := n1_; have HO390 := n2_; have HB := n3_; clear n0_ n1_ n2_ n3_; (try clear hb); (try clear hb2); (try clear hk); (try clear hi); (try clear ho0)) | (go_at_call 10; (with_reducible refine (isohyetlaw25_lines.calls k3 x6_1 t391 _ A77.out).mono ?_); (try clear A77); rintro e w79 ⟨v392, rfl, ho0, hb⟩; have n0_ := Aside0.mk (Kd.R_below (gR HO_5.out) hb); have n1_ := Aside0.mk (Kd.R_below (gR HO_10.out) hb); have n2_ := Aside0.mk (Kd.R_below (gR HO390.out) hb); have n3_ := Aside0.mk (Kd.S_lower ho0 (below_size (gB HB.out))); have n4_ := Aside0.mk (below_step (gB HB.out) hb); clear HO_5; clear HO_10; clear HO390; clear HB; have HO_5 := n0_; have HO_10 := n1_; have HO390 := n2_; have HO393 := n3_; have HB := n4_; clear n0_ n1_ n2_ n3_ n4_; (try clear hb); (try clear hb2); (try clear hk); (try clear hi); (try clear ho0); obtain ⟨Ao80, co80, eo80⟩ := Kd.S_slice HO393.out; subst eo80))
              go_ret
              exact ⟨by first | rfl | (simp [errW_none, errW_some] <;> rfl) | (simp [*, errW_none, errW_some] <;> rfl), by repeat (first | (with_reducible first | exact HB.out | apply bA | apply bN | apply bD) | exact HB.out)⟩
             ·rw [if_neg c76] at H
              have c76b0 : (t388 == 1) = false := beq_eq_false_iff_ne.mpr c76
              have c76b1 : (t388 != 1) = true := bne_iff_ne.mpr c76
              exact absurd ((Option.some.inj H).trans HTRUE) (by decide)
            ·rw [if_neg c74] at H
             exact absurd H (by simp)
 ·replace c4 := Bool.eq_false_iff.mpr c4
  subst c4
  have H1 : (some false) = some r := by rw [if_neg (show ¬ (false = true) by decide)] at H; exact H
  clear H
  have H := H1
  clear H1
  exact absurd ((Option.some.inj H).trans HTRUE) (by decide)

end Go.Proofs.YtknekneicecgiaaGreatDoor.M
