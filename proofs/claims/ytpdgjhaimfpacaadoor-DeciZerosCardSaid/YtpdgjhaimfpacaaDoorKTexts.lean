-- By drive.py (this session's program), out of the translation. Lean checks it.
import Derived.Test.YtpdgjhaimfpacaaDoorA0
import Derived.Test.YtpdgjhaimfpacaaDoorA6
import Derived.Test.YtpdgjhaimfpacaaDoorA8
import Derived.Test.YtpdgjhaimfpacaaDoorC1
import Derived.Test.YtpdgjhaimfpacaaDoorE3
import Derived.Test.YtpdgjhaimfpacaaDoorE5
namespace Go.Proofs.YtpdgjhaimfpacaaDoor.M
open Go.Proofs.YtpdgjhaimfpacaaDoor.MB Go.Proofs.YtpdgjhaimfpacaaDoor
open Go.RowKit Go.Proofs.YtpdgjhaimfpacaaDoorW.PrintWords Go.Proofs.YtpdgjhaimfpacaaDoorW.PrintLast Go.Proofs.YtpdgjhaimfpacaaDoorW.PrintMore
attribute [local go_sem] max2_int min2_int max_two min_two max_three min_three max_four min_four   -- for this text's walks alone
set_option linter.unusedVariables false
set_option linter.unusedSimpArgs false
attribute [local go_sem] add64_run sub64_run

/-! ### isohyetlaw04_DeciTexts: function 4 -/
def isohyetlaw04_DeciTexts.j0 : Nat → Int → Int → ByteArray → Bool → Option (Bool)
 | 0, _, _, _, _ => none
 | k + 1, x0, x1, x6, x29 => if x29 = true then (some false) else ((deci_Parse.f k x6 x1).bind fun bt404 => (if x0 > 2147483648 then (if bt404.2 = 4 then (some (bt404.1 == 0)) else (some false)) else (if x0 < (-2147483648) then (if bt404.2 = 4 then (some (bt404.1 == 0)) else (some false)) else (if bt404.2 = 0 then (some (bt404.1 == x0)) else (some false)))))
def isohyetlaw04_DeciTexts.f (k : Nat) (a0 : Int) (a1 : Int) : Option (Bool) := (isohyetlaw04_fit.f k).bind fun t396 => (if t396 = true then ((deci_Text.f k a0 a1).bind fun t397 => ((isohyetlaw04_text.f k a0 (mn (mx a1 0) 9)).bind fun t398 => (if t397.toList = t398.toList then ((num_Of.f k a0).bind fun bt399 => ((deci_Fixed.f k bt399.1 bt399.2 a1).bind fun t403 => (isohyetlaw04_DeciTexts.j0 k a0 a1 t397 (t403.toList != t397.toList)))) else (isohyetlaw04_DeciTexts.j0 k a0 a1 t397 true)))) else (some false))
theorem isohyetlaw04_DeciTexts.mono_l : ∀ k, (∀ y0 y1 y2 y3, LeO (isohyetlaw04_DeciTexts.j0 k y0 y1 y2 y3) (isohyetlaw04_DeciTexts.j0 (k + 1) y0 y1 y2 y3))
 | 0 => fun _ _ _ _ r h => by simp [isohyetlaw04_DeciTexts.j0] at h
 | k + 1 => by
  have ih0 := isohyetlaw04_DeciTexts.mono_l k
  ·intro y0 y1 y2 y3
   unfold isohyetlaw04_DeciTexts.j0
   repeat' first
   | (with_reducible exact ih0 _ _ _ _)
   | (with_reducible exact deci_Fixed.mono _ _ _ _)
   | (with_reducible exact deci_Parse.mono _ _ _)
   | (with_reducible exact deci_Text.mono _ _ _)
   | (with_reducible exact isohyetlaw04_fit.mono _)
   | (with_reducible exact isohyetlaw04_text.mono _ _ _)
   | (with_reducible exact num_Of.mono _ _)
   | (with_reducible exact LeO.refl _)
   | (with_reducible exact LeO.none _)
   | (with_reducible refine LeO.ite ?_ ?_)
   | (with_reducible refine LeO.bind ?_ (fun _ => ?_))
   | exact ih0 _ _ _ _
   | exact deci_Fixed.mono _ _ _ _
   | exact deci_Parse.mono _ _ _
   | exact deci_Text.mono _ _ _
   | exact isohyetlaw04_fit.mono _
   | exact isohyetlaw04_text.mono _ _ _
   | exact num_Of.mono _ _
   | exact LeO.none _
   | refine LeO.ite ?_ ?_
   | refine LeO.bind ?_ (fun _ => ?_)
theorem isohyetlaw04_DeciTexts.mono : ∀ a0 a1 k, LeO (isohyetlaw04_DeciTexts.f k a0 a1) (isohyetlaw04_DeciTexts.f (k + 1) a0 a1) := by
 intro a0 a1 k
 have ih0 := isohyetlaw04_DeciTexts.mono_l k
 unfold isohyetlaw04_DeciTexts.f
 repeat' first
   | (with_reducible exact ih0 _ _ _ _)
   | (with_reducible exact deci_Fixed.mono _ _ _ _)
   | (with_reducible exact deci_Parse.mono _ _ _)
   | (with_reducible exact deci_Text.mono _ _ _)
   | (with_reducible exact isohyetlaw04_fit.mono _)
   | (with_reducible exact isohyetlaw04_text.mono _ _ _)
   | (with_reducible exact num_Of.mono _ _)
   | (with_reducible exact LeO.refl _)
   | (with_reducible exact LeO.none _)
   | (with_reducible refine LeO.ite ?_ ?_)
   | (with_reducible refine LeO.bind ?_ (fun _ => ?_))
   | exact ih0 _ _ _ _
   | exact deci_Fixed.mono _ _ _ _
   | exact deci_Parse.mono _ _ _
   | exact deci_Text.mono _ _ _
   | exact isohyetlaw04_fit.mono _
   | exact isohyetlaw04_text.mono _ _ _
   | exact num_Of.mono _ _
   | exact LeO.none _
   | refine LeO.ite ?_ ?_
   | refine LeO.bind ?_ (fun _ => ?_)
set_option maxHeartbeats 8000000 in
set_option maxRecDepth 100000 in
theorem isohyetlaw04_DeciTexts.calls (k : Nat) (a0 : Int) (a1 : Int) (r : Bool) (w : World) (HT0 : MB.TabW w) (HTRUE : r = true) (h : isohyetlaw04_DeciTexts.f k a0 a1 = some r) :
  Calls Tryd.prog 4 #[.int .i64 a0, .int .i64 a1] w fun e w' => e = .returned (.bool r) ∧ Below w.heap.size w w' := by
 have HB := Aside0.mk (Below.refl w.heap.size w)
 have H : ((isohyetlaw04_fit.f k).bind fun t396 => (if t396 = true then ((deci_Text.f k a0 a1).bind fun t397 => ((isohyetlaw04_text.f k a0 (mn (mx a1 0) 9)).bind fun t398 => (if t397.toList = t398.toList then ((num_Of.f k a0).bind fun bt399 => ((deci_Fixed.f k bt399.1 bt399.2 a1).bind fun t403 => (isohyetlaw04_DeciTexts.j0 k a0 a1 t397 (t403.toList != t397.toList)))) else (isohyetlaw04_DeciTexts.j0 k a0 a1 t397 true)))) else (some false))) = some r := h
 clear h
 replace H := Option.bind_eq_some_iff.mp H
 obtain ⟨t396, A30, H⟩ := H
 replace H : (if t396 = true then ((deci_Text.f k a0 a1).bind fun t397 => ((isohyetlaw04_text.f k a0 (mn (mx a1 0) 9)).bind fun t398 => (if t397.toList = t398.toList then ((num_Of.f k a0).bind fun bt399 => ((deci_Fixed.f k bt399.1 bt399.2 a1).bind fun t403 => (isohyetlaw04_DeciTexts.j0 k a0 a1 t397 (t403.toList != t397.toList)))) else (isohyetlaw04_DeciTexts.j0 k a0 a1 t397 true)))) else (some false)) = some r := H
 have A3 := Aside0.mk A30
 clear A30
 by_cases c4 : t396 = true
 ·subst c4
  have H1 : ((deci_Text.f k a0 a1).bind fun t397 => ((isohyetlaw04_text.f k a0 (mn (mx a1 0) 9)).bind fun t398 => (if t397.toList = t398.toList then ((num_Of.f k a0).bind fun bt399 => ((deci_Fixed.f k bt399.1 bt399.2 a1).bind fun t403 => (isohyetlaw04_DeciTexts.j0 k a0 a1 t397 (t403.toList != t397.toList)))) else (isohyetlaw04_DeciTexts.j0 k a0 a1 t397 true)))) = some r := by rw [if_pos rfl] at H; exact H
  clear H
  have H := H1
  clear H1
  obtain ⟨ji5, hji5⟩ : ∃ j_ : Int, (mx a1 0) = j_ := ⟨_, rfl⟩
  replace H : ((deci_Text.f k a0 a1).bind fun t397 => ((isohyetlaw04_text.f k a0 (mn (ji5) 9)).bind fun t398 => (if t397.toList = t398.toList then ((num_Of.f k a0).bind fun bt399 => ((deci_Fixed.f k bt399.1 bt399.2 a1).bind fun t403 => (isohyetlaw04_DeciTexts.j0 k a0 a1 t397 (t403.toList != t397.toList)))) else (isohyetlaw04_DeciTexts.j0 k a0 a1 t397 true)))) = some r := by first | (rw [hji5] at H; exact H) | (simp only [hji5] at H ⊢; exact H)
  (try rw [hji5] at A3)
  (try (have hji5l : 0 ≤ ji5 := by (rw [← hji5]; unfold mx; (repeat' split) <;> omega)))
  (try (have hji5m : 0 ≤ ji5 := by omega))
  have hji5_ : (if a1 < 0 then 0 else a1) = ji5 := hji5
  obtain ⟨ji6, hji6⟩ : ∃ j_ : Int, (mn (ji5) 9) = j_ := ⟨_, rfl⟩
  replace H : ((deci_Text.f k a0 a1).bind fun t397 => ((isohyetlaw04_text.f k a0 (ji6)).bind fun t398 => (if t397.toList = t398.toList then ((num_Of.f k a0).bind fun bt399 => ((deci_Fixed.f k bt399.1 bt399.2 a1).bind fun t403 => (isohyetlaw04_DeciTexts.j0 k a0 a1 t397 (t403.toList != t397.toList)))) else (isohyetlaw04_DeciTexts.j0 k a0 a1 t397 true)))) = some r := by first | (rw [hji6] at H; exact H) | (simp only [hji6] at H ⊢; exact H)
  (try rw [hji6] at A3)
  have hji6_ : (if 9 < (ji5) then 9 else (ji5)) = ji6 := hji6
  replace H := Option.bind_eq_some_iff.mp H
  obtain ⟨t397, A70, H⟩ := H
  replace H : ((isohyetlaw04_text.f k a0 (ji6)).bind fun t398 => (if t397.toList = t398.toList then ((num_Of.f k a0).bind fun bt399 => ((deci_Fixed.f k bt399.1 bt399.2 a1).bind fun t403 => (isohyetlaw04_DeciTexts.j0 k a0 a1 t397 (t403.toList != t397.toList)))) else (isohyetlaw04_DeciTexts.j0 k a0 a1 t397 true))) = some r := H
  have A7 := Aside0.mk A70
  clear A70
  have HC8 := Aside0.mk H
  clear H
  go_enter Tryd.func4, Tryd.ntmps4
  go_upto_region 5 with (first | ((with_reducible refine gate_callee (f := 8) rfl ?_); refine goesL_ (some 9) rfl rfl Tryd.func8 (by kernel_rfl) rfl #[] rfl (by (try simp only [List.map_toArray, List.map_cons, List.map_nil]); first | done | rfl | (simp only [List.length_drop, List.length_take]; rfl)) ?_; (with_reducible refine (isohyetlaw04_fit.calls k  true _ (MB.tab_below HT0 (gB HB.out)) rfl A3.out).mono ?_); (try clear A3); rintro e w9 ⟨rfl, hb⟩; refine ⟨_, rfl, ?_⟩; have n0_ := Aside0.mk (below_step (gB HB.out) hb); clear HB; have HB := n0_; clear n0_; (try clear hb); (try clear hb2); (try clear hk); (try clear hi)) | ((with_reducible refine gate_callee (f := 11) rfl ?_); refine goesL_ (some 16) rfl rfl Tryd.func11 (by kernel_rfl) rfl #[.int .i64 a0, .int .i64 a1] rfl (by (try simp only [List.map_toArray, List.map_cons, List.map_nil]); first | done | rfl | (simp only [List.length_drop, List.length_take]; rfl)) ?_; (with_reducible refine (deci_Text.calls k a0 a1 t397 _ A7.out).mono ?_); (try clear A7); rintro e w10 ⟨rfl, hb⟩; refine ⟨_, rfl, ?_⟩; have n0_ := Aside0.mk (below_step (gB HB.out) hb); clear HB; have HB := n0_; clear n0_; (try clear hb); (try clear hb2); (try clear hk); (try clear hi)))
  (try simp only [Act.put, List.setIfInBounds_toArray, List.set_cons_zero, List.set_cons_succ])
  go_cut [29] (fun v29 wc => ∃ (kq : Nat) (x29_7 : Bool), v29 = .bool x29_7 ∧ Aside0 (isohyetlaw04_DeciTexts.j0 kq a0 a1 t397 x29_7 = some r) ∧ Aside0 (kq ≤ k) ∧ Aside0 (Below w.heap.size w wc))
  case first =>
   have H := HC8.out
   clear HC8
   replace H := Option.bind_eq_some_iff.mp H
   obtain ⟨t398, A110, H⟩ := H
   replace H : (if t397.toList = t398.toList then ((num_Of.f k a0).bind fun bt399 => ((deci_Fixed.f k bt399.1 bt399.2 a1).bind fun t403 => (isohyetlaw04_DeciTexts.j0 k a0 a1 t397 (t403.toList != t397.toList)))) else (isohyetlaw04_DeciTexts.j0 k a0 a1 t397 true)) = some r := H
   have A11 := Aside0.mk A110
   clear A110
   by_cases c12 : t397.toList = t398.toList
   ·rw [if_pos c12] at H
    have c12b0 : (t397.toList == t398.toList) = true := beq_iff_eq.mpr c12
    have c12b1 : (t397.toList != t398.toList) = false := bne_eq_false_iff_eq.mpr c12
    clear c12
    (first | rw [c12b0] | rw [c12b1] | (simp only [i64_w, i32_w]; rw [c12b0]) | skip)
    replace H := Option.bind_eq_some_iff.mp H
    obtain ⟨⟨t399, t400⟩, A130, H⟩ := H
    replace H : ((deci_Fixed.f k t399 t400 a1).bind fun t403 => (isohyetlaw04_DeciTexts.j0 k a0 a1 t397 (t403.toList != t397.toList))) = some r := H
    have A13 := Aside0.mk A130
    clear A130
    replace H := Option.bind_eq_some_iff.mp H
    obtain ⟨t403, A140, H⟩ := H
    replace H : (isohyetlaw04_DeciTexts.j0 k a0 a1 t397 (t403.toList != t397.toList)) = some r := H
    have A14 := Aside0.mk A140
    clear A140
    have H' := Aside0.mk H
    clear H
    go_wp2_with (first | ((with_reducible refine gate_callee (f := 12) rfl ?_); refine goesL_ (some 20) rfl rfl Tryd.func12 (by kernel_rfl) rfl #[.int .i64 a0, .int .i64 ji6] rfl (by (try simp only [List.map_toArray, List.map_cons, List.map_nil]); first | done | (simp only [hji6]; rfl) | rfl | (simp only [List.length_drop, List.length_take]; rfl)) ?_; (with_reducible refine (isohyetlaw04_text.calls k a0 ji6 t398 _ A11.out).mono ?_); (try clear A11); rintro e w15 ⟨rfl, hb⟩; refine ⟨_, rfl, ?_⟩; have n0_ := Aside0.mk (below_step (gB HB.out) hb); clear HB; have HB := n0_; clear n0_; (try clear hb); (try clear hb2); (try clear hk); (try clear hi)) | (go_at_call 14; (with_reducible refine (num_Of.calls k a0 t399 t400 _ A13.out).mono ?_); (try clear A13); rintro e w16 ⟨v401, rfl, ho0, hb⟩; have n0_ := Aside0.mk (Kd.V_lower (Kd.V_mono (ok' := fun k_ => True) ho0 (fun k_ hk_ => trivial)) (below_size (gB HB.out))); have n1_ := Aside0.mk (below_step (gB HB.out) hb); clear HB; have HO402 := n0_; have HB := n1_; clear n0_ n1_; (try clear hb); (try clear hb2); (try clear hk); (try clear hi); (try clear ho0); obtain ⟨Ao17, co17, eo17⟩ := Kd.V_slice HO402.out; subst eo17) | (go_at_call 13; (with_reducible refine (deci_Fixed.calls k t399 _ _ t400 a1 t403 _ ?side1 ?side2 A14.out).mono ?_); (case side1 => repeat (first | exact (Kd.V_reads' HO402.out).2.2 | (with_reducible refine Kd.C_alloc ?_ _) | (with_reducible refine Kd.C_drewN ?_ _) | (with_reducible refine Kd.C_drew ?_))); (case side2 => exact (Kd.V_reads' HO402.out).2.1); (try clear A14); rintro e w18 ⟨rfl, hb⟩; have n0_ := Aside0.mk (Kd.V_below (gV HO402.out) hb); have n1_ := Aside0.mk (below_step (gB HB.out) hb); clear HO402; clear HB; have HO402 := n0_; have HB := n1_; clear n0_ n1_; (try clear hb); (try clear hb2); (try clear hk); (try clear hi)))
    go_meet
    case rel => exact ⟨_, ((t403.toList != t397.toList)), (by first | rfl | (simp; done) | (simp [*]; done)), H', ⟨by first | omega | exact Nat.le_refl _⟩, ⟨by repeat (first | (with_reducible first | exact HB.out | apply bA | apply bN | apply bD) | exact HB.out)⟩⟩
   ·rw [if_neg c12] at H
    have c12b0 : (t397.toList == t398.toList) = false := beq_eq_false_iff_ne.mpr c12
    have c12b1 : (t397.toList != t398.toList) = true := bne_iff_ne.mpr c12
    (first | rw [c12b0] | rw [c12b1] | (simp only [i64_w, i32_w]; rw [c12b0]) | skip)
    have H' := Aside0.mk H
    clear H
    go_wp2_with (first | ((with_reducible refine gate_callee (f := 12) rfl ?_); refine goesL_ (some 20) rfl rfl Tryd.func12 (by kernel_rfl) rfl #[.int .i64 a0, .int .i64 ji6] rfl (by (try simp only [List.map_toArray, List.map_cons, List.map_nil]); first | done | (simp only [hji6]; rfl) | rfl | (simp only [List.length_drop, List.length_take]; rfl)) ?_; (with_reducible refine (isohyetlaw04_text.calls k a0 ji6 t398 _ A11.out).mono ?_); (try clear A11); rintro e w19 ⟨rfl, hb⟩; refine ⟨_, rfl, ?_⟩; have n0_ := Aside0.mk (below_step (gB HB.out) hb); clear HB; have HB := n0_; clear n0_; (try clear hb); (try clear hb2); (try clear hk); (try clear hi)))
    go_meet
    case rel => exact ⟨_, (true), (by first | rfl | (simp; done) | (simp [*]; done)), H', ⟨by first | omega | exact Nat.le_refl _⟩, ⟨by repeat (first | (with_reducible first | exact HB.out | apply bA | apply bN | apply bD) | exact HB.out)⟩⟩
  case rest =>
   clear HC8
   try clear c1
   try clear p2
   try clear c4
   try clear c8
   try clear c11
   try clear c12
   try clear c12b0
   try clear c12b1
   obtain ⟨kq, x29_7, rfl, HA, HJ7, HB⟩ := hcut
   cases kq with
   | zero => exact absurd HA.out (by simp [isohyetlaw04_DeciTexts.j0])
   | succ kj7 =>
    have H := HA.out
    clear HA
    simp only [isohyetlaw04_DeciTexts.j0] at H
    by_cases c20 : x29_7 = true
    ·subst c20
     have H1 : (some false) = some r := by rw [if_pos rfl] at H; exact H
     clear H
     have H := H1
     clear H1
     exact absurd ((Option.some.inj H).trans HTRUE) (by decide)
    ·replace c20 := Bool.eq_false_iff.mpr c20
     subst c20
     have H1 : ((deci_Parse.f kj7 t397 a1).bind fun bt404 => (if a0 > 2147483648 then (if bt404.2 = 4 then (some (bt404.1 == 0)) else (some false)) else (if a0 < (-2147483648) then (if bt404.2 = 4 then (some (bt404.1 == 0)) else (some false)) else (if bt404.2 = 0 then (some (bt404.1 == a0)) else (some false))))) = some r := by rw [if_neg (show ¬ (false = true) by decide)] at H; exact H
     clear H
     have H := H1
     clear H1
     replace H := Option.bind_eq_some_iff.mp H
     obtain ⟨⟨t404, t405⟩, A210, H⟩ := H
     replace H : (if a0 > 2147483648 then (if t405 = 4 then (some (t404 == 0)) else (some false)) else (if a0 < (-2147483648) then (if t405 = 4 then (some (t404 == 0)) else (some false)) else (if t405 = 0 then (some (t404 == a0)) else (some false)))) = some r := H
     have A21 := Aside0.mk A210
     clear A210
     by_cases c22 : a0 > 2147483648
     ·rw [if_pos c22] at H
      have c22b0 : decide (2147483648 < a0) = true := decide_eq_true c22
      clear c22
      by_cases c23 : t405 = 4
      ·rw [if_pos c23] at H
       have c23b0 : (t405 == 4) = true := beq_iff_eq.mpr c23
       have c23b1 : (t405 != 4) = false := bne_eq_false_iff_eq.mpr c23
       clear c23
       obtain rfl := Option.some.inj H
       go_wp2_with (first | ((with_reducible refine gate_callee (f := 9) rfl ?_); refine goesL_ (some 33) rfl rfl Tryd.func9 (by kernel_rfl) rfl #[.string t397, .int .i64 a1] rfl (by (try simp only [List.map_toArray, List.map_cons, List.map_nil]); first | done | rfl | (simp only [List.length_drop, List.length_take]; rfl)) ?_; (with_reducible refine (deci_Parse.calls kj7 t397 a1 t404 t405 _ (MB.tab_below HT0 (gB HB.out)) A21.out).mono ?_); (try clear A21); rintro e w24 ⟨rfl, hb⟩; refine ⟨_, rfl, ?_⟩; have n0_ := Aside0.mk (below_step (gB HB.out) hb); clear HB; have HB := n0_; clear n0_; (try clear hb); (try clear hb2); (try clear hk); (try clear hi)))
       go_ret
       exact ⟨by first | rfl | (simp [errW_none, errW_some] <;> rfl) | (simp only [← hji5, ← hji6]; first | rfl | (simp [errW_none, errW_some] <;> rfl)) | (simp [*, errW_none, errW_some] <;> rfl), by repeat (first | (with_reducible first | exact HB.out | apply bA | apply bN | apply bD) | exact HB.out)⟩
      ·rw [if_neg c23] at H
       have c23b0 : (t405 == 4) = false := beq_eq_false_iff_ne.mpr c23
       have c23b1 : (t405 != 4) = true := bne_iff_ne.mpr c23
       exact absurd ((Option.some.inj H).trans HTRUE) (by decide)
     ·rw [if_neg c22] at H
      have c22b0 : decide (2147483648 < a0) = false := decide_eq_false c22
      clear c22
      by_cases c25 : a0 < (-2147483648)
      ·rw [if_pos c25] at H
       have c25b0 : decide (a0 < (-2147483648)) = true := decide_eq_true c25
       clear c25
       by_cases c26 : t405 = 4
       ·rw [if_pos c26] at H
        have c26b0 : (t405 == 4) = true := beq_iff_eq.mpr c26
        have c26b1 : (t405 != 4) = false := bne_eq_false_iff_eq.mpr c26
        clear c26
        obtain rfl := Option.some.inj H
        go_wp2_with (first | ((with_reducible refine gate_callee (f := 9) rfl ?_); refine goesL_ (some 33) rfl rfl Tryd.func9 (by kernel_rfl) rfl #[.string t397, .int .i64 a1] rfl (by (try simp only [List.map_toArray, List.map_cons, List.map_nil]); first | done | rfl | (simp only [List.length_drop, List.length_take]; rfl)) ?_; (with_reducible refine (deci_Parse.calls kj7 t397 a1 t404 t405 _ (MB.tab_below HT0 (gB HB.out)) A21.out).mono ?_); (try clear A21); rintro e w27 ⟨rfl, hb⟩; refine ⟨_, rfl, ?_⟩; have n0_ := Aside0.mk (below_step (gB HB.out) hb); clear HB; have HB := n0_; clear n0_; (try clear hb); (try clear hb2); (try clear hk); (try clear hi)))
        go_ret
        exact ⟨by first | rfl | (simp [errW_none, errW_some] <;> rfl) | (simp only [← hji5, ← hji6]; first | rfl | (simp [errW_none, errW_some] <;> rfl)) | (simp [*, errW_none, errW_some] <;> rfl), by repeat (first | (with_reducible first | exact HB.out | apply bA | apply bN | apply bD) | exact HB.out)⟩
       ·rw [if_neg c26] at H
        have c26b0 : (t405 == 4) = false := beq_eq_false_iff_ne.mpr c26
        have c26b1 : (t405 != 4) = true := bne_iff_ne.mpr c26
        exact absurd ((Option.some.inj H).trans HTRUE) (by decide)
      ·rw [if_neg c25] at H
       have c25b0 : decide (a0 < (-2147483648)) = false := decide_eq_false c25
       clear c25
       by_cases c28 : t405 = 0
       ·rw [if_pos c28] at H
        have c28b0 : (t405 == 0) = true := beq_iff_eq.mpr c28
        have c28b1 : (t405 != 0) = false := bne_eq_false_iff_eq.mpr c28
        clear c28
        obtain rfl := Option.some.inj H
        go_wp2_with (first | ((with_reducible refine gate_callee (f := 9) rfl ?_); refine goesL_ (some 33) rfl rfl Tryd.func9 (by kernel_rfl) rfl #[.string t397, .int .i64 a1] rfl (by (try simp only [List.map_toArray, List.map_cons, List.map_nil]); first | done | rfl | (simp only [List.length_drop, List.length_take]; rfl)) ?_; (with_reducible refine (deci_Parse.calls kj7 t397 a1 t404 t405 _ (MB.tab_below HT0 (gB HB.out)) A21.out).mono ?_); (try clear A21); rintro e w29 ⟨rfl, hb⟩; refine ⟨_, rfl, ?_⟩; have n0_ := Aside0.mk (below_step (gB HB.out) hb); clear HB; have HB := n0_; clear n0_; (try clear hb); (try clear hb2); (try clear hk); (try clear hi)))
        go_ret
        exact ⟨by first | rfl | (simp [errW_none, errW_some] <;> rfl) | (simp only [← hji5, ← hji6]; first | rfl | (simp [errW_none, errW_some] <;> rfl)) | (simp [*, errW_none, errW_some] <;> rfl), by repeat (first | (with_reducible first | exact HB.out | apply bA | apply bN | apply bD) | exact HB.out)⟩
       ·rw [if_neg c28] at H
        have c28b0 : (t405 == 0) = false := beq_eq_false_iff_ne.mpr c28
        have c28b1 : (t405 != 0) = true := bne_iff_ne.mpr c28
        exact absurd ((Option.some.inj H).trans HTRUE) (by decide)
 ·replace c4 := Bool.eq_false_iff.mpr c4
  subst c4
  have H1 : (some false) = some r := by rw [if_neg (show ¬ (false = true) by decide)] at H; exact H
  clear H
  have H := H1
  clear H1
  exact absurd ((Option.some.inj H).trans HTRUE) (by decide)

end Go.Proofs.YtpdgjhaimfpacaaDoor.M
