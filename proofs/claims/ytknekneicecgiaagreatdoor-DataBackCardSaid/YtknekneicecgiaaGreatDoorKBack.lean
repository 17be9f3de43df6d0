-- By drive.py (this session's program), out of the translation. Lean checks it.
import Derived.Test.YtknekneicecgiaaGreatDoorA0
import Derived.Test.YtknekneicecgiaaGreatDoorE5
import Derived.Test.YtknekneicecgiaaGreatDoorX9
import Derived.Test.YtknekneicecgiaaGreatDoorX8
import Derived.Test.YtknekneicecgiaaGreatDoorX10
import Derived.Test.YtknekneicecgiaaGreatDoorX11
import Derived.Test.YtknekneicecgiaaGreatDoorE10
namespace Go.Proofs.YtknekneicecgiaaGreatDoor.M
open Go.Proofs.YtknekneicecgiaaGreatDoor.MB Go.Proofs.YtknekneicecgiaaGreatDoor
open Go.RowKit Go.Proofs.YtknekneicecgiaaGreatDoorW.PrintWords Go.Proofs.YtknekneicecgiaaGreatDoorW.PrintLast Go.Proofs.YtknekneicecgiaaGreatDoorW.PrintMore
attribute [local go_sem] max2_int min2_int max_two min_two max_three min_three max_four min_four   -- for this text's walks alone
set_option linter.unusedVariables false
set_option linter.unusedSimpArgs false
attribute [local go_sem] add64_run sub64_run

attribute [local go_sem high] eqA34 eqA51 eqA52

set_option maxHeartbeats 8000000 in
set_option maxRecDepth 100000 in
theorem isohyetlaw25_DataBack.calls (k : Nat) (A0 : Option Addr) (c0 : Nat) (l0 : List (S34)) (a1 : Int) (a2 : Int) (r : Bool) (w : World) (hr0 : Kd.C k34 w A0 l0.length l0) (hc0 : l0.length ≤ c0) (HT0 : MB.TabW w) (HTRUE : r = true) (h : isohyetlaw25_DataBack.f k l0 a1 a2 = some r) :
  Calls Tryz.prog 6 #[.slice A0 l0.length c0, .int .i64 a1, .int .i64 a2] w fun e w' => e = .returned (.bool r) ∧ Below w.heap.size w w' := by
 have hu34 := Tryz.underlying34
 have hu51 := Tryz.underlying51
 have hu52 := Tryz.underlying52
 have HR0 := aK hr0
 have HC0 := aK hc0
 clear hr0 hc0
 have HB := aK (Below.refl w.heap.size w)
 have H : ((isohyetlaw25_fit.f).bind fun t370 => (if t370 = true then (if (l0.length : Int) > 30 then (some true) else (isohyetlaw25_DataBack.l0 k a1 a2 ([] : List (S34)) ([] : List (S52)) (⟨#[]⟩ : ByteArray) (⟨#[]⟩ : ByteArray) l0 (l0.length : Int) 0)) else (some false))) = some r := h
 clear h
 replace H := Option.bind_eq_some_iff.mp H
 obtain ⟨t370, A40, H⟩ := H
 replace H : (if t370 = true then (if (l0.length : Int) > 30 then (some true) else (isohyetlaw25_DataBack.l0 k a1 a2 ([] : List (S34)) ([] : List (S52)) (⟨#[]⟩ : ByteArray) (⟨#[]⟩ : ByteArray) l0 (l0.length : Int) 0)) else (some false)) = some r := H
 have A4 := aK A40
 clear A40
 by_cases c5 : t370 = true
 rotate_left
 ·replace c5 := Bool.eq_false_iff.mpr c5
  subst c5
  replace H : (some false) = some r := by rw [if_neg (show ¬ (false = true) by decide)] at H; exact H
  exact absurd ((Option.some.inj H).trans HTRUE) (by decide)

 subst c5
 replace H : (if (l0.length : Int) > 30 then (some true) else (isohyetlaw25_DataBack.l0 k a1 a2 ([] : List (S34)) ([] : List (S52)) (⟨#[]⟩ : ByteArray) (⟨#[]⟩ : ByteArray) l0 (l0.length : Int) 0)) = some r := by rw [if_pos rfl] at H; exact H
 by_cases c6 : (l0.length : Int) > 30
 ·rw [if_pos c6] at H
  have c6b0 : decide (30 < (l0.length : Int)) = true := decide_eq_true c6
  have c6b1 : decide (30 < l0.length) = true := decide_eq_true (by omega)
  clear c6
  obtain rfl := Option.some.inj H
  go_enter Tryz.func6, Tryz.ntmps6
  go_wp2_with (first | ((with_reducible refine gate_callee (f := 8) rfl ?_); refine goesL_ (some 25) rfl rfl Tryz.func8 (by kernel_rfl) rfl #[] rfl (by (try simp only [List.map_toArray, List.map_cons, List.map_nil]); first | done | rfl | (simp only [List.length_drop, List.length_take]; rfl)) ?_; (with_reducible refine (isohyetlaw25_fit.calls  true _ (MB.tab_below HT0 (gB HB.out)) rfl A4.out).mono ?_); (try clear A4); rintro e w7 ⟨rfl, hb⟩; refine ⟨_, rfl, ?_⟩; replace HB := aK (below_step (gB HB.out) hb); (try clear hb); (try clear hb2); (try clear hk); (try clear hi)))
  go_ret
  exact ⟨by first | rfl | (simp [errW_none, errW_some] <;> rfl) | (simp [*, errW_none, errW_some] <;> rfl), by repeat (first | (with_reducible first | exact HB.out | apply bA | apply bN | apply bD) | exact HB.out)⟩
 rw [if_neg c6] at H
 have c6b0 : decide (30 < (l0.length : Int)) = false := decide_eq_false c6
 have c6b1 : decide (30 < l0.length) = false := decide_eq_false (by omega)
 clear c6
 have H' := aK H
 clear H
 go_enter Tryz.func6, Tryz.ntmps6
 go_wp2_with (first | ((with_reducible refine gate_callee (f := 8) rfl ?_); refine goesL_ (some 25) rfl rfl Tryz.func8 (by kernel_rfl) rfl #[] rfl (by (try simp only [List.map_toArray, List.map_cons, List.map_nil]); first | done | rfl | (simp only [List.length_drop, List.length_take]; rfl)) ?_; (with_reducible refine (isohyetlaw25_fit.calls  true _ (MB.tab_below HT0 (gB HB.out)) rfl A4.out).mono ?_); (try clear A4); rintro e w8 ⟨rfl, hb⟩; refine ⟨_, rfl, ?_⟩; replace HB := aK (below_step (gB HB.out) hb); (try clear hb); (try clear hb2); (try clear hk); (try clear hi)))
 go_loopg [8, 9, 10, 11, 32] k (fun kq v8 v9 v10 v11 v32 w' => ∃ (x8_1 : List (S34)) (x9_1 : List (S52)) (x10_1 : ByteArray) (x11_1 : ByteArray) (x32_1 : Int), v10 = .string x10_1 ∧ v11 = .string x11_1 ∧ v32 = .int .i64 x32_1 ∧ Aside0 (isohyetlaw25_DataBack.l0 kq a1 a2 x8_1 x9_1 x10_1 x11_1 l0 (l0.length : Int) x32_1 = some r) ∧ Aside0 (kq ≤ k) ∧ Aside0 (Kd.R k34 34 w' w.heap.size (fun _ => True) v8 x8_1) ∧ Aside0 (Kd.R k52 52 w' w.heap.size (fun _ => True) v9 x9_1) ∧ Aside0 (Below w.heap.size w w'))
 case atStart => exact ⟨(([] : List (S34))), (([] : List (S52))), ((⟨#[]⟩ : ByteArray)), ((⟨#[]⟩ : ByteArray)), (0), (by first | rfl | (simp; done) | (simp [*]; done)), (by first | rfl | (simp; done) | (simp [*]; done)), (by first | rfl | (simp; done) | (simp [*]; done)), H', ⟨Nat.le_refl _⟩, ⟨by first | exact Kd.R_nil _ _ _ _ _ | exact Kd.N_nil _ _ _ _ _ | exact Kd.V_nil _ _ _ _ _ | exact Kd.Q_nil _ _ _ _ _ | exact Kd.S_nil _ _ _ _ _⟩, ⟨by first | exact Kd.R_nil _ _ _ _ _ | exact Kd.N_nil _ _ _ _ _ | exact Kd.V_nil _ _ _ _ _ | exact Kd.Q_nil _ _ _ _ _ | exact Kd.S_nil _ _ _ _ _⟩, ⟨gB HB.out⟩⟩
 case round =>
  clear H'
  try clear p2
  try clear c5
  try clear c6
  try clear c6b0
  try clear c6b1
  try clear c8
  obtain ⟨x8_1, x9_1, x10_1, x11_1, x32_1, rfl, rfl, rfl, HA, HK1, HO_8, HO_9, HB⟩ := hrel
  cases gk with
  | zero => exact absurd HA.out (by simp [isohyetlaw25_DataBack.l0])
  | succ k1 =>
   have H := HA.out
   clear HA
   simp only [isohyetlaw25_DataBack.l0] at H
   by_cases c9 : x32_1 < (l0.length : Int)
   rotate_left
   ·rw [if_neg c9] at H
    have c9b0 : decide (x32_1 < (l0.length : Int)) = false := decide_eq_false c9
    clear c9
    replace H := Option.bind_eq_some_iff.mp H
    obtain ⟨⟨t394, t395, t396⟩, A960, H⟩ := H
    replace H : ((data_Faults.f k1 x11_1 a1).bind fun bt399 => ((data_PrintSamples.f k1 x8_1 a1 a2).bind fun t404 => (if t404.toList = x10_1.toList then ((data_PrintFaults.f k1 x9_1 a1).bind fun t405 => (if t405.toList = x11_1.toList then (if t396 = 0 then (if bt399.2.2 = 0 then (if (t394.length : Int) = (x8_1.length : Int) then (isohyetlaw25_DataBack.j1 k1 x8_1 x9_1 t394 bt399.1 ((bt399.1.length : Int) != (x9_1.length : Int))) else (isohyetlaw25_DataBack.j1 k1 x8_1 x9_1 t394 bt399.1 true)) else (isohyetlaw25_DataBack.j1 k1 x8_1 x9_1 t394 bt399.1 true)) else (isohyetlaw25_DataBack.j1 k1 x8_1 x9_1 t394 bt399.1 true)) else (isohyetlaw25_DataBack.j1 k1 x8_1 x9_1 t394 bt399.1 true))) else (isohyetlaw25_DataBack.j1 k1 x8_1 x9_1 t394 bt399.1 true)))) = some r := H
    have A96 := aK A960
    clear A960
    replace H := Option.bind_eq_some_iff.mp H
    obtain ⟨⟨t399, t400, t401⟩, A970, H⟩ := H
    replace H : ((data_PrintSamples.f k1 x8_1 a1 a2).bind fun t404 => (if t404.toList = x10_1.toList then ((data_PrintFaults.f k1 x9_1 a1).bind fun t405 => (if t405.toList = x11_1.toList then (if t396 = 0 then (if t401 = 0 then (if (t394.length : Int) = (x8_1.length : Int) then (isohyetlaw25_DataBack.j1 k1 x8_1 x9_1 t394 t399 ((t399.length : Int) != (x9_1.length : Int))) else (isohyetlaw25_DataBack.j1 k1 x8_1 x9_1 t394 t399 true)) else (isohyetlaw25_DataBack.j1 k1 x8_1 x9_1 t394 t399 true)) else (isohyetlaw25_DataBack.j1 k1 x8_1 x9_1 t394 t399 true)) else (isohyetlaw25_DataBack.j1 k1 x8_1 x9_1 t394 t399 true))) else (isohyetlaw25_DataBack.j1 k1 x8_1 x9_1 t394 t399 true))) = some r := H
    have A97 := aK A970
    clear A970
    have HC98 := aK H
    clear H
    go_upto_region 22 with (first | ((with_reducible refine gate_callee (f := 9) rfl ?_); refine goesL_ (some 129) rfl rfl Tryz.func9 (by kernel_rfl) rfl #[.string x10_1, .int .i64 a1, .int .i64 a2] rfl (by (try simp only [List.map_toArray, List.map_cons, List.map_nil]); first | done | rfl | (simp only [List.length_drop, List.length_take]; rfl)) ?_; (with_reducible refine (data_Samples.calls k1 x10_1 a1 a2 t394 t395 t396 _ (MB.tab_below HT0 (gB HB.out)) A96.out).mono ?_); (try clear A96); rintro e w99 ⟨v397, rfl, ho0, hb⟩; refine ⟨_, rfl, ?_⟩; have n0_ := aK (Kd.R_elder' (gR HO_8.out) (Kd.R_base ho0) hb); replace HO_9 := aK (Kd.R_below (gR HO_9.out) hb); have HO398 := aK (Kd.R_lower (Kd.R_new' ho0 (Kd.R_lt (gR HO_8.out))) (below_size (gB HB.out))); have n3_ := aK (below_step (gB HB.out) hb); clear HO_8 HB; have HO_8 := n0_; have HB := n3_; clear n0_ n3_; (try clear hb); (try clear hb2); (try clear hk); (try clear hi); (try clear ho0)) | ((with_reducible refine gate_callee (f := 12) rfl ?_); refine goesL_ (some 136) rfl rfl Tryz.func12 (by kernel_rfl) rfl #[.string x11_1, .int .i64 a1] rfl (by (try simp only [List.map_toArray, List.map_cons, List.map_nil]); first | done | rfl | (simp only [List.length_drop, List.length_take]; rfl)) ?_; (with_reducible refine (data_Faults.calls k1 x11_1 a1 t399 t400 t401 _ (MB.tab_below HT0 (gB HB.out)) A97.out).mono ?_); (try clear A97); rintro e w100 ⟨v402, rfl, ho0, hb⟩; refine ⟨_, rfl, ?_⟩; replace HO_8 := aK (Kd.R_below (gR HO_8.out) hb); have n1_ := aK (Kd.R_elder' (gR HO_9.out) (Kd.R_base ho0) hb); replace HO398 := aK (Kd.R_below (gR HO398.out) hb); have HO403 := aK (Kd.R_lower (Kd.R_new' ho0 (Kd.R_lt (gR HO_9.out))) (below_size (gB HB.out))); have n4_ := aK (below_step (gB HB.out) hb); clear HO_9 HB; have HO_9 := n1_; have HB := n4_; clear n1_ n4_; (try clear hb); (try clear hb2); (try clear hk); (try clear hi); (try clear ho0)))
    (try simp only [Act.put, List.setIfInBounds_toArray, List.set_cons_zero, List.set_cons_succ])
    go_cut [174] (fun v174 wc => ∃ (kq : Nat) (x174_97 : Bool), v174 = .bool x174_97 ∧ Aside0 (isohyetlaw25_DataBack.j1 kq x8_1 x9_1 t394 t399 x174_97 = some r) ∧ Aside0 (kq ≤ k1) ∧ Aside0 (Kd.R k34 34 wc w.heap.size (fun k_ => some k_ ≠ (v397 : Value).ownBlock) u8 x8_1) ∧ Aside0 (Kd.R k52 52 wc w.heap.size (fun k_ => some k_ ≠ (v402 : Value).ownBlock) u9 x9_1) ∧ Aside0 (Kd.R k34 34 wc w.heap.size (fun k_ => some k_ ≠ (u8 : Value).ownBlock) v397 t394) ∧ Aside0 (Kd.R k52 52 wc w.heap.size (fun k_ => some k_ ≠ (u9 : Value).ownBlock) v402 t399) ∧ Aside0 (Below w.heap.size w wc))
    case first =>
     have H := HC98.out
     clear HC98
     replace H := Option.bind_eq_some_iff.mp H
     obtain ⟨t404, A1010, H⟩ := H
     replace H : (if t404.toList = x10_1.toList then ((data_PrintFaults.f k1 x9_1 a1).bind fun t405 => (if t405.toList = x11_1.toList then (if t396 = 0 then (if t401 = 0 then (if (t394.length : Int) = (x8_1.length : Int) then (isohyetlaw25_DataBack.j1 k1 x8_1 x9_1 t394 t399 ((t399.length : Int) != (x9_1.length : Int))) else (isohyetlaw25_DataBack.j1 k1 x8_1 x9_1 t394 t399 true)) else (isohyetlaw25_DataBack.j1 k1 x8_1 x9_1 t394 t399 true)) else (isohyetlaw25_DataBack.j1 k1 x8_1 x9_1 t394 t399 true)) else (isohyetlaw25_DataBack.j1 k1 x8_1 x9_1 t394 t399 true))) else (isohyetlaw25_DataBack.j1 k1 x8_1 x9_1 t394 t399 true)) = some r := H
     have A101 := aK A1010
     clear A1010
     by_cases c102 : t404.toList = x10_1.toList
     rotate_left
     ·rw [if_neg c102] at H
      have c102b0 : (t404.toList == x10_1.toList) = false := beq_eq_false_iff_ne.mpr c102
      have c102b1 : (t404.toList != x10_1.toList) = true := bne_iff_ne.mpr c102
      (first | rw [c102b0] | rw [c102b1] | (simp only [i64_w, i32_w]; rw [c102b0]) | skip)
      have H' := aK H
      clear H
      obtain ⟨Ao131, co131, eo131⟩ := Kd.R_slice HO_8.out
      subst eo131
      go_wp2_with (first | ((with_reducible refine gate_callee (f := 16) rfl ?_); refine goesL_ (some 143) rfl rfl Tryz.func16 (by kernel_rfl) rfl #[.slice Ao131 x8_1.length co131, .int .i64 a1, .int .i64 a2] rfl (by (try simp only [List.map_toArray, List.map_cons, List.map_nil]); first | done | rfl | (simp only [List.length_drop, List.length_take]; rfl)) ?_; (with_reducible refine (data_PrintSamples.calls k1 _ _ x8_1 a1 a2 t404 _ ?side1 ?side2 A101.out).mono ?_); (case side1 => repeat (first | exact (Kd.R_reads' HO_8.out).2.2 | apply Kd.C_alloc | apply Kd.C_drewN | apply Kd.C_drew)); (case side2 => exact (Kd.R_reads' HO_8.out).2.1); (try clear A101); rintro e w132 ⟨rfl, hb⟩; refine ⟨_, rfl, ?_⟩; replace HO_8 := aK (Kd.R_below (gR HO_8.out) hb); replace HO_9 := aK (Kd.R_below (gR HO_9.out) hb); replace HO398 := aK (Kd.R_below (gR HO398.out) hb); replace HO403 := aK (Kd.R_below (gR HO403.out) hb); replace HB := aK (below_step (gB HB.out) hb); (try clear hb); (try clear hb2); (try clear hk); (try clear hi)))
      go_meet
      case rel => exact ⟨_, (true), (by first | rfl | (simp; done) | (simp [*]; done)), H', ⟨by have := HK1.out; first | omega | exact Nat.le_refl _⟩, ⟨by (with_reducible repeat (first | apply Kd.R_alloc | apply Kd.R_drewN | apply Kd.R_drew)); exact Kd.R_mono HO_8.out (fun _ hk => hk.2)⟩, ⟨by (with_reducible repeat (first | apply Kd.R_alloc | apply Kd.R_drewN | apply Kd.R_drew)); exact Kd.R_mono HO_9.out (fun _ hk => hk.2)⟩, ⟨by (with_reducible repeat (first | apply Kd.R_alloc | apply Kd.R_drewN | apply Kd.R_drew)); exact Kd.R_mono HO398.out (fun _ hk => hk.2)⟩, ⟨by (with_reducible repeat (first | apply Kd.R_alloc | apply Kd.R_drewN | apply Kd.R_drew)); exact Kd.R_mono HO403.out (fun _ hk => hk.2)⟩, ⟨gB HB.out⟩⟩
     rw [if_pos c102] at H
     have c102b0 : (t404.toList == x10_1.toList) = true := beq_iff_eq.mpr c102
     have c102b1 : (t404.toList != x10_1.toList) = false := bne_eq_false_iff_eq.mpr c102
     clear c102
     (first | rw [c102b0] | rw [c102b1] | (simp only [i64_w, i32_w]; rw [c102b0]) | skip)
     replace H := Option.bind_eq_some_iff.mp H
     obtain ⟨t405, A1030, H⟩ := H
     replace H : (if t405.toList = x11_1.toList then (if t396 = 0 then (if t401 = 0 then (if (t394.length : Int) = (x8_1.length : Int) then (isohyetlaw25_DataBack.j1 k1 x8_1 x9_1 t394 t399 ((t399.length : Int) != (x9_1.length : Int))) else (isohyetlaw25_DataBack.j1 k1 x8_1 x9_1 t394 t399 true)) else (isohyetlaw25_DataBack.j1 k1 x8_1 x9_1 t394 t399 true)) else (isohyetlaw25_DataBack.j1 k1 x8_1 x9_1 t394 t399 true)) else (isohyetlaw25_DataBack.j1 k1 x8_1 x9_1 t394 t399 true)) = some r := H
     have A103 := aK A1030
     clear A1030
     by_cases c104 : t405.toList = x11_1.toList
     rotate_left
     ·rw [if_neg c104] at H
      have c104b0 : (t405.toList == x11_1.toList) = false := beq_eq_false_iff_ne.mpr c104
      have c104b1 : (t405.toList != x11_1.toList) = true := bne_iff_ne.mpr c104
      have H' := aK H
      clear H
      obtain ⟨Ao127, co127, eo127⟩ := Kd.R_slice HO_8.out
      subst eo127
      go_wp2_with (first | ((with_reducible refine gate_callee (f := 16) rfl ?_); refine goesL_ (some 143) rfl rfl Tryz.func16 (by kernel_rfl) rfl #[.slice Ao127 x8_1.length co127, .int .i64 a1, .int .i64 a2] rfl (by (try simp only [List.map_toArray, List.map_cons, List.map_nil]); first | done | rfl | (simp only [List.length_drop, List.length_take]; rfl)) ?_; (with_reducible refine (data_PrintSamples.calls k1 _ _ x8_1 a1 a2 t404 _ ?side1 ?side2 A101.out).mono ?_); (case side1 => repeat (first | exact (Kd.R_reads' HO_8.out).2.2 | apply Kd.C_alloc | apply Kd.C_drewN | apply Kd.C_drew)); (case side2 => exact (Kd.R_reads' HO_8.out).2.1); (try clear A101); rintro e w128 ⟨rfl, hb⟩; refine ⟨_, rfl, ?_⟩; replace HO_8 := aK (Kd.R_below (gR HO_8.out) hb); replace HO_9 := aK (Kd.R_below (gR HO_9.out) hb); replace HO398 := aK (Kd.R_below (gR HO398.out) hb); replace HO403 := aK (Kd.R_below (gR HO403.out) hb); replace HB := aK (below_step (gB HB.out) hb); (try clear hb); (try clear hb2); (try clear hk); (try clear hi); obtain ⟨Ao129, co129, eo129⟩ := Kd.R_slice HO_9.out; subst eo129) | (go_at_call 17; (with_reducible refine (data_PrintFaults.calls k1 _ _ x9_1 a1 t405 _ ?side1 ?side2 A103.out).mono ?_); (case side1 => repeat (first | exact (Kd.R_reads' HO_9.out).2.2 | apply Kd.C_alloc | apply Kd.C_drewN | apply Kd.C_drew)); (case side2 => exact (Kd.R_reads' HO_9.out).2.1); (try clear A103); rintro e w130 ⟨rfl, hb⟩; replace HO_8 := aK (Kd.R_below (gR HO_8.out) hb); replace HO_9 := aK (Kd.R_below (gR HO_9.out) hb); replace HO398 := aK (Kd.R_below (gR HO398.out) hb); replace HO403 := aK (Kd.R_below (gR HO403.out) hb); replace HB := aK (below_step (gB HB.out) hb); (try clear hb); (try clear hb2); (try clear hk); (try clear hi)))
      go_meet
      case rel => exact ⟨_, (true), (by first | rfl | (simp; done) | (simp [*]; done)), H', ⟨by have := HK1.out; first | omega | exact Nat.le_refl _⟩, ⟨by (with_reducible repeat (first | apply Kd.R_alloc | apply Kd.R_drewN | apply Kd.R_drew)); exact Kd.R_mono HO_8.out (fun _ hk => hk.2)⟩, ⟨by (with_reducible repeat (first | apply Kd.R_alloc | apply Kd.R_drewN | apply Kd.R_drew)); exact Kd.R_mono HO_9.out (fun _ hk => hk.2)⟩, ⟨by (with_reducible repeat (first | apply Kd.R_alloc | apply Kd.R_drewN | apply Kd.R_drew)); exact Kd.R_mono HO398.out (fun _ hk => hk.2)⟩, ⟨by (with_reducible repeat (first | apply Kd.R_alloc | apply Kd.R_drewN | apply Kd.R_drew)); exact Kd.R_mono HO403.out (fun _ hk => hk.2)⟩, ⟨gB HB.out⟩⟩
     rw [if_pos c104] at H
     have c104b0 : (t405.toList == x11_1.toList) = true := beq_iff_eq.mpr c104
     have c104b1 : (t405.toList != x11_1.toList) = false := bne_eq_false_iff_eq.mpr c104
     clear c104
     by_cases c105 : t396 = 0
     rotate_left
     ·rw [if_neg c105] at H
      have c105b0 : (t396 == 0) = false := beq_eq_false_iff_ne.mpr c105
      have c105b1 : (t396 != 0) = true := bne_iff_ne.mpr c105
      have H' := aK H
      clear H
      obtain ⟨Ao123, co123, eo123⟩ := Kd.R_slice HO_8.out
      subst eo123
      go_wp2_with (first | ((with_reducible refine gate_callee (f := 16) rfl ?_); refine goesL_ (some 143) rfl rfl Tryz.func16 (by kernel_rfl) rfl #[.slice Ao123 x8_1.length co123, .int .i64 a1, .int .i64 a2] rfl (by (try simp only [List.map_toArray, List.map_cons, List.map_nil]); first | done | rfl | (simp only [List.length_drop, List.length_take]; rfl)) ?_; (with_reducible refine (data_PrintSamples.calls k1 _ _ x8_1 a1 a2 t404 _ ?side1 ?side2 A101.out).mono ?_); (case side1 => repeat (first | exact (Kd.R_reads' HO_8.out).2.2 | apply Kd.C_alloc | apply Kd.C_drewN | apply Kd.C_drew)); (case side2 => exact (Kd.R_reads' HO_8.out).2.1); (try clear A101); rintro e w124 ⟨rfl, hb⟩; refine ⟨_, rfl, ?_⟩; replace HO_8 := aK (Kd.R_below (gR HO_8.out) hb); replace HO_9 := aK (Kd.R_below (gR HO_9.out) hb); replace HO398 := aK (Kd.R_below (gR HO398.out) hb); replace HO403 := aK (Kd.R_below (gR HO403.out) hb); replace HB := aK (below_step (gB HB.out) hb); (try clear hb); (try clear hb2); (try clear hk); (try clear hi); obtain ⟨Ao125, co125, eo125⟩ := Kd.R_slice HO_9.out; subst eo125) | (go_at_call 17; (with_reducible refine (data_PrintFaults.calls k1 _ _ x9_1 a1 t405 _ ?side1 ?side2 A103.out).mono ?_); (case side1 => repeat (first | exact (Kd.R_reads' HO_9.out).2.2 | apply Kd.C_alloc | apply Kd.C_drewN | apply Kd.C_drew)); (case side2 => exact (Kd.R_reads' HO_9.out).2.1); (try clear A103); rintro e w126 ⟨rfl, hb⟩; replace HO_8 := aK (Kd.R_below (gR HO_8.out) hb); replace HO_9 := aK (Kd.R_below (gR HO_9.out) hb); replace HO398 := aK (Kd.R_below (gR HO398.out) hb); replace HO403 := aK (Kd.R_below (gR HO403.out) hb); replace HB := aK (below_step (gB HB.out) hb); (try clear hb); (try clear hb2); (try clear hk); (try clear hi)))
      go_meet
      case rel => exact ⟨_, (true), (by first | rfl | (simp; done) | (simp [*]; done)), H', ⟨by have := HK1.out; first | omega | exact Nat.le_refl _⟩, ⟨by (with_reducible repeat (first | apply Kd.R_alloc | apply Kd.R_drewN | apply Kd.R_drew)); exact Kd.R_mono HO_8.out (fun _ hk => hk.2)⟩, ⟨by (with_reducible repeat (first | apply Kd.R_alloc | apply Kd.R_drewN | apply Kd.R_drew)); exact Kd.R_mono HO_9.out (fun _ hk => hk.2)⟩, ⟨by (with_reducible repeat (first | apply Kd.R_alloc | apply Kd.R_drewN | apply Kd.R_drew)); exact Kd.R_mono HO398.out (fun _ hk => hk.2)⟩, ⟨by (with_reducible repeat (first | apply Kd.R_alloc | apply Kd.R_drewN | apply Kd.R_drew)); exact Kd.R_mono HO403.out (fun _ hk => hk.2)⟩, ⟨gB HB.out⟩⟩
     rw [if_pos c105] at H
     have c105b0 : (t396 == 0) = true := beq_iff_eq.mpr c105
     have c105b1 : (t396 != 0) = false := bne_eq_false_iff_eq.mpr c105
     clear c105
     by_cases c106 : t401 = 0
     rotate_left
     ·rw [if_neg c106] at H
      have c106b0 : (t401 == 0) = false := beq_eq_false_iff_ne.mpr c106
      have c106b1 : (t401 != 0) = true := bne_iff_ne.mpr c106
      have H' := aK H
      clear H
      obtain ⟨Ao119, co119, eo119⟩ := Kd.R_slice HO_8.out
      subst eo119
      go_wp2_with (first | ((with_reducible refine gate_callee (f := 16) rfl ?_); refine goesL_ (some 143) rfl rfl Tryz.func16 (by kernel_rfl) rfl #[.slice Ao119 x8_1.length co119, .int .i64 a1, .int .i64 a2] rfl (by (try simp only [List.map_toArray, List.map_cons, List.map_nil]); first | done | rfl | (simp only [List.length_drop, List.length_take]; rfl)) ?_; (with_reducible refine (data_PrintSamples.calls k1 _ _ x8_1 a1 a2 t404 _ ?side1 ?side2 A101.out).mono ?_); (case side1 => repeat (first | exact (Kd.R_reads' HO_8.out).2.2 | apply Kd.C_alloc | apply Kd.C_drewN | apply Kd.C_drew)); (case side2 => exact (Kd.R_reads' HO_8.out).2.1); (try clear A101); rintro e w120 ⟨rfl, hb⟩; refine ⟨_, rfl, ?_⟩; replace HO_8 := aK (Kd.R_below (gR HO_8.out) hb); replace HO_9 := aK (Kd.R_below (gR HO_9.out) hb); replace HO398 := aK (Kd.R_below (gR HO398.out) hb); replace HO403 := aK (Kd.R_below (gR HO403.out) hb); replace HB := aK (below_step (gB HB.out) hb); (try clear hb); (try clear hb2); (try clear hk); (try clear hi); obtain ⟨Ao121, co121, eo121⟩ := Kd.R_slice HO_9.out; subst eo121) | (go_at_call 17; (with_reducible refine (data_PrintFaults.calls k1 _ _ x9_1 a1 t405 _ ?side1 ?side2 A103.out).mono ?_); (case side1 => repeat (first | exact (Kd.R_reads' HO_9.out).2.2 | apply Kd.C_alloc | apply Kd.C_drewN | apply Kd.C_drew)); (case side2 => exact (Kd.R_reads' HO_9.out).2.1); (try clear A103); rintro e w122 ⟨rfl, hb⟩; replace HO_8 := aK (Kd.R_below (gR HO_8.out) hb); replace HO_9 := aK (Kd.R_below (gR HO_9.out) hb); replace HO398 := aK (Kd.R_below (gR HO398.out) hb); replace HO403 := aK (Kd.R_below (gR HO403.out) hb); replace HB := aK (below_step (gB HB.out) hb); (try clear hb); (try clear hb2); (try clear hk); (try clear hi)))
      go_meet
      case rel => exact ⟨_, (true), (by first | rfl | (simp; done) | (simp [*]; done)), H', ⟨by have := HK1.out; first | omega | exact Nat.le_refl _⟩, ⟨by (with_reducible repeat (first | apply Kd.R_alloc | apply Kd.R_drewN | apply Kd.R_drew)); exact Kd.R_mono HO_8.out (fun _ hk => hk.2)⟩, ⟨by (with_reducible repeat (first | apply Kd.R_alloc | apply Kd.R_drewN | apply Kd.R_drew)); exact Kd.R_mono HO_9.out (fun _ hk => hk.2)⟩, ⟨by (with_reducible repeat (first | apply Kd.R_alloc | apply Kd.R_drewN | apply Kd.R_drew)); exact Kd.R_mono HO398.out (fun _ hk => hk.2)⟩, ⟨by (with_reducible repeat (first | apply Kd.R_alloc | apply Kd.R_drewN | apply Kd.R_drew)); exact Kd.R_mono HO403.out (fun _ hk => hk.2)⟩, ⟨gB HB.out⟩⟩
     rw [if_pos c106] at H
     have c106b0 : (t401 == 0) = true := beq_iff_eq.mpr c106
     have c106b1 : (t401 != 0) = false := bne_eq_false_iff_eq.mpr c106
     clear c106
     by_cases c107 : (t394.length : Int) = (x8_1.length : Int)
     rotate_left
     ·rw [if_neg c107] at H
      have c107b0 : ((t394.length : Int) == (x8_1.length : Int)) = false := beq_eq_false_iff_ne.mpr c107
      have c107b1 : ((t394.length : Int) != (x8_1.length : Int)) = true := bne_iff_ne.mpr c107
      have c107b2 : (t394.length == x8_1.length) = false := by first | simpa using c107 | (simp at c107 ⊢; omega)
      have H' := aK H
      clear H
      obtain ⟨Ao114, co114, eo114⟩ := Kd.R_slice HO_8.out
      subst eo114
      go_wp2_with (first | ((with_reducible refine gate_callee (f := 16) rfl ?_); refine goesL_ (some 143) rfl rfl Tryz.func16 (by kernel_rfl) rfl #[.slice Ao114 x8_1.length co114, .int .i64 a1, .int .i64 a2] rfl (by (try simp only [List.map_toArray, List.map_cons, List.map_nil]); first | done | rfl | (simp only [List.length_drop, List.length_take]; rfl)) ?_; (with_reducible refine (data_PrintSamples.calls k1 _ _ x8_1 a1 a2 t404 _ ?side1 ?side2 A101.out).mono ?_); (case side1 => repeat (first | exact (Kd.R_reads' HO_8.out).2.2 | apply Kd.C_alloc | apply Kd.C_drewN | apply Kd.C_drew)); (case side2 => exact (Kd.R_reads' HO_8.out).2.1); (try clear A101); rintro e w115 ⟨rfl, hb⟩; refine ⟨_, rfl, ?_⟩; replace HO_8 := aK (Kd.R_below (gR HO_8.out) hb); replace HO_9 := aK (Kd.R_below (gR HO_9.out) hb); replace HO398 := aK (Kd.R_below (gR HO398.out) hb); replace HO403 := aK (Kd.R_below (gR HO403.out) hb); replace HB := aK (below_step (gB HB.out) hb); (try clear hb); (try clear hb2); (try clear hk); (try clear hi); obtain ⟨Ao116, co116, eo116⟩ := Kd.R_slice HO_9.out; subst eo116) | (go_at_call 17; (with_reducible refine (data_PrintFaults.calls k1 _ _ x9_1 a1 t405 _ ?side1 ?side2 A103.out).mono ?_); (case side1 => repeat (first | exact (Kd.R_reads' HO_9.out).2.2 | apply Kd.C_alloc | apply Kd.C_drewN | apply Kd.C_drew)); (case side2 => exact (Kd.R_reads' HO_9.out).2.1); (try clear A103); rintro e w117 ⟨rfl, hb⟩; replace HO_8 := aK (Kd.R_below (gR HO_8.out) hb); replace HO_9 := aK (Kd.R_below (gR HO_9.out) hb); replace HO398 := aK (Kd.R_below (gR HO398.out) hb); replace HO403 := aK (Kd.R_below (gR HO403.out) hb); replace HB := aK (below_step (gB HB.out) hb); (try clear hb); (try clear hb2); (try clear hk); (try clear hi); obtain ⟨Ao118, co118, eo118⟩ := Kd.R_slice HO398.out; subst eo118))
      go_meet
      case rel => exact ⟨_, (true), (by first | rfl | (simp; done) | (simp [*]; done)), H', ⟨by have := HK1.out; first | omega | exact Nat.le_refl _⟩, ⟨by (with_reducible repeat (first | apply Kd.R_alloc | apply Kd.R_drewN | apply Kd.R_drew)); exact Kd.R_mono HO_8.out (fun _ hk => hk.2)⟩, ⟨by (with_reducible repeat (first | apply Kd.R_alloc | apply Kd.R_drewN | apply Kd.R_drew)); exact Kd.R_mono HO_9.out (fun _ hk => hk.2)⟩, ⟨by (with_reducible repeat (first | apply Kd.R_alloc | apply Kd.R_drewN | apply Kd.R_drew)); exact Kd.R_mono HO398.out (fun _ hk => hk.2)⟩, ⟨by (with_reducible repeat (first | apply Kd.R_alloc | apply Kd.R_drewN | apply Kd.R_drew)); exact Kd.R_mono HO403.out (fun _ hk => hk.2)⟩, ⟨gB HB.out⟩⟩
     rw [if_pos c107] at H
     have c107b0 : ((t394.length : Int) == (x8_1.length : Int)) = true := beq_iff_eq.mpr c107
     have c107b1 : ((t394.length : Int) != (x8_1.length : Int)) = false := bne_eq_false_iff_eq.mpr c107
     have c107b2 : (t394.length == x8_1.length) = true := by first | simpa using c107 | (simp at c107 ⊢; omega)
     clear c107
     have H' := aK H
     clear H
     obtain ⟨Ao108, co108, eo108⟩ := Kd.R_slice HO_8.out
     subst eo108
     go_wp2_with (first | ((with_reducible refine gate_callee (f := 16) rfl ?_); refine goesL_ (some 143) rfl rfl Tryz.func16 (by kernel_rfl) rfl #[.slice Ao108 x8_1.length co108, .int .i64 a1, .int .i64 a2] rfl (by (try simp only [List.map_toArray, List.map_cons, List.map_nil]); first | done | rfl | (simp only [List.length_drop, List.length_take]; rfl)) ?_; (with_reducible refine (data_PrintSamples.calls k1 _ _ x8_1 a1 a2 t404 _ ?side1 ?side2 A101.out).mono ?_); (case side1 => repeat (first | exact (Kd.R_reads' HO_8.out).2.2 | apply Kd.C_alloc | apply Kd.C_drewN | apply Kd.C_drew)); (case side2 => exact (Kd.R_reads' HO_8.out).2.1); (try clear A101); rintro e w109 ⟨rfl, hb⟩; refine ⟨_, rfl, ?_⟩; replace HO_8 := aK (Kd.R_below (gR HO_8.out) hb); replace HO_9 := aK (Kd.R_below (gR HO_9.out) hb); replace HO398 := aK (Kd.R_below (gR HO398.out) hb); replace HO403 := aK (Kd.R_below (gR HO403.out) hb); replace HB := aK (below_step (gB HB.out) hb); (try clear hb); (try clear hb2); (try clear hk); (try clear hi); obtain ⟨Ao110, co110, eo110⟩ := Kd.R_slice HO_9.out; subst eo110) | (go_at_call 17; (with_reducible refine (data_PrintFaults.calls k1 _ _ x9_1 a1 t405 _ ?side1 ?side2 A103.out).mono ?_); (case side1 => repeat (first | exact (Kd.R_reads' HO_9.out).2.2 | apply Kd.C_alloc | apply Kd.C_drewN | apply Kd.C_drew)); (case side2 => exact (Kd.R_reads' HO_9.out).2.1); (try clear A103); rintro e w111 ⟨rfl, hb⟩; replace HO_8 := aK (Kd.R_below (gR HO_8.out) hb); replace HO_9 := aK (Kd.R_below (gR HO_9.out) hb); replace HO398 := aK (Kd.R_below (gR HO398.out) hb); replace HO403 := aK (Kd.R_below (gR HO403.out) hb); replace HB := aK (below_step (gB HB.out) hb); (try clear hb); (try clear hb2); (try clear hk); (try clear hi); obtain ⟨Ao112, co112, eo112⟩ := Kd.R_slice HO398.out; subst eo112; obtain ⟨Ao113, co113, eo113⟩ := Kd.R_slice HO403.out; subst eo113))
     go_meet
     case rel => exact ⟨_, (((t399.length : Int) != (x9_1.length : Int))), (by first | rfl | (simp; done) | (simp [*]; done)), H', ⟨by have := HK1.out; first | omega | exact Nat.le_refl _⟩, ⟨by (with_reducible repeat (first | apply Kd.R_alloc | apply Kd.R_drewN | apply Kd.R_drew)); exact Kd.R_mono HO_8.out (fun _ hk => hk.2)⟩, ⟨by (with_reducible repeat (first | apply Kd.R_alloc | apply Kd.R_drewN | apply Kd.R_drew)); exact Kd.R_mono HO_9.out (fun _ hk => hk.2)⟩, ⟨by (with_reducible repeat (first | apply Kd.R_alloc | apply Kd.R_drewN | apply Kd.R_drew)); exact Kd.R_mono HO398.out (fun _ hk => hk.2)⟩, ⟨by (with_reducible repeat (first | apply Kd.R_alloc | apply Kd.R_drewN | apply Kd.R_drew)); exact Kd.R_mono HO403.out (fun _ hk => hk.2)⟩, ⟨gB HB.out⟩⟩
    case rest =>
     clear HC98
     try clear c1
     try clear c2
     try clear p2
     try clear p6
     try clear c8
     try clear c9
     try clear c9b0
     try clear c10
     try clear c11
     try clear c12
     try clear c14
     try clear c15
     try clear c16
     try clear c17
     try clear c19
     try clear c20
     try clear c22
     try clear c23
     try clear c24
     try clear p64
     try clear c89
     try clear c102
     try clear c102b0
     try clear c102b1
     try clear c104
     try clear c104b0
     try clear c104b1
     try clear c105
     try clear c105b0
     try clear c105b1
     try clear c106
     try clear c106b0
     try clear c106b1
     try clear c107
     try clear c107b0
     try clear c107b1
     try clear c107b2
     try clear hcz90_0
     try clear hcz90_1
     try clear hcz90_2
     try clear hfz90_0
     try clear hfz90_1
     try clear hfz90_2
     obtain ⟨kq, x174_97, rfl, HA, HJ97, HO_8, HO_9, HO_17, HO_20, HB⟩ := hcut
     cases kq with
     | zero => exact absurd HA.out (by simp [isohyetlaw25_DataBack.j1])
     | succ kj97 =>
      have H := HA.out
      clear HA
      simp only [isohyetlaw25_DataBack.j1] at H
      by_cases c133 : x174_97 = true
      ·subst c133
       replace H : (some false) = some r := by rw [if_pos rfl] at H; exact H
       exact absurd ((Option.some.inj H).trans HTRUE) (by decide)
      replace c133 := Bool.eq_false_iff.mpr c133
      subst c133
      replace H : (isohyetlaw25_DataBack.l1 kj97 x8_1 x9_1 t394 t399 (x8_1.length : Int) 0) = some r := by rw [if_neg (show ¬ (false = true) by decide)] at H; exact H
      have H' := aK H
      clear H
      obtain ⟨Ao134, co134, eo134⟩ := Kd.R_slice HO_8.out
      subst eo134
      go_wp2
      go_loopg [177] kj97 (fun kq v177 w' => ∃ (x177_3 : Int), v177 = .int .i64 x177_3 ∧ Aside0 (isohyetlaw25_DataBack.l1 kq x8_1 x9_1 t394 t399 (x8_1.length : Int) x177_3 = some r) ∧ Aside0 (kq ≤ kj97) ∧ Aside0 (Kd.R k34 34 w' w.heap.size (fun k_ => some k_ ≠ (v397 : Value).ownBlock) (.slice Ao134 x8_1.length co134) x8_1) ∧ Aside0 (Kd.R k52 52 w' w.heap.size (fun k_ => some k_ ≠ (v402 : Value).ownBlock) u9 x9_1) ∧ Aside0 (Kd.R k34 34 w' w.heap.size (fun k_ => some k_ ≠ ((.slice Ao134 x8_1.length co134) : Value).ownBlock) v397 t394) ∧ Aside0 (Kd.R k52 52 w' w.heap.size (fun k_ => some k_ ≠ (u9 : Value).ownBlock) v402 t399) ∧ Aside0 (Below w.heap.size w w'))
      case atStart => exact ⟨(0), (by first | rfl | (simp; done) | (simp [*]; done)), H', ⟨Nat.le_refl _⟩, ⟨gR HO_8.out⟩, ⟨gR HO_9.out⟩, ⟨gR HO_17.out⟩, ⟨gR HO_20.out⟩, ⟨gB HB.out⟩⟩
      case round =>
       clear H'
       try clear c1
       try clear c2
       try clear p2
       try clear p6
       try clear c8
       try clear c9
       try clear c9b0
       try clear c10
       try clear c11
       try clear c12
       try clear c13
       try clear c14
       try clear c15
       try clear c16
       try clear c17
       try clear c19
       try clear c20
       try clear c22
       try clear c23
       try clear c24
       try clear p64
       try clear c89
       try clear c102
       try clear c102b0
       try clear c102b1
       try clear c104
       try clear c104b0
       try clear c104b1
       try clear c105
       try clear c105b0
       try clear c105b1
       try clear c106
       try clear c106b0
       try clear c106b1
       try clear c107
       try clear c107b0
       try clear c107b1
       try clear c107b2
       try clear c133
       try clear hcz90_0
       try clear hcz90_1
       try clear hcz90_2
       try clear hfz90_0
       try clear hfz90_1
       try clear hfz90_2
       try clear p2
       try clear p6
       try clear p64
       obtain ⟨x177_3, rfl, HA, HK3, HO_8, HO_9, HO_17, HO_20, HB⟩ := hrel
       cases gk with
       | zero => exact absurd HA.out (by simp [isohyetlaw25_DataBack.l1])
       | succ k3 =>
        have H := HA.out
        clear HA
        simp only [isohyetlaw25_DataBack.l1] at H
        by_cases c135 : x177_3 < (x8_1.length : Int)
        ·rw [if_pos c135] at H
         have c135b0 : decide (x177_3 < (x8_1.length : Int)) = true := decide_eq_true c135
         clear c135
         by_cases c136 : 0 ≤ x177_3
         rotate_left
         ·rw [if_neg c136] at H
          exact absurd H (by simp)
         rw [if_pos c136] at H
         have c136b0 : decide (0 ≤ x177_3) = true := decide_eq_true c136
         clear c136
         by_cases c137 : x177_3 < (t394.length : Int)
         rotate_left
         ·rw [if_neg c137] at H
          exact absurd H (by simp)
         rw [if_pos c137] at H
         have c137b0 : decide (x177_3 < (t394.length : Int)) = true := decide_eq_true c137
         clear c137
         by_cases c138 : x177_3 < (x8_1.length : Int)
         rotate_left
         ·rw [if_neg c138] at H
          exact absurd H (by simp)
         rw [if_pos c138] at H
         have c138b0 : decide (x177_3 < (x8_1.length : Int)) = true := decide_eq_true c138
         clear c138
         by_cases c139 : (!(((rd_T34 t394 x177_3).f0) == ((rd_T34 x8_1 x177_3).f0)) || (!(((rd_T34 t394 x177_3).f1) == ((rd_T34 x8_1 x177_3).f1)) || (!(((rd_T34 t394 x177_3).f2) == ((rd_T34 x8_1 x177_3).f2))))) = true
         ·rw [if_pos c139] at H
          have c139b0 : (!(((rd_T34 t394 x177_3).f0) == ((rd_T34 x8_1 x177_3).f0)) || (!(((rd_T34 t394 x177_3).f1) == ((rd_T34 x8_1 x177_3).f1)) || (!(((rd_T34 t394 x177_3).f2) == ((rd_T34 x8_1 x177_3).f2))))) = true := c139
          clear c139
          exact absurd ((Option.some.inj H).trans HTRUE) (by decide)
         rw [if_neg c139] at H
         have c139b0 : (!(((rd_T34 t394 x177_3).f0) == ((rd_T34 x8_1 x177_3).f0)) || (!(((rd_T34 t394 x177_3).f1) == ((rd_T34 x8_1 x177_3).f1)) || (!(((rd_T34 t394 x177_3).f2) == ((rd_T34 x8_1 x177_3).f2))))) = false := by simpa using c139
         clear c139
         have H' := aK H
         clear H
         try go_wp2
         replace HO_8 := aK (Kd.R_drew HO_8.out)
         replace HO_9 := aK (Kd.R_drew HO_9.out)
         replace HO_17 := aK (Kd.R_drew HO_17.out)
         replace HO_20 := aK (Kd.R_drew HO_20.out)
         replace HB := aK (bD HB.out)
         obtain ⟨Ao141, co141, eo141⟩ := Kd.R_slice HO_17.out
         (first | subst eo141 | (injection eo141 with f1_ f2_ f3_; have f4_ := f1_.symm; have f5_ := f3_.symm; clear f1_ f2_ f3_; subst f4_; subst f5_))
         have p406 : 0 ≤ (x177_3 : Int) := of_decide_eq_true (by first | (with_reducible assumption) | assumption)
         have q406 : x177_3 < (t394.length : Int) := of_decide_eq_true (by first | (with_reducible assumption) | assumption)
         obtain ⟨ad406, e406, hx406_0, hx406_1, hx406_2⟩ := at_T34 (Kd.R_reads' HO_17.out).2.2 x177_3 p406 q406
         cases e406
         replace p406 := eq_true p406
         replace q406 := eq_true q406
         have p407 : 0 ≤ (x177_3 : Int) := of_decide_eq_true (by first | (with_reducible assumption) | assumption)
         have q407 : x177_3 < (x8_1.length : Int) := of_decide_eq_true (by first | (with_reducible assumption) | assumption)
         obtain ⟨ad407, e407, hx407_0, hx407_1, hx407_2⟩ := at_T34 (Kd.R_reads' HO_8.out).2.2 x177_3 p407 q407
         cases e407
         replace p407 := eq_true p407
         replace q407 := eq_true q407
         refine start_ (n := 9) (S := fun w' => w'.cell? (ad406.add ((x177_3).toNat * 3)) = some (.int .i64 ((rd_T34 t394 x177_3).f0)) ∧ w'.cell? ⟨(ad406.add ((x177_3).toNat * 3)).block, (ad406.add ((x177_3).toNat * 3)).off + 1, none⟩ = some (.int .i64 ((rd_T34 t394 x177_3).f1)) ∧ w'.cell? ⟨(ad406.add ((x177_3).toNat * 3)).block, (ad406.add ((x177_3).toNat * 3)).off + 2, none⟩ = some (.int .i64 ((rd_T34 t394 x177_3).f2)) ∧ w'.cell? (ad407.add ((x177_3).toNat * 3)) = some (.int .i64 ((rd_T34 x8_1 x177_3).f0)) ∧ w'.cell? ⟨(ad407.add ((x177_3).toNat * 3)).block, (ad407.add ((x177_3).toNat * 3)).off + 1, none⟩ = some (.int .i64 ((rd_T34 x8_1 x177_3).f1)) ∧ w'.cell? ⟨(ad407.add ((x177_3).toNat * 3)).block, (ad407.add ((x177_3).toNat * 3)).off + 2, none⟩ = some (.int .i64 ((rd_T34 x8_1 x177_3).f2))) (ds := []) #[false, false, false, false, false, false, false, false, false] (by kernel_rfl) rfl rfl ⟨hx406_0, hx406_1, hx406_2, hx407_0, hx407_1, hx407_2⟩ (fun hHeld => ?_); refine with_tabW isohyetlaw25_DataBack.tab27 isohyetlaw25_DataBack.bits27 (fun HT_ HW_ => ?_)
         generalize wr.drew = w140 at HO_8 HO_9 HO_17 HO_20 HB hx406_0 hx406_1 hx406_2 hx407_0 hx407_1 hx407_2 hHeld ⊢
         refine pure_ (i := 0) (N := some 180) (v := ?_) (a' := ?_) #[true, false, false, false, false, false, false, false, false] rfl rfl (any_of HT_.out (by kernel_rfl)) (fun _ _ _ h => h) (Or.inl ⟨by rfl, ?_⟩) ?_ ?_
         rotate_left
         ·intro w'
          go_simp
          with_reducible rfl
         rotate_left
         ·simp only [Act.put, List.setIfInBounds_toArray, List.set_cons_zero, List.set_cons_succ, i64_w, i32_w]
          rfl
         refine pure_ (i := 1) (N := some 181) (v := ?_) (a' := ?_) #[true, true, false, false, false, false, false, false, false] rfl rfl (any_of HT_.out (by kernel_rfl)) (fun _ _ _ h => h) (Or.inl ⟨by rfl, ?_⟩) ?_ ?_
         rotate_left
         ·intro w'
          go_simp
          with_reducible rfl
         rotate_left
         ·simp only [Act.put, List.setIfInBounds_toArray, List.set_cons_zero, List.set_cons_succ, i64_w, i32_w]
          rfl
         refine pure_ (i := 2) (N := some 182) (v := ?_) (a' := ?_) #[true, true, true, false, false, false, false, false, false] rfl rfl (any_of HT_.out (by kernel_rfl)) (fun _ _ _ h => h) (Or.inl ⟨by rfl, ?_⟩) ?_ ?_
         rotate_left
         ·intro w'
          go_simp
          with_reducible rfl
         rotate_left
         ·simp only [Act.put, List.setIfInBounds_toArray, List.set_cons_zero, List.set_cons_succ, i64_w, i32_w]
          rfl
         refine pure_ (i := 4) (N := some 184) (v := ?_) (a' := ?_) #[true, true, true, false, true, false, false, false, false] rfl rfl (any_of HT_.out (by kernel_rfl)) (fun _ _ _ h => h) (Or.inl ⟨by rfl, ?_⟩) ?_ ?_
         rotate_left
         ·intro w'
          go_simp
          with_reducible rfl
         rotate_left
         ·simp only [Act.put, List.setIfInBounds_toArray, List.set_cons_zero, List.set_cons_succ, i64_w, i32_w]
          rfl
         refine pure_ (i := 5) (N := some 185) (v := ?_) (a' := ?_) #[true, true, true, false, true, true, false, false, false] rfl rfl (any_of HT_.out (by kernel_rfl)) (fun _ _ _ h => h) (Or.inl ⟨by rfl, ?_⟩) ?_ ?_
         rotate_left
         ·intro w'
          go_simp
          with_reducible rfl
         rotate_left
         ·simp only [Act.put, List.setIfInBounds_toArray, List.set_cons_zero, List.set_cons_succ, i64_w, i32_w]
          rfl
         refine pure_ (i := 6) (N := some 186) (v := ?_) (a' := ?_) #[true, true, true, false, true, true, true, false, false] rfl rfl (any_of HT_.out (by kernel_rfl)) (fun _ _ _ h => h) (Or.inl ⟨by rfl, ?_⟩) ?_ ?_
         rotate_left
         ·intro w'
          go_simp
          with_reducible rfl
         rotate_left
         ·simp only [Act.put, List.setIfInBounds_toArray, List.set_cons_zero, List.set_cons_succ, i64_w, i32_w]
          rfl
         refine take_ (i := 3) (N := some 183) (v := ?_) (a' := ?_) #[true, true, true, true, true, true, true, false, false] rfl rfl (take_ofW HT_.out HW_.out (by kernel_rfl)) (fun _ _ _ h => h) (Or.inl ⟨by rfl, ?_⟩) hHeld ?_ ?_
         rotate_left
         ·rintro w' ⟨s0, s1, s2, s3, s4, s5⟩
          go_simp
          with_reducible rfl
         rotate_left
         ·simp only [Act.put, List.setIfInBounds_toArray, List.set_cons_zero, List.set_cons_succ, i64_w, i32_w]
          rfl
         refine take_ (i := 7) (N := some 187) (v := ?_) (a' := ?_) #[true, true, true, true, true, true, true, true, false] rfl rfl (take_ofW HT_.out HW_.out (by kernel_rfl)) (fun _ _ _ h => h) (Or.inl ⟨by rfl, ?_⟩) hHeld ?_ ?_
         rotate_left
         ·rintro w' ⟨s0, s1, s2, s3, s4, s5⟩
          go_simp
          with_reducible rfl
         rotate_left
         ·simp only [Act.put, List.setIfInBounds_toArray, List.set_cons_zero, List.set_cons_succ, i64_w, i32_w]
          rfl
         refine pure_ (i := 8) (N := some 188) (v := ?_) (a' := ?_) #[true, true, true, true, true, true, true, true, true] rfl rfl (any_of HT_.out (by kernel_rfl)) (fun _ _ _ h => h) (Or.inl ⟨by rfl, ?_⟩) ?_ ?_
         rotate_left
         ·intro w'
          go_simp
          with_reducible rfl
         rotate_left
         ·simp only [Act.put, List.setIfInBounds_toArray, List.set_cons_zero, List.set_cons_succ, i64_w, i32_w]
          rfl
         refine done_ (done_of HT_.out (by kernel_rfl)) ?_
         try go_wp2
         go_roundg k3
         case measure => have := HK1.out; have := HJ97.out; have := HK3.out; omega
         case rel => exact ⟨(wrap64 (x177_3 + 1)), (by first | rfl | (simp; done) | (simp [*]; done)), H', ⟨by have := HK1.out; have := HJ97.out; have := HK3.out; omega⟩, ⟨gR HO_8.out⟩, ⟨gR HO_9.out⟩, ⟨gR HO_17.out⟩, ⟨gR HO_20.out⟩, ⟨gB HB.out⟩⟩
        rw [if_neg c135] at H
        have c135b0 : decide (x177_3 < (x8_1.length : Int)) = false := decide_eq_false c135
        clear c135
        have H' := aK H
        clear H
        obtain ⟨Ao142, co142, eo142⟩ := Kd.R_slice HO_9.out
        subst eo142
        go_wp2
        go_loopg [192] k3 (fun kq v192 w' => ∃ (x192_4 : Int), v192 = .int .i64 x192_4 ∧ Aside0 (isohyetlaw25_DataBack.l2 kq x9_1 t399 (x9_1.length : Int) x192_4 = some r) ∧ Aside0 (kq ≤ k3) ∧ Aside0 (Kd.R k52 52 w' w.heap.size (fun k_ => some k_ ≠ (v402 : Value).ownBlock) (.slice Ao142 x9_1.length co142) x9_1) ∧ Aside0 (Kd.R k52 52 w' w.heap.size (fun k_ => some k_ ≠ ((.slice Ao142 x9_1.length co142) : Value).ownBlock) v402 t399) ∧ Aside0 (Below w.heap.size w w'))
        case atStart => exact ⟨(0), (by first | rfl | (simp; done) | (simp [*]; done)), H', ⟨Nat.le_refl _⟩, ⟨gR HO_9.out⟩, ⟨gR HO_20.out⟩, ⟨gB HB.out⟩⟩
        case round =>
         clear H'
         try clear c1
         try clear c2
         try clear p2
         try clear p4
         try clear q4
         try clear hx4
         try clear p6
         try clear c8
         try clear c9
         try clear c9b0
         try clear c10
         try clear c11
         try clear c12
         try clear c13
         try clear c14
         try clear c15
         try clear c16
         try clear c17
         try clear c19
         try clear c20
         try clear c22
         try clear c23
         try clear c24
         try clear p40
         try clear q40
         try clear hx40
         try clear p64
         try clear c89
         try clear c102
         try clear c102b0
         try clear c102b1
         try clear c104
         try clear c104b0
         try clear c104b1
         try clear c105
         try clear c105b0
         try clear c105b1
         try clear c106
         try clear c106b0
         try clear c106b1
         try clear c107
         try clear c107b0
         try clear c107b1
         try clear c107b2
         try clear c133
         try clear c135
         try clear c135b0
         try clear c136
         try clear c136b0
         try clear c137
         try clear c137b0
         try clear c138
         try clear c138b0
         try clear c139
         try clear c139b0
         try clear hcz90_0
         try clear hcz90_1
         try clear hcz90_2
         try clear hfz90_0
         try clear hfz90_1
         try clear hfz90_2
         try clear hx406_0
         try clear hx406_1
         try clear hx406_2
         try clear hx407_0
         try clear hx407_1
         try clear hx407_2
         try clear p2
         try clear p406
         try clear p407
         try clear p6
         try clear p64
         try clear q406
         try clear q407
         obtain ⟨x192_4, rfl, HA, HK4, HO_9, HO_20, HB⟩ := hrel
         cases gk with
         | zero => exact absurd HA.out (by simp [isohyetlaw25_DataBack.l2])
         | succ k4 =>
          have H := HA.out
          clear HA
          simp only [isohyetlaw25_DataBack.l2] at H
          by_cases c143 : x192_4 < (x9_1.length : Int)
          rotate_left
          ·rw [if_neg c143] at H
           have c143b0 : decide (x192_4 < (x9_1.length : Int)) = false := decide_eq_false c143
           clear c143
           obtain rfl := Option.some.inj H
           go_wp2
           go_ret
           exact ⟨by first | rfl | (simp [errW_none, errW_some] <;> rfl) | (simp [*, errW_none, errW_some] <;> rfl), by repeat (first | (with_reducible first | exact HB.out | apply bA | apply bN | apply bD) | exact HB.out)⟩
          rw [if_pos c143] at H
          have c143b0 : decide (x192_4 < (x9_1.length : Int)) = true := decide_eq_true c143
          clear c143
          by_cases c144 : 0 ≤ x192_4
          rotate_left
          ·rw [if_neg c144] at H
           exact absurd H (by simp)
          rw [if_pos c144] at H
          have c144b0 : decide (0 ≤ x192_4) = true := decide_eq_true c144
          clear c144
          by_cases c145 : x192_4 < (t399.length : Int)
          rotate_left
          ·rw [if_neg c145] at H
           exact absurd H (by simp)
          rw [if_pos c145] at H
          have c145b0 : decide (x192_4 < (t399.length : Int)) = true := decide_eq_true c145
          clear c145
          by_cases c146 : x192_4 < (x9_1.length : Int)
          rotate_left
          ·rw [if_neg c146] at H
           exact absurd H (by simp)
          rw [if_pos c146] at H
          have c146b0 : decide (x192_4 < (x9_1.length : Int)) = true := decide_eq_true c146
          clear c146
          by_cases c147 : ((!(((rd_T52 t399 x192_4).f0.f0) == ((rd_T52 x9_1 x192_4).f0.f0)) || (!(((rd_T52 t399 x192_4).f0.f1) == ((rd_T52 x9_1 x192_4).f0.f1)))) || ((!(((rd_T52 t399 x192_4).f1.f0) == ((rd_T52 x9_1 x192_4).f1.f0)) || (!(((rd_T52 t399 x192_4).f1.f1) == ((rd_T52 x9_1 x192_4).f1.f1)))))) = true
          ·rw [if_pos c147] at H
           have c147b0 : ((!(((rd_T52 t399 x192_4).f0.f0) == ((rd_T52 x9_1 x192_4).f0.f0)) || (!(((rd_T52 t399 x192_4).f0.f1) == ((rd_T52 x9_1 x192_4).f0.f1)))) || ((!(((rd_T52 t399 x192_4).f1.f0) == ((rd_T52 x9_1 x192_4).f1.f0)) || (!(((rd_T52 t399 x192_4).f1.f1) == ((rd_T52 x9_1 x192_4).f1.f1)))))) = true := c147
           clear c147
           exact absurd ((Option.some.inj H).trans HTRUE) (by decide)
          rw [if_neg c147] at H
          have c147b0 : ((!(((rd_T52 t399 x192_4).f0.f0) == ((rd_T52 x9_1 x192_4).f0.f0)) || (!(((rd_T52 t399 x192_4).f0.f1) == ((rd_T52 x9_1 x192_4).f0.f1)))) || ((!(((rd_T52 t399 x192_4).f1.f0) == ((rd_T52 x9_1 x192_4).f1.f0)) || (!(((rd_T52 t399 x192_4).f1.f1) == ((rd_T52 x9_1 x192_4).f1.f1)))))) = false := by simpa using c147
          clear c147
          have H' := aK H
          clear H
          try go_wp2
          replace HO_9 := aK (Kd.R_drew HO_9.out)
          replace HO_20 := aK (Kd.R_drew HO_20.out)
          replace HB := aK (bD HB.out)
          obtain ⟨Ao149, co149, eo149⟩ := Kd.R_slice HO_20.out
          (first | subst eo149 | (injection eo149 with f1_ f2_ f3_; have f4_ := f1_.symm; have f5_ := f3_.symm; clear f1_ f2_ f3_; subst f4_; subst f5_))
          have p408 : 0 ≤ (x192_4 : Int) := of_decide_eq_true (by first | (with_reducible assumption) | assumption)
          have q408 : x192_4 < (t399.length : Int) := of_decide_eq_true (by first | (with_reducible assumption) | assumption)
          obtain ⟨ad408, e408, hx408_0, hx408_1, hx408_2, hx408_3⟩ := at_T52 (Kd.R_reads' HO_20.out).2.2 x192_4 p408 q408
          cases e408
          replace p408 := eq_true p408
          replace q408 := eq_true q408
          have p409 : 0 ≤ (x192_4 : Int) := of_decide_eq_true (by first | (with_reducible assumption) | assumption)
          have q409 : x192_4 < (x9_1.length : Int) := of_decide_eq_true (by first | (with_reducible assumption) | assumption)
          obtain ⟨ad409, e409, hx409_0, hx409_1, hx409_2, hx409_3⟩ := at_T52 (Kd.R_reads' HO_9.out).2.2 x192_4 p409 q409
          cases e409
          replace p409 := eq_true p409
          replace q409 := eq_true q409
          refine start_ (n := 9) (S := fun w' => w'.cell? (ad408.add ((x192_4).toNat * 4)) = some (.int .i64 ((rd_T52 t399 x192_4).f0.f0)) ∧ w'.cell? ⟨(ad408.add ((x192_4).toNat * 4)).block, (ad408.add ((x192_4).toNat * 4)).off + 1, none⟩ = some (.int .i64 ((rd_T52 t399 x192_4).f0.f1)) ∧ w'.cell? ⟨(ad408.add ((x192_4).toNat * 4)).block, (ad408.add ((x192_4).toNat * 4)).off + 2, none⟩ = some (.int .i64 ((rd_T52 t399 x192_4).f1.f0)) ∧ w'.cell? ⟨(ad408.add ((x192_4).toNat * 4)).block, (ad408.add ((x192_4).toNat * 4)).off + 3, none⟩ = some (.int .i64 ((rd_T52 t399 x192_4).f1.f1)) ∧ w'.cell? (ad409.add ((x192_4).toNat * 4)) = some (.int .i64 ((rd_T52 x9_1 x192_4).f0.f0)) ∧ w'.cell? ⟨(ad409.add ((x192_4).toNat * 4)).block, (ad409.add ((x192_4).toNat * 4)).off + 1, none⟩ = some (.int .i64 ((rd_T52 x9_1 x192_4).f0.f1)) ∧ w'.cell? ⟨(ad409.add ((x192_4).toNat * 4)).block, (ad409.add ((x192_4).toNat * 4)).off + 2, none⟩ = some (.int .i64 ((rd_T52 x9_1 x192_4).f1.f0)) ∧ w'.cell? ⟨(ad409.add ((x192_4).toNat * 4)).block, (ad409.add ((x192_4).toNat * 4)).off + 3, none⟩ = some (.int .i64 ((rd_T52 x9_1 x192_4).f1.f1))) (ds := []) #[false, false, false, false, false, false, false, false, false] (by kernel_rfl) rfl rfl ⟨hx408_0, hx408_1, hx408_2, hx408_3, hx409_0, hx409_1, hx409_2, hx409_3⟩ (fun hHeld => ?_); refine with_tabW isohyetlaw25_DataBack.tab33 isohyetlaw25_DataBack.bits33 (fun HT_ HW_ => ?_)
          generalize wr.drew = w148 at HO_9 HO_20 HB hx408_0 hx408_1 hx408_2 hx408_3 hx409_0 hx409_1 hx409_2 hx409_3 hHeld ⊢
          refine pure_ (i := 0) (N := some 195) (v := ?_) (a' := ?_) #[true, false, false, false, false, false, false, false, false] rfl rfl (any_of HT_.out (by kernel_rfl)) (fun _ _ _ h => h) (Or.inl ⟨by rfl, ?_⟩) ?_ ?_
          rotate_left
          ·intro w'
           go_simp
           with_reducible rfl
          rotate_left
          ·simp only [Act.put, List.setIfInBounds_toArray, List.set_cons_zero, List.set_cons_succ, i64_w, i32_w]
           rfl
          refine pure_ (i := 1) (N := some 196) (v := ?_) (a' := ?_) #[true, true, false, false, false, false, false, false, false] rfl rfl (any_of HT_.out (by kernel_rfl)) (fun _ _ _ h => h) (Or.inl ⟨by rfl, ?_⟩) ?_ ?_
          rotate_left
          ·intro w'
           go_simp
           with_reducible rfl
          rotate_left
          ·simp only [Act.put, List.setIfInBounds_toArray, List.set_cons_zero, List.set_cons_succ, i64_w, i32_w]
           rfl
          refine pure_ (i := 2) (N := some 197) (v := ?_) (a' := ?_) #[true, true, true, false, false, false, false, false, false] rfl rfl (any_of HT_.out (by kernel_rfl)) (fun _ _ _ h => h) (Or.inl ⟨by rfl, ?_⟩) ?_ ?_
          rotate_left
          ·intro w'
           go_simp
           with_reducible rfl
          rotate_left
          ·simp only [Act.put, List.setIfInBounds_toArray, List.set_cons_zero, List.set_cons_succ, i64_w, i32_w]
           rfl
          refine pure_ (i := 4) (N := some 199) (v := ?_) (a' := ?_) #[true, true, true, false, true, false, false, false, false] rfl rfl (any_of HT_.out (by kernel_rfl)) (fun _ _ _ h => h) (Or.inl ⟨by rfl, ?_⟩) ?_ ?_
          rotate_left
          ·intro w'
           go_simp
           with_reducible rfl
          rotate_left
          ·simp only [Act.put, List.setIfInBounds_toArray, List.set_cons_zero, List.set_cons_succ, i64_w, i32_w]
           rfl
          refine pure_ (i := 5) (N := some 200) (v := ?_) (a' := ?_) #[true, true, true, false, true, true, false, false, false] rfl rfl (any_of HT_.out (by kernel_rfl)) (fun _ _ _ h => h) (Or.inl ⟨by rfl, ?_⟩) ?_ ?_
          rotate_left
          ·intro w'
           go_simp
           with_reducible rfl
          rotate_left
          ·simp only [Act.put, List.setIfInBounds_toArray, List.set_cons_zero, List.set_cons_succ, i64_w, i32_w]
           rfl
          refine pure_ (i := 6) (N := some 201) (v := ?_) (a' := ?_) #[true, true, true, false, true, true, true, false, false] rfl rfl (any_of HT_.out (by kernel_rfl)) (fun _ _ _ h => h) (Or.inl ⟨by rfl, ?_⟩) ?_ ?_
          rotate_left
          ·intro w'
           go_simp
           with_reducible rfl
          rotate_left
          ·simp only [Act.put, List.setIfInBounds_toArray, List.set_cons_zero, List.set_cons_succ, i64_w, i32_w]
           rfl
          refine take_ (i := 3) (N := some 198) (v := ?_) (a' := ?_) #[true, true, true, true, true, true, true, false, false] rfl rfl (take_ofW HT_.out HW_.out (by kernel_rfl)) (fun _ _ _ h => h) (Or.inl ⟨by rfl, ?_⟩) hHeld ?_ ?_
          rotate_left
          ·rintro w' ⟨s0, s1, s2, s3, s4, s5, s6, s7⟩
           go_simp
           with_reducible rfl
          rotate_left
          ·simp only [Act.put, List.setIfInBounds_toArray, List.set_cons_zero, List.set_cons_succ, i64_w, i32_w]
           rfl
          refine take_ (i := 7) (N := some 202) (v := ?_) (a' := ?_) #[true, true, true, true, true, true, true, true, false] rfl rfl (take_ofW HT_.out HW_.out (by kernel_rfl)) (fun _ _ _ h => h) (Or.inl ⟨by rfl, ?_⟩) hHeld ?_ ?_
          rotate_left
          ·rintro w' ⟨s0, s1, s2, s3, s4, s5, s6, s7⟩
           go_simp
           with_reducible rfl
          rotate_left
          ·simp only [Act.put, List.setIfInBounds_toArray, List.set_cons_zero, List.set_cons_succ, i64_w, i32_w]
           rfl
          refine pure_ (i := 8) (N := some 203) (v := ?_) (a' := ?_) #[true, true, true, true, true, true, true, true, true] rfl rfl (any_of HT_.out (by kernel_rfl)) (fun _ _ _ h => h) (Or.inl ⟨by rfl, ?_⟩) ?_ ?_
          rotate_left
          ·intro w'
           go_simp
           with_reducible rfl
          rotate_left
          ·simp only [Act.put, List.setIfInBounds_toArray, List.set_cons_zero, List.set_cons_succ, i64_w, i32_w]
           rfl
          refine done_ (done_of HT_.out (by kernel_rfl)) ?_
          try go_wp2
          go_roundg k4
          case measure => have := HK1.out; have := HJ97.out; have := HK3.out; have := HK4.out; omega
          case rel => exact ⟨(wrap64 (x192_4 + 1)), (by first | rfl | (simp; done) | (simp [*]; done)), H', ⟨by have := HK1.out; have := HJ97.out; have := HK3.out; have := HK4.out; omega⟩, ⟨gR HO_9.out⟩, ⟨gR HO_20.out⟩, ⟨gB HB.out⟩⟩
   rw [if_pos c9] at H
   have c9b0 : decide (x32_1 < (l0.length : Int)) = true := decide_eq_true c9
   clear c9
   by_cases c10 : 0 ≤ x32_1
   rotate_left
   ·rw [if_neg c10] at H
    exact absurd H (by simp)
   rw [if_pos c10] at H
   have c10b0 : decide (0 ≤ x32_1) = true := decide_eq_true c10
   clear c10
   by_cases c11 : x32_1 < (l0.length : Int)
   rotate_left
   ·rw [if_neg c11] at H
    exact absurd H (by simp)
   rw [if_pos c11] at H
   have c11b0 : decide (x32_1 < (l0.length : Int)) = true := decide_eq_true c11
   clear c11
   replace H := Option.bind_eq_some_iff.mp H
   obtain ⟨t373, A120, H⟩ := H
   replace H : ((isohyetlaw25_bring.f ((rd_T34 l0 x32_1).f1)).bind fun t374 => ((isohyetlaw25_bring.f ((rd_T34 l0 x32_1).f2)).bind fun t375 => (if x8_1.length < 5864062014805 then ((some (x8_1 ++ [(⟨t373, t374, t375⟩ : S34)] : List (S34))).bind fun y377 => ((deci_Text.f k1 t373 a1).bind fun t380 => (if t380.size + 1 ≤ 9223372036854775807 then ((deci_Text.f k1 t374 a1).bind fun t381 => (if (t380 ++ (⟨#[32]⟩ : ByteArray)).size + t381.size ≤ 9223372036854775807 then (if ((t380 ++ (⟨#[32]⟩ : ByteArray)) ++ t381).size + 1 ≤ 9223372036854775807 then ((deci_Text.f k1 t375 a2).bind fun t382 => (if (((t380 ++ (⟨#[32]⟩ : ByteArray)) ++ t381) ++ (⟨#[32]⟩ : ByteArray)).size + t382.size ≤ 9223372036854775807 then (if ((((t380 ++ (⟨#[32]⟩ : ByteArray)) ++ t381) ++ (⟨#[32]⟩ : ByteArray)) ++ t382).size + 1 ≤ 9223372036854775807 then (if x10_1.size + (((((t380 ++ (⟨#[32]⟩ : ByteArray)) ++ t381) ++ (⟨#[32]⟩ : ByteArray)) ++ t382) ++ (⟨#[10]⟩ : ByteArray)).size ≤ 9223372036854775807 then (if x32_1 > 0 then (if 0 ≤ (wrap64 (x32_1 - 1)) then (if (wrap64 (x32_1 - 1)) < (y377.length : Int) then (if x9_1.length < 4398046511104 then ((deci_Text.f k1 ((rd_T34 y377 (wrap64 (x32_1 - 1))).f0) a1).bind fun t390 => (if t390.size + 1 ≤ 9223372036854775807 then ((deci_Text.f k1 ((rd_T34 y377 (wrap64 (x32_1 - 1))).f1) a1).bind fun t391 => (if (t390 ++ (⟨#[32]⟩ : ByteArray)).size + t391.size ≤ 9223372036854775807 then (if ((t390 ++ (⟨#[32]⟩ : ByteArray)) ++ t391).size + 1 ≤ 9223372036854775807 then ((deci_Text.f k1 t373 a1).bind fun t392 => (if (((t390 ++ (⟨#[32]⟩ : ByteArray)) ++ t391) ++ (⟨#[32]⟩ : ByteArray)).size + t392.size ≤ 9223372036854775807 then (if ((((t390 ++ (⟨#[32]⟩ : ByteArray)) ++ t391) ++ (⟨#[32]⟩ : ByteArray)) ++ t392).size + 1 ≤ 9223372036854775807 then ((deci_Text.f k1 t374 a1).bind fun t393 => (if (((((t390 ++ (⟨#[32]⟩ : ByteArray)) ++ t391) ++ (⟨#[32]⟩ : ByteArray)) ++ t392) ++ (⟨#[32]⟩ : ByteArray)).size + t393.size ≤ 9223372036854775807 then (if ((((((t390 ++ (⟨#[32]⟩ : ByteArray)) ++ t391) ++ (⟨#[32]⟩ : ByteArray)) ++ t392) ++ (⟨#[32]⟩ : ByteArray)) ++ t393).size + 1 ≤ 9223372036854775807 then (if x11_1.size + (((((((t390 ++ (⟨#[32]⟩ : ByteArray)) ++ t391) ++ (⟨#[32]⟩ : ByteArray)) ++ t392) ++ (⟨#[32]⟩ : ByteArray)) ++ t393) ++ (⟨#[10]⟩ : ByteArray)).size ≤ 9223372036854775807 then (isohyetlaw25_DataBack.l0 k1 a1 a2 y377 (x9_1 ++ [(⟨(⟨(rd_T34 y377 (wrap64 (x32_1 - 1))).f0, (rd_T34 y377 (wrap64 (x32_1 - 1))).f1⟩ : S51), (⟨t373, t374⟩ : S51)⟩ : S52)]) (x10_1 ++ (((((t380 ++ (⟨#[32]⟩ : ByteArray)) ++ t381) ++ (⟨#[32]⟩ : ByteArray)) ++ t382) ++ (⟨#[10]⟩ : ByteArray))) (x11_1 ++ (((((((t390 ++ (⟨#[32]⟩ : ByteArray)) ++ t391) ++ (⟨#[32]⟩ : ByteArray)) ++ t392) ++ (⟨#[32]⟩ : ByteArray)) ++ t393) ++ (⟨#[10]⟩ : ByteArray))) l0 (l0.length : Int) (wrap64 (x32_1 + 1))) else (none)) else (none)) else (none))) else (none)) else (none))) else (none)) else (none))) else (none))) else (none)) else (none)) else (none)) else (isohyetlaw25_DataBack.l0 k1 a1 a2 y377 x9_1 (x10_1 ++ (((((t380 ++ (⟨#[32]⟩ : ByteArray)) ++ t381) ++ (⟨#[32]⟩ : ByteArray)) ++ t382) ++ (⟨#[10]⟩ : ByteArray))) x11_1 l0 (l0.length : Int) (wrap64 (x32_1 + 1)))) else (none)) else (none)) else (none))) else (none)) else (none))) else (none)))) else (none)))) = some r := H
   have A12 := aK A120
   clear A120
   replace H := Option.bind_eq_some_iff.mp H
   obtain ⟨t374, A130, H⟩ := H
   replace H : ((isohyetlaw25_bring.f ((rd_T34 l0 x32_1).f2)).bind fun t375 => (if x8_1.length < 5864062014805 then ((some (x8_1 ++ [(⟨t373, t374, t375⟩ : S34)] : List (S34))).bind fun y377 => ((deci_Text.f k1 t373 a1).bind fun t380 => (if t380.size + 1 ≤ 9223372036854775807 then ((deci_Text.f k1 t374 a1).bind fun t381 => (if (t380 ++ (⟨#[32]⟩ : ByteArray)).size + t381.size ≤ 9223372036854775807 then (if ((t380 ++ (⟨#[32]⟩ : ByteArray)) ++ t381).size + 1 ≤ 9223372036854775807 then ((deci_Text.f k1 t375 a2).bind fun t382 => (if (((t380 ++ (⟨#[32]⟩ : ByteArray)) ++ t381) ++ (⟨#[32]⟩ : ByteArray)).size + t382.size ≤ 9223372036854775807 then (if ((((t380 ++ (⟨#[32]⟩ : ByteArray)) ++ t381) ++ (⟨#[32]⟩ : ByteArray)) ++ t382).size + 1 ≤ 9223372036854775807 then (if x10_1.size + (((((t380 ++ (⟨#[32]⟩ : ByteArray)) ++ t381) ++ (⟨#[32]⟩ : ByteArray)) ++ t382) ++ (⟨#[10]⟩ : ByteArray)).size ≤ 9223372036854775807 then (if x32_1 > 0 then (if 0 ≤ (wrap64 (x32_1 - 1)) then (if (wrap64 (x32_1 - 1)) < (y377.length : Int) then (if x9_1.length < 4398046511104 then ((deci_Text.f k1 ((rd_T34 y377 (wrap64 (x32_1 - 1))).f0) a1).bind fun t390 => (if t390.size + 1 ≤ 9223372036854775807 then ((deci_Text.f k1 ((rd_T34 y377 (wrap64 (x32_1 - 1))).f1) a1).bind fun t391 => (if (t390 ++ (⟨#[32]⟩ : ByteArray)).size + t391.size ≤ 9223372036854775807 then (if ((t390 ++ (⟨#[32]⟩ : ByteArray)) ++ t391).size + 1 ≤ 9223372036854775807 then ((deci_Text.f k1 t373 a1).bind fun t392 => (if (((t390 ++ (⟨#[32]⟩ : ByteArray)) ++ t391) ++ (⟨#[32]⟩ : ByteArray)).size + t392.size ≤ 9223372036854775807 then (if ((((t390 ++ (⟨#[32]⟩ : ByteArray)) ++ t391) ++ (⟨#[32]⟩ : ByteArray)) ++ t392).size + 1 ≤ 9223372036854775807 then ((deci_Text.f k1 t374 a1).bind fun t393 => (if (((((t390 ++ (⟨#[32]⟩ : ByteArray)) ++ t391) ++ (⟨#[32]⟩ : ByteArray)) ++ t392) ++ (⟨#[32]⟩ : ByteArray)).size + t393.size ≤ 9223372036854775807 then (if ((((((t390 ++ (⟨#[32]⟩ : ByteArray)) ++ t391) ++ (⟨#[32]⟩ : ByteArray)) ++ t392) ++ (⟨#[32]⟩ : ByteArray)) ++ t393).size + 1 ≤ 9223372036854775807 then (if x11_1.size + (((((((t390 ++ (⟨#[32]⟩ : ByteArray)) ++ t391) ++ (⟨#[32]⟩ : ByteArray)) ++ t392) ++ (⟨#[32]⟩ : ByteArray)) ++ t393) ++ (⟨#[10]⟩ : ByteArray)).size ≤ 9223372036854775807 then (isohyetlaw25_DataBack.l0 k1 a1 a2 y377 (x9_1 ++ [(⟨(⟨(rd_T34 y377 (wrap64 (x32_1 - 1))).f0, (rd_T34 y377 (wrap64 (x32_1 - 1))).f1⟩ : S51), (⟨t373, t374⟩ : S51)⟩ : S52)]) (x10_1 ++ (((((t380 ++ (⟨#[32]⟩ : ByteArray)) ++ t381) ++ (⟨#[32]⟩ : ByteArray)) ++ t382) ++ (⟨#[10]⟩ : ByteArray))) (x11_1 ++ (((((((t390 ++ (⟨#[32]⟩ : ByteArray)) ++ t391) ++ (⟨#[32]⟩ : ByteArray)) ++ t392) ++ (⟨#[32]⟩ : ByteArray)) ++ t393) ++ (⟨#[10]⟩ : ByteArray))) l0 (l0.length : Int) (wrap64 (x32_1 + 1))) else (none)) else (none)) else (none))) else (none)) else (none))) else (none)) else (none))) else (none))) else (none)) else (none)) else (none)) else (isohyetlaw25_DataBack.l0 k1 a1 a2 y377 x9_1 (x10_1 ++ (((((t380 ++ (⟨#[32]⟩ : ByteArray)) ++ t381) ++ (⟨#[32]⟩ : ByteArray)) ++ t382) ++ (⟨#[10]⟩ : ByteArray))) x11_1 l0 (l0.length : Int) (wrap64 (x32_1 + 1)))) else (none)) else (none)) else (none))) else (none)) else (none))) else (none)))) else (none))) = some r := H
   have A13 := aK A130
   clear A130
   replace H := Option.bind_eq_some_iff.mp H
   obtain ⟨t375, A140, H⟩ := H
   replace H : (if x8_1.length < 5864062014805 then ((some (x8_1 ++ [(⟨t373, t374, t375⟩ : S34)] : List (S34))).bind fun y377 => ((deci_Text.f k1 t373 a1).bind fun t380 => (if t380.size + 1 ≤ 9223372036854775807 then ((deci_Text.f k1 t374 a1).bind fun t381 => (if (t380 ++ (⟨#[32]⟩ : ByteArray)).size + t381.size ≤ 9223372036854775807 then (if ((t380 ++ (⟨#[32]⟩ : ByteArray)) ++ t381).size + 1 ≤ 9223372036854775807 then ((deci_Text.f k1 t375 a2).bind fun t382 => (if (((t380 ++ (⟨#[32]⟩ : ByteArray)) ++ t381) ++ (⟨#[32]⟩ : ByteArray)).size + t382.size ≤ 9223372036854775807 then (if ((((t380 ++ (⟨#[32]⟩ : ByteArray)) ++ t381) ++ (⟨#[32]⟩ : ByteArray)) ++ t382).size + 1 ≤ 9223372036854775807 then (if x10_1.size + (((((t380 ++ (⟨#[32]⟩ : ByteArray)) ++ t381) ++ (⟨#[32]⟩ : ByteArray)) ++ t382) ++ (⟨#[10]⟩ : ByteArray)).size ≤ 9223372036854775807 then (if x32_1 > 0 then (if 0 ≤ (wrap64 (x32_1 - 1)) then (if (wrap64 (x32_1 - 1)) < (y377.length : Int) then (if x9_1.length < 4398046511104 then ((deci_Text.f k1 ((rd_T34 y377 (wrap64 (x32_1 - 1))).f0) a1).bind fun t390 => (if t390.size + 1 ≤ 9223372036854775807 then ((deci_Text.f k1 ((rd_T34 y377 (wrap64 (x32_1 - 1))).f1) a1).bind fun t391 => (if (t390 ++ (⟨#[32]⟩ : ByteArray)).size + t391.size ≤ 9223372036854775807 then (if ((t390 ++ (⟨#[32]⟩ : ByteArray)) ++ t391).size + 1 ≤ 9223372036854775807 then ((deci_Text.f k1 t373 a1).bind fun t392 => (if (((t390 ++ (⟨#[32]⟩ : ByteArray)) ++ t391) ++ (⟨#[32]⟩ : ByteArray)).size + t392.size ≤ 9223372036854775807 then (if ((((t390 ++ (⟨#[32]⟩ : ByteArray)) ++ t391) ++ (⟨#[32]⟩ : ByteArray)) ++ t392).size + 1 ≤ 9223372036854775807 then ((deci_Text.f k1 t374 a1).bind fun t393 => (if (((((t390 ++ (⟨#[32]⟩ : ByteArray)) ++ t391) ++ (⟨#[32]⟩ : ByteArray)) ++ t392) ++ (⟨#[32]⟩ : ByteArray)).size + t393.size ≤ 9223372036854775807 then (if ((((((t390 ++ (⟨#[32]⟩ : ByteArray)) ++ t391) ++ (⟨#[32]⟩ : ByteArray)) ++ t392) ++ (⟨#[32]⟩ : ByteArray)) ++ t393).size + 1 ≤ 9223372036854775807 then (if x11_1.size + (((((((t390 ++ (⟨#[32]⟩ : ByteArray)) ++ t391) ++ (⟨#[32]⟩ : ByteArray)) ++ t392) ++ (⟨#[32]⟩ : ByteArray)) ++ t393) ++ (⟨#[10]⟩ : ByteArray)).size ≤ 9223372036854775807 then (isohyetlaw25_DataBack.l0 k1 a1 a2 y377 (x9_1 ++ [(⟨(⟨(rd_T34 y377 (wrap64 (x32_1 - 1))).f0, (rd_T34 y377 (wrap64 (x32_1 - 1))).f1⟩ : S51), (⟨t373, t374⟩ : S51)⟩ : S52)]) (x10_1 ++ (((((t380 ++ (⟨#[32]⟩ : ByteArray)) ++ t381) ++ (⟨#[32]⟩ : ByteArray)) ++ t382) ++ (⟨#[10]⟩ : ByteArray))) (x11_1 ++ (((((((t390 ++ (⟨#[32]⟩ : ByteArray)) ++ t391) ++ (⟨#[32]⟩ : ByteArray)) ++ t392) ++ (⟨#[32]⟩ : ByteArray)) ++ t393) ++ (⟨#[10]⟩ : ByteArray))) l0 (l0.length : Int) (wrap64 (x32_1 + 1))) else (none)) else (none)) else (none))) else (none)) else (none))) else (none)) else (none))) else (none))) else (none)) else (none)) else (none)) else (isohyetlaw25_DataBack.l0 k1 a1 a2 y377 x9_1 (x10_1 ++ (((((t380 ++ (⟨#[32]⟩ : ByteArray)) ++ t381) ++ (⟨#[32]⟩ : ByteArray)) ++ t382) ++ (⟨#[10]⟩ : ByteArray))) x11_1 l0 (l0.length : Int) (wrap64 (x32_1 + 1)))) else (none)) else (none)) else (none))) else (none)) else (none))) else (none)))) else (none)) = some r := H
   have A14 := aK A140
   clear A140
   by_cases c15 : x8_1.length < 5864062014805
   rotate_left
   ·rw [if_neg c15] at H
    exact absurd H (by simp)
   rw [if_pos c15] at H
   have LMc15 := aK c15
   clear c15
   obtain ⟨y377, hy377⟩ : ∃ y_ : List (S34), y_ = (x8_1 ++ [(⟨t373, t374, t375⟩ : S34)]) := ⟨_, rfl⟩
   replace H : ((deci_Text.f k1 t373 a1).bind fun t380 => (if t380.size + 1 ≤ 9223372036854775807 then ((deci_Text.f k1 t374 a1).bind fun t381 => (if (t380 ++ (⟨#[32]⟩ : ByteArray)).size + t381.size ≤ 9223372036854775807 then (if ((t380 ++ (⟨#[32]⟩ : ByteArray)) ++ t381).size + 1 ≤ 9223372036854775807 then ((deci_Text.f k1 t375 a2).bind fun t382 => (if (((t380 ++ (⟨#[32]⟩ : ByteArray)) ++ t381) ++ (⟨#[32]⟩ : ByteArray)).size + t382.size ≤ 9223372036854775807 then (if ((((t380 ++ (⟨#[32]⟩ : ByteArray)) ++ t381) ++ (⟨#[32]⟩ : ByteArray)) ++ t382).size + 1 ≤ 9223372036854775807 then (if x10_1.size + (((((t380 ++ (⟨#[32]⟩ : ByteArray)) ++ t381) ++ (⟨#[32]⟩ : ByteArray)) ++ t382) ++ (⟨#[10]⟩ : ByteArray)).size ≤ 9223372036854775807 then (if x32_1 > 0 then (if 0 ≤ (wrap64 (x32_1 - 1)) then (if (wrap64 (x32_1 - 1)) < (y377.length : Int) then (if x9_1.length < 4398046511104 then ((deci_Text.f k1 ((rd_T34 y377 (wrap64 (x32_1 - 1))).f0) a1).bind fun t390 => (if t390.size + 1 ≤ 9223372036854775807 then ((deci_Text.f k1 ((rd_T34 y377 (wrap64 (x32_1 - 1))).f1) a1).bind fun t391 => (if (t390 ++ (⟨#[32]⟩ : ByteArray)).size + t391.size ≤ 9223372036854775807 then (if ((t390 ++ (⟨#[32]⟩ : ByteArray)) ++ t391).size + 1 ≤ 9223372036854775807 then ((deci_Text.f k1 t373 a1).bind fun t392 => (if (((t390 ++ (⟨#[32]⟩ : ByteArray)) ++ t391) ++ (⟨#[32]⟩ : ByteArray)).size + t392.size ≤ 9223372036854775807 then (if ((((t390 ++ (⟨#[32]⟩ : ByteArray)) ++ t391) ++ (⟨#[32]⟩ : ByteArray)) ++ t392).size + 1 ≤ 9223372036854775807 then ((deci_Text.f k1 t374 a1).bind fun t393 => (if (((((t390 ++ (⟨#[32]⟩ : ByteArray)) ++ t391) ++ (⟨#[32]⟩ : ByteArray)) ++ t392) ++ (⟨#[32]⟩ : ByteArray)).size + t393.size ≤ 9223372036854775807 then (if ((((((t390 ++ (⟨#[32]⟩ : ByteArray)) ++ t391) ++ (⟨#[32]⟩ : ByteArray)) ++ t392) ++ (⟨#[32]⟩ : ByteArray)) ++ t393).size + 1 ≤ 9223372036854775807 then (if x11_1.size + (((((((t390 ++ (⟨#[32]⟩ : ByteArray)) ++ t391) ++ (⟨#[32]⟩ : ByteArray)) ++ t392) ++ (⟨#[32]⟩ : ByteArray)) ++ t393) ++ (⟨#[10]⟩ : ByteArray)).size ≤ 9223372036854775807 then (isohyetlaw25_DataBack.l0 k1 a1 a2 y377 (x9_1 ++ [(⟨(⟨(rd_T34 y377 (wrap64 (x32_1 - 1))).f0, (rd_T34 y377 (wrap64 (x32_1 - 1))).f1⟩ : S51), (⟨t373, t374⟩ : S51)⟩ : S52)]) (x10_1 ++ (((((t380 ++ (⟨#[32]⟩ : ByteArray)) ++ t381) ++ (⟨#[32]⟩ : ByteArray)) ++ t382) ++ (⟨#[10]⟩ : ByteArray))) (x11_1 ++ (((((((t390 ++ (⟨#[32]⟩ : ByteArray)) ++ t391) ++ (⟨#[32]⟩ : ByteArray)) ++ t392) ++ (⟨#[32]⟩ : ByteArray)) ++ t393) ++ (⟨#[10]⟩ : ByteArray))) l0 (l0.length : Int) (wrap64 (x32_1 + 1))) else (none)) else (none)) else (none))) else (none)) else (none))) else (none)) else (none))) else (none))) else (none)) else (none)) else (none)) else (isohyetlaw25_DataBack.l0 k1 a1 a2 y377 x9_1 (x10_1 ++ (((((t380 ++ (⟨#[32]⟩ : ByteArray)) ++ t381) ++ (⟨#[32]⟩ : ByteArray)) ++ t382) ++ (⟨#[10]⟩ : ByteArray))) x11_1 l0 (l0.length : Int) (wrap64 (x32_1 + 1)))) else (none)) else (none)) else (none))) else (none)) else (none))) else (none))) = some r := by first | (rw [hy377]; with_reducible exact H) | (have H2_ := (Option.bind_some _ _).symm.trans H; rw [hy377]; with_reducible exact H2_) | (have H2_ := (Option.bind_some _ _).symm.trans H; with_reducible exact H2_) | with_reducible exact H | (rw [hy377]; exact H) | exact H
   have Ny377 := aK hy377
   clear hy377
   replace H := Option.bind_eq_some_iff.mp H
   obtain ⟨t380, A160, H⟩ := H
   replace H : (if t380.size + 1 ≤ 9223372036854775807 then ((deci_Text.f k1 t374 a1).bind fun t381 => (if (t380 ++ (⟨#[32]⟩ : ByteArray)).size + t381.size ≤ 9223372036854775807 then (if ((t380 ++ (⟨#[32]⟩ : ByteArray)) ++ t381).size + 1 ≤ 9223372036854775807 then ((deci_Text.f k1 t375 a2).bind fun t382 => (if (((t380 ++ (⟨#[32]⟩ : ByteArray)) ++ t381) ++ (⟨#[32]⟩ : ByteArray)).size + t382.size ≤ 9223372036854775807 then (if ((((t380 ++ (⟨#[32]⟩ : ByteArray)) ++ t381) ++ (⟨#[32]⟩ : ByteArray)) ++ t382).size + 1 ≤ 9223372036854775807 then (if x10_1.size + (((((t380 ++ (⟨#[32]⟩ : ByteArray)) ++ t381) ++ (⟨#[32]⟩ : ByteArray)) ++ t382) ++ (⟨#[10]⟩ : ByteArray)).size ≤ 9223372036854775807 then (if x32_1 > 0 then (if 0 ≤ (wrap64 (x32_1 - 1)) then (if (wrap64 (x32_1 - 1)) < (y377.length : Int) then (if x9_1.length < 4398046511104 then ((deci_Text.f k1 ((rd_T34 y377 (wrap64 (x32_1 - 1))).f0) a1).bind fun t390 => (if t390.size + 1 ≤ 9223372036854775807 then ((deci_Text.f k1 ((rd_T34 y377 (wrap64 (x32_1 - 1))).f1) a1).bind fun t391 => (if (t390 ++ (⟨#[32]⟩ : ByteArray)).size + t391.size ≤ 9223372036854775807 then (if ((t390 ++ (⟨#[32]⟩ : ByteArray)) ++ t391).size + 1 ≤ 9223372036854775807 then ((deci_Text.f k1 t373 a1).bind fun t392 => (if (((t390 ++ (⟨#[32]⟩ : ByteArray)) ++ t391) ++ (⟨#[32]⟩ : ByteArray)).size + t392.size ≤ 9223372036854775807 then (if ((((t390 ++ (⟨#[32]⟩ : ByteArray)) ++ t391) ++ (⟨#[32]⟩ : ByteArray)) ++ t392).size + 1 ≤ 9223372036854775807 then ((deci_Text.f k1 t374 a1).bind fun t393 => (if (((((t390 ++ (⟨#[32]⟩ : ByteArray)) ++ t391) ++ (⟨#[32]⟩ : ByteArray)) ++ t392) ++ (⟨#[32]⟩ : ByteArray)).size + t393.size ≤ 9223372036854775807 then (if ((((((t390 ++ (⟨#[32]⟩ : ByteArray)) ++ t391) ++ (⟨#[32]⟩ : ByteArray)) ++ t392) ++ (⟨#[32]⟩ : ByteArray)) ++ t393).size + 1 ≤ 9223372036854775807 then (if x11_1.size + (((((((t390 ++ (⟨#[32]⟩ : ByteArray)) ++ t391) ++ (⟨#[32]⟩ : ByteArray)) ++ t392) ++ (⟨#[32]⟩ : ByteArray)) ++ t393) ++ (⟨#[10]⟩ : ByteArray)).size ≤ 9223372036854775807 then (isohyetlaw25_DataBack.l0 k1 a1 a2 y377 (x9_1 ++ [(⟨(⟨(rd_T34 y377 (wrap64 (x32_1 - 1))).f0, (rd_T34 y377 (wrap64 (x32_1 - 1))).f1⟩ : S51), (⟨t373, t374⟩ : S51)⟩ : S52)]) (x10_1 ++ (((((t380 ++ (⟨#[32]⟩ : ByteArray)) ++ t381) ++ (⟨#[32]⟩ : ByteArray)) ++ t382) ++ (⟨#[10]⟩ : ByteArray))) (x11_1 ++ (((((((t390 ++ (⟨#[32]⟩ : ByteArray)) ++ t391) ++ (⟨#[32]⟩ : ByteArray)) ++ t392) ++ (⟨#[32]⟩ : ByteArray)) ++ t393) ++ (⟨#[10]⟩ : ByteArray))) l0 (l0.length : Int) (wrap64 (x32_1 + 1))) else (none)) else (none)) else (none))) else (none)) else (none))) else (none)) else (none))) else (none))) else (none)) else (none)) else (none)) else (isohyetlaw25_DataBack.l0 k1 a1 a2 y377 x9_1 (x10_1 ++ (((((t380 ++ (⟨#[32]⟩ : ByteArray)) ++ t381) ++ (⟨#[32]⟩ : ByteArray)) ++ t382) ++ (⟨#[10]⟩ : ByteArray))) x11_1 l0 (l0.length : Int) (wrap64 (x32_1 + 1)))) else (none)) else (none)) else (none))) else (none)) else (none))) else (none)) = some r := H
   have A16 := aK A160
   clear A160
   by_cases c17 : t380.size + 1 ≤ 9223372036854775807
   rotate_left
   ·rw [if_neg c17] at H
    exact absurd H (by simp)
   rw [if_pos c17] at H
   have c17b0 := eq_true c17
   have c17b1 : decide (t380.size + 1 ≤ 9223372036854775807) = true := decide_eq_true c17
   try have c17b2 : (9223372036854775807 < t380.size + 1) = False := eq_false (Nat.not_lt.2 c17)
   replace H := Option.bind_eq_some_iff.mp H
   obtain ⟨t381, A180, H⟩ := H
   replace H : (if (t380 ++ (⟨#[32]⟩ : ByteArray)).size + t381.size ≤ 9223372036854775807 then (if ((t380 ++ (⟨#[32]⟩ : ByteArray)) ++ t381).size + 1 ≤ 9223372036854775807 then ((deci_Text.f k1 t375 a2).bind fun t382 => (if (((t380 ++ (⟨#[32]⟩ : ByteArray)) ++ t381) ++ (⟨#[32]⟩ : ByteArray)).size + t382.size ≤ 9223372036854775807 then (if ((((t380 ++ (⟨#[32]⟩ : ByteArray)) ++ t381) ++ (⟨#[32]⟩ : ByteArray)) ++ t382).size + 1 ≤ 9223372036854775807 then (if x10_1.size + (((((t380 ++ (⟨#[32]⟩ : ByteArray)) ++ t381) ++ (⟨#[32]⟩ : ByteArray)) ++ t382) ++ (⟨#[10]⟩ : ByteArray)).size ≤ 9223372036854775807 then (if x32_1 > 0 then (if 0 ≤ (wrap64 (x32_1 - 1)) then (if (wrap64 (x32_1 - 1)) < (y377.length : Int) then (if x9_1.length < 4398046511104 then ((deci_Text.f k1 ((rd_T34 y377 (wrap64 (x32_1 - 1))).f0) a1).bind fun t390 => (if t390.size + 1 ≤ 9223372036854775807 then ((deci_Text.f k1 ((rd_T34 y377 (wrap64 (x32_1 - 1))).f1) a1).bind fun t391 => (if (t390 ++ (⟨#[32]⟩ : ByteArray)).size + t391.size ≤ 9223372036854775807 then (if ((t390 ++ (⟨#[32]⟩ : ByteArray)) ++ t391).size + 1 ≤ 9223372036854775807 then ((deci_Text.f k1 t373 a1).bind fun t392 => (if (((t390 ++ (⟨#[32]⟩ : ByteArray)) ++ t391) ++ (⟨#[32]⟩ : ByteArray)).size + t392.size ≤ 9223372036854775807 then (if ((((t390 ++ (⟨#[32]⟩ : ByteArray)) ++ t391) ++ (⟨#[32]⟩ : ByteArray)) ++ t392).size + 1 ≤ 9223372036854775807 then ((deci_Text.f k1 t374 a1).bind fun t393 => (if (((((t390 ++ (⟨#[32]⟩ : ByteArray)) ++ t391) ++ (⟨#[32]⟩ : ByteArray)) ++ t392) ++ (⟨#[32]⟩ : ByteArray)).size + t393.size ≤ 9223372036854775807 then (if ((((((t390 ++ (⟨#[32]⟩ : ByteArray)) ++ t391) ++ (⟨#[32]⟩ : ByteArray)) ++ t392) ++ (⟨#[32]⟩ : ByteArray)) ++ t393).size + 1 ≤ 9223372036854775807 then (if x11_1.size + (((((((t390 ++ (⟨#[32]⟩ : ByteArray)) ++ t391) ++ (⟨#[32]⟩ : ByteArray)) ++ t392) ++ (⟨#[32]⟩ : ByteArray)) ++ t393) ++ (⟨#[10]⟩ : ByteArray)).size ≤ 9223372036854775807 then (isohyetlaw25_DataBack.l0 k1 a1 a2 y377 (x9_1 ++ [(⟨(⟨(rd_T34 y377 (wrap64 (x32_1 - 1))).f0, (rd_T34 y377 (wrap64 (x32_1 - 1))).f1⟩ : S51), (⟨t373, t374⟩ : S51)⟩ : S52)]) (x10_1 ++ (((((t380 ++ (⟨#[32]⟩ : ByteArray)) ++ t381) ++ (⟨#[32]⟩ : ByteArray)) ++ t382) ++ (⟨#[10]⟩ : ByteArray))) (x11_1 ++ (((((((t390 ++ (⟨#[32]⟩ : ByteArray)) ++ t391) ++ (⟨#[32]⟩ : ByteArray)) ++ t392) ++ (⟨#[32]⟩ : ByteArray)) ++ t393) ++ (⟨#[10]⟩ : ByteArray))) l0 (l0.length : Int) (wrap64 (x32_1 + 1))) else (none)) else (none)) else (none))) else (none)) else (none))) else (none)) else (none))) else (none))) else (none)) else (none)) else (none)) else (isohyetlaw25_DataBack.l0 k1 a1 a2 y377 x9_1 (x10_1 ++ (((((t380 ++ (⟨#[32]⟩ : ByteArray)) ++ t381) ++ (⟨#[32]⟩ : ByteArray)) ++ t382) ++ (⟨#[10]⟩ : ByteArray))) x11_1 l0 (l0.length : Int) (wrap64 (x32_1 + 1)))) else (none)) else (none)) else (none))) else (none)) else (none)) = some r := H
   have A18 := aK A180
   clear A180
   by_cases c19 : (t380 ++ (⟨#[32]⟩ : ByteArray)).size + t381.size ≤ 9223372036854775807
   rotate_left
   ·rw [if_neg c19] at H
    exact absurd H (by simp)
   rw [if_pos c19] at H
   have c19b0 := eq_true c19
   have c19b1 : decide ((t380 ++ (⟨#[32]⟩ : ByteArray)).size + t381.size ≤ 9223372036854775807) = true := decide_eq_true c19
   have c19b3 : (9223372036854775807 < t380.size + 1 + t381.size) = False := eq_false (by have h_ := c19; simp only [ByteArray.size_append, show (⟨#[32]⟩ : ByteArray).size = 1 from rfl] at h_; omega)
   try have c19b2 : (9223372036854775807 < (t380 ++ (⟨#[32]⟩ : ByteArray)).size + t381.size) = False := eq_false (Nat.not_lt.2 c19)
   by_cases c20 : ((t380 ++ (⟨#[32]⟩ : ByteArray)) ++ t381).size + 1 ≤ 9223372036854775807
   rotate_left
   ·rw [if_neg c20] at H
    exact absurd H (by simp)
   rw [if_pos c20] at H
   have c20b0 := eq_true c20
   have c20b1 : decide (((t380 ++ (⟨#[32]⟩ : ByteArray)) ++ t381).size + 1 ≤ 9223372036854775807) = true := decide_eq_true c20
   have c20b3 : (9223372036854775807 < t380.size + 1 + t381.size + 1) = False := eq_false (by have h_ := c20; simp only [ByteArray.size_append, show (⟨#[32]⟩ : ByteArray).size = 1 from rfl] at h_; omega)
   try have c20b2 : (9223372036854775807 < ((t380 ++ (⟨#[32]⟩ : ByteArray)) ++ t381).size + 1) = False := eq_false (Nat.not_lt.2 c20)
   replace H := Option.bind_eq_some_iff.mp H
   obtain ⟨t382, A210, H⟩ := H
   replace H : (if (((t380 ++ (⟨#[32]⟩ : ByteArray)) ++ t381) ++ (⟨#[32]⟩ : ByteArray)).size + t382.size ≤ 9223372036854775807 then (if ((((t380 ++ (⟨#[32]⟩ : ByteArray)) ++ t381) ++ (⟨#[32]⟩ : ByteArray)) ++ t382).size + 1 ≤ 9223372036854775807 then (if x10_1.size + (((((t380 ++ (⟨#[32]⟩ : ByteArray)) ++ t381) ++ (⟨#[32]⟩ : ByteArray)) ++ t382) ++ (⟨#[10]⟩ : ByteArray)).size ≤ 9223372036854775807 then (if x32_1 > 0 then (if 0 ≤ (wrap64 (x32_1 - 1)) then (if (wrap64 (x32_1 - 1)) < (y377.length : Int) then (if x9_1.length < 4398046511104 then ((deci_Text.f k1 ((rd_T34 y377 (wrap64 (x32_1 - 1))).f0) a1).bind fun t390 => (if t390.size + 1 ≤ 9223372036854775807 then ((deci_Text.f k1 ((rd_T34 y377 (wrap64 (x32_1 - 1))).f1) a1).bind fun t391 => (if (t390 ++ (⟨#[32]⟩ : ByteArray)).size + t391.size ≤ 9223372036854775807 then (if ((t390 ++ (⟨#[32]⟩ : ByteArray)) ++ t391).size + 1 ≤ 9223372036854775807 then ((deci_Text.f k1 t373 a1).bind fun t392 => (if (((t390 ++ (⟨#[32]⟩ : ByteArray)) ++ t391) ++ (⟨#[32]⟩ : ByteArray)).size + t392.size ≤ 9223372036854775807 then (if ((((t390 ++ (⟨#[32]⟩ : ByteArray)) ++ t391) ++ (⟨#[32]⟩ : ByteArray)) ++ t392).size + 1 ≤ 9223372036854775807 then ((deci_Text.f k1 t374 a1).bind fun t393 => (if (((((t390 ++ (⟨#[32]⟩ : ByteArray)) ++ t391) ++ (⟨#[32]⟩ : ByteArray)) ++ t392) ++ (⟨#[32]⟩ : ByteArray)).size + t393.size ≤ 9223372036854775807 then (if ((((((t390 ++ (⟨#[32]⟩ : ByteArray)) ++ t391) ++ (⟨#[32]⟩ : ByteArray)) ++ t392) ++ (⟨#[32]⟩ : ByteArray)) ++ t393).size + 1 ≤ 9223372036854775807 then (if x11_1.size + (((((((t390 ++ (⟨#[32]⟩ : ByteArray)) ++ t391) ++ (⟨#[32]⟩ : ByteArray)) ++ t392) ++ (⟨#[32]⟩ : ByteArray)) ++ t393) ++ (⟨#[10]⟩ : ByteArray)).size ≤ 9223372036854775807 then (isohyetlaw25_DataBack.l0 k1 a1 a2 y377 (x9_1 ++ [(⟨(⟨(rd_T34 y377 (wrap64 (x32_1 - 1))).f0, (rd_T34 y377 (wrap64 (x32_1 - 1))).f1⟩ : S51), (⟨t373, t374⟩ : S51)⟩ : S52)]) (x10_1 ++ (((((t380 ++ (⟨#[32]⟩ : ByteArray)) ++ t381) ++ (⟨#[32]⟩ : ByteArray)) ++ t382) ++ (⟨#[10]⟩ : ByteArray))) (x11_1 ++ (((((((t390 ++ (⟨#[32]⟩ : ByteArray)) ++ t391) ++ (⟨#[32]⟩ : ByteArray)) ++ t392) ++ (⟨#[32]⟩ : ByteArray)) ++ t393) ++ (⟨#[10]⟩ : ByteArray))) l0 (l0.length : Int) (wrap64 (x32_1 + 1))) else (none)) else (none)) else (none))) else (none)) else (none))) else (none)) else (none))) else (none))) else (none)) else (none)) else (none)) else (isohyetlaw25_DataBack.l0 k1 a1 a2 y377 x9_1 (x10_1 ++ (((((t380 ++ (⟨#[32]⟩ : ByteArray)) ++ t381) ++ (⟨#[32]⟩ : ByteArray)) ++ t382) ++ (⟨#[10]⟩ : ByteArray))) x11_1 l0 (l0.length : Int) (wrap64 (x32_1 + 1)))) else (none)) else (none)) else (none)) = some r := H
   have A21 := aK A210
   clear A210
   by_cases c22 : (((t380 ++ (⟨#[32]⟩ : ByteArray)) ++ t381) ++ (⟨#[32]⟩ : ByteArray)).size + t382.size ≤ 9223372036854775807
   rotate_left
   ·rw [if_neg c22] at H
    exact absurd H (by simp)
   rw [if_pos c22] at H
   have c22b0 := eq_true c22
   have c22b1 : decide ((((t380 ++ (⟨#[32]⟩ : ByteArray)) ++ t381) ++ (⟨#[32]⟩ : ByteArray)).size + t382.size ≤ 9223372036854775807) = true := decide_eq_true c22
   have c22b3 : (9223372036854775807 < t380.size + 1 + t381.size + 1 + t382.size) = False := eq_false (by have h_ := c22; simp only [ByteArray.size_append, show (⟨#[32]⟩ : ByteArray).size = 1 from rfl] at h_; omega)
   try have c22b2 : (9223372036854775807 < (((t380 ++ (⟨#[32]⟩ : ByteArray)) ++ t381) ++ (⟨#[32]⟩ : ByteArray)).size + t382.size) = False := eq_false (Nat.not_lt.2 c22)
   by_cases c23 : ((((t380 ++ (⟨#[32]⟩ : ByteArray)) ++ t381) ++ (⟨#[32]⟩ : ByteArray)) ++ t382).size + 1 ≤ 9223372036854775807
   rotate_left
   ·rw [if_neg c23] at H
    exact absurd H (by simp)
   rw [if_pos c23] at H
   have c23b0 := eq_true c23
   have c23b1 : decide (((((t380 ++ (⟨#[32]⟩ : ByteArray)) ++ t381) ++ (⟨#[32]⟩ : ByteArray)) ++ t382).size + 1 ≤ 9223372036854775807) = true := decide_eq_true c23
   have c23b3 : (9223372036854775807 < t380.size + 1 + t381.size + 1 + t382.size + 1) = False := eq_false (by have h_ := c23; simp only [ByteArray.size_append, show (⟨#[32]⟩ : ByteArray).size = 1 from rfl] at h_; omega)
   try have c23b2 : (9223372036854775807 < ((((t380 ++ (⟨#[32]⟩ : ByteArray)) ++ t381) ++ (⟨#[32]⟩ : ByteArray)) ++ t382).size + 1) = False := eq_false (Nat.not_lt.2 c23)
   by_cases c24 : x10_1.size + (((((t380 ++ (⟨#[32]⟩ : ByteArray)) ++ t381) ++ (⟨#[32]⟩ : ByteArray)) ++ t382) ++ (⟨#[10]⟩ : ByteArray)).size ≤ 9223372036854775807
   rotate_left
   ·rw [if_neg c24] at H
    exact absurd H (by simp)
   rw [if_pos c24] at H
   have c24b0 := eq_true c24
   have c24b1 : decide (x10_1.size + (((((t380 ++ (⟨#[32]⟩ : ByteArray)) ++ t381) ++ (⟨#[32]⟩ : ByteArray)) ++ t382) ++ (⟨#[10]⟩ : ByteArray)).size ≤ 9223372036854775807) = true := decide_eq_true c24
   have c24b3 : (9223372036854775807 < x10_1.size + (t380.size + 1 + t381.size + 1 + t382.size + 1)) = False := eq_false (by have h_ := c24; simp only [ByteArray.size_append, show (⟨#[10]⟩ : ByteArray).size = 1 from rfl, show (⟨#[32]⟩ : ByteArray).size = 1 from rfl] at h_; omega)
   try have c24b2 : (9223372036854775807 < x10_1.size + (((((t380 ++ (⟨#[32]⟩ : ByteArray)) ++ t381) ++ (⟨#[32]⟩ : ByteArray)) ++ t382) ++ (⟨#[10]⟩ : ByteArray)).size) = False := eq_false (Nat.not_lt.2 c24)
   by_cases c25 : x32_1 > 0
   rotate_left
   ·rw [if_neg c25] at H
    have c25b0 : decide (0 < x32_1) = false := decide_eq_false c25
    clear c25
    have H' := aK H
    clear H
    have p371 : 0 ≤ (x32_1 : Int) := of_decide_eq_true (by first | (with_reducible assumption) | assumption)
    have q371 : x32_1 < (l0.length : Int) := of_decide_eq_true (by first | (with_reducible assumption) | assumption)
    obtain ⟨ad371, e371, hx371_0, hx371_1, hx371_2⟩ := at_T34 HR0.out x32_1 p371 q371
    cases e371
    replace hx371_0 := (HB.out.cell (World.block_lt_of_cell? w _ hx371_0)).trans hx371_0
    replace hx371_1 := (HB.out.cell (World.block_lt_of_cell? w _ hx371_1)).trans hx371_1
    replace hx371_2 := (HB.out.cell (World.block_lt_of_cell? w _ hx371_2)).trans hx371_2
    replace p371 := eq_true p371
    replace q371 := eq_true q371
    try go_wp2_with (first | ((with_reducible refine gate_dst (N := 13) rfl ?_); (try (refine gate_guard (by rfl) ?_; dsimp only)); refine box_event ?hg (N := 13) ?hd (cs := #[.int .i64 0, .int .i64 0, .int .i64 0]) (t := 34) ?hr ?_; (case hd => rfl); (case hg => rfl); (case hr => first | (go_simp; done) | (go_simp; rfl)); intro gb372 hg w80 hbox hb; replace HO_8 := aK (Kd.R_below (Kd.R_elderB (gR HO_8.out) gb372 (Nat.le_of_eq hg.symm)) hb); replace HO_9 := aK (Kd.R_below (gR HO_9.out) hb); have n2_ := aK (below_step (gB HB.out) hb); have BK372 := aK (hbox); have GW372 := aK ((by rw [hg]; exact (below_size (gB HB.out)) : w.heap.size ≤ gb372)); have GE372 := aK ((by rw [hg]; exact (below_size (gB HB.out)) : w.heap.size ≤ gb372)); clear HB; have HB := n2_; clear n2_; clear hb hbox hg; have hcz81_0 : w80.cell? ⟨gb372, 0, none⟩ = some (.int .i64 0) := (blk_cell BK372.out 0).trans rfl; have hcz81_1 : w80.cell? ⟨gb372, 1, none⟩ = some (.int .i64 0) := (blk_cell BK372.out 1).trans rfl; have hcz81_2 : w80.cell? ⟨gb372, 2, none⟩ = some (.int .i64 0) := (blk_cell BK372.out 2).trans rfl; have hfz81_0 := blk_frozen BK372.out 0; have hfz81_1 := blk_frozen BK372.out 1; have hfz81_2 := blk_frozen BK372.out 2))
    have n0_ : Aside0 (Kd.R k34 34 (((w80.setCell ⟨gb372, 0, none⟩ (.int .i64 ((rd_T34 l0 x32_1).f0))).setCell ⟨gb372, 1, none⟩ (.int .i64 ((rd_T34 l0 x32_1).f1))).setCell ⟨gb372, 2, none⟩ (.int .i64 ((rd_T34 l0 x32_1).f2))) w.heap.size (fun k_ => k_ ≠ gb372) u8 x8_1) := ⟨by (with_reducible repeat (first | apply Kd.R_alloc | apply Kd.R_drewN | apply Kd.R_drew)); exact Kd.R_mono (Kd.R_far (p := ⟨gb372, 2, none⟩) (Kd.R_far (p := ⟨gb372, 1, none⟩) (Kd.R_far (p := ⟨gb372, 0, none⟩) (Kd.R_mono HO_8.out (fun k_ hk => (⟨hk, hk.2⟩ : _ ∧ k_ ≠ gb372))) (fun _ hk => hk.2) (.int .i64 ((rd_T34 l0 x32_1).f0))) (fun _ hk => hk.2) (.int .i64 ((rd_T34 l0 x32_1).f1))) (fun _ hk => hk.2) (.int .i64 ((rd_T34 l0 x32_1).f2))) (fun _ hk => hk.1.2)⟩
    have n1_ : Aside0 (Kd.R k52 52 (((w80.setCell ⟨gb372, 0, none⟩ (.int .i64 ((rd_T34 l0 x32_1).f0))).setCell ⟨gb372, 1, none⟩ (.int .i64 ((rd_T34 l0 x32_1).f1))).setCell ⟨gb372, 2, none⟩ (.int .i64 ((rd_T34 l0 x32_1).f2))) w.heap.size (fun _ => True) u9 x9_1) := ⟨by (with_reducible repeat (first | apply Kd.R_alloc | apply Kd.R_drewN | apply Kd.R_drew)); exact Kd.R_mono (Kd.R_far (p := ⟨gb372, 2, none⟩) (Kd.R_far (p := ⟨gb372, 1, none⟩) (Kd.R_far (p := ⟨gb372, 0, none⟩) (Kd.R_types HO_9.out BK372.out (by decide)) (fun _ hk => hk.2) (.int .i64 ((rd_T34 l0 x32_1).f0))) (fun _ hk => hk.2) (.int .i64 ((rd_T34 l0 x32_1).f1))) (fun _ hk => hk.2) (.int .i64 ((rd_T34 l0 x32_1).f2))) (fun _ hk => trivial)⟩
    have n2_ : Aside0 ((((w80.setCell ⟨gb372, 0, none⟩ (.int .i64 ((rd_T34 l0 x32_1).f0))).setCell ⟨gb372, 1, none⟩ (.int .i64 ((rd_T34 l0 x32_1).f1))).setCell ⟨gb372, 2, none⟩ (.int .i64 ((rd_T34 l0 x32_1).f2))).heap[gb372]? = some (.cells #[.int .i64 ((rd_T34 l0 x32_1).f0), .int .i64 ((rd_T34 l0 x32_1).f1), .int .i64 ((rd_T34 l0 x32_1).f2)] 34 (0, 0))) := ⟨by (with_reducible repeat (first | refine blk_drewN ?_ _ | refine blk_drew ?_ | refine blk_alloc ?_ _)); refine blk_put (cs := #[.int .i64 ((rd_T34 l0 x32_1).f0), .int .i64 ((rd_T34 l0 x32_1).f1), .int .i64 0]) ?_ 2 _ rfl; (with_reducible repeat (first | refine blk_drewN ?_ _ | refine blk_drew ?_ | refine blk_alloc ?_ _)); refine blk_put (cs := #[.int .i64 ((rd_T34 l0 x32_1).f0), .int .i64 0, .int .i64 0]) ?_ 1 _ rfl; (with_reducible repeat (first | refine blk_drewN ?_ _ | refine blk_drew ?_ | refine blk_alloc ?_ _)); refine blk_put (cs := #[.int .i64 0, .int .i64 0, .int .i64 0]) ?_ 0 _ rfl; (with_reducible repeat (first | refine blk_drewN ?_ _ | refine blk_drew ?_ | refine blk_alloc ?_ _)); exact BK372.out⟩
    have n3_ : Aside0 (Below w.heap.size w (((w80.setCell ⟨gb372, 0, none⟩ (.int .i64 ((rd_T34 l0 x32_1).f0))).setCell ⟨gb372, 1, none⟩ (.int .i64 ((rd_T34 l0 x32_1).f1))).setCell ⟨gb372, 2, none⟩ (.int .i64 ((rd_T34 l0 x32_1).f2)))) := ⟨by repeat (first | (with_reducible first | exact HB.out | apply bA | apply bN | apply bD | refine bS ?_ GE372.out) | exact HB.out)⟩
    (try clear HO_8)
    (try clear HO_9)
    (try clear BK372)
    (try clear HB)
    generalize (((w80.setCell ⟨gb372, 0, none⟩ (.int .i64 ((rd_T34 l0 x32_1).f0))).setCell ⟨gb372, 1, none⟩ (.int .i64 ((rd_T34 l0 x32_1).f1))).setCell ⟨gb372, 2, none⟩ (.int .i64 ((rd_T34 l0 x32_1).f2))) = w82 at n0_ n1_ n2_ n3_ ⊢
    have HO_8 := n0_
    have HO_9 := n1_
    have BK372 := n2_
    have HB := n3_
    clear n0_ n1_ n2_ n3_
    replace HO_8 := aK (Kd.R_drew HO_8.out)
    replace HO_9 := aK (Kd.R_drew HO_9.out)
    replace BK372 := aK (blk_drew BK372.out)
    replace HB := aK (bD HB.out)
    refine start_ (n := 15) (S := fun w' => w'.cell? ⟨gb372, 0, none⟩ = some (.int .i64 ((rd_T34 l0 x32_1).f0)) ∧ w'.cell? ⟨gb372, 1, none⟩ = some (.int .i64 ((rd_T34 l0 x32_1).f1)) ∧ w'.cell? ⟨gb372, 2, none⟩ = some (.int .i64 ((rd_T34 l0 x32_1).f2))) (ds := []) #[false, false, false, false, false, false, false, false, false, false, false, false, false, false, false] (by kernel_rfl) rfl rfl ⟨(blk_cell BK372.out 0).trans rfl, (blk_cell BK372.out 1).trans rfl, (blk_cell BK372.out 2).trans rfl⟩ (fun hHeld => ?_); refine with_tabW isohyetlaw25_DataBack.tab12 isohyetlaw25_DataBack.bits12 (fun HT_ HW_ => ?_)
    generalize w82.drew = w83 at HO_8 HO_9 BK372 HB hHeld ⊢
    refine pure_ (i := 0) (N := some 37) (v := ?_) (a' := ?_) #[true, false, false, false, false, false, false, false, false, false, false, false, false, false, false] rfl rfl (any_of HT_.out (by kernel_rfl)) (fun _ _ _ h => h) (Or.inl ⟨by rfl, ?_⟩) ?_ ?_
    rotate_left
    ·intro w'
     go_simp
     with_reducible rfl
    rotate_left
    ·simp only [Act.put, List.setIfInBounds_toArray, List.set_cons_zero, List.set_cons_succ, i64_w, i32_w]
     rfl
    refine pure_ (i := 1) (N := some 38) (v := ?_) (a' := ?_) #[true, true, false, false, false, false, false, false, false, false, false, false, false, false, false] rfl rfl (any_of HT_.out (by kernel_rfl)) (fun _ _ _ h => h) (Or.inl ⟨by rfl, ?_⟩) ?_ ?_
    rotate_left
    ·intro w'
     go_simp
     with_reducible rfl
    rotate_left
    ·simp only [Act.put, List.setIfInBounds_toArray, List.set_cons_zero, List.set_cons_succ, i64_w, i32_w]
     rfl
    refine pure_ (i := 4) (N := some 41) (v := ?_) (a' := ?_) #[true, true, false, false, true, false, false, false, false, false, false, false, false, false, false] rfl rfl (any_of HT_.out (by kernel_rfl)) (fun _ _ _ h => h) (Or.inl ⟨by rfl, ?_⟩) ?_ ?_
    rotate_left
    ·intro w'
     go_simp
     with_reducible rfl
    rotate_left
    ·simp only [Act.put, List.setIfInBounds_toArray, List.set_cons_zero, List.set_cons_succ, i64_w, i32_w]
     rfl
    refine pure_ (i := 5) (N := some 42) (v := ?_) (a' := ?_) #[true, true, false, false, true, true, false, false, false, false, false, false, false, false, false] rfl rfl (any_of HT_.out (by kernel_rfl)) (fun _ _ _ h => h) (Or.inl ⟨by rfl, ?_⟩) ?_ ?_
    rotate_left
    ·intro w'
     go_simp
     with_reducible rfl
    rotate_left
    ·simp only [Act.put, List.setIfInBounds_toArray, List.set_cons_zero, List.set_cons_succ, i64_w, i32_w]
     rfl
    refine pure_ (i := 8) (N := some 45) (v := ?_) (a' := ?_) #[true, true, false, false, true, true, false, false, true, false, false, false, false, false, false] rfl rfl (any_of HT_.out (by kernel_rfl)) (fun _ _ _ h => h) (Or.inl ⟨by rfl, ?_⟩) ?_ ?_
    rotate_left
    ·intro w'
     go_simp
     with_reducible rfl
    rotate_left
    ·simp only [Act.put, List.setIfInBounds_toArray, List.set_cons_zero, List.set_cons_succ, i64_w, i32_w]
     rfl
    refine pure_ (i := 9) (N := some 46) (v := ?_) (a' := ?_) #[true, true, false, false, true, true, false, false, true, true, false, false, false, false, false] rfl rfl (any_of HT_.out (by kernel_rfl)) (fun _ _ _ h => h) (Or.inl ⟨by rfl, ?_⟩) ?_ ?_
    rotate_left
    ·intro w'
     go_simp
     with_reducible rfl
    rotate_left
    ·simp only [Act.put, List.setIfInBounds_toArray, List.set_cons_zero, List.set_cons_succ, i64_w, i32_w]
     rfl
    refine take_ (i := 2) (N := some 39) (v := ?_) (a' := ?_) #[true, true, true, false, true, true, false, false, true, true, false, false, false, false, false] rfl rfl (take_ofW HT_.out HW_.out (by kernel_rfl)) (fun _ _ _ h => h) (Or.inl ⟨by rfl, ?_⟩) hHeld ?_ ?_
    rotate_left
    ·rintro w' ⟨s0, s1, s2⟩
     go_simp
     with_reducible rfl
    rotate_left
    ·simp only [Act.put, List.setIfInBounds_toArray, List.set_cons_zero, List.set_cons_succ, i64_w, i32_w]
     rfl
    refine take_ (i := 6) (N := some 43) (v := ?_) (a' := ?_) #[true, true, true, false, true, true, true, false, true, true, false, false, false, false, false] rfl rfl (take_ofW HT_.out HW_.out (by kernel_rfl)) (fun _ _ _ h => h) (Or.inl ⟨by rfl, ?_⟩) hHeld ?_ ?_
    rotate_left
    ·rintro w' ⟨s0, s1, s2⟩
     go_simp
     with_reducible rfl
    rotate_left
    ·simp only [Act.put, List.setIfInBounds_toArray, List.set_cons_zero, List.set_cons_succ, i64_w, i32_w]
     rfl
    refine take_ (i := 10) (N := some 47) (v := ?_) (a' := ?_) #[true, true, true, false, true, true, true, false, true, true, true, false, false, false, false] rfl rfl (take_ofW HT_.out HW_.out (by kernel_rfl)) (fun _ _ _ h => h) (Or.inl ⟨by rfl, ?_⟩) hHeld ?_ ?_
    rotate_left
    ·rintro w' ⟨s0, s1, s2⟩
     go_simp
     with_reducible rfl
    rotate_left
    ·simp only [Act.put, List.setIfInBounds_toArray, List.set_cons_zero, List.set_cons_succ, i64_w, i32_w]
     rfl
    refine join_ (σ := Nat) 1 #[true, true, true, true, true, true, true, true, true, true, true, true, true, true, false] (fun s_ => [(40, .int .i64 t373), (44, .int .i64 t374), (48, .int .i64 t375), (14, .pointer (some ⟨s_, 0, none⟩)), (49, .agg #[.int .i64 t373, .int .i64 t374, .int .i64 t375])]) (fun s_ w' => (w'.cell? ⟨gb372, 0, none⟩ = some (.int .i64 ((rd_T34 l0 x32_1).f0)) ∧ w'.cell? ⟨gb372, 1, none⟩ = some (.int .i64 ((rd_T34 l0 x32_1).f1)) ∧ w'.cell? ⟨gb372, 2, none⟩ = some (.int .i64 ((rd_T34 l0 x32_1).f2))) ∧ (Kd.R k34 34 w' w.heap.size (fun k_ => k_ ≠ gb372 ∧ k_ ≠ s_) u8 x8_1) ∧ (Kd.R k52 52 w' w.heap.size (fun _ => True) u9 x9_1) ∧ (w'.heap[gb372]? = some (.cells #[.int .i64 ((rd_T34 l0 x32_1).f0), .int .i64 ((rd_T34 l0 x32_1).f1), .int .i64 ((rd_T34 l0 x32_1).f2)] 34 (0, 0))) ∧ (w'.heap[s_]? = some (.cells #[.int .i64 0, .int .i64 0, .int .i64 0] 34 (0, 0))) ∧ (w.heap.size ≤ s_) ∧ (w.heap.size ≤ s_) ∧ (gb372 ≠ s_) ∧ (s_ ≠ gb372) ∧ (Below w.heap.size w w')) ?_ ?_
    rotate_left
    ·intro hCont
     refine two_ (i := 3) (j := 13) (Ni := some 40) (Nj := some 14) #[true, true, true, true, true, true, true, false, true, true, true, false, false, false, false] #[true, true, true, false, true, true, true, false, true, true, true, false, false, true, false] rfl rfl rfl rfl (two_of HT_.out (by kernel_rfl)) (by decide) (by decide) (fun K hK => ?_) (fun K hK => ?_)
     ·skip
      refine goesV_ (f := 15) (by rfl) Tryz.func15 (by kernel_rfl) rfl #[.int .i64 ((rd_T34 l0 x32_1).f0)] (by rfl) rfl rfl (by (try simp only [List.map_toArray, List.map_cons, List.map_nil]); first | done | rfl | (simp only [List.length_drop, List.length_take]; rfl)) ?_
      with_reducible refine (isohyetlaw25_bring.calls ((rd_T34 l0 x32_1).f0) t373 _ A12.out).mono ?_
      rintro e w' ⟨rfl, ⟨nd, rfl⟩⟩
      refine ⟨_, rfl, ?_⟩
      refine hK.out _ _ ⟨(blk_cell BK372.out 0).trans rfl, (blk_cell BK372.out 1).trans rfl, (blk_cell BK372.out 2).trans rfl⟩ (fun hHeld => ?_)
      clear hK K
      refine norm_ (a' := ?_) ?_ ?_
      rotate_left
      ·show Act.put _ (some 40) _ = _
       simp only [Act.put, List.setIfInBounds_toArray, List.set_cons_zero, List.set_cons_succ, i64_w, i32_w]
       rfl
      refine two_ (i := 7) (j := 13) (Ni := some 44) (Nj := some 14) #[true, true, true, true, true, true, true, true, true, true, true, false, false, false, false] #[true, true, true, true, true, true, true, false, true, true, true, false, false, true, false] rfl rfl rfl rfl (two_of HT_.out (by kernel_rfl)) (by decide) (by decide) (fun K hK => ?_) (fun K hK => ?_)
      ·skip
       refine goesV_ (f := 15) (by rfl) Tryz.func15 (by kernel_rfl) rfl #[.int .i64 ((rd_T34 l0 x32_1).f1)] (by rfl) rfl rfl (by (try simp only [List.map_toArray, List.map_cons, List.map_nil]); first | done | rfl | (simp only [List.length_drop, List.length_take]; rfl)) ?_
       with_reducible refine (isohyetlaw25_bring.calls ((rd_T34 l0 x32_1).f1) t374 _ A13.out).mono ?_
       rintro e w' ⟨rfl, ⟨nd, rfl⟩⟩
       refine ⟨_, rfl, ?_⟩
       refine hK.out _ _ ⟨(blk_cell BK372.out 0).trans rfl, (blk_cell BK372.out 1).trans rfl, (blk_cell BK372.out 2).trans rfl⟩ (fun hHeld => ?_)
       clear hK K
       refine norm_ (a' := ?_) ?_ ?_
       rotate_left
       ·show Act.put _ (some 44) _ = _
        simp only [Act.put, List.setIfInBounds_toArray, List.set_cons_zero, List.set_cons_succ, i64_w, i32_w]
        rfl
       refine two_ (i := 11) (j := 13) (Ni := some 48) (Nj := some 14) #[true, true, true, true, true, true, true, true, true, true, true, true, false, false, false] #[true, true, true, true, true, true, true, true, true, true, true, false, false, true, false] rfl rfl rfl rfl (two_of HT_.out (by kernel_rfl)) (by decide) (by decide) (fun K hK => ?_) (fun K hK => ?_)
       ·skip
        refine goesV_ (f := 15) (by rfl) Tryz.func15 (by kernel_rfl) rfl #[.int .i64 ((rd_T34 l0 x32_1).f2)] (by rfl) rfl rfl (by (try simp only [List.map_toArray, List.map_cons, List.map_nil]); first | done | rfl | (simp only [List.length_drop, List.length_take]; rfl)) ?_
        with_reducible refine (isohyetlaw25_bring.calls ((rd_T34 l0 x32_1).f2) t375 _ A14.out).mono ?_
        rintro e w' ⟨rfl, ⟨nd, rfl⟩⟩
        refine ⟨_, rfl, ?_⟩
        refine hK.out _ _ ⟨(blk_cell BK372.out 0).trans rfl, (blk_cell BK372.out 1).trans rfl, (blk_cell BK372.out 2).trans rfl⟩ (fun hHeld => ?_)
        clear hK K
        refine norm_ (a' := ?_) ?_ ?_
        rotate_left
        ·show Act.put _ (some 48) _ = _
         simp only [Act.put, List.setIfInBounds_toArray, List.set_cons_zero, List.set_cons_succ, i64_w, i32_w]
         rfl
        refine pure_ (i := 12) (N := some 49) (v := ?_) (a' := ?_) #[true, true, true, true, true, true, true, true, true, true, true, true, true, false, false] rfl rfl (any_of HT_.out (by kernel_rfl)) (fun _ _ _ h => h) (Or.inl ⟨by rfl, ?_⟩) ?_ ?_
        rotate_left
        ·intro w'
         go_simp
         with_reducible rfl
        rotate_left
        ·simp only [Act.put, List.setIfInBounds_toArray, List.set_cons_zero, List.set_cons_succ, i64_w, i32_w]
         rfl
        refine one_ (i := 13) (N := some 14) #[true, true, true, true, true, true, true, true, true, true, true, true, true, true, false] rfl rfl (one_of HT_.out (by kernel_rfl)) (by decide) (fun K hK => ?_)
        refine box_step ?hg (N := 14) ?hd (cs := #[.int .i64 0, .int .i64 0, .int .i64 0]) (t := 34) ?hr ?_; (case hd => rfl); (case hg => rfl); (case hr => first | (go_simp; done) | (go_simp; rfl))
        intro gb376 hg w84 hbox hb
        replace HO_8 := aK (Kd.R_below (Kd.R_elderB (gR HO_8.out) gb376 (Nat.le_of_eq hg.symm)) hb)
        replace HO_9 := aK (Kd.R_below (gR HO_9.out) hb)
        have n2_ := aK (blk_below (g := gb372) (o := .cells #[.int .i64 ((rd_T34 l0 x32_1).f0), .int .i64 ((rd_T34 l0 x32_1).f1), .int .i64 ((rd_T34 l0 x32_1).f2)] 34 (0, 0)) (gK BK372.out) hb)
        have n3_ := aK (below_step (by repeat (first | (with_reducible first | exact HB.out | apply bA | apply bN | apply bD | refine bS ?_ GE372.out) | exact HB.out)) hb)
        have BK376 := aK (hbox)
        have GW376 := aK ((by rw [hg]; exact (below_size (by repeat (first | (with_reducible first | exact HB.out | apply bA | apply bN | apply bD | refine bS ?_ GE372.out) | exact HB.out))) : w.heap.size ≤ gb376))
        have GE376 := aK ((by rw [hg]; exact (below_size (by repeat (first | (with_reducible first | exact HB.out | apply bA | apply bN | apply bD | refine bS ?_ GE372.out) | exact HB.out))) : w.heap.size ≤ gb376))
        have NB372_376 := aK ((by rw [hg]; exact Nat.ne_of_lt (blk_lt (g := gb372) (o := .cells #[.int .i64 ((rd_T34 l0 x32_1).f0), .int .i64 ((rd_T34 l0 x32_1).f1), .int .i64 ((rd_T34 l0 x32_1).f2)] 34 (0, 0)) (gK BK372.out)) : gb372 ≠ gb376))
        have NB376_372 := aK ((by rw [hg]; exact Nat.ne_of_gt (blk_lt (g := gb372) (o := .cells #[.int .i64 ((rd_T34 l0 x32_1).f0), .int .i64 ((rd_T34 l0 x32_1).f1), .int .i64 ((rd_T34 l0 x32_1).f2)] 34 (0, 0)) (gK BK372.out)) : gb376 ≠ gb372))
        clear BK372 HB
        have BK372 := n2_
        have HB := n3_
        clear n2_ n3_
        clear hb hbox hg
        refine hK.out _ _ ⟨(blk_cell BK372.out 0).trans rfl, (blk_cell BK372.out 1).trans rfl, (blk_cell BK372.out 2).trans rfl⟩ (fun hHeld => ?_)
        clear hK K
        refine norm_ (a' := ?_) ?_ ?_
        rotate_left
        ·show Act.put _ (some 14) _ = _
         simp only [Act.put, List.setIfInBounds_toArray, List.set_cons_zero, List.set_cons_succ, i64_w, i32_w]
         rfl
        exact norm_ (by simp only [putAll, Act.put, List.setIfInBounds_toArray, List.set_cons_zero, List.set_cons_succ]) (hCont (gb376) _ ⟨hHeld, (gR HO_8.out), (gR HO_9.out), (gK BK372.out), (gK BK376.out), GW376.out, GE376.out, NB372_376.out, NB376_372.out, (by repeat (first | (with_reducible first | exact HB.out | apply bA | apply bN | apply bD | refine bS ?_ GE372.out | refine bS ?_ GE376.out) | exact HB.out))⟩)
       ·skip
        refine box_step ?hg (N := 14) ?hd (cs := #[.int .i64 0, .int .i64 0, .int .i64 0]) (t := 34) ?hr ?_; (case hd => rfl); (case hg => rfl); (case hr => first | (go_simp; done) | (go_simp; rfl))
        intro gb376 hg w84 hbox hb
        replace HO_8 := aK (Kd.R_below (Kd.R_elderB (gR HO_8.out) gb376 (Nat.le_of_eq hg.symm)) hb)
        replace HO_9 := aK (Kd.R_below (gR HO_9.out) hb)
        have n2_ := aK (blk_below (g := gb372) (o := .cells #[.int .i64 ((rd_T34 l0 x32_1).f0), .int .i64 ((rd_T34 l0 x32_1).f1), .int .i64 ((rd_T34 l0 x32_1).f2)] 34 (0, 0)) (gK BK372.out) hb)
        have n3_ := aK (below_step (by repeat (first | (with_reducible first | exact HB.out | apply bA | apply bN | apply bD | refine bS ?_ GE372.out) | exact HB.out)) hb)
        have BK376 := aK (hbox)
        have GW376 := aK ((by rw [hg]; exact (below_size (by repeat (first | (with_reducible first | exact HB.out | apply bA | apply bN | apply bD | refine bS ?_ GE372.out) | exact HB.out))) : w.heap.size ≤ gb376))
        have GE376 := aK ((by rw [hg]; exact (below_size (by repeat (first | (with_reducible first | exact HB.out | apply bA | apply bN | apply bD | refine bS ?_ GE372.out) | exact HB.out))) : w.heap.size ≤ gb376))
        have NB372_376 := aK ((by rw [hg]; exact Nat.ne_of_lt (blk_lt (g := gb372) (o := .cells #[.int .i64 ((rd_T34 l0 x32_1).f0), .int .i64 ((rd_T34 l0 x32_1).f1), .int .i64 ((rd_T34 l0 x32_1).f2)] 34 (0, 0)) (gK BK372.out)) : gb372 ≠ gb376))
        have NB376_372 := aK ((by rw [hg]; exact Nat.ne_of_gt (blk_lt (g := gb372) (o := .cells #[.int .i64 ((rd_T34 l0 x32_1).f0), .int .i64 ((rd_T34 l0 x32_1).f1), .int .i64 ((rd_T34 l0 x32_1).f2)] 34 (0, 0)) (gK BK372.out)) : gb376 ≠ gb372))
        clear BK372 HB
        have BK372 := n2_
        have HB := n3_
        clear n2_ n3_
        clear hb hbox hg
        refine hK.out _ _ ⟨(blk_cell BK372.out 0).trans rfl, (blk_cell BK372.out 1).trans rfl, (blk_cell BK372.out 2).trans rfl⟩ (fun hHeld => ?_)
        clear hK K
        refine norm_ (a' := ?_) ?_ ?_
        rotate_left
        ·show Act.put _ (some 14) _ = _
         simp only [Act.put, List.setIfInBounds_toArray, List.set_cons_zero, List.set_cons_succ, i64_w, i32_w]
         rfl
        refine one_ (i := 11) (N := some 48) #[true, true, true, true, true, true, true, true, true, true, true, true, false, true, false] rfl rfl (one_of HT_.out (by kernel_rfl)) (by decide) (fun K hK => ?_)
        refine goesV_ (f := 15) (by rfl) Tryz.func15 (by kernel_rfl) rfl #[.int .i64 ((rd_T34 l0 x32_1).f2)] (by rfl) rfl rfl (by (try simp only [List.map_toArray, List.map_cons, List.map_nil]); first | done | rfl | (simp only [List.length_drop, List.length_take]; rfl)) ?_
        with_reducible refine (isohyetlaw25_bring.calls ((rd_T34 l0 x32_1).f2) t375 _ A14.out).mono ?_
        rintro e w' ⟨rfl, ⟨nd, rfl⟩⟩
        refine ⟨_, rfl, ?_⟩
        refine hK.out _ _ ⟨(blk_cell BK372.out 0).trans rfl, (blk_cell BK372.out 1).trans rfl, (blk_cell BK372.out 2).trans rfl⟩ (fun hHeld => ?_)
        clear hK K
        refine norm_ (a' := ?_) ?_ ?_
        rotate_left
        ·show Act.put _ (some 48) _ = _
         simp only [Act.put, List.setIfInBounds_toArray, List.set_cons_zero, List.set_cons_succ, i64_w, i32_w]
         rfl
        refine pure_ (i := 12) (N := some 49) (v := ?_) (a' := ?_) #[true, true, true, true, true, true, true, true, true, true, true, true, true, true, false] rfl rfl (any_of HT_.out (by kernel_rfl)) (fun _ _ _ h => h) (Or.inl ⟨by rfl, ?_⟩) ?_ ?_
        rotate_left
        ·intro w'
         go_simp
         with_reducible rfl
        rotate_left
        ·simp only [Act.put, List.setIfInBounds_toArray, List.set_cons_zero, List.set_cons_succ, i64_w, i32_w]
         rfl
        exact norm_ (by simp only [putAll, Act.put, List.setIfInBounds_toArray, List.set_cons_zero, List.set_cons_succ]) (hCont (gb376) _ ⟨hHeld, (gR HO_8.out), (gR HO_9.out), (gK BK372.out), (gK BK376.out), GW376.out, GE376.out, NB372_376.out, NB376_372.out, (by repeat (first | (with_reducible first | exact HB.out | apply bA | apply bN | apply bD | refine bS ?_ GE372.out | refine bS ?_ GE376.out) | exact HB.out))⟩)
      ·skip
       refine box_step ?hg (N := 14) ?hd (cs := #[.int .i64 0, .int .i64 0, .int .i64 0]) (t := 34) ?hr ?_; (case hd => rfl); (case hg => rfl); (case hr => first | (go_simp; done) | (go_simp; rfl))
       intro gb376 hg w84 hbox hb
       replace HO_8 := aK (Kd.R_below (Kd.R_elderB (gR HO_8.out) gb376 (Nat.le_of_eq hg.symm)) hb)
       replace HO_9 := aK (Kd.R_below (gR HO_9.out) hb)
       have n2_ := aK (blk_below (g := gb372) (o := .cells #[.int .i64 ((rd_T34 l0 x32_1).f0), .int .i64 ((rd_T34 l0 x32_1).f1), .int .i64 ((rd_T34 l0 x32_1).f2)] 34 (0, 0)) (gK BK372.out) hb)
       have n3_ := aK (below_step (by repeat (first | (with_reducible first | exact HB.out | apply bA | apply bN | apply bD | refine bS ?_ GE372.out) | exact HB.out)) hb)
       have BK376 := aK (hbox)
       have GW376 := aK ((by rw [hg]; exact (below_size (by repeat (first | (with_reducible first | exact HB.out | apply bA | apply bN | apply bD | refine bS ?_ GE372.out) | exact HB.out))) : w.heap.size ≤ gb376))
       have GE376 := aK ((by rw [hg]; exact (below_size (by repeat (first | (with_reducible first | exact HB.out | apply bA | apply bN | apply bD | refine bS ?_ GE372.out) | exact HB.out))) : w.heap.size ≤ gb376))
       have NB372_376 := aK ((by rw [hg]; exact Nat.ne_of_lt (blk_lt (g := gb372) (o := .cells #[.int .i64 ((rd_T34 l0 x32_1).f0), .int .i64 ((rd_T34 l0 x32_1).f1), .int .i64 ((rd_T34 l0 x32_1).f2)] 34 (0, 0)) (gK BK372.out)) : gb372 ≠ gb376))
       have NB376_372 := aK ((by rw [hg]; exact Nat.ne_of_gt (blk_lt (g := gb372) (o := .cells #[.int .i64 ((rd_T34 l0 x32_1).f0), .int .i64 ((rd_T34 l0 x32_1).f1), .int .i64 ((rd_T34 l0 x32_1).f2)] 34 (0, 0)) (gK BK372.out)) : gb376 ≠ gb372))
       clear BK372 HB
       have BK372 := n2_
       have HB := n3_
       clear n2_ n3_
       clear hb hbox hg
       refine hK.out _ _ ⟨(blk_cell BK372.out 0).trans rfl, (blk_cell BK372.out 1).trans rfl, (blk_cell BK372.out 2).trans rfl⟩ (fun hHeld => ?_)
       clear hK K
       refine norm_ (a' := ?_) ?_ ?_
       rotate_left
       ·show Act.put _ (some 14) _ = _
        simp only [Act.put, List.setIfInBounds_toArray, List.set_cons_zero, List.set_cons_succ, i64_w, i32_w]
        rfl
       refine one_ (i := 7) (N := some 44) #[true, true, true, true, true, true, true, true, true, true, true, false, false, true, false] rfl rfl (one_of HT_.out (by kernel_rfl)) (by decide) (fun K hK => ?_)
       refine goesV_ (f := 15) (by rfl) Tryz.func15 (by kernel_rfl) rfl #[.int .i64 ((rd_T34 l0 x32_1).f1)] (by rfl) rfl rfl (by (try simp only [List.map_toArray, List.map_cons, List.map_nil]); first | done | rfl | (simp only [List.length_drop, List.length_take]; rfl)) ?_
       with_reducible refine (isohyetlaw25_bring.calls ((rd_T34 l0 x32_1).f1) t374 _ A13.out).mono ?_
       rintro e w' ⟨rfl, ⟨nd, rfl⟩⟩
       refine ⟨_, rfl, ?_⟩
       refine hK.out _ _ ⟨(blk_cell BK372.out 0).trans rfl, (blk_cell BK372.out 1).trans rfl, (blk_cell BK372.out 2).trans rfl⟩ (fun hHeld => ?_)
       clear hK K
       refine norm_ (a' := ?_) ?_ ?_
       rotate_left
       ·show Act.put _ (some 44) _ = _
        simp only [Act.put, List.setIfInBounds_toArray, List.set_cons_zero, List.set_cons_succ, i64_w, i32_w]
        rfl
       refine one_ (i := 11) (N := some 48) #[true, true, true, true, true, true, true, true, true, true, true, true, false, true, false] rfl rfl (one_of HT_.out (by kernel_rfl)) (by decide) (fun K hK => ?_)
       refine goesV_ (f := 15) (by rfl) Tryz.func15 (by kernel_rfl) rfl #[.int .i64 ((rd_T34 l0 x32_1).f2)] (by rfl) rfl rfl (by (try simp only [List.map_toArray, List.map_cons, List.map_nil]); first | done | rfl | (simp only [List.length_drop, List.length_take]; rfl)) ?_
       with_reducible refine (isohyetlaw25_bring.calls ((rd_T34 l0 x32_1).f2) t375 _ A14.out).mono ?_
       rintro e w' ⟨rfl, ⟨nd, rfl⟩⟩
       refine ⟨_, rfl, ?_⟩
       refine hK.out _ _ ⟨(blk_cell BK372.out 0).trans rfl, (blk_cell BK372.out 1).trans rfl, (blk_cell BK372.out 2).trans rfl⟩ (fun hHeld => ?_)
       clear hK K
       refine norm_ (a' := ?_) ?_ ?_
       rotate_left
       ·show Act.put _ (some 48) _ = _
        simp only [Act.put, List.setIfInBounds_toArray, List.set_cons_zero, List.set_cons_succ, i64_w, i32_w]
        rfl
       refine pure_ (i := 12) (N := some 49) (v := ?_) (a' := ?_) #[true, true, true, true, true, true, true, true, true, true, true, true, true, true, false] rfl rfl (any_of HT_.out (by kernel_rfl)) (fun _ _ _ h => h) (Or.inl ⟨by rfl, ?_⟩) ?_ ?_
       rotate_left
       ·intro w'
        go_simp
        with_reducible rfl
       rotate_left
       ·simp only [Act.put, List.setIfInBounds_toArray, List.set_cons_zero, List.set_cons_succ, i64_w, i32_w]
        rfl
       exact norm_ (by simp only [putAll, Act.put, List.setIfInBounds_toArray, List.set_cons_zero, List.set_cons_succ]) (hCont (gb376) _ ⟨hHeld, (gR HO_8.out), (gR HO_9.out), (gK BK372.out), (gK BK376.out), GW376.out, GE376.out, NB372_376.out, NB376_372.out, (by repeat (first | (with_reducible first | exact HB.out | apply bA | apply bN | apply bD | refine bS ?_ GE372.out | refine bS ?_ GE376.out) | exact HB.out))⟩)
     ·skip
      refine box_step ?hg (N := 14) ?hd (cs := #[.int .i64 0, .int .i64 0, .int .i64 0]) (t := 34) ?hr ?_; (case hd => rfl); (case hg => rfl); (case hr => first | (go_simp; done) | (go_simp; rfl))
      intro gb376 hg w84 hbox hb
      replace HO_8 := aK (Kd.R_below (Kd.R_elderB (gR HO_8.out) gb376 (Nat.le_of_eq hg.symm)) hb)
      replace HO_9 := aK (Kd.R_below (gR HO_9.out) hb)
      have n2_ := aK (blk_below (g := gb372) (o := .cells #[.int .i64 ((rd_T34 l0 x32_1).f0), .int .i64 ((rd_T34 l0 x32_1).f1), .int .i64 ((rd_T34 l0 x32_1).f2)] 34 (0, 0)) (gK BK372.out) hb)
      have n3_ := aK (below_step (by repeat (first | (with_reducible first | exact HB.out | apply bA | apply bN | apply bD | refine bS ?_ GE372.out) | exact HB.out)) hb)
      have BK376 := aK (hbox)
      have GW376 := aK ((by rw [hg]; exact (below_size (by repeat (first | (with_reducible first | exact HB.out | apply bA | apply bN | apply bD | refine bS ?_ GE372.out) | exact HB.out))) : w.heap.size ≤ gb376))
      have GE376 := aK ((by rw [hg]; exact (below_size (by repeat (first | (with_reducible first | exact HB.out | apply bA | apply bN | apply bD | refine bS ?_ GE372.out) | exact HB.out))) : w.heap.size ≤ gb376))
      have NB372_376 := aK ((by rw [hg]; exact Nat.ne_of_lt (blk_lt (g := gb372) (o := .cells #[.int .i64 ((rd_T34 l0 x32_1).f0), .int .i64 ((rd_T34 l0 x32_1).f1), .int .i64 ((rd_T34 l0 x32_1).f2)] 34 (0, 0)) (gK BK372.out)) : gb372 ≠ gb376))
      have NB376_372 := aK ((by rw [hg]; exact Nat.ne_of_gt (blk_lt (g := gb372) (o := .cells #[.int .i64 ((rd_T34 l0 x32_1).f0), .int .i64 ((rd_T34 l0 x32_1).f1), .int .i64 ((rd_T34 l0 x32_1).f2)] 34 (0, 0)) (gK BK372.out)) : gb376 ≠ gb372))
      clear BK372 HB
      have BK372 := n2_
      have HB := n3_
      clear n2_ n3_
      clear hb hbox hg
      refine hK.out _ _ ⟨(blk_cell BK372.out 0).trans rfl, (blk_cell BK372.out 1).trans rfl, (blk_cell BK372.out 2).trans rfl⟩ (fun hHeld => ?_)
      clear hK K
      refine norm_ (a' := ?_) ?_ ?_
      rotate_left
      ·show Act.put _ (some 14) _ = _
       simp only [Act.put, List.setIfInBounds_toArray, List.set_cons_zero, List.set_cons_succ, i64_w, i32_w]
       rfl
      refine one_ (i := 3) (N := some 40) #[true, true, true, true, true, true, true, false, true, true, true, false, false, true, false] rfl rfl (one_of HT_.out (by kernel_rfl)) (by decide) (fun K hK => ?_)
      refine goesV_ (f := 15) (by rfl) Tryz.func15 (by kernel_rfl) rfl #[.int .i64 ((rd_T34 l0 x32_1).f0)] (by rfl) rfl rfl (by (try simp only [List.map_toArray, List.map_cons, List.map_nil]); first | done | rfl | (simp only [List.length_drop, List.length_take]; rfl)) ?_
      with_reducible refine (isohyetlaw25_bring.calls ((rd_T34 l0 x32_1).f0) t373 _ A12.out).mono ?_
      rintro e w' ⟨rfl, ⟨nd, rfl⟩⟩
      refine ⟨_, rfl, ?_⟩
      refine hK.out _ _ ⟨(blk_cell BK372.out 0).trans rfl, (blk_cell BK372.out 1).trans rfl, (blk_cell BK372.out 2).trans rfl⟩ (fun hHeld => ?_)
      clear hK K
      refine norm_ (a' := ?_) ?_ ?_
      rotate_left
      ·show Act.put _ (some 40) _ = _
       simp only [Act.put, List.setIfInBounds_toArray, List.set_cons_zero, List.set_cons_succ, i64_w, i32_w]
       rfl
      refine one_ (i := 7) (N := some 44) #[true, true, true, true, true, true, true, true, true, true, true, false, false, true, false] rfl rfl (one_of HT_.out (by kernel_rfl)) (by decide) (fun K hK => ?_)
      refine goesV_ (f := 15) (by rfl) Tryz.func15 (by kernel_rfl) rfl #[.int .i64 ((rd_T34 l0 x32_1).f1)] (by rfl) rfl rfl (by (try simp only [List.map_toArray, List.map_cons, List.map_nil]); first | done | rfl | (simp only [List.length_drop, List.length_take]; rfl)) ?_
      with_reducible refine (isohyetlaw25_bring.calls ((rd_T34 l0 x32_1).f1) t374 _ A13.out).mono ?_
      rintro e w' ⟨rfl, ⟨nd, rfl⟩⟩
      refine ⟨_, rfl, ?_⟩
      refine hK.out _ _ ⟨(blk_cell BK372.out 0).trans rfl, (blk_cell BK372.out 1).trans rfl, (blk_cell BK372.out 2).trans rfl⟩ (fun hHeld => ?_)
      clear hK K
      refine norm_ (a' := ?_) ?_ ?_
      rotate_left
      ·show Act.put _ (some 44) _ = _
       simp only [Act.put, List.setIfInBounds_toArray, List.set_cons_zero, List.set_cons_succ, i64_w, i32_w]
       rfl
      refine one_ (i := 11) (N := some 48) #[true, true, true, true, true, true, true, true, true, true, true, true, false, true, false] rfl rfl (one_of HT_.out (by kernel_rfl)) (by decide) (fun K hK => ?_)
      refine goesV_ (f := 15) (by rfl) Tryz.func15 (by kernel_rfl) rfl #[.int .i64 ((rd_T34 l0 x32_1).f2)] (by rfl) rfl rfl (by (try simp only [List.map_toArray, List.map_cons, List.map_nil]); first | done | rfl | (simp only [List.length_drop, List.length_take]; rfl)) ?_
      with_reducible refine (isohyetlaw25_bring.calls ((rd_T34 l0 x32_1).f2) t375 _ A14.out).mono ?_
      rintro e w' ⟨rfl, ⟨nd, rfl⟩⟩
      refine ⟨_, rfl, ?_⟩
      refine hK.out _ _ ⟨(blk_cell BK372.out 0).trans rfl, (blk_cell BK372.out 1).trans rfl, (blk_cell BK372.out 2).trans rfl⟩ (fun hHeld => ?_)
      clear hK K
      refine norm_ (a' := ?_) ?_ ?_
      rotate_left
      ·show Act.put _ (some 48) _ = _
       simp only [Act.put, List.setIfInBounds_toArray, List.set_cons_zero, List.set_cons_succ, i64_w, i32_w]
       rfl
      refine pure_ (i := 12) (N := some 49) (v := ?_) (a' := ?_) #[true, true, true, true, true, true, true, true, true, true, true, true, true, true, false] rfl rfl (any_of HT_.out (by kernel_rfl)) (fun _ _ _ h => h) (Or.inl ⟨by rfl, ?_⟩) ?_ ?_
      rotate_left
      ·intro w'
       go_simp
       with_reducible rfl
      rotate_left
      ·simp only [Act.put, List.setIfInBounds_toArray, List.set_cons_zero, List.set_cons_succ, i64_w, i32_w]
       rfl
      exact norm_ (by simp only [putAll, Act.put, List.setIfInBounds_toArray, List.set_cons_zero, List.set_cons_succ]) (hCont (gb376) _ ⟨hHeld, (gR HO_8.out), (gR HO_9.out), (gK BK372.out), (gK BK376.out), GW376.out, GE376.out, NB372_376.out, NB376_372.out, (by repeat (first | (with_reducible first | exact HB.out | apply bA | apply bN | apply bD | refine bS ?_ GE372.out | refine bS ?_ GE376.out) | exact HB.out))⟩)
    rintro gb376 w85 ⟨hS_, h0_, h1_, h2_, h3_, h4_, h5_, h6_, h7_, h8_⟩
    replace HO_8 : Aside0 (Kd.R k34 34 w85 w.heap.size (fun k_ => k_ ≠ gb372 ∧ k_ ≠ gb376) u8 x8_1) := ⟨h0_⟩
    replace HO_9 : Aside0 (Kd.R k52 52 w85 w.heap.size (fun _ => True) u9 x9_1) := ⟨h1_⟩
    replace BK372 : Aside0 (w85.heap[gb372]? = some (.cells #[.int .i64 ((rd_T34 l0 x32_1).f0), .int .i64 ((rd_T34 l0 x32_1).f1), .int .i64 ((rd_T34 l0 x32_1).f2)] 34 (0, 0))) := ⟨h2_⟩
    have BK376 : Aside0 (w85.heap[gb376]? = some (.cells #[.int .i64 0, .int .i64 0, .int .i64 0] 34 (0, 0))) := ⟨h3_⟩
    have GW376 : Aside0 (w.heap.size ≤ gb376) := ⟨h4_⟩
    have GE376 : Aside0 (w.heap.size ≤ gb376) := ⟨h5_⟩
    have NB372_376 : Aside0 (gb372 ≠ gb376) := ⟨h6_⟩
    have NB376_372 : Aside0 (gb376 ≠ gb372) := ⟨h7_⟩
    replace HB : Aside0 (Below w.heap.size w w85) := ⟨h8_⟩
    clear h0_ h1_ h2_ h3_ h4_ h5_ h6_ h7_ h8_
    have hHeld : w85.cell? ⟨gb372, 0, none⟩ = some (.int .i64 ((rd_T34 l0 x32_1).f0)) ∧ w85.cell? ⟨gb372, 1, none⟩ = some (.int .i64 ((rd_T34 l0 x32_1).f1)) ∧ w85.cell? ⟨gb372, 2, none⟩ = some (.int .i64 ((rd_T34 l0 x32_1).f2)) := hS_
    refine norm_ (a' := ?_) ?_ ?_
    rotate_left
    ·simp only [putAll, Act.put, List.setIfInBounds_toArray, List.set_cons_zero, List.set_cons_succ]
     rfl
    refine one_ (i := 14) (N := none) #[true, true, true, true, true, true, true, true, true, true, true, true, true, true, true] rfl rfl (one_of HT_.out (by kernel_rfl)) (by decide) (fun K hK => ?_)
    have hs86 : w85.cell? ⟨gb376, 0, none⟩ = some (.int .i64 0) := (blk_cell BK376.out 0).trans rfl
    have hfs86 := blk_frozen BK376.out 0
    have hns86_0 := NB372_376.out
    have hms86_0 := NB376_372.out
    have hs87 : w85.cell? ⟨gb376, 1, none⟩ = some (.int .i64 0) := (blk_cell BK376.out 1).trans rfl
    have hfs87 := blk_frozen BK376.out 1
    have hns87_0 := NB372_376.out
    have hms87_0 := NB376_372.out
    have hs88 : w85.cell? ⟨gb376, 2, none⟩ = some (.int .i64 0) := (blk_cell BK376.out 2).trans rfl
    have hfs88 := blk_frozen BK376.out 2
    have hns88_0 := NB372_376.out
    have hms88_0 := NB376_372.out
    refine skip_ (w1 := ?_) (by rfl) rfl ?_ ?_
    rotate_left
    ·go_simp
     rfl
    refine hK.out _ _ ⟨((cell_far (p := ⟨gb376, _, none⟩) NB372_376.out _).trans (((cell_far (p := ⟨gb376, _, none⟩) NB372_376.out _).trans (((cell_far (p := ⟨gb376, _, none⟩) NB372_376.out _).trans (hHeld.1)))))), ((cell_far (p := ⟨gb376, _, none⟩) NB372_376.out _).trans (((cell_far (p := ⟨gb376, _, none⟩) NB372_376.out _).trans (((cell_far (p := ⟨gb376, _, none⟩) NB372_376.out _).trans (hHeld.2.1)))))), ((cell_far (p := ⟨gb376, _, none⟩) NB372_376.out _).trans (((cell_far (p := ⟨gb376, _, none⟩) NB372_376.out _).trans (((cell_far (p := ⟨gb376, _, none⟩) NB372_376.out _).trans (hHeld.2.2))))))⟩ (fun hHeld => ?_)
    clear hK K
    refine done_ (done_of HT_.out (by kernel_rfl)) ?_
    have hnb89 := NB376_372.out
    have hnc89 := NB372_376.out
    have hcz90_0 : w85.cell? ⟨gb376, 0, none⟩ = some (.int .i64 0) := (blk_cell BK376.out 0).trans rfl
    have hcz90_1 : w85.cell? ⟨gb376, 1, none⟩ = some (.int .i64 0) := (blk_cell BK376.out 1).trans rfl
    have hcz90_2 : w85.cell? ⟨gb376, 2, none⟩ = some (.int .i64 0) := (blk_cell BK376.out 2).trans rfl
    have hfz90_0 := blk_frozen BK376.out 0
    have hfz90_1 := blk_frozen BK376.out 1
    have hfz90_2 := blk_frozen BK376.out 2
    try go_wp2_with (first | ((with_reducible refine gate_builtin (b := .append) (xs := #[.tmp 50, .tmp 52]) rfl ?_); (try (refine gate_guard (by rfl) ?_; dsimp only)); at_builtin; refine Kd.R_append k34 (w0 := w) w.heap.size rfl (.tmp 50) (.tmp 52) 23 34 (.agg #[(.int .i64 0), (.int .i64 0), (.int .i64 0)]) 24 rfl Tryz.underlying23 info34 rfl (by decide) (by omega) u8 x8_1 (⟨t373, t374, t375⟩ : S34) [.int .i64 t373, .int .i64 t374, .int .i64 t375] (fun k_ => k_ ≠ gb372 ∧ k_ ≠ gb376) (fun _ => False) rfl (by first | (go_simp; done) | (go_simp; rfl)) ?aP (fun _ hk => hk.elim) ?aF ?aO ?aB ?aS ?aL ?_; (case aP => exact k34_mkM _ _ _ (⟨t373, t374, t375⟩ : S34)); (case aB => exact (by repeat (first | (with_reducible first | exact HB.out | apply bA | apply bN | apply bD | refine bS ?_ GE372.out | refine bS ?_ GE376.out) | exact HB.out))); (case aF => exact (fun k_ hk => ⟨Kd.freshB (g := gb372) (o := .cells #[.int .i64 ((rd_T34 l0 x32_1).f0), .int .i64 ((rd_T34 l0 x32_1).f1), .int .i64 ((rd_T34 l0 x32_1).f2)] 34 (0, 0)) (by (with_reducible repeat (first | refine blk_drewN ?_ _ | refine blk_drew ?_ | refine blk_alloc ?_ _)); refine blk_far ?_ NB372_376.out _; (with_reducible repeat (first | refine blk_drewN ?_ _ | refine blk_drew ?_ | refine blk_alloc ?_ _)); refine blk_far ?_ NB372_376.out _; (with_reducible repeat (first | refine blk_drewN ?_ _ | refine blk_drew ?_ | refine blk_alloc ?_ _)); refine blk_far ?_ NB372_376.out _; (with_reducible repeat (first | refine blk_drewN ?_ _ | refine blk_drew ?_ | refine blk_alloc ?_ _)); exact BK372.out) k_ hk, Kd.freshB (g := gb376) (o := .cells #[.int .i64 t373, .int .i64 t374, .int .i64 t375] 34 (0, 0)) (by (with_reducible repeat (first | refine blk_drewN ?_ _ | refine blk_drew ?_ | refine blk_alloc ?_ _)); refine blk_put (cs := #[.int .i64 t373, .int .i64 t374, .int .i64 0]) ?_ 2 _ rfl; (with_reducible repeat (first | refine blk_drewN ?_ _ | refine blk_drew ?_ | refine blk_alloc ?_ _)); refine blk_put (cs := #[.int .i64 t373, .int .i64 0, .int .i64 0]) ?_ 1 _ rfl; (with_reducible repeat (first | refine blk_drewN ?_ _ | refine blk_drew ?_ | refine blk_alloc ?_ _)); refine blk_put (cs := #[.int .i64 0, .int .i64 0, .int .i64 0]) ?_ 0 _ rfl; (with_reducible repeat (first | refine blk_drewN ?_ _ | refine blk_drew ?_ | refine blk_alloc ?_ _)); exact BK376.out) k_ hk⟩)); (case aO => exact (gR (Kd.R_mono (Kd.R_far (p := ⟨gb376, 2, none⟩) (Kd.R_far (p := ⟨gb376, 1, none⟩) (Kd.R_far (p := ⟨gb376, 0, none⟩) (Kd.R_mono HO_8.out (fun k_ hk => (⟨hk, hk.2⟩ : _ ∧ k_ ≠ gb376))) (fun _ hk => hk.2) (.int .i64 t373)) (fun _ hk => hk.2) (.int .i64 t374)) (fun _ hk => hk.2) (.int .i64 t375)) (fun _ hk => ⟨hk.1.1, hk.1.2⟩)))); (case aS => exact (below_size (by repeat (first | (with_reducible first | exact HB.out | apply bA | apply bN | apply bD | refine bS ?_ GE372.out | refine bS ?_ GE376.out) | exact HB.out)))); (case aL => have := LMc15.out; omega); intro v378 w91 ho hb hg hat; rw [← Ny377.out] at ho; replace HO_9 := aK (Kd.R_over' (gR (Kd.R_mono (Kd.R_far (p := ⟨gb376, 2, none⟩) (Kd.R_far (p := ⟨gb376, 1, none⟩) (Kd.R_far (p := ⟨gb376, 0, none⟩) (Kd.R_types HO_9.out BK376.out (by decide)) (fun _ hk => hk.2) (.int .i64 t373)) (fun _ hk => hk.2) (.int .i64 t374)) (fun _ hk => hk.2) (.int .i64 t375)) (fun _ h_ => h_.1))) (Kd.R_typed (gR (Kd.R_mono (Kd.R_far (p := ⟨gb376, 2, none⟩) (Kd.R_far (p := ⟨gb376, 1, none⟩) (Kd.R_far (p := ⟨gb376, 0, none⟩) (Kd.R_mono HO_8.out (fun k_ hk => (⟨hk, hk.2⟩ : _ ∧ k_ ≠ gb376))) (fun _ hk => hk.2) (.int .i64 t373)) (fun _ hk => hk.2) (.int .i64 t374)) (fun _ hk => hk.2) (.int .i64 t375)) (fun _ h_ => h_.1)))) (by decide) hg); replace BK372 := aK (blk_grown (g := gb372) (o := .cells #[.int .i64 ((rd_T34 l0 x32_1).f0), .int .i64 ((rd_T34 l0 x32_1).f1), .int .i64 ((rd_T34 l0 x32_1).f2)] 34 (0, 0)) (by (with_reducible repeat (first | refine blk_drewN ?_ _ | refine blk_drew ?_ | refine blk_alloc ?_ _)); refine blk_far ?_ NB372_376.out _; (with_reducible repeat (first | refine blk_drewN ?_ _ | refine blk_drew ?_ | refine blk_alloc ?_ _)); refine blk_far ?_ NB372_376.out _; (with_reducible repeat (first | refine blk_drewN ?_ _ | refine blk_drew ?_ | refine blk_alloc ?_ _)); refine blk_far ?_ NB372_376.out _; (with_reducible repeat (first | refine blk_drewN ?_ _ | refine blk_drew ?_ | refine blk_alloc ?_ _)); exact BK372.out) hg (Kd.R_away HO_8.out (fun _ hk => hk.1))); have n2_ := aK (blk_grown (g := gb376) (o := .cells #[.int .i64 t373, .int .i64 t374, .int .i64 t375] 34 (0, 0)) (by (with_reducible repeat (first | refine blk_drewN ?_ _ | refine blk_drew ?_ | refine blk_alloc ?_ _)); refine blk_put (cs := #[.int .i64 t373, .int .i64 t374, .int .i64 0]) ?_ 2 _ rfl; (with_reducible repeat (first | refine blk_drewN ?_ _ | refine blk_drew ?_ | refine blk_alloc ?_ _)); refine blk_put (cs := #[.int .i64 t373, .int .i64 0, .int .i64 0]) ?_ 1 _ rfl; (with_reducible repeat (first | refine blk_drewN ?_ _ | refine blk_drew ?_ | refine blk_alloc ?_ _)); refine blk_put (cs := #[.int .i64 0, .int .i64 0, .int .i64 0]) ?_ 0 _ rfl; (with_reducible repeat (first | refine blk_drewN ?_ _ | refine blk_drew ?_ | refine blk_alloc ?_ _)); exact BK376.out) hg (Kd.R_away HO_8.out (fun _ hk => hk.2))); replace HB := aK (hb); have HO379 := aK (ho); clear BK376 HO_8; have BK376 := n2_; clear n2_; clear ho hb hg hat))
    replace HO_9 := aK (Kd.R_drew HO_9.out)
    replace HO379 := aK (Kd.R_drew HO379.out)
    replace BK372 := aK (blk_drew BK372.out)
    replace BK376 := aK (blk_drew BK376.out)
    replace HB := aK (bD HB.out)
    refine start_ (n := 20) (S := fun w' => w'.cell? ⟨gb376, 0, none⟩ = some (.int .i64 t373) ∧ w'.cell? ⟨gb376, 1, none⟩ = some (.int .i64 t374) ∧ w'.cell? ⟨gb376, 2, none⟩ = some (.int .i64 t375)) (ds := []) #[false, false, false, false, false, false, false, false, false, false, false, false, false, false, false, false, false, false, false, false] (by kernel_rfl) rfl rfl ⟨(blk_cell BK376.out 0).trans rfl, (blk_cell BK376.out 1).trans rfl, (blk_cell BK376.out 2).trans rfl⟩ (fun hHeld => ?_); refine with_tabW isohyetlaw25_DataBack.tab14 isohyetlaw25_DataBack.bits14 (fun HT_ HW_ => ?_)
    generalize w91.drew = w92 at HO_9 HO379 BK372 BK376 HB hHeld ⊢
    refine pure_ (i := 0) (N := some 54) (v := ?_) (a' := ?_) #[true, false, false, false, false, false, false, false, false, false, false, false, false, false, false, false, false, false, false, false] rfl rfl (any_of HT_.out (by kernel_rfl)) (fun _ _ _ h => h) (Or.inl ⟨by rfl, ?_⟩) ?_ ?_
    rotate_left
    ·intro w'
     go_simp
     with_reducible rfl
    rotate_left
    ·simp only [Act.put, List.setIfInBounds_toArray, List.set_cons_zero, List.set_cons_succ, i64_w, i32_w]
     rfl
    refine pure_ (i := 1) (N := some 55) (v := ?_) (a' := ?_) #[true, true, false, false, false, false, false, false, false, false, false, false, false, false, false, false, false, false, false, false] rfl rfl (any_of HT_.out (by kernel_rfl)) (fun _ _ _ h => h) (Or.inl ⟨by rfl, ?_⟩) ?_ ?_
    rotate_left
    ·intro w'
     go_simp
     with_reducible rfl
    rotate_left
    ·simp only [Act.put, List.setIfInBounds_toArray, List.set_cons_zero, List.set_cons_succ, i64_w, i32_w]
     rfl
    refine pure_ (i := 3) (N := some 57) (v := ?_) (a' := ?_) #[true, true, false, true, false, false, false, false, false, false, false, false, false, false, false, false, false, false, false, false] rfl rfl (any_of HT_.out (by kernel_rfl)) (fun _ _ _ h => h) (Or.inl ⟨by rfl, ?_⟩) ?_ ?_
    rotate_left
    ·intro w'
     go_simp
     with_reducible rfl
    rotate_left
    ·simp only [Act.put, List.setIfInBounds_toArray, List.set_cons_zero, List.set_cons_succ, i64_w, i32_w]
     rfl
    refine pure_ (i := 6) (N := some 60) (v := ?_) (a' := ?_) #[true, true, false, true, false, false, true, false, false, false, false, false, false, false, false, false, false, false, false, false] rfl rfl (any_of HT_.out (by kernel_rfl)) (fun _ _ _ h => h) (Or.inl ⟨by rfl, ?_⟩) ?_ ?_
    rotate_left
    ·intro w'
     go_simp
     with_reducible rfl
    rotate_left
    ·simp only [Act.put, List.setIfInBounds_toArray, List.set_cons_zero, List.set_cons_succ, i64_w, i32_w]
     rfl
    refine pure_ (i := 8) (N := some 62) (v := ?_) (a' := ?_) #[true, true, false, true, false, false, true, false, true, false, false, false, false, false, false, false, false, false, false, false] rfl rfl (any_of HT_.out (by kernel_rfl)) (fun _ _ _ h => h) (Or.inl ⟨by rfl, ?_⟩) ?_ ?_
    rotate_left
    ·intro w'
     go_simp
     with_reducible rfl
    rotate_left
    ·simp only [Act.put, List.setIfInBounds_toArray, List.set_cons_zero, List.set_cons_succ, i64_w, i32_w]
     rfl
    refine pure_ (i := 12) (N := some 66) (v := ?_) (a' := ?_) #[true, true, false, true, false, false, true, false, true, false, false, false, true, false, false, false, false, false, false, false] rfl rfl (any_of HT_.out (by kernel_rfl)) (fun _ _ _ h => h) (Or.inl ⟨by rfl, ?_⟩) ?_ ?_
    rotate_left
    ·intro w'
     go_simp
     with_reducible rfl
    rotate_left
    ·simp only [Act.put, List.setIfInBounds_toArray, List.set_cons_zero, List.set_cons_succ, i64_w, i32_w]
     rfl
    refine pure_ (i := 14) (N := some 68) (v := ?_) (a' := ?_) #[true, true, false, true, false, false, true, false, true, false, false, false, true, false, true, false, false, false, false, false] rfl rfl (any_of HT_.out (by kernel_rfl)) (fun _ _ _ h => h) (Or.inl ⟨by rfl, ?_⟩) ?_ ?_
    rotate_left
    ·intro w'
     go_simp
     with_reducible rfl
    rotate_left
    ·simp only [Act.put, List.setIfInBounds_toArray, List.set_cons_zero, List.set_cons_succ, i64_w, i32_w]
     rfl
    refine take_ (i := 2) (N := some 56) (v := ?_) (a' := ?_) #[true, true, true, true, false, false, true, false, true, false, false, false, true, false, true, false, false, false, false, false] rfl rfl (take_ofW HT_.out HW_.out (by kernel_rfl)) (fun _ _ _ h => h) (Or.inl ⟨by rfl, ?_⟩) hHeld ?_ ?_
    rotate_left
    ·rintro w' ⟨s0, s1, s2⟩
     go_simp
     with_reducible rfl
    rotate_left
    ·simp only [Act.put, List.setIfInBounds_toArray, List.set_cons_zero, List.set_cons_succ, i64_w, i32_w]
     rfl
    refine take_ (i := 7) (N := some 61) (v := ?_) (a' := ?_) #[true, true, true, true, false, false, true, true, true, false, false, false, true, false, true, false, false, false, false, false] rfl rfl (take_ofW HT_.out HW_.out (by kernel_rfl)) (fun _ _ _ h => h) (Or.inl ⟨by rfl, ?_⟩) hHeld ?_ ?_
    rotate_left
    ·rintro w' ⟨s0, s1, s2⟩
     go_simp
     with_reducible rfl
    rotate_left
    ·simp only [Act.put, List.setIfInBounds_toArray, List.set_cons_zero, List.set_cons_succ, i64_w, i32_w]
     rfl
    refine take_ (i := 13) (N := some 67) (v := ?_) (a' := ?_) #[true, true, true, true, false, false, true, true, true, false, false, false, true, true, true, false, false, false, false, false] rfl rfl (take_ofW HT_.out HW_.out (by kernel_rfl)) (fun _ _ _ h => h) (Or.inl ⟨by rfl, ?_⟩) hHeld ?_ ?_
    rotate_left
    ·rintro w' ⟨s0, s1, s2⟩
     go_simp
     with_reducible rfl
    rotate_left
    ·simp only [Act.put, List.setIfInBounds_toArray, List.set_cons_zero, List.set_cons_succ, i64_w, i32_w]
     rfl
    refine one_ (i := 4) (N := some 58) #[true, true, true, true, true, false, true, true, true, false, false, false, true, true, true, false, false, false, false, false] rfl rfl (one_of HT_.out (by kernel_rfl)) (by decide) (fun K hK => ?_)
    refine goes_ Tryz.func14 (by kernel_rfl) rfl #[.int .i64 t373, .int .i64 a1] (by rfl) rfl rfl (by (try simp only [List.map_toArray, List.map_cons, List.map_nil]); first | done | rfl | (simp only [List.length_drop, List.length_take]; rfl)) ?_
    with_reducible refine (deci_Text.calls k1 t373 a1 t380 _ A16.out).mono ?_
    rintro e w93 ⟨rfl, hb⟩
    refine ⟨_, rfl, ?_⟩
    replace HO_9 := aK (Kd.R_below (gR HO_9.out) hb)
    replace HO379 := aK (Kd.R_below (gR HO379.out) hb)
    replace BK372 := aK (blk_below (g := gb372) (o := .cells #[.int .i64 ((rd_T34 l0 x32_1).f0), .int .i64 ((rd_T34 l0 x32_1).f1), .int .i64 ((rd_T34 l0 x32_1).f2)] 34 (0, 0)) (gK BK372.out) hb)
    replace BK376 := aK (blk_below (gK BK376.out) hb)
    replace HB := aK (below_step (by repeat (first | (with_reducible first | exact HB.out | apply bA | apply bN | apply bD | refine bS ?_ GE372.out | refine bS ?_ GE376.out) | exact HB.out)) hb)
    (try clear hb)
    (try clear hb2)
    (try clear hk)
    (try clear hi)
    refine hK.out _ _ ⟨(blk_cell BK376.out 0).trans rfl, (blk_cell BK376.out 1).trans rfl, (blk_cell BK376.out 2).trans rfl⟩ (fun hHeld => ?_)
    clear hK K
    refine norm_ (a' := ?_) ?_ ?_
    rotate_left
    ·show Act.put _ (some 58) _ = _
     simp only [Act.put, List.setIfInBounds_toArray, List.set_cons_zero, List.set_cons_succ, i64_w, i32_w]
     rfl
    refine pure_ (i := 5) (N := some 59) (v := ?_) (a' := ?_) #[true, true, true, true, true, true, true, true, true, false, false, false, true, true, true, false, false, false, false, false] rfl rfl (any_of HT_.out (by kernel_rfl)) (fun _ _ _ h => h) (Or.inl ⟨by rfl, ?_⟩) ?_ ?_
    rotate_left
    ·intro w'
     go_simp
     with_reducible rfl
    rotate_left
    ·simp only [Act.put, List.setIfInBounds_toArray, List.set_cons_zero, List.set_cons_succ, i64_w, i32_w]
     rfl
    refine one_ (i := 9) (N := some 63) #[true, true, true, true, true, true, true, true, true, true, false, false, true, true, true, false, false, false, false, false] rfl rfl (one_of HT_.out (by kernel_rfl)) (by decide) (fun K hK => ?_)
    refine goes_ Tryz.func14 (by kernel_rfl) rfl #[.int .i64 t374, .int .i64 a1] (by rfl) rfl rfl (by (try simp only [List.map_toArray, List.map_cons, List.map_nil]); first | done | rfl | (simp only [List.length_drop, List.length_take]; rfl)) ?_
    with_reducible refine (deci_Text.calls k1 t374 a1 t381 _ A18.out).mono ?_
    rintro e w94 ⟨rfl, hb⟩
    refine ⟨_, rfl, ?_⟩
    replace HO_9 := aK (Kd.R_below (gR HO_9.out) hb)
    replace HO379 := aK (Kd.R_below (gR HO379.out) hb)
    replace BK372 := aK (blk_below (g := gb372) (o := .cells #[.int .i64 ((rd_T34 l0 x32_1).f0), .int .i64 ((rd_T34 l0 x32_1).f1), .int .i64 ((rd_T34 l0 x32_1).f2)] 34 (0, 0)) (gK BK372.out) hb)
    replace BK376 := aK (blk_below (gK BK376.out) hb)
    replace HB := aK (below_step (by repeat (first | (with_reducible first | exact HB.out | apply bA | apply bN | apply bD | refine bS ?_ GE372.out | refine bS ?_ GE376.out) | exact HB.out)) hb)
    (try clear hb)
    (try clear hb2)
    (try clear hk)
    (try clear hi)
    refine hK.out _ _ ⟨(blk_cell BK376.out 0).trans rfl, (blk_cell BK376.out 1).trans rfl, (blk_cell BK376.out 2).trans rfl⟩ (fun hHeld => ?_)
    clear hK K
    refine norm_ (a' := ?_) ?_ ?_
    rotate_left
    ·show Act.put _ (some 63) _ = _
     simp only [Act.put, List.setIfInBounds_toArray, List.set_cons_zero, List.set_cons_succ, i64_w, i32_w]
     rfl
    refine pure_ (i := 10) (N := some 64) (v := ?_) (a' := ?_) #[true, true, true, true, true, true, true, true, true, true, true, false, true, true, true, false, false, false, false, false] rfl rfl (any_of HT_.out (by kernel_rfl)) (fun _ _ _ h => h) (Or.inl ⟨by rfl, ?_⟩) ?_ ?_
    rotate_left
    ·intro w'
     go_simp
     with_reducible rfl
    rotate_left
    ·simp only [Act.put, List.setIfInBounds_toArray, List.set_cons_zero, List.set_cons_succ, i64_w, i32_w]
     rfl
    refine pure_ (i := 11) (N := some 65) (v := ?_) (a' := ?_) #[true, true, true, true, true, true, true, true, true, true, true, true, true, true, true, false, false, false, false, false] rfl rfl (any_of HT_.out (by kernel_rfl)) (fun _ _ _ h => h) (Or.inl ⟨by rfl, ?_⟩) ?_ ?_
    rotate_left
    ·intro w'
     go_simp
     with_reducible rfl
    rotate_left
    ·simp only [Act.put, List.setIfInBounds_toArray, List.set_cons_zero, List.set_cons_succ, i64_w, i32_w]
     rfl
    refine one_ (i := 15) (N := some 69) #[true, true, true, true, true, true, true, true, true, true, true, true, true, true, true, true, false, false, false, false] rfl rfl (one_of HT_.out (by kernel_rfl)) (by decide) (fun K hK => ?_)
    refine goes_ Tryz.func14 (by kernel_rfl) rfl #[.int .i64 t375, .int .i64 a2] (by rfl) rfl rfl (by (try simp only [List.map_toArray, List.map_cons, List.map_nil]); first | done | rfl | (simp only [List.length_drop, List.length_take]; rfl)) ?_
    with_reducible refine (deci_Text.calls k1 t375 a2 t382 _ A21.out).mono ?_
    rintro e w95 ⟨rfl, hb⟩
    refine ⟨_, rfl, ?_⟩
    replace HO_9 := aK (Kd.R_below (gR HO_9.out) hb)
    replace HO379 := aK (Kd.R_below (gR HO379.out) hb)
    replace BK372 := aK (blk_below (g := gb372) (o := .cells #[.int .i64 ((rd_T34 l0 x32_1).f0), .int .i64 ((rd_T34 l0 x32_1).f1), .int .i64 ((rd_T34 l0 x32_1).f2)] 34 (0, 0)) (gK BK372.out) hb)
    replace BK376 := aK (blk_below (gK BK376.out) hb)
    replace HB := aK (below_step (by repeat (first | (with_reducible first | exact HB.out | apply bA | apply bN | apply bD | refine bS ?_ GE372.out | refine bS ?_ GE376.out) | exact HB.out)) hb)
    (try clear hb)
    (try clear hb2)
    (try clear hk)
    (try clear hi)
    refine hK.out _ _ ⟨(blk_cell BK376.out 0).trans rfl, (blk_cell BK376.out 1).trans rfl, (blk_cell BK376.out 2).trans rfl⟩ (fun hHeld => ?_)
    clear hK K
    refine norm_ (a' := ?_) ?_ ?_
    rotate_left
    ·show Act.put _ (some 69) _ = _
     simp only [Act.put, List.setIfInBounds_toArray, List.set_cons_zero, List.set_cons_succ, i64_w, i32_w]
     rfl
    refine pure_ (i := 16) (N := some 70) (v := ?_) (a' := ?_) #[true, true, true, true, true, true, true, true, true, true, true, true, true, true, true, true, true, false, false, false] rfl rfl (any_of HT_.out (by kernel_rfl)) (fun _ _ _ h => h) (Or.inl ⟨by rfl, ?_⟩) ?_ ?_
    rotate_left
    ·intro w'
     go_simp
     with_reducible rfl
    rotate_left
    ·simp only [Act.put, List.setIfInBounds_toArray, List.set_cons_zero, List.set_cons_succ, i64_w, i32_w]
     rfl
    refine pure_ (i := 17) (N := some 71) (v := ?_) (a' := ?_) #[true, true, true, true, true, true, true, true, true, true, true, true, true, true, true, true, true, true, false, false] rfl rfl (any_of HT_.out (by kernel_rfl)) (fun _ _ _ h => h) (Or.inl ⟨by rfl, ?_⟩) ?_ ?_
    rotate_left
    ·intro w'
     go_simp
     with_reducible rfl
    rotate_left
    ·simp only [Act.put, List.setIfInBounds_toArray, List.set_cons_zero, List.set_cons_succ, i64_w, i32_w]
     rfl
    refine pure_ (i := 18) (N := some 72) (v := ?_) (a' := ?_) #[true, true, true, true, true, true, true, true, true, true, true, true, true, true, true, true, true, true, true, false] rfl rfl (any_of HT_.out (by kernel_rfl)) (fun _ _ _ h => h) (Or.inl ⟨by rfl, ?_⟩) ?_ ?_
    rotate_left
    ·intro w'
     go_simp
     with_reducible rfl
    rotate_left
    ·simp only [Act.put, List.setIfInBounds_toArray, List.set_cons_zero, List.set_cons_succ, i64_w, i32_w]
     rfl
    refine pure_ (i := 19) (N := some 10) (v := ?_) (a' := ?_) #[true, true, true, true, true, true, true, true, true, true, true, true, true, true, true, true, true, true, true, true] rfl rfl (any_of HT_.out (by kernel_rfl)) (fun _ _ _ h => h) (Or.inl ⟨by rfl, ?_⟩) ?_ ?_
    rotate_left
    ·intro w'
     go_simp
     with_reducible rfl
    rotate_left
    ·simp only [Act.put, List.setIfInBounds_toArray, List.set_cons_zero, List.set_cons_succ, i64_w, i32_w]
     rfl
    refine done_ (done_of HT_.out (by kernel_rfl)) ?_
    try go_wp2
    go_roundg k1
    case measure => have := HK1.out; omega
    case rel => exact ⟨(y377), (x9_1), (x10_1 ++ (((((t380 ++ (⟨#[32]⟩ : ByteArray)) ++ t381) ++ (⟨#[32]⟩ : ByteArray)) ++ t382) ++ (⟨#[10]⟩ : ByteArray))), (x11_1), (wrap64 (x32_1 + 1)), (by first | rfl | (simp; done) | (simp [*]; done)), (by first | rfl | (simp; done) | (simp [*]; done)), (by first | rfl | (simp; done) | (simp [*]; done)), H', ⟨by have := HK1.out; omega⟩, ⟨by (with_reducible repeat (first | apply Kd.R_alloc | apply Kd.R_drewN | apply Kd.R_drew)); exact Kd.R_mono HO379.out (fun _ hk => trivial)⟩, ⟨gR HO_9.out⟩, ⟨by repeat (first | (with_reducible first | exact HB.out | apply bA | apply bN | apply bD | refine bS ?_ GE372.out | refine bS ?_ GE376.out) | exact HB.out)⟩⟩
   rw [if_pos c25] at H
   have c25b0 : decide (0 < x32_1) = true := decide_eq_true c25
   clear c25
   obtain ⟨ji26, hji26⟩ : ∃ j_ : Int, (wrap64 (x32_1 - 1)) = j_ := ⟨_, rfl⟩
   replace H : (if 0 ≤ (ji26) then (if (ji26) < (y377.length : Int) then (if x9_1.length < 4398046511104 then ((deci_Text.f k1 ((rd_T34 y377 (ji26)).f0) a1).bind fun t390 => (if t390.size + 1 ≤ 9223372036854775807 then ((deci_Text.f k1 ((rd_T34 y377 (ji26)).f1) a1).bind fun t391 => (if (t390 ++ (⟨#[32]⟩ : ByteArray)).size + t391.size ≤ 9223372036854775807 then (if ((t390 ++ (⟨#[32]⟩ : ByteArray)) ++ t391).size + 1 ≤ 9223372036854775807 then ((deci_Text.f k1 t373 a1).bind fun t392 => (if (((t390 ++ (⟨#[32]⟩ : ByteArray)) ++ t391) ++ (⟨#[32]⟩ : ByteArray)).size + t392.size ≤ 9223372036854775807 then (if ((((t390 ++ (⟨#[32]⟩ : ByteArray)) ++ t391) ++ (⟨#[32]⟩ : ByteArray)) ++ t392).size + 1 ≤ 9223372036854775807 then ((deci_Text.f k1 t374 a1).bind fun t393 => (if (((((t390 ++ (⟨#[32]⟩ : ByteArray)) ++ t391) ++ (⟨#[32]⟩ : ByteArray)) ++ t392) ++ (⟨#[32]⟩ : ByteArray)).size + t393.size ≤ 9223372036854775807 then (if ((((((t390 ++ (⟨#[32]⟩ : ByteArray)) ++ t391) ++ (⟨#[32]⟩ : ByteArray)) ++ t392) ++ (⟨#[32]⟩ : ByteArray)) ++ t393).size + 1 ≤ 9223372036854775807 then (if x11_1.size + (((((((t390 ++ (⟨#[32]⟩ : ByteArray)) ++ t391) ++ (⟨#[32]⟩ : ByteArray)) ++ t392) ++ (⟨#[32]⟩ : ByteArray)) ++ t393) ++ (⟨#[10]⟩ : ByteArray)).size ≤ 9223372036854775807 then (isohyetlaw25_DataBack.l0 k1 a1 a2 y377 (x9_1 ++ [(⟨(⟨(rd_T34 y377 (ji26)).f0, (rd_T34 y377 (ji26)).f1⟩ : S51), (⟨t373, t374⟩ : S51)⟩ : S52)]) (x10_1 ++ (((((t380 ++ (⟨#[32]⟩ : ByteArray)) ++ t381) ++ (⟨#[32]⟩ : ByteArray)) ++ t382) ++ (⟨#[10]⟩ : ByteArray))) (x11_1 ++ (((((((t390 ++ (⟨#[32]⟩ : ByteArray)) ++ t391) ++ (⟨#[32]⟩ : ByteArray)) ++ t392) ++ (⟨#[32]⟩ : ByteArray)) ++ t393) ++ (⟨#[10]⟩ : ByteArray))) l0 (l0.length : Int) (wrap64 (x32_1 + 1))) else (none)) else (none)) else (none))) else (none)) else (none))) else (none)) else (none))) else (none))) else (none)) else (none)) else (none)) = some r := by first | (rw [hji26] at H; exact H) | (simp only [hji26] at H ⊢; exact H)
   (try rw [hji26] at A12)
   (try rw [hji26] at A13)
   (try rw [hji26] at A14)
   (try rw [hji26] at A16)
   (try rw [hji26] at A18)
   (try rw [hji26] at A21)
   have hji26w : (IntKind.i64.wrap (x32_1 - 1)) = ji26 := (i64_w _).trans hji26
   by_cases c27 : 0 ≤ (ji26)
   rotate_left
   ·rw [if_neg c27] at H
    exact absurd H (by simp)
   rw [if_pos c27] at H
   have c27b0 : decide (0 ≤ (ji26)) = true := decide_eq_true c27
   clear c27
   by_cases c28 : (ji26) < (y377.length : Int)
   rotate_left
   ·rw [if_neg c28] at H
    exact absurd H (by simp)
   rw [if_pos c28] at H
   have c28b0 : decide ((ji26) < (y377.length : Int)) = true := decide_eq_true c28
   clear c28
   by_cases c29 : x9_1.length < 4398046511104
   rotate_left
   ·rw [if_neg c29] at H
    exact absurd H (by simp)
   rw [if_pos c29] at H
   have LMc29 := aK c29
   clear c29
   obtain ⟨y387, hy387⟩ : ∃ y_ : List (S52), y_ = (x9_1 ++ [(⟨(⟨(rd_T34 y377 (ji26)).f0, (rd_T34 y377 (ji26)).f1⟩ : S51), (⟨t373, t374⟩ : S51)⟩ : S52)]) := ⟨_, rfl⟩
   replace H : ((deci_Text.f k1 ((rd_T34 y377 (ji26)).f0) a1).bind fun t390 => (if t390.size + 1 ≤ 9223372036854775807 then ((deci_Text.f k1 ((rd_T34 y377 (ji26)).f1) a1).bind fun t391 => (if (t390 ++ (⟨#[32]⟩ : ByteArray)).size + t391.size ≤ 9223372036854775807 then (if ((t390 ++ (⟨#[32]⟩ : ByteArray)) ++ t391).size + 1 ≤ 9223372036854775807 then ((deci_Text.f k1 t373 a1).bind fun t392 => (if (((t390 ++ (⟨#[32]⟩ : ByteArray)) ++ t391) ++ (⟨#[32]⟩ : ByteArray)).size + t392.size ≤ 9223372036854775807 then (if ((((t390 ++ (⟨#[32]⟩ : ByteArray)) ++ t391) ++ (⟨#[32]⟩ : ByteArray)) ++ t392).size + 1 ≤ 9223372036854775807 then ((deci_Text.f k1 t374 a1).bind fun t393 => (if (((((t390 ++ (⟨#[32]⟩ : ByteArray)) ++ t391) ++ (⟨#[32]⟩ : ByteArray)) ++ t392) ++ (⟨#[32]⟩ : ByteArray)).size + t393.size ≤ 9223372036854775807 then (if ((((((t390 ++ (⟨#[32]⟩ : ByteArray)) ++ t391) ++ (⟨#[32]⟩ : ByteArray)) ++ t392) ++ (⟨#[32]⟩ : ByteArray)) ++ t393).size + 1 ≤ 9223372036854775807 then (if x11_1.size + (((((((t390 ++ (⟨#[32]⟩ : ByteArray)) ++ t391) ++ (⟨#[32]⟩ : ByteArray)) ++ t392) ++ (⟨#[32]⟩ : ByteArray)) ++ t393) ++ (⟨#[10]⟩ : ByteArray)).size ≤ 9223372036854775807 then (isohyetlaw25_DataBack.l0 k1 a1 a2 y377 y387 (x10_1 ++ (((((t380 ++ (⟨#[32]⟩ : ByteArray)) ++ t381) ++ (⟨#[32]⟩ : ByteArray)) ++ t382) ++ (⟨#[10]⟩ : ByteArray))) (x11_1 ++ (((((((t390 ++ (⟨#[32]⟩ : ByteArray)) ++ t391) ++ (⟨#[32]⟩ : ByteArray)) ++ t392) ++ (⟨#[32]⟩ : ByteArray)) ++ t393) ++ (⟨#[10]⟩ : ByteArray))) l0 (l0.length : Int) (wrap64 (x32_1 + 1))) else (none)) else (none)) else (none))) else (none)) else (none))) else (none)) else (none))) else (none))) = some r := by first | (rw [hy387]; with_reducible exact H) | (have H2_ := (Option.bind_some _ _).symm.trans H; rw [hy387]; with_reducible exact H2_) | (have H2_ := (Option.bind_some _ _).symm.trans H; with_reducible exact H2_) | with_reducible exact H | (rw [hy387]; exact H) | exact H
   have Ny387 := aK hy387
   clear hy387
   replace H := Option.bind_eq_some_iff.mp H
   obtain ⟨t390, A300, H⟩ := H
   replace H : (if t390.size + 1 ≤ 9223372036854775807 then ((deci_Text.f k1 ((rd_T34 y377 (ji26)).f1) a1).bind fun t391 => (if (t390 ++ (⟨#[32]⟩ : ByteArray)).size + t391.size ≤ 9223372036854775807 then (if ((t390 ++ (⟨#[32]⟩ : ByteArray)) ++ t391).size + 1 ≤ 9223372036854775807 then ((deci_Text.f k1 t373 a1).bind fun t392 => (if (((t390 ++ (⟨#[32]⟩ : ByteArray)) ++ t391) ++ (⟨#[32]⟩ : ByteArray)).size + t392.size ≤ 9223372036854775807 then (if ((((t390 ++ (⟨#[32]⟩ : ByteArray)) ++ t391) ++ (⟨#[32]⟩ : ByteArray)) ++ t392).size + 1 ≤ 9223372036854775807 then ((deci_Text.f k1 t374 a1).bind fun t393 => (if (((((t390 ++ (⟨#[32]⟩ : ByteArray)) ++ t391) ++ (⟨#[32]⟩ : ByteArray)) ++ t392) ++ (⟨#[32]⟩ : ByteArray)).size + t393.size ≤ 9223372036854775807 then (if ((((((t390 ++ (⟨#[32]⟩ : ByteArray)) ++ t391) ++ (⟨#[32]⟩ : ByteArray)) ++ t392) ++ (⟨#[32]⟩ : ByteArray)) ++ t393).size + 1 ≤ 9223372036854775807 then (if x11_1.size + (((((((t390 ++ (⟨#[32]⟩ : ByteArray)) ++ t391) ++ (⟨#[32]⟩ : ByteArray)) ++ t392) ++ (⟨#[32]⟩ : ByteArray)) ++ t393) ++ (⟨#[10]⟩ : ByteArray)).size ≤ 9223372036854775807 then (isohyetlaw25_DataBack.l0 k1 a1 a2 y377 y387 (x10_1 ++ (((((t380 ++ (⟨#[32]⟩ : ByteArray)) ++ t381) ++ (⟨#[32]⟩ : ByteArray)) ++ t382) ++ (⟨#[10]⟩ : ByteArray))) (x11_1 ++ (((((((t390 ++ (⟨#[32]⟩ : ByteArray)) ++ t391) ++ (⟨#[32]⟩ : ByteArray)) ++ t392) ++ (⟨#[32]⟩ : ByteArray)) ++ t393) ++ (⟨#[10]⟩ : ByteArray))) l0 (l0.length : Int) (wrap64 (x32_1 + 1))) else (none)) else (none)) else (none))) else (none)) else (none))) else (none)) else (none))) else (none)) = some r := H
   have A30 := aK A300
   clear A300
   by_cases c31 : t390.size + 1 ≤ 9223372036854775807
   rotate_left
   ·rw [if_neg c31] at H
    exact absurd H (by simp)
   rw [if_pos c31] at H
   have c31b0 := eq_true c31
   have c31b1 : decide (t390.size + 1 ≤ 9223372036854775807) = true := decide_eq_true c31
   try have c31b2 : (9223372036854775807 < t390.size + 1) = False := eq_false (Nat.not_lt.2 c31)
   replace H := Option.bind_eq_some_iff.mp H
   obtain ⟨t391, A320, H⟩ := H
   replace H : (if (t390 ++ (⟨#[32]⟩ : ByteArray)).size + t391.size ≤ 9223372036854775807 then (if ((t390 ++ (⟨#[32]⟩ : ByteArray)) ++ t391).size + 1 ≤ 9223372036854775807 then ((deci_Text.f k1 t373 a1).bind fun t392 => (if (((t390 ++ (⟨#[32]⟩ : ByteArray)) ++ t391) ++ (⟨#[32]⟩ : ByteArray)).size + t392.size ≤ 9223372036854775807 then (if ((((t390 ++ (⟨#[32]⟩ : ByteArray)) ++ t391) ++ (⟨#[32]⟩ : ByteArray)) ++ t392).size + 1 ≤ 9223372036854775807 then ((deci_Text.f k1 t374 a1).bind fun t393 => (if (((((t390 ++ (⟨#[32]⟩ : ByteArray)) ++ t391) ++ (⟨#[32]⟩ : ByteArray)) ++ t392) ++ (⟨#[32]⟩ : ByteArray)).size + t393.size ≤ 9223372036854775807 then (if ((((((t390 ++ (⟨#[32]⟩ : ByteArray)) ++ t391) ++ (⟨#[32]⟩ : ByteArray)) ++ t392) ++ (⟨#[32]⟩ : ByteArray)) ++ t393).size + 1 ≤ 9223372036854775807 then (if x11_1.size + (((((((t390 ++ (⟨#[32]⟩ : ByteArray)) ++ t391) ++ (⟨#[32]⟩ : ByteArray)) ++ t392) ++ (⟨#[32]⟩ : ByteArray)) ++ t393) ++ (⟨#[10]⟩ : ByteArray)).size ≤ 9223372036854775807 then (isohyetlaw25_DataBack.l0 k1 a1 a2 y377 y387 (x10_1 ++ (((((t380 ++ (⟨#[32]⟩ : ByteArray)) ++ t381) ++ (⟨#[32]⟩ : ByteArray)) ++ t382) ++ (⟨#[10]⟩ : ByteArray))) (x11_1 ++ (((((((t390 ++ (⟨#[32]⟩ : ByteArray)) ++ t391) ++ (⟨#[32]⟩ : ByteArray)) ++ t392) ++ (⟨#[32]⟩ : ByteArray)) ++ t393) ++ (⟨#[10]⟩ : ByteArray))) l0 (l0.length : Int) (wrap64 (x32_1 + 1))) else (none)) else (none)) else (none))) else (none)) else (none))) else (none)) else (none)) = some r := H
   have A32 := aK A320
   clear A320
   by_cases c33 : (t390 ++ (⟨#[32]⟩ : ByteArray)).size + t391.size ≤ 9223372036854775807
   rotate_left
   ·rw [if_neg c33] at H
    exact absurd H (by simp)
   rw [if_pos c33] at H
   have c33b0 := eq_true c33
   have c33b1 : decide ((t390 ++ (⟨#[32]⟩ : ByteArray)).size + t391.size ≤ 9223372036854775807) = true := decide_eq_true c33
   have c33b3 : (9223372036854775807 < t390.size + 1 + t391.size) = False := eq_false (by have h_ := c33; simp only [ByteArray.size_append, show (⟨#[32]⟩ : ByteArray).size = 1 from rfl] at h_; omega)
   try have c33b2 : (9223372036854775807 < (t390 ++ (⟨#[32]⟩ : ByteArray)).size + t391.size) = False := eq_false (Nat.not_lt.2 c33)
   by_cases c34 : ((t390 ++ (⟨#[32]⟩ : ByteArray)) ++ t391).size + 1 ≤ 9223372036854775807
   rotate_left
   ·rw [if_neg c34] at H
    exact absurd H (by simp)
   rw [if_pos c34] at H
   have c34b0 := eq_true c34
   have c34b1 : decide (((t390 ++ (⟨#[32]⟩ : ByteArray)) ++ t391).size + 1 ≤ 9223372036854775807) = true := decide_eq_true c34
   have c34b3 : (9223372036854775807 < t390.size + 1 + t391.size + 1) = False := eq_false (by have h_ := c34; simp only [ByteArray.size_append, show (⟨#[32]⟩ : ByteArray).size = 1 from rfl] at h_; omega)
   try have c34b2 : (9223372036854775807 < ((t390 ++ (⟨#[32]⟩ : ByteArray)) ++ t391).size + 1) = False := eq_false (Nat.not_lt.2 c34)
   replace H := Option.bind_eq_some_iff.mp H
   obtain ⟨t392, A350, H⟩ := H
   replace H : (if (((t390 ++ (⟨#[32]⟩ : ByteArray)) ++ t391) ++ (⟨#[32]⟩ : ByteArray)).size + t392.size ≤ 9223372036854775807 then (if ((((t390 ++ (⟨#[32]⟩ : ByteArray)) ++ t391) ++ (⟨#[32]⟩ : ByteArray)) ++ t392).size + 1 ≤ 9223372036854775807 then ((deci_Text.f k1 t374 a1).bind fun t393 => (if (((((t390 ++ (⟨#[32]⟩ : ByteArray)) ++ t391) ++ (⟨#[32]⟩ : ByteArray)) ++ t392) ++ (⟨#[32]⟩ : ByteArray)).size + t393.size ≤ 9223372036854775807 then (if ((((((t390 ++ (⟨#[32]⟩ : ByteArray)) ++ t391) ++ (⟨#[32]⟩ : ByteArray)) ++ t392) ++ (⟨#[32]⟩ : ByteArray)) ++ t393).size + 1 ≤ 9223372036854775807 then (if x11_1.size + (((((((t390 ++ (⟨#[32]⟩ : ByteArray)) ++ t391) ++ (⟨#[32]⟩ : ByteArray)) ++ t392) ++ (⟨#[32]⟩ : ByteArray)) ++ t393) ++ (⟨#[10]⟩ : ByteArray)).size ≤ 9223372036854775807 then (isohyetlaw25_DataBack.l0 k1 a1 a2 y377 y387 (x10_1 ++ (((((t380 ++ (⟨#[32]⟩ : ByteArray)) ++ t381) ++ (⟨#[32]⟩ : ByteArray)) ++ t382) ++ (⟨#[10]⟩ : ByteArray))) (x11_1 ++ (((((((t390 ++ (⟨#[32]⟩ : ByteArray)) ++ t391) ++ (⟨#[32]⟩ : ByteArray)) ++ t392) ++ (⟨#[32]⟩ : ByteArray)) ++ t393) ++ (⟨#[10]⟩ : ByteArray))) l0 (l0.length : Int) (wrap64 (x32_1 + 1))) else (none)) else (none)) else (none))) else (none)) else (none)) = some r := H
   have A35 := aK A350
   clear A350
   by_cases c36 : (((t390 ++ (⟨#[32]⟩ : ByteArray)) ++ t391) ++ (⟨#[32]⟩ : ByteArray)).size + t392.size ≤ 9223372036854775807
   rotate_left
   ·rw [if_neg c36] at H
    exact absurd H (by simp)
   rw [if_pos c36] at H
   have c36b0 := eq_true c36
   have c36b1 : decide ((((t390 ++ (⟨#[32]⟩ : ByteArray)) ++ t391) ++ (⟨#[32]⟩ : ByteArray)).size + t392.size ≤ 9223372036854775807) = true := decide_eq_true c36
   have c36b3 : (9223372036854775807 < t390.size + 1 + t391.size + 1 + t392.size) = False := eq_false (by have h_ := c36; simp only [ByteArray.size_append, show (⟨#[32]⟩ : ByteArray).size = 1 from rfl] at h_; omega)
   try have c36b2 : (9223372036854775807 < (((t390 ++ (⟨#[32]⟩ : ByteArray)) ++ t391) ++ (⟨#[32]⟩ : ByteArray)).size + t392.size) = False := eq_false (Nat.not_lt.2 c36)
   by_cases c37 : ((((t390 ++ (⟨#[32]⟩ : ByteArray)) ++ t391) ++ (⟨#[32]⟩ : ByteArray)) ++ t392).size + 1 ≤ 9223372036854775807
   rotate_left
   ·rw [if_neg c37] at H
    exact absurd H (by simp)
   rw [if_pos c37] at H
   have c37b0 := eq_true c37
   have c37b1 : decide (((((t390 ++ (⟨#[32]⟩ : ByteArray)) ++ t391) ++ (⟨#[32]⟩ : ByteArray)) ++ t392).size + 1 ≤ 9223372036854775807) = true := decide_eq_true c37
   have c37b3 : (9223372036854775807 < t390.size + 1 + t391.size + 1 + t392.size + 1) = False := eq_false (by have h_ := c37; simp only [ByteArray.size_append, show (⟨#[32]⟩ : ByteArray).size = 1 from rfl] at h_; omega)
   try have c37b2 : (9223372036854775807 < ((((t390 ++ (⟨#[32]⟩ : ByteArray)) ++ t391) ++ (⟨#[32]⟩ : ByteArray)) ++ t392).size + 1) = False := eq_false (Nat.not_lt.2 c37)
   replace H := Option.bind_eq_some_iff.mp H
   obtain ⟨t393, A380, H⟩ := H
   replace H : (if (((((t390 ++ (⟨#[32]⟩ : ByteArray)) ++ t391) ++ (⟨#[32]⟩ : ByteArray)) ++ t392) ++ (⟨#[32]⟩ : ByteArray)).size + t393.size ≤ 9223372036854775807 then (if ((((((t390 ++ (⟨#[32]⟩ : ByteArray)) ++ t391) ++ (⟨#[32]⟩ : ByteArray)) ++ t392) ++ (⟨#[32]⟩ : ByteArray)) ++ t393).size + 1 ≤ 9223372036854775807 then (if x11_1.size + (((((((t390 ++ (⟨#[32]⟩ : ByteArray)) ++ t391) ++ (⟨#[32]⟩ : ByteArray)) ++ t392) ++ (⟨#[32]⟩ : ByteArray)) ++ t393) ++ (⟨#[10]⟩ : ByteArray)).size ≤ 9223372036854775807 then (isohyetlaw25_DataBack.l0 k1 a1 a2 y377 y387 (x10_1 ++ (((((t380 ++ (⟨#[32]⟩ : ByteArray)) ++ t381) ++ (⟨#[32]⟩ : ByteArray)) ++ t382) ++ (⟨#[10]⟩ : ByteArray))) (x11_1 ++ (((((((t390 ++ (⟨#[32]⟩ : ByteArray)) ++ t391) ++ (⟨#[32]⟩ : ByteArray)) ++ t392) ++ (⟨#[32]⟩ : ByteArray)) ++ t393) ++ (⟨#[10]⟩ : ByteArray))) l0 (l0.length : Int) (wrap64 (x32_1 + 1))) else (none)) else (none)) else (none)) = some r := H
   have A38 := aK A380
   clear A380
   by_cases c39 : (((((t390 ++ (⟨#[32]⟩ : ByteArray)) ++ t391) ++ (⟨#[32]⟩ : ByteArray)) ++ t392) ++ (⟨#[32]⟩ : ByteArray)).size + t393.size ≤ 9223372036854775807
   rotate_left
   ·rw [if_neg c39] at H
    exact absurd H (by simp)
   rw [if_pos c39] at H
   have c39b0 := eq_true c39
   have c39b1 : decide ((((((t390 ++ (⟨#[32]⟩ : ByteArray)) ++ t391) ++ (⟨#[32]⟩ : ByteArray)) ++ t392) ++ (⟨#[32]⟩ : ByteArray)).size + t393.size ≤ 9223372036854775807) = true := decide_eq_true c39
   have c39b3 : (9223372036854775807 < t390.size + 1 + t391.size + 1 + t392.size + 1 + t393.size) = False := eq_false (by have h_ := c39; simp only [ByteArray.size_append, show (⟨#[32]⟩ : ByteArray).size = 1 from rfl] at h_; omega)
   try have c39b2 : (9223372036854775807 < (((((t390 ++ (⟨#[32]⟩ : ByteArray)) ++ t391) ++ (⟨#[32]⟩ : ByteArray)) ++ t392) ++ (⟨#[32]⟩ : ByteArray)).size + t393.size) = False := eq_false (Nat.not_lt.2 c39)
   by_cases c40 : ((((((t390 ++ (⟨#[32]⟩ : ByteArray)) ++ t391) ++ (⟨#[32]⟩ : ByteArray)) ++ t392) ++ (⟨#[32]⟩ : ByteArray)) ++ t393).size + 1 ≤ 9223372036854775807
   rotate_left
   ·rw [if_neg c40] at H
    exact absurd H (by simp)
   rw [if_pos c40] at H
   have c40b0 := eq_true c40
   have c40b1 : decide (((((((t390 ++ (⟨#[32]⟩ : ByteArray)) ++ t391) ++ (⟨#[32]⟩ : ByteArray)) ++ t392) ++ (⟨#[32]⟩ : ByteArray)) ++ t393).size + 1 ≤ 9223372036854775807) = true := decide_eq_true c40
   have c40b3 : (9223372036854775807 < t390.size + 1 + t391.size + 1 + t392.size + 1 + t393.size + 1) = False := eq_false (by have h_ := c40; simp only [ByteArray.size_append, show (⟨#[32]⟩ : ByteArray).size = 1 from rfl] at h_; omega)
   try have c40b2 : (9223372036854775807 < ((((((t390 ++ (⟨#[32]⟩ : ByteArray)) ++ t391) ++ (⟨#[32]⟩ : ByteArray)) ++ t392) ++ (⟨#[32]⟩ : ByteArray)) ++ t393).size + 1) = False := eq_false (Nat.not_lt.2 c40)
   by_cases c41 : x11_1.size + (((((((t390 ++ (⟨#[32]⟩ : ByteArray)) ++ t391) ++ (⟨#[32]⟩ : ByteArray)) ++ t392) ++ (⟨#[32]⟩ : ByteArray)) ++ t393) ++ (⟨#[10]⟩ : ByteArray)).size ≤ 9223372036854775807
   rotate_left
   ·rw [if_neg c41] at H
    exact absurd H (by simp)
   rw [if_pos c41] at H
   have c41b0 := eq_true c41
   have c41b1 : decide (x11_1.size + (((((((t390 ++ (⟨#[32]⟩ : ByteArray)) ++ t391) ++ (⟨#[32]⟩ : ByteArray)) ++ t392) ++ (⟨#[32]⟩ : ByteArray)) ++ t393) ++ (⟨#[10]⟩ : ByteArray)).size ≤ 9223372036854775807) = true := decide_eq_true c41
   have c41b3 : (9223372036854775807 < x11_1.size + (t390.size + 1 + t391.size + 1 + t392.size + 1 + t393.size + 1)) = False := eq_false (by have h_ := c41; simp only [ByteArray.size_append, show (⟨#[10]⟩ : ByteArray).size = 1 from rfl, show (⟨#[32]⟩ : ByteArray).size = 1 from rfl] at h_; omega)
   try have c41b2 : (9223372036854775807 < x11_1.size + (((((((t390 ++ (⟨#[32]⟩ : ByteArray)) ++ t391) ++ (⟨#[32]⟩ : ByteArray)) ++ t392) ++ (⟨#[32]⟩ : ByteArray)) ++ t393) ++ (⟨#[10]⟩ : ByteArray)).size) = False := eq_false (Nat.not_lt.2 c41)
   have H' := aK H
   clear H
   have p371 : 0 ≤ (x32_1 : Int) := of_decide_eq_true (by first | (with_reducible assumption) | assumption)
   have q371 : x32_1 < (l0.length : Int) := of_decide_eq_true (by first | (with_reducible assumption) | assumption)
   obtain ⟨ad371, e371, hx371_0, hx371_1, hx371_2⟩ := at_T34 HR0.out x32_1 p371 q371
   cases e371
   replace hx371_0 := (HB.out.cell (World.block_lt_of_cell? w _ hx371_0)).trans hx371_0
   replace hx371_1 := (HB.out.cell (World.block_lt_of_cell? w _ hx371_1)).trans hx371_1
   replace hx371_2 := (HB.out.cell (World.block_lt_of_cell? w _ hx371_2)).trans hx371_2
   replace p371 := eq_true p371
   replace q371 := eq_true q371
   try go_wp2_with (first | ((with_reducible refine gate_dst (N := 13) rfl ?_); (try (refine gate_guard (by rfl) ?_; dsimp only)); refine box_event ?hg (N := 13) ?hd (cs := #[.int .i64 0, .int .i64 0, .int .i64 0]) (t := 34) ?hr ?_; (case hd => rfl); (case hg => rfl); (case hr => first | (go_simp; done) | (go_simp; rfl)); intro gb372 hg w42 hbox hb; replace HO_8 := aK (Kd.R_below (Kd.R_elderB (gR HO_8.out) gb372 (Nat.le_of_eq hg.symm)) hb); replace HO_9 := aK (Kd.R_below (gR HO_9.out) hb); have n2_ := aK (below_step (gB HB.out) hb); have BK372 := aK (hbox); have GW372 := aK ((by rw [hg]; exact (below_size (gB HB.out)) : w.heap.size ≤ gb372)); have GE372 := aK ((by rw [hg]; exact (below_size (gB HB.out)) : w.heap.size ≤ gb372)); clear HB; have HB := n2_; clear n2_; clear hb hbox hg; have hcz43_0 : w42.cell? ⟨gb372, 0, none⟩ = some (.int .i64 0) := (blk_cell BK372.out 0).trans rfl; have hcz43_1 : w42.cell? ⟨gb372, 1, none⟩ = some (.int .i64 0) := (blk_cell BK372.out 1).trans rfl; have hcz43_2 : w42.cell? ⟨gb372, 2, none⟩ = some (.int .i64 0) := (blk_cell BK372.out 2).trans rfl; have hfz43_0 := blk_frozen BK372.out 0; have hfz43_1 := blk_frozen BK372.out 1; have hfz43_2 := blk_frozen BK372.out 2))
   have n0_ : Aside0 (Kd.R k34 34 (((w42.setCell ⟨gb372, 0, none⟩ (.int .i64 ((rd_T34 l0 x32_1).f0))).setCell ⟨gb372, 1, none⟩ (.int .i64 ((rd_T34 l0 x32_1).f1))).setCell ⟨gb372, 2, none⟩ (.int .i64 ((rd_T34 l0 x32_1).f2))) w.heap.size (fun k_ => k_ ≠ gb372) u8 x8_1) := ⟨by (with_reducible repeat (first | apply Kd.R_alloc | apply Kd.R_drewN | apply Kd.R_drew)); exact Kd.R_mono (Kd.R_far (p := ⟨gb372, 2, none⟩) (Kd.R_far (p := ⟨gb372, 1, none⟩) (Kd.R_far (p := ⟨gb372, 0, none⟩) (Kd.R_mono HO_8.out (fun k_ hk => (⟨hk, hk.2⟩ : _ ∧ k_ ≠ gb372))) (fun _ hk => hk.2) (.int .i64 ((rd_T34 l0 x32_1).f0))) (fun _ hk => hk.2) (.int .i64 ((rd_T34 l0 x32_1).f1))) (fun _ hk => hk.2) (.int .i64 ((rd_T34 l0 x32_1).f2))) (fun _ hk => hk.1.2)⟩
   have n1_ : Aside0 (Kd.R k52 52 (((w42.setCell ⟨gb372, 0, none⟩ (.int .i64 ((rd_T34 l0 x32_1).f0))).setCell ⟨gb372, 1, none⟩ (.int .i64 ((rd_T34 l0 x32_1).f1))).setCell ⟨gb372, 2, none⟩ (.int .i64 ((rd_T34 l0 x32_1).f2))) w.heap.size (fun _ => True) u9 x9_1) := ⟨by (with_reducible repeat (first | apply Kd.R_alloc | apply Kd.R_drewN | apply Kd.R_drew)); exact Kd.R_mono (Kd.R_far (p := ⟨gb372, 2, none⟩) (Kd.R_far (p := ⟨gb372, 1, none⟩) (Kd.R_far (p := ⟨gb372, 0, none⟩) (Kd.R_types HO_9.out BK372.out (by decide)) (fun _ hk => hk.2) (.int .i64 ((rd_T34 l0 x32_1).f0))) (fun _ hk => hk.2) (.int .i64 ((rd_T34 l0 x32_1).f1))) (fun _ hk => hk.2) (.int .i64 ((rd_T34 l0 x32_1).f2))) (fun _ hk => trivial)⟩
   have n2_ : Aside0 ((((w42.setCell ⟨gb372, 0, none⟩ (.int .i64 ((rd_T34 l0 x32_1).f0))).setCell ⟨gb372, 1, none⟩ (.int .i64 ((rd_T34 l0 x32_1).f1))).setCell ⟨gb372, 2, none⟩ (.int .i64 ((rd_T34 l0 x32_1).f2))).heap[gb372]? = some (.cells #[.int .i64 ((rd_T34 l0 x32_1).f0), .int .i64 ((rd_T34 l0 x32_1).f1), .int .i64 ((rd_T34 l0 x32_1).f2)] 34 (0, 0))) := ⟨by (with_reducible repeat (first | refine blk_drewN ?_ _ | refine blk_drew ?_ | refine blk_alloc ?_ _)); refine blk_put (cs := #[.int .i64 ((rd_T34 l0 x32_1).f0), .int .i64 ((rd_T34 l0 x32_1).f1), .int .i64 0]) ?_ 2 _ rfl; (with_reducible repeat (first | refine blk_drewN ?_ _ | refine blk_drew ?_ | refine blk_alloc ?_ _)); refine blk_put (cs := #[.int .i64 ((rd_T34 l0 x32_1).f0), .int .i64 0, .int .i64 0]) ?_ 1 _ rfl; (with_reducible repeat (first | refine blk_drewN ?_ _ | refine blk_drew ?_ | refine blk_alloc ?_ _)); refine blk_put (cs := #[.int .i64 0, .int .i64 0, .int .i64 0]) ?_ 0 _ rfl; (with_reducible repeat (first | refine blk_drewN ?_ _ | refine blk_drew ?_ | refine blk_alloc ?_ _)); exact BK372.out⟩
   have n3_ : Aside0 (Below w.heap.size w (((w42.setCell ⟨gb372, 0, none⟩ (.int .i64 ((rd_T34 l0 x32_1).f0))).setCell ⟨gb372, 1, none⟩ (.int .i64 ((rd_T34 l0 x32_1).f1))).setCell ⟨gb372, 2, none⟩ (.int .i64 ((rd_T34 l0 x32_1).f2)))) := ⟨by repeat (first | (with_reducible first | exact HB.out | apply bA | apply bN | apply bD | refine bS ?_ GE372.out) | exact HB.out)⟩
   (try clear HO_8)
   (try clear HO_9)
   (try clear BK372)
   (try clear HB)
   generalize (((w42.setCell ⟨gb372, 0, none⟩ (.int .i64 ((rd_T34 l0 x32_1).f0))).setCell ⟨gb372, 1, none⟩ (.int .i64 ((rd_T34 l0 x32_1).f1))).setCell ⟨gb372, 2, none⟩ (.int .i64 ((rd_T34 l0 x32_1).f2))) = w44 at n0_ n1_ n2_ n3_ ⊢
   have HO_8 := n0_
   have HO_9 := n1_
   have BK372 := n2_
   have HB := n3_
   clear n0_ n1_ n2_ n3_
   replace HO_8 := aK (Kd.R_drew HO_8.out)
   replace HO_9 := aK (Kd.R_drew HO_9.out)
   replace BK372 := aK (blk_drew BK372.out)
   replace HB := aK (bD HB.out)
   refine start_ (n := 15) (S := fun w' => w'.cell? ⟨gb372, 0, none⟩ = some (.int .i64 ((rd_T34 l0 x32_1).f0)) ∧ w'.cell? ⟨gb372, 1, none⟩ = some (.int .i64 ((rd_T34 l0 x32_1).f1)) ∧ w'.cell? ⟨gb372, 2, none⟩ = some (.int .i64 ((rd_T34 l0 x32_1).f2))) (ds := []) #[false, false, false, false, false, false, false, false, false, false, false, false, false, false, false] (by kernel_rfl) rfl rfl ⟨(blk_cell BK372.out 0).trans rfl, (blk_cell BK372.out 1).trans rfl, (blk_cell BK372.out 2).trans rfl⟩ (fun hHeld => ?_); refine with_tabW isohyetlaw25_DataBack.tab12 isohyetlaw25_DataBack.bits12 (fun HT_ HW_ => ?_)
   generalize w44.drew = w45 at HO_8 HO_9 BK372 HB hHeld ⊢
   refine pure_ (i := 0) (N := some 37) (v := ?_) (a' := ?_) #[true, false, false, false, false, false, false, false, false, false, false, false, false, false, false] rfl rfl (any_of HT_.out (by kernel_rfl)) (fun _ _ _ h => h) (Or.inl ⟨by rfl, ?_⟩) ?_ ?_
   rotate_left
   ·intro w'
    go_simp
    with_reducible rfl
   rotate_left
   ·simp only [Act.put, List.setIfInBounds_toArray, List.set_cons_zero, List.set_cons_succ, i64_w, i32_w]
    rfl
   refine pure_ (i := 1) (N := some 38) (v := ?_) (a' := ?_) #[true, true, false, false, false, false, false, false, false, false, false, false, false, false, false] rfl rfl (any_of HT_.out (by kernel_rfl)) (fun _ _ _ h => h) (Or.inl ⟨by rfl, ?_⟩) ?_ ?_
   rotate_left
   ·intro w'
    go_simp
    with_reducible rfl
   rotate_left
   ·simp only [Act.put, List.setIfInBounds_toArray, List.set_cons_zero, List.set_cons_succ, i64_w, i32_w]
    rfl
   refine pure_ (i := 4) (N := some 41) (v := ?_) (a' := ?_) #[true, true, false, false, true, false, false, false, false, false, false, false, false, false, false] rfl rfl (any_of HT_.out (by kernel_rfl)) (fun _ _ _ h => h) (Or.inl ⟨by rfl, ?_⟩) ?_ ?_
   rotate_left
   ·intro w'
    go_simp
    with_reducible rfl
   rotate_left
   ·simp only [Act.put, List.setIfInBounds_toArray, List.set_cons_zero, List.set_cons_succ, i64_w, i32_w]
    rfl
   refine pure_ (i := 5) (N := some 42) (v := ?_) (a' := ?_) #[true, true, false, false, true, true, false, false, false, false, false, false, false, false, false] rfl rfl (any_of HT_.out (by kernel_rfl)) (fun _ _ _ h => h) (Or.inl ⟨by rfl, ?_⟩) ?_ ?_
   rotate_left
   ·intro w'
    go_simp
    with_reducible rfl
   rotate_left
   ·simp only [Act.put, List.setIfInBounds_toArray, List.set_cons_zero, List.set_cons_succ, i64_w, i32_w]
    rfl
   refine pure_ (i := 8) (N := some 45) (v := ?_) (a' := ?_) #[true, true, false, false, true, true, false, false, true, false, false, false, false, false, false] rfl rfl (any_of HT_.out (by kernel_rfl)) (fun _ _ _ h => h) (Or.inl ⟨by rfl, ?_⟩) ?_ ?_
   rotate_left
   ·intro w'
    go_simp
    with_reducible rfl
   rotate_left
   ·simp only [Act.put, List.setIfInBounds_toArray, List.set_cons_zero, List.set_cons_succ, i64_w, i32_w]
    rfl
   refine pure_ (i := 9) (N := some 46) (v := ?_) (a' := ?_) #[true, true, false, false, true, true, false, false, true, true, false, false, false, false, false] rfl rfl (any_of HT_.out (by kernel_rfl)) (fun _ _ _ h => h) (Or.inl ⟨by rfl, ?_⟩) ?_ ?_
   rotate_left
   ·intro w'
    go_simp
    with_reducible rfl
   rotate_left
   ·simp only [Act.put, List.setIfInBounds_toArray, List.set_cons_zero, List.set_cons_succ, i64_w, i32_w]
    rfl
   refine take_ (i := 2) (N := some 39) (v := ?_) (a' := ?_) #[true, true, true, false, true, true, false, false, true, true, false, false, false, false, false] rfl rfl (take_ofW HT_.out HW_.out (by kernel_rfl)) (fun _ _ _ h => h) (Or.inl ⟨by rfl, ?_⟩) hHeld ?_ ?_
   rotate_left
   ·rintro w' ⟨s0, s1, s2⟩
    go_simp
    with_reducible rfl
   rotate_left
   ·simp only [Act.put, List.setIfInBounds_toArray, List.set_cons_zero, List.set_cons_succ, i64_w, i32_w]
    rfl
   refine take_ (i := 6) (N := some 43) (v := ?_) (a' := ?_) #[true, true, true, false, true, true, true, false, true, true, false, false, false, false, false] rfl rfl (take_ofW HT_.out HW_.out (by kernel_rfl)) (fun _ _ _ h => h) (Or.inl ⟨by rfl, ?_⟩) hHeld ?_ ?_
   rotate_left
   ·rintro w' ⟨s0, s1, s2⟩
    go_simp
    with_reducible rfl
   rotate_left
   ·simp only [Act.put, List.setIfInBounds_toArray, List.set_cons_zero, List.set_cons_succ, i64_w, i32_w]
    rfl
   refine take_ (i := 10) (N := some 47) (v := ?_) (a' := ?_) #[true, true, true, false, true, true, true, false, true, true, true, false, false, false, false] rfl rfl (take_ofW HT_.out HW_.out (by kernel_rfl)) (fun _ _ _ h => h) (Or.inl ⟨by rfl, ?_⟩) hHeld ?_ ?_
   rotate_left
   ·rintro w' ⟨s0, s1, s2⟩
    go_simp
    with_reducible rfl
   rotate_left
   ·simp only [Act.put, List.setIfInBounds_toArray, List.set_cons_zero, List.set_cons_succ, i64_w, i32_w]
    rfl
   refine join_ (σ := Nat) 1 #[true, true, true, true, true, true, true, true, true, true, true, true, true, true, false] (fun s_ => [(40, .int .i64 t373), (44, .int .i64 t374), (48, .int .i64 t375), (14, .pointer (some ⟨s_, 0, none⟩)), (49, .agg #[.int .i64 t373, .int .i64 t374, .int .i64 t375])]) (fun s_ w' => (w'.cell? ⟨gb372, 0, none⟩ = some (.int .i64 ((rd_T34 l0 x32_1).f0)) ∧ w'.cell? ⟨gb372, 1, none⟩ = some (.int .i64 ((rd_T34 l0 x32_1).f1)) ∧ w'.cell? ⟨gb372, 2, none⟩ = some (.int .i64 ((rd_T34 l0 x32_1).f2))) ∧ (Kd.R k34 34 w' w.heap.size (fun k_ => k_ ≠ gb372 ∧ k_ ≠ s_) u8 x8_1) ∧ (Kd.R k52 52 w' w.heap.size (fun _ => True) u9 x9_1) ∧ (w'.heap[gb372]? = some (.cells #[.int .i64 ((rd_T34 l0 x32_1).f0), .int .i64 ((rd_T34 l0 x32_1).f1), .int .i64 ((rd_T34 l0 x32_1).f2)] 34 (0, 0))) ∧ (w'.heap[s_]? = some (.cells #[.int .i64 0, .int .i64 0, .int .i64 0] 34 (0, 0))) ∧ (w.heap.size ≤ s_) ∧ (w.heap.size ≤ s_) ∧ (gb372 ≠ s_) ∧ (s_ ≠ gb372) ∧ (Below w.heap.size w w')) ?_ ?_
   rotate_left
   ·intro hCont
    refine two_ (i := 3) (j := 13) (Ni := some 40) (Nj := some 14) #[true, true, true, true, true, true, true, false, true, true, true, false, false, false, false] #[true, true, true, false, true, true, true, false, true, true, true, false, false, true, false] rfl rfl rfl rfl (two_of HT_.out (by kernel_rfl)) (by decide) (by decide) (fun K hK => ?_) (fun K hK => ?_)
    ·skip
     refine goesV_ (f := 15) (by rfl) Tryz.func15 (by kernel_rfl) rfl #[.int .i64 ((rd_T34 l0 x32_1).f0)] (by rfl) rfl rfl (by (try simp only [List.map_toArray, List.map_cons, List.map_nil]); first | done | rfl | (simp only [List.length_drop, List.length_take]; rfl)) ?_
     with_reducible refine (isohyetlaw25_bring.calls ((rd_T34 l0 x32_1).f0) t373 _ A12.out).mono ?_
     rintro e w' ⟨rfl, ⟨nd, rfl⟩⟩
     refine ⟨_, rfl, ?_⟩
     refine hK.out _ _ ⟨(blk_cell BK372.out 0).trans rfl, (blk_cell BK372.out 1).trans rfl, (blk_cell BK372.out 2).trans rfl⟩ (fun hHeld => ?_)
     clear hK K
     refine norm_ (a' := ?_) ?_ ?_
     rotate_left
     ·show Act.put _ (some 40) _ = _
      simp only [Act.put, List.setIfInBounds_toArray, List.set_cons_zero, List.set_cons_succ, i64_w, i32_w]
      rfl
     refine two_ (i := 7) (j := 13) (Ni := some 44) (Nj := some 14) #[true, true, true, true, true, true, true, true, true, true, true, false, false, false, false] #[true, true, true, true, true, true, true, false, true, true, true, false, false, true, false] rfl rfl rfl rfl (two_of HT_.out (by kernel_rfl)) (by decide) (by decide) (fun K hK => ?_) (fun K hK => ?_)
     ·skip
      refine goesV_ (f := 15) (by rfl) Tryz.func15 (by kernel_rfl) rfl #[.int .i64 ((rd_T34 l0 x32_1).f1)] (by rfl) rfl rfl (by (try simp only [List.map_toArray, List.map_cons, List.map_nil]); first | done | rfl | (simp only [List.length_drop, List.length_take]; rfl)) ?_
      with_reducible refine (isohyetlaw25_bring.calls ((rd_T34 l0 x32_1).f1) t374 _ A13.out).mono ?_
      rintro e w' ⟨rfl, ⟨nd, rfl⟩⟩
      refine ⟨_, rfl, ?_⟩
      refine hK.out _ _ ⟨(blk_cell BK372.out 0).trans rfl, (blk_cell BK372.out 1).trans rfl, (blk_cell BK372.out 2).trans rfl⟩ (fun hHeld => ?_)
      clear hK K
      refine norm_ (a' := ?_) ?_ ?_
      rotate_left
      ·show Act.put _ (some 44) _ = _
       simp only [Act.put, List.setIfInBounds_toArray, List.set_cons_zero, List.set_cons_succ, i64_w, i32_w]
       rfl
      refine two_ (i := 11) (j := 13) (Ni := some 48) (Nj := some 14) #[true, true, true, true, true, true, true, true, true, true, true, true, false, false, false] #[true, true, true, true, true, true, true, true, true, true, true, false, false, true, false] rfl rfl rfl rfl (two_of HT_.out (by kernel_rfl)) (by decide) (by decide) (fun K hK => ?_) (fun K hK => ?_)
      ·skip
       refine goesV_ (f := 15) (by rfl) Tryz.func15 (by kernel_rfl) rfl #[.int .i64 ((rd_T34 l0 x32_1).f2)] (by rfl) rfl rfl (by (try simp only [List.map_toArray, List.map_cons, List.map_nil]); first | done | rfl | (simp only [List.length_drop, List.length_take]; rfl)) ?_
       with_reducible refine (isohyetlaw25_bring.calls ((rd_T34 l0 x32_1).f2) t375 _ A14.out).mono ?_
       rintro e w' ⟨rfl, ⟨nd, rfl⟩⟩
       refine ⟨_, rfl, ?_⟩
       refine hK.out _ _ ⟨(blk_cell BK372.out 0).trans rfl, (blk_cell BK372.out 1).trans rfl, (blk_cell BK372.out 2).trans rfl⟩ (fun hHeld => ?_)
       clear hK K
       refine norm_ (a' := ?_) ?_ ?_
       rotate_left
       ·show Act.put _ (some 48) _ = _
        simp only [Act.put, List.setIfInBounds_toArray, List.set_cons_zero, List.set_cons_succ, i64_w, i32_w]
        rfl
       refine pure_ (i := 12) (N := some 49) (v := ?_) (a' := ?_) #[true, true, true, true, true, true, true, true, true, true, true, true, true, false, false] rfl rfl (any_of HT_.out (by kernel_rfl)) (fun _ _ _ h => h) (Or.inl ⟨by rfl, ?_⟩) ?_ ?_
       rotate_left
       ·intro w'
        go_simp
        with_reducible rfl
       rotate_left
       ·simp only [Act.put, List.setIfInBounds_toArray, List.set_cons_zero, List.set_cons_succ, i64_w, i32_w]
        rfl
       refine one_ (i := 13) (N := some 14) #[true, true, true, true, true, true, true, true, true, true, true, true, true, true, false] rfl rfl (one_of HT_.out (by kernel_rfl)) (by decide) (fun K hK => ?_)
       refine box_step ?hg (N := 14) ?hd (cs := #[.int .i64 0, .int .i64 0, .int .i64 0]) (t := 34) ?hr ?_; (case hd => rfl); (case hg => rfl); (case hr => first | (go_simp; done) | (go_simp; rfl))
       intro gb376 hg w46 hbox hb
       replace HO_8 := aK (Kd.R_below (Kd.R_elderB (gR HO_8.out) gb376 (Nat.le_of_eq hg.symm)) hb)
       replace HO_9 := aK (Kd.R_below (gR HO_9.out) hb)
       have n2_ := aK (blk_below (g := gb372) (o := .cells #[.int .i64 ((rd_T34 l0 x32_1).f0), .int .i64 ((rd_T34 l0 x32_1).f1), .int .i64 ((rd_T34 l0 x32_1).f2)] 34 (0, 0)) (gK BK372.out) hb)
       have n3_ := aK (below_step (by repeat (first | (with_reducible first | exact HB.out | apply bA | apply bN | apply bD | refine bS ?_ GE372.out) | exact HB.out)) hb)
       have BK376 := aK (hbox)
       have GW376 := aK ((by rw [hg]; exact (below_size (by repeat (first | (with_reducible first | exact HB.out | apply bA | apply bN | apply bD | refine bS ?_ GE372.out) | exact HB.out))) : w.heap.size ≤ gb376))
       have GE376 := aK ((by rw [hg]; exact (below_size (by repeat (first | (with_reducible first | exact HB.out | apply bA | apply bN | apply bD | refine bS ?_ GE372.out) | exact HB.out))) : w.heap.size ≤ gb376))
       have NB372_376 := aK ((by rw [hg]; exact Nat.ne_of_lt (blk_lt (g := gb372) (o := .cells #[.int .i64 ((rd_T34 l0 x32_1).f0), .int .i64 ((rd_T34 l0 x32_1).f1), .int .i64 ((rd_T34 l0 x32_1).f2)] 34 (0, 0)) (gK BK372.out)) : gb372 ≠ gb376))
       have NB376_372 := aK ((by rw [hg]; exact Nat.ne_of_gt (blk_lt (g := gb372) (o := .cells #[.int .i64 ((rd_T34 l0 x32_1).f0), .int .i64 ((rd_T34 l0 x32_1).f1), .int .i64 ((rd_T34 l0 x32_1).f2)] 34 (0, 0)) (gK BK372.out)) : gb376 ≠ gb372))
       clear BK372 HB
       have BK372 := n2_
       have HB := n3_
       clear n2_ n3_
       clear hb hbox hg
       refine hK.out _ _ ⟨(blk_cell BK372.out 0).trans rfl, (blk_cell BK372.out 1).trans rfl, (blk_cell BK372.out 2).trans rfl⟩ (fun hHeld => ?_)
       clear hK K
       refine norm_ (a' := ?_) ?_ ?_
       rotate_left
       ·show Act.put _ (some 14) _ = _
        simp only [Act.put, List.setIfInBounds_toArray, List.set_cons_zero, List.set_cons_succ, i64_w, i32_w]
        rfl
       exact norm_ (by simp only [putAll, Act.put, List.setIfInBounds_toArray, List.set_cons_zero, List.set_cons_succ]) (hCont (gb376) _ ⟨hHeld, (gR HO_8.out), (gR HO_9.out), (gK BK372.out), (gK BK376.out), GW376.out, GE376.out, NB372_376.out, NB376_372.out, (by repeat (first | (with_reducible first | exact HB.out | apply bA | apply bN | apply bD | refine bS ?_ GE372.out | refine bS ?_ GE376.out) | exact HB.out))⟩)
      ·skip
       refine box_step ?hg (N := 14) ?hd (cs := #[.int .i64 0, .int .i64 0, .int .i64 0]) (t := 34) ?hr ?_; (case hd => rfl); (case hg => rfl); (case hr => first | (go_simp; done) | (go_simp; rfl))
       intro gb376 hg w46 hbox hb
       replace HO_8 := aK (Kd.R_below (Kd.R_elderB (gR HO_8.out) gb376 (Nat.le_of_eq hg.symm)) hb)
       replace HO_9 := aK (Kd.R_below (gR HO_9.out) hb)
       have n2_ := aK (blk_below (g := gb372) (o := .cells #[.int .i64 ((rd_T34 l0 x32_1).f0), .int .i64 ((rd_T34 l0 x32_1).f1), .int .i64 ((rd_T34 l0 x32_1).f2)] 34 (0, 0)) (gK BK372.out) hb)
       have n3_ := aK (below_step (by repeat (first | (with_reducible first | exact HB.out | apply bA | apply bN | apply bD | refine bS ?_ GE372.out) | exact HB.out)) hb)
       have BK376 := aK (hbox)
       have GW376 := aK ((by rw [hg]; exact (below_size (by repeat (first | (with_reducible first | exact HB.out | apply bA | apply bN | apply bD | refine bS ?_ GE372.out) | exact HB.out))) : w.heap.size ≤ gb376))
       have GE376 := aK ((by rw [hg]; exact (below_size (by repeat (first | (with_reducible first | exact HB.out | apply bA | apply bN | apply bD | refine bS ?_ GE372.out) | exact HB.out))) : w.heap.size ≤ gb376))
       have NB372_376 := aK ((by rw [hg]; exact Nat.ne_of_lt (blk_lt (g := gb372) (o := .cells #[.int .i64 ((rd_T34 l0 x32_1).f0), .int .i64 ((rd_T34 l0 x32_1).f1), .int .i64 ((rd_T34 l0 x32_1).f2)] 34 (0, 0)) (gK BK372.out)) : gb372 ≠ gb376))
       have NB376_372 := aK ((by rw [hg]; exact Nat.ne_of_gt (blk_lt (g := gb372) (o := .cells #[.int .i64 ((rd_T34 l0 x32_1).f0), .int .i64 ((rd_T34 l0 x32_1).f1), .int .i64 ((rd_T34 l0 x32_1).f2)] 34 (0, 0)) (gK BK372.out)) : gb376 ≠ gb372))
       clear BK372 HB
       have BK372 := n2_
       have HB := n3_
       clear n2_ n3_
       clear hb hbox hg
       refine hK.out _ _ ⟨(blk_cell BK372.out 0).trans rfl, (blk_cell BK372.out 1).trans rfl, (blk_cell BK372.out 2).trans rfl⟩ (fun hHeld => ?_)
       clear hK K
       refine norm_ (a' := ?_) ?_ ?_
       rotate_left
       ·show Act.put _ (some 14) _ = _
        simp only [Act.put, List.setIfInBounds_toArray, List.set_cons_zero, List.set_cons_succ, i64_w, i32_w]
        rfl
       refine one_ (i := 11) (N := some 48) #[true, true, true, true, true, true, true, true, true, true, true, true, false, true, false] rfl rfl (one_of HT_.out (by kernel_rfl)) (by decide) (fun K hK => ?_)
       refine goesV_ (f := 15) (by rfl) Tryz.func15 (by kernel_rfl) rfl #[.int .i64 ((rd_T34 l0 x32_1).f2)] (by rfl) rfl rfl (by (try simp only [List.map_toArray, List.map_cons, List.map_nil]); first | done | rfl | (simp only [List.length_drop, List.length_take]; rfl)) ?_
       with_reducible refine (isohyetlaw25_bring.calls ((rd_T34 l0 x32_1).f2) t375 _ A14.out).mono ?_
       rintro e w' ⟨rfl, ⟨nd, rfl⟩⟩
       refine ⟨_, rfl, ?_⟩
       refine hK.out _ _ ⟨(blk_cell BK372.out 0).trans rfl, (blk_cell BK372.out 1).trans rfl, (blk_cell BK372.out 2).trans rfl⟩ (fun hHeld => ?_)
       clear hK K
       refine norm_ (a' := ?_) ?_ ?_
       rotate_left
       ·show Act.put _ (some 48) _ = _
        simp only [Act.put, List.setIfInBounds_toArray, List.set_cons_zero, List.set_cons_succ, i64_w, i32_w]
        rfl
       refine pure_ (i := 12) (N := some 49) (v := ?_) (a' := ?_) #[true, true, true, true, true, true, true, true, true, true, true, true, true, true, false] rfl rfl (any_of HT_.out (by kernel_rfl)) (fun _ _ _ h => h) (Or.inl ⟨by rfl, ?_⟩) ?_ ?_
       rotate_left
       ·intro w'
        go_simp
        with_reducible rfl
       rotate_left
       ·simp only [Act.put, List.setIfInBounds_toArray, List.set_cons_zero, List.set_cons_succ, i64_w, i32_w]
        rfl
       exact norm_ (by simp only [putAll, Act.put, List.setIfInBounds_toArray, List.set_cons_zero, List.set_cons_succ]) (hCont (gb376) _ ⟨hHeld, (gR HO_8.out), (gR HO_9.out), (gK BK372.out), (gK BK376.out), GW376.out, GE376.out, NB372_376.out, NB376_372.out, (by repeat (first | (with_reducible first | exact HB.out | apply bA | apply bN | apply bD | refine bS ?_ GE372.out | refine bS ?_ GE376.out) | exact HB.out))⟩)
     ·skip
      refine box_step ?hg (N := 14) ?hd (cs := #[.int .i64 0, .int .i64 0, .int .i64 0]) (t := 34) ?hr ?_; (case hd => rfl); (case hg => rfl); (case hr => first | (go_simp; done) | (go_simp; rfl))
      intro gb376 hg w46 hbox hb
      replace HO_8 := aK (Kd.R_below (Kd.R_elderB (gR HO_8.out) gb376 (Nat.le_of_eq hg.symm)) hb)
      replace HO_9 := aK (Kd.R_below (gR HO_9.out) hb)
      have n2_ := aK (blk_below (g := gb372) (o := .cells #[.int .i64 ((rd_T34 l0 x32_1).f0), .int .i64 ((rd_T34 l0 x32_1).f1), .int .i64 ((rd_T34 l0 x32_1).f2)] 34 (0, 0)) (gK BK372.out) hb)
      have n3_ := aK (below_step (by repeat (first | (with_reducible first | exact HB.out | apply bA | apply bN | apply bD | refine bS ?_ GE372.out) | exact HB.out)) hb)
      have BK376 := aK (hbox)
      have GW376 := aK ((by rw [hg]; exact (below_size (by repeat (first | (with_reducible first | exact HB.out | apply bA | apply bN | apply bD | refine bS ?_ GE372.out) | exact HB.out))) : w.heap.size ≤ gb376))
      have GE376 := aK ((by rw [hg]; exact (below_size (by repeat (first | (with_reducible first | exact HB.out | apply bA | apply bN | apply bD | refine bS ?_ GE372.out) | exact HB.out))) : w.heap.size ≤ gb376))
      have NB372_376 := aK ((by rw [hg]; exact Nat.ne_of_lt (blk_lt (g := gb372) (o := .cells #[.int .i64 ((rd_T34 l0 x32_1).f0), .int .i64 ((rd_T34 l0 x32_1).f1), .int .i64 ((rd_T34 l0 x32_1).f2)] 34 (0, 0)) (gK BK372.out)) : gb372 ≠ gb376))
      have NB376_372 := aK ((by rw [hg]; exact Nat.ne_of_gt (blk_lt (g := gb372) (o := .cells #[.int .i64 ((rd_T34 l0 x32_1).f0), .int .i64 ((rd_T34 l0 x32_1).f1), .int .i64 ((rd_T34 l0 x32_1).f2)] 34 (0, 0)) (gK BK372.out)) : gb376 ≠ gb372))
      clear BK372 HB
      have BK372 := n2_
      have HB := n3_
      clear n2_ n3_
      clear hb hbox hg
      refine hK.out _ _ ⟨(blk_cell BK372.out 0).trans rfl, (blk_cell BK372.out 1).trans rfl, (blk_cell BK372.out 2).trans rfl⟩ (fun hHeld => ?_)
      clear hK K
      refine norm_ (a' := ?_) ?_ ?_
      rotate_left
      ·show Act.put _ (some 14) _ = _
       simp only [Act.put, List.setIfInBounds_toArray, List.set_cons_zero, List.set_cons_succ, i64_w, i32_w]
       rfl
      refine one_ (i := 7) (N := some 44) #[true, true, true, true, true, true, true, true, true, true, true, false, false, true, false] rfl rfl (one_of HT_.out (by kernel_rfl)) (by decide) (fun K hK => ?_)
      refine goesV_ (f := 15) (by rfl) Tryz.func15 (by kernel_rfl) rfl #[.int .i64 ((rd_T34 l0 x32_1).f1)] (by rfl) rfl rfl (by (try simp only [List.map_toArray, List.map_cons, List.map_nil]); first | done | rfl | (simp only [List.length_drop, List.length_take]; rfl)) ?_
      with_reducible refine (isohyetlaw25_bring.calls ((rd_T34 l0 x32_1).f1) t374 _ A13.out).mono ?_
      rintro e w' ⟨rfl, ⟨nd, rfl⟩⟩
      refine ⟨_, rfl, ?_⟩
      refine hK.out _ _ ⟨(blk_cell BK372.out 0).trans rfl, (blk_cell BK372.out 1).trans rfl, (blk_cell BK372.out 2).trans rfl⟩ (fun hHeld => ?_)
      clear hK K
      refine norm_ (a' := ?_) ?_ ?_
      rotate_left
      ·show Act.put _ (some 44) _ = _
       simp only [Act.put, List.setIfInBounds_toArray, List.set_cons_zero, List.set_cons_succ, i64_w, i32_w]
       rfl
      refine one_ (i := 11) (N := some 48) #[true, true, true, true, true, true, true, true, true, true, true, true, false, true, false] rfl rfl (one_of HT_.out (by kernel_rfl)) (by decide) (fun K hK => ?_)
      refine goesV_ (f := 15) (by rfl) Tryz.func15 (by kernel_rfl) rfl #[.int .i64 ((rd_T34 l0 x32_1).f2)] (by rfl) rfl rfl (by (try simp only [List.map_toArray, List.map_cons, List.map_nil]); first | done | rfl | (simp only [List.length_drop, List.length_take]; rfl)) ?_
      with_reducible refine (isohyetlaw25_bring.calls ((rd_T34 l0 x32_1).f2) t375 _ A14.out).mono ?_
      rintro e w' ⟨rfl, ⟨nd, rfl⟩⟩
      refine ⟨_, rfl, ?_⟩
      refine hK.out _ _ ⟨(blk_cell BK372.out 0).trans rfl, (blk_cell BK372.out 1).trans rfl, (blk_cell BK372.out 2).trans rfl⟩ (fun hHeld => ?_)
      clear hK K
      refine norm_ (a' := ?_) ?_ ?_
      rotate_left
      ·show Act.put _ (some 48) _ = _
       simp only [Act.put, List.setIfInBounds_toArray, List.set_cons_zero, List.set_cons_succ, i64_w, i32_w]
       rfl
      refine pure_ (i := 12) (N := some 49) (v := ?_) (a' := ?_) #[true, true, true, true, true, true, true, true, true, true, true, true, true, true, false] rfl rfl (any_of HT_.out (by kernel_rfl)) (fun _ _ _ h => h) (Or.inl ⟨by rfl, ?_⟩) ?_ ?_
      rotate_left
      ·intro w'
       go_simp
       with_reducible rfl
      rotate_left
      ·simp only [Act.put, List.setIfInBounds_toArray, List.set_cons_zero, List.set_cons_succ, i64_w, i32_w]
       rfl
      exact norm_ (by simp only [putAll, Act.put, List.setIfInBounds_toArray, List.set_cons_zero, List.set_cons_succ]) (hCont (gb376) _ ⟨hHeld, (gR HO_8.out), (gR HO_9.out), (gK BK372.out), (gK BK376.out), GW376.out, GE376.out, NB372_376.out, NB376_372.out, (by repeat (first | (with_reducible first | exact HB.out | apply bA | apply bN | apply bD | refine bS ?_ GE372.out | refine bS ?_ GE376.out) | exact HB.out))⟩)
    ·skip
     refine box_step ?hg (N := 14) ?hd (cs := #[.int .i64 0, .int .i64 0, .int .i64 0]) (t := 34) ?hr ?_; (case hd => rfl); (case hg => rfl); (case hr => first | (go_simp; done) | (go_simp; rfl))
     intro gb376 hg w46 hbox hb
     replace HO_8 := aK (Kd.R_below (Kd.R_elderB (gR HO_8.out) gb376 (Nat.le_of_eq hg.symm)) hb)
     replace HO_9 := aK (Kd.R_below (gR HO_9.out) hb)
     have n2_ := aK (blk_below (g := gb372) (o := .cells #[.int .i64 ((rd_T34 l0 x32_1).f0), .int .i64 ((rd_T34 l0 x32_1).f1), .int .i64 ((rd_T34 l0 x32_1).f2)] 34 (0, 0)) (gK BK372.out) hb)
     have n3_ := aK (below_step (by repeat (first | (with_reducible first | exact HB.out | apply bA | apply bN | apply bD | refine bS ?_ GE372.out) | exact HB.out)) hb)
     have BK376 := aK (hbox)
     have GW376 := aK ((by rw [hg]; exact (below_size (by repeat (first | (with_reducible first | exact HB.out | apply bA | apply bN | apply bD | refine bS ?_ GE372.out) | exact HB.out))) : w.heap.size ≤ gb376))
     have GE376 := aK ((by rw [hg]; exact (below_size (by repeat (first | (with_reducible first | exact HB.out | apply bA | apply bN | apply bD | refine bS ?_ GE372.out) | exact HB.out))) : w.heap.size ≤ gb376))
     have NB372_376 := aK ((by rw [hg]; exact Nat.ne_of_lt (blk_lt (g := gb372) (o := .cells #[.int .i64 ((rd_T34 l0 x32_1).f0), .int .i64 ((rd_T34 l0 x32_1).f1), .int .i64 ((rd_T34 l0 x32_1).f2)] 34 (0, 0)) (gK BK372.out)) : gb372 ≠ gb376))
     have NB376_372 := aK ((by rw [hg]; exact Nat.ne_of_gt (blk_lt (g := gb372) (o := .cells #[.int .i64 ((rd_T34 l0 x32_1).f0), .int .i64 ((rd_T34 l0 x32_1).f1), .int .i64 ((rd_T34 l0 x32_1).f2)] 34 (0, 0)) (gK BK372.out)) : gb376 ≠ gb372))
     clear BK372 HB
     have BK372 := n2_
     have HB := n3_
     clear n2_ n3_
     clear hb hbox hg
     refine hK.out _ _ ⟨(blk_cell BK372.out 0).trans rfl, (blk_cell BK372.out 1).trans rfl, (blk_cell BK372.out 2).trans rfl⟩ (fun hHeld => ?_)
     clear hK K
     refine norm_ (a' := ?_) ?_ ?_
     rotate_left
     ·show Act.put _ (some 14) _ = _
      simp only [Act.put, List.setIfInBounds_toArray, List.set_cons_zero, List.set_cons_succ, i64_w, i32_w]
      rfl
     refine one_ (i := 3) (N := some 40) #[true, true, true, true, true, true, true, false, true, true, true, false, false, true, false] rfl rfl (one_of HT_.out (by kernel_rfl)) (by decide) (fun K hK => ?_)
     refine goesV_ (f := 15) (by rfl) Tryz.func15 (by kernel_rfl) rfl #[.int .i64 ((rd_T34 l0 x32_1).f0)] (by rfl) rfl rfl (by (try simp only [List.map_toArray, List.map_cons, List.map_nil]); first | done | rfl | (simp only [List.length_drop, List.length_take]; rfl)) ?_
     with_reducible refine (isohyetlaw25_bring.calls ((rd_T34 l0 x32_1).f0) t373 _ A12.out).mono ?_
     rintro e w' ⟨rfl, ⟨nd, rfl⟩⟩
     refine ⟨_, rfl, ?_⟩
     refine hK.out _ _ ⟨(blk_cell BK372.out 0).trans rfl, (blk_cell BK372.out 1).trans rfl, (blk_cell BK372.out 2).trans rfl⟩ (fun hHeld => ?_)
     clear hK K
     refine norm_ (a' := ?_) ?_ ?_
     rotate_left
     ·show Act.put _ (some 40) _ = _
      simp only [Act.put, List.setIfInBounds_toArray, List.set_cons_zero, List.set_cons_succ, i64_w, i32_w]
      rfl
     refine one_ (i := 7) (N := some 44) #[true, true, true, true, true, true, true, true, true, true, true, false, false, true, false] rfl rfl (one_of HT_.out (by kernel_rfl)) (by decide) (fun K hK => ?_)
     refine goesV_ (f := 15) (by rfl) Tryz.func15 (by kernel_rfl) rfl #[.int .i64 ((rd_T34 l0 x32_1).f1)] (by rfl) rfl rfl (by (try simp only [List.map_toArray, List.map_cons, List.map_nil]); first | done | rfl | (simp only [List.length_drop, List.length_take]; rfl)) ?_
     with_reducible refine (isohyetlaw25_bring.calls ((rd_T34 l0 x32_1).f1) t374 _ A13.out).mono ?_
     rintro e w' ⟨rfl, ⟨nd, rfl⟩⟩
     refine ⟨_, rfl, ?_⟩
     refine hK.out _ _ ⟨(blk_cell BK372.out 0).trans rfl, (blk_cell BK372.out 1).trans rfl, (blk_cell BK372.out 2).trans rfl⟩ (fun hHeld => ?_)
     clear hK K
     refine norm_ (a' := ?_) ?_ ?_
     rotate_left
     ·show Act.put _ (some 44) _ = _
      simp only [Act.put, List.setIfInBounds_toArray, List.set_cons_zero, List.set_cons_succ, i64_w, i32_w]
      rfl
     refine one_ (i := 11) (N := some 48) #[true, true, true, true, true, true, true, true, true, true, true, true, false, true, false] rfl rfl (one_of HT_.out (by kernel_rfl)) (by decide) (fun K hK => ?_)
     refine goesV_ (f := 15) (by rfl) Tryz.func15 (by kernel_rfl) rfl #[.int .i64 ((rd_T34 l0 x32_1).f2)] (by rfl) rfl rfl (by (try simp only [List.map_toArray, List.map_cons, List.map_nil]); first | done | rfl | (simp only [List.length_drop, List.length_take]; rfl)) ?_
     with_reducible refine (isohyetlaw25_bring.calls ((rd_T34 l0 x32_1).f2) t375 _ A14.out).mono ?_
     rintro e w' ⟨rfl, ⟨nd, rfl⟩⟩
     refine ⟨_, rfl, ?_⟩
     refine hK.out _ _ ⟨(blk_cell BK372.out 0).trans rfl, (blk_cell BK372.out 1).trans rfl, (blk_cell BK372.out 2).trans rfl⟩ (fun hHeld => ?_)
     clear hK K
     refine norm_ (a' := ?_) ?_ ?_
     rotate_left
     ·show Act.put _ (some 48) _ = _
      simp only [Act.put, List.setIfInBounds_toArray, List.set_cons_zero, List.set_cons_succ, i64_w, i32_w]
      rfl
     refine pure_ (i := 12) (N := some 49) (v := ?_) (a' := ?_) #[true, true, true, true, true, true, true, true, true, true, true, true, true, true, false] rfl rfl (any_of HT_.out (by kernel_rfl)) (fun _ _ _ h => h) (Or.inl ⟨by rfl, ?_⟩) ?_ ?_
     rotate_left
     ·intro w'
      go_simp
      with_reducible rfl
     rotate_left
     ·simp only [Act.put, List.setIfInBounds_toArray, List.set_cons_zero, List.set_cons_succ, i64_w, i32_w]
      rfl
     exact norm_ (by simp only [putAll, Act.put, List.setIfInBounds_toArray, List.set_cons_zero, List.set_cons_succ]) (hCont (gb376) _ ⟨hHeld, (gR HO_8.out), (gR HO_9.out), (gK BK372.out), (gK BK376.out), GW376.out, GE376.out, NB372_376.out, NB376_372.out, (by repeat (first | (with_reducible first | exact HB.out | apply bA | apply bN | apply bD | refine bS ?_ GE372.out | refine bS ?_ GE376.out) | exact HB.out))⟩)
   rintro gb376 w47 ⟨hS_, h0_, h1_, h2_, h3_, h4_, h5_, h6_, h7_, h8_⟩
   replace HO_8 : Aside0 (Kd.R k34 34 w47 w.heap.size (fun k_ => k_ ≠ gb372 ∧ k_ ≠ gb376) u8 x8_1) := ⟨h0_⟩
   replace HO_9 : Aside0 (Kd.R k52 52 w47 w.heap.size (fun _ => True) u9 x9_1) := ⟨h1_⟩
   replace BK372 : Aside0 (w47.heap[gb372]? = some (.cells #[.int .i64 ((rd_T34 l0 x32_1).f0), .int .i64 ((rd_T34 l0 x32_1).f1), .int .i64 ((rd_T34 l0 x32_1).f2)] 34 (0, 0))) := ⟨h2_⟩
   have BK376 : Aside0 (w47.heap[gb376]? = some (.cells #[.int .i64 0, .int .i64 0, .int .i64 0] 34 (0, 0))) := ⟨h3_⟩
   have GW376 : Aside0 (w.heap.size ≤ gb376) := ⟨h4_⟩
   have GE376 : Aside0 (w.heap.size ≤ gb376) := ⟨h5_⟩
   have NB372_376 : Aside0 (gb372 ≠ gb376) := ⟨h6_⟩
   have NB376_372 : Aside0 (gb376 ≠ gb372) := ⟨h7_⟩
   replace HB : Aside0 (Below w.heap.size w w47) := ⟨h8_⟩
   clear h0_ h1_ h2_ h3_ h4_ h5_ h6_ h7_ h8_
   have hHeld : w47.cell? ⟨gb372, 0, none⟩ = some (.int .i64 ((rd_T34 l0 x32_1).f0)) ∧ w47.cell? ⟨gb372, 1, none⟩ = some (.int .i64 ((rd_T34 l0 x32_1).f1)) ∧ w47.cell? ⟨gb372, 2, none⟩ = some (.int .i64 ((rd_T34 l0 x32_1).f2)) := hS_
   refine norm_ (a' := ?_) ?_ ?_
   rotate_left
   ·simp only [putAll, Act.put, List.setIfInBounds_toArray, List.set_cons_zero, List.set_cons_succ]
    rfl
   refine one_ (i := 14) (N := none) #[true, true, true, true, true, true, true, true, true, true, true, true, true, true, true] rfl rfl (one_of HT_.out (by kernel_rfl)) (by decide) (fun K hK => ?_)
   have hs48 : w47.cell? ⟨gb376, 0, none⟩ = some (.int .i64 0) := (blk_cell BK376.out 0).trans rfl
   have hfs48 := blk_frozen BK376.out 0
   have hns48_0 := NB372_376.out
   have hms48_0 := NB376_372.out
   have hs49 : w47.cell? ⟨gb376, 1, none⟩ = some (.int .i64 0) := (blk_cell BK376.out 1).trans rfl
   have hfs49 := blk_frozen BK376.out 1
   have hns49_0 := NB372_376.out
   have hms49_0 := NB376_372.out
   have hs50 : w47.cell? ⟨gb376, 2, none⟩ = some (.int .i64 0) := (blk_cell BK376.out 2).trans rfl
   have hfs50 := blk_frozen BK376.out 2
   have hns50_0 := NB372_376.out
   have hms50_0 := NB376_372.out
   refine skip_ (w1 := ?_) (by rfl) rfl ?_ ?_
   rotate_left
   ·go_simp
    rfl
   refine hK.out _ _ ⟨((cell_far (p := ⟨gb376, _, none⟩) NB372_376.out _).trans (((cell_far (p := ⟨gb376, _, none⟩) NB372_376.out _).trans (((cell_far (p := ⟨gb376, _, none⟩) NB372_376.out _).trans (hHeld.1)))))), ((cell_far (p := ⟨gb376, _, none⟩) NB372_376.out _).trans (((cell_far (p := ⟨gb376, _, none⟩) NB372_376.out _).trans (((cell_far (p := ⟨gb376, _, none⟩) NB372_376.out _).trans (hHeld.2.1)))))), ((cell_far (p := ⟨gb376, _, none⟩) NB372_376.out _).trans (((cell_far (p := ⟨gb376, _, none⟩) NB372_376.out _).trans (((cell_far (p := ⟨gb376, _, none⟩) NB372_376.out _).trans (hHeld.2.2))))))⟩ (fun hHeld => ?_)
   clear hK K
   refine done_ (done_of HT_.out (by kernel_rfl)) ?_
   have hnb51 := NB376_372.out
   have hnc51 := NB372_376.out
   have hcz52_0 : w47.cell? ⟨gb376, 0, none⟩ = some (.int .i64 0) := (blk_cell BK376.out 0).trans rfl
   have hcz52_1 : w47.cell? ⟨gb376, 1, none⟩ = some (.int .i64 0) := (blk_cell BK376.out 1).trans rfl
   have hcz52_2 : w47.cell? ⟨gb376, 2, none⟩ = some (.int .i64 0) := (blk_cell BK376.out 2).trans rfl
   have hfz52_0 := blk_frozen BK376.out 0
   have hfz52_1 := blk_frozen BK376.out 1
   have hfz52_2 := blk_frozen BK376.out 2
   try go_wp2_with (first | ((with_reducible refine gate_builtin (b := .append) (xs := #[.tmp 50, .tmp 52]) rfl ?_); (try (refine gate_guard (by rfl) ?_; dsimp only)); at_builtin; refine Kd.R_append k34 (w0 := w) w.heap.size rfl (.tmp 50) (.tmp 52) 23 34 (.agg #[(.int .i64 0), (.int .i64 0), (.int .i64 0)]) 24 rfl Tryz.underlying23 info34 rfl (by decide) (by omega) u8 x8_1 (⟨t373, t374, t375⟩ : S34) [.int .i64 t373, .int .i64 t374, .int .i64 t375] (fun k_ => k_ ≠ gb372 ∧ k_ ≠ gb376) (fun _ => False) rfl (by first | (go_simp; done) | (go_simp; rfl)) ?aP (fun _ hk => hk.elim) ?aF ?aO ?aB ?aS ?aL ?_; (case aP => exact k34_mkM _ _ _ (⟨t373, t374, t375⟩ : S34)); (case aB => exact (by repeat (first | (with_reducible first | exact HB.out | apply bA | apply bN | apply bD | refine bS ?_ GE372.out | refine bS ?_ GE376.out) | exact HB.out))); (case aF => exact (fun k_ hk => ⟨Kd.freshB (g := gb372) (o := .cells #[.int .i64 ((rd_T34 l0 x32_1).f0), .int .i64 ((rd_T34 l0 x32_1).f1), .int .i64 ((rd_T34 l0 x32_1).f2)] 34 (0, 0)) (by (with_reducible repeat (first | refine blk_drewN ?_ _ | refine blk_drew ?_ | refine blk_alloc ?_ _)); refine blk_far ?_ NB372_376.out _; (with_reducible repeat (first | refine blk_drewN ?_ _ | refine blk_drew ?_ | refine blk_alloc ?_ _)); refine blk_far ?_ NB372_376.out _; (with_reducible repeat (first | refine blk_drewN ?_ _ | refine blk_drew ?_ | refine blk_alloc ?_ _)); refine blk_far ?_ NB372_376.out _; (with_reducible repeat (first | refine blk_drewN ?_ _ | refine blk_drew ?_ | refine blk_alloc ?_ _)); exact BK372.out) k_ hk, Kd.freshB (g := gb376) (o := .cells #[.int .i64 t373, .int .i64 t374, .int .i64 t375] 34 (0, 0)) (by (with_reducible repeat (first | refine blk_drewN ?_ _ | refine blk_drew ?_ | refine blk_alloc ?_ _)); refine blk_put (cs := #[.int .i64 t373, .int .i64 t374, .int .i64 0]) ?_ 2 _ rfl; (with_reducible repeat (first | refine blk_drewN ?_ _ | refine blk_drew ?_ | refine blk_alloc ?_ _)); refine blk_put (cs := #[.int .i64 t373, .int .i64 0, .int .i64 0]) ?_ 1 _ rfl; (with_reducible repeat (first | refine blk_drewN ?_ _ | refine blk_drew ?_ | refine blk_alloc ?_ _)); refine blk_put (cs := #[.int .i64 0, .int .i64 0, .int .i64 0]) ?_ 0 _ rfl; (with_reducible repeat (first | refine blk_drewN ?_ _ | refine blk_drew ?_ | refine blk_alloc ?_ _)); exact BK376.out) k_ hk⟩)); (case aO => exact (gR (Kd.R_mono (Kd.R_far (p := ⟨gb376, 2, none⟩) (Kd.R_far (p := ⟨gb376, 1, none⟩) (Kd.R_far (p := ⟨gb376, 0, none⟩) (Kd.R_mono HO_8.out (fun k_ hk => (⟨hk, hk.2⟩ : _ ∧ k_ ≠ gb376))) (fun _ hk => hk.2) (.int .i64 t373)) (fun _ hk => hk.2) (.int .i64 t374)) (fun _ hk => hk.2) (.int .i64 t375)) (fun _ hk => ⟨hk.1.1, hk.1.2⟩)))); (case aS => exact (below_size (by repeat (first | (with_reducible first | exact HB.out | apply bA | apply bN | apply bD | refine bS ?_ GE372.out | refine bS ?_ GE376.out) | exact HB.out)))); (case aL => have := LMc15.out; omega); intro v378 w53 ho hb hg hat; rw [← Ny377.out] at ho; replace HO_9 := aK (Kd.R_over' (gR (Kd.R_mono (Kd.R_far (p := ⟨gb376, 2, none⟩) (Kd.R_far (p := ⟨gb376, 1, none⟩) (Kd.R_far (p := ⟨gb376, 0, none⟩) (Kd.R_types HO_9.out BK376.out (by decide)) (fun _ hk => hk.2) (.int .i64 t373)) (fun _ hk => hk.2) (.int .i64 t374)) (fun _ hk => hk.2) (.int .i64 t375)) (fun _ h_ => h_.1))) (Kd.R_typed (gR (Kd.R_mono (Kd.R_far (p := ⟨gb376, 2, none⟩) (Kd.R_far (p := ⟨gb376, 1, none⟩) (Kd.R_far (p := ⟨gb376, 0, none⟩) (Kd.R_mono HO_8.out (fun k_ hk => (⟨hk, hk.2⟩ : _ ∧ k_ ≠ gb376))) (fun _ hk => hk.2) (.int .i64 t373)) (fun _ hk => hk.2) (.int .i64 t374)) (fun _ hk => hk.2) (.int .i64 t375)) (fun _ h_ => h_.1)))) (by decide) hg); replace BK372 := aK (blk_grown (g := gb372) (o := .cells #[.int .i64 ((rd_T34 l0 x32_1).f0), .int .i64 ((rd_T34 l0 x32_1).f1), .int .i64 ((rd_T34 l0 x32_1).f2)] 34 (0, 0)) (by (with_reducible repeat (first | refine blk_drewN ?_ _ | refine blk_drew ?_ | refine blk_alloc ?_ _)); refine blk_far ?_ NB372_376.out _; (with_reducible repeat (first | refine blk_drewN ?_ _ | refine blk_drew ?_ | refine blk_alloc ?_ _)); refine blk_far ?_ NB372_376.out _; (with_reducible repeat (first | refine blk_drewN ?_ _ | refine blk_drew ?_ | refine blk_alloc ?_ _)); refine blk_far ?_ NB372_376.out _; (with_reducible repeat (first | refine blk_drewN ?_ _ | refine blk_drew ?_ | refine blk_alloc ?_ _)); exact BK372.out) hg (Kd.R_away HO_8.out (fun _ hk => hk.1))); have n2_ := aK (blk_grown (g := gb376) (o := .cells #[.int .i64 t373, .int .i64 t374, .int .i64 t375] 34 (0, 0)) (by (with_reducible repeat (first | refine blk_drewN ?_ _ | refine blk_drew ?_ | refine blk_alloc ?_ _)); refine blk_put (cs := #[.int .i64 t373, .int .i64 t374, .int .i64 0]) ?_ 2 _ rfl; (with_reducible repeat (first | refine blk_drewN ?_ _ | refine blk_drew ?_ | refine blk_alloc ?_ _)); refine blk_put (cs := #[.int .i64 t373, .int .i64 0, .int .i64 0]) ?_ 1 _ rfl; (with_reducible repeat (first | refine blk_drewN ?_ _ | refine blk_drew ?_ | refine blk_alloc ?_ _)); refine blk_put (cs := #[.int .i64 0, .int .i64 0, .int .i64 0]) ?_ 0 _ rfl; (with_reducible repeat (first | refine blk_drewN ?_ _ | refine blk_drew ?_ | refine blk_alloc ?_ _)); exact BK376.out) hg (Kd.R_away HO_8.out (fun _ hk => hk.2))); replace HB := aK (hb); have HO379 := aK (ho); clear BK376 HO_8; have BK376 := n2_; clear n2_; clear ho hb hg hat))
   replace HO_9 := aK (Kd.R_drew HO_9.out)
   replace HO379 := aK (Kd.R_drew HO379.out)
   replace BK372 := aK (blk_drew BK372.out)
   replace BK376 := aK (blk_drew BK376.out)
   replace HB := aK (bD HB.out)
   refine start_ (n := 20) (S := fun w' => w'.cell? ⟨gb376, 0, none⟩ = some (.int .i64 t373) ∧ w'.cell? ⟨gb376, 1, none⟩ = some (.int .i64 t374) ∧ w'.cell? ⟨gb376, 2, none⟩ = some (.int .i64 t375)) (ds := []) #[false, false, false, false, false, false, false, false, false, false, false, false, false, false, false, false, false, false, false, false] (by kernel_rfl) rfl rfl ⟨(blk_cell BK376.out 0).trans rfl, (blk_cell BK376.out 1).trans rfl, (blk_cell BK376.out 2).trans rfl⟩ (fun hHeld => ?_); refine with_tabW isohyetlaw25_DataBack.tab14 isohyetlaw25_DataBack.bits14 (fun HT_ HW_ => ?_)
   generalize w53.drew = w54 at HO_9 HO379 BK372 BK376 HB hHeld ⊢
   refine pure_ (i := 0) (N := some 54) (v := ?_) (a' := ?_) #[true, false, false, false, false, false, false, false, false, false, false, false, false, false, false, false, false, false, false, false] rfl rfl (any_of HT_.out (by kernel_rfl)) (fun _ _ _ h => h) (Or.inl ⟨by rfl, ?_⟩) ?_ ?_
   rotate_left
   ·intro w'
    go_simp
    with_reducible rfl
   rotate_left
   ·simp only [Act.put, List.setIfInBounds_toArray, List.set_cons_zero, List.set_cons_succ, i64_w, i32_w]
    rfl
   refine pure_ (i := 1) (N := some 55) (v := ?_) (a' := ?_) #[true, true, false, false, false, false, false, false, false, false, false, false, false, false, false, false, false, false, false, false] rfl rfl (any_of HT_.out (by kernel_rfl)) (fun _ _ _ h => h) (Or.inl ⟨by rfl, ?_⟩) ?_ ?_
   rotate_left
   ·intro w'
    go_simp
    with_reducible rfl
   rotate_left
   ·simp only [Act.put, List.setIfInBounds_toArray, List.set_cons_zero, List.set_cons_succ, i64_w, i32_w]
    rfl
   refine pure_ (i := 3) (N := some 57) (v := ?_) (a' := ?_) #[true, true, false, true, false, false, false, false, false, false, false, false, false, false, false, false, false, false, false, false] rfl rfl (any_of HT_.out (by kernel_rfl)) (fun _ _ _ h => h) (Or.inl ⟨by rfl, ?_⟩) ?_ ?_
   rotate_left
   ·intro w'
    go_simp
    with_reducible rfl
   rotate_left
   ·simp only [Act.put, List.setIfInBounds_toArray, List.set_cons_zero, List.set_cons_succ, i64_w, i32_w]
    rfl
   refine pure_ (i := 6) (N := some 60) (v := ?_) (a' := ?_) #[true, true, false, true, false, false, true, false, false, false, false, false, false, false, false, false, false, false, false, false] rfl rfl (any_of HT_.out (by kernel_rfl)) (fun _ _ _ h => h) (Or.inl ⟨by rfl, ?_⟩) ?_ ?_
   rotate_left
   ·intro w'
    go_simp
    with_reducible rfl
   rotate_left
   ·simp only [Act.put, List.setIfInBounds_toArray, List.set_cons_zero, List.set_cons_succ, i64_w, i32_w]
    rfl
   refine pure_ (i := 8) (N := some 62) (v := ?_) (a' := ?_) #[true, true, false, true, false, false, true, false, true, false, false, false, false, false, false, false, false, false, false, false] rfl rfl (any_of HT_.out (by kernel_rfl)) (fun _ _ _ h => h) (Or.inl ⟨by rfl, ?_⟩) ?_ ?_
   rotate_left
   ·intro w'
    go_simp
    with_reducible rfl
   rotate_left
   ·simp only [Act.put, List.setIfInBounds_toArray, List.set_cons_zero, List.set_cons_succ, i64_w, i32_w]
    rfl
   refine pure_ (i := 12) (N := some 66) (v := ?_) (a' := ?_) #[true, true, false, true, false, false, true, false, true, false, false, false, true, false, false, false, false, false, false, false] rfl rfl (any_of HT_.out (by kernel_rfl)) (fun _ _ _ h => h) (Or.inl ⟨by rfl, ?_⟩) ?_ ?_
   rotate_left
   ·intro w'
    go_simp
    with_reducible rfl
   rotate_left
   ·simp only [Act.put, List.setIfInBounds_toArray, List.set_cons_zero, List.set_cons_succ, i64_w, i32_w]
    rfl
   refine pure_ (i := 14) (N := some 68) (v := ?_) (a' := ?_) #[true, true, false, true, false, false, true, false, true, false, false, false, true, false, true, false, false, false, false, false] rfl rfl (any_of HT_.out (by kernel_rfl)) (fun _ _ _ h => h) (Or.inl ⟨by rfl, ?_⟩) ?_ ?_
   rotate_left
   ·intro w'
    go_simp
    with_reducible rfl
   rotate_left
   ·simp only [Act.put, List.setIfInBounds_toArray, List.set_cons_zero, List.set_cons_succ, i64_w, i32_w]
    rfl
   refine take_ (i := 2) (N := some 56) (v := ?_) (a' := ?_) #[true, true, true, true, false, false, true, false, true, false, false, false, true, false, true, false, false, false, false, false] rfl rfl (take_ofW HT_.out HW_.out (by kernel_rfl)) (fun _ _ _ h => h) (Or.inl ⟨by rfl, ?_⟩) hHeld ?_ ?_
   rotate_left
   ·rintro w' ⟨s0, s1, s2⟩
    go_simp
    with_reducible rfl
   rotate_left
   ·simp only [Act.put, List.setIfInBounds_toArray, List.set_cons_zero, List.set_cons_succ, i64_w, i32_w]
    rfl
   refine take_ (i := 7) (N := some 61) (v := ?_) (a' := ?_) #[true, true, true, true, false, false, true, true, true, false, false, false, true, false, true, false, false, false, false, false] rfl rfl (take_ofW HT_.out HW_.out (by kernel_rfl)) (fun _ _ _ h => h) (Or.inl ⟨by rfl, ?_⟩) hHeld ?_ ?_
   rotate_left
   ·rintro w' ⟨s0, s1, s2⟩
    go_simp
    with_reducible rfl
   rotate_left
   ·simp only [Act.put, List.setIfInBounds_toArray, List.set_cons_zero, List.set_cons_succ, i64_w, i32_w]
    rfl
   refine take_ (i := 13) (N := some 67) (v := ?_) (a' := ?_) #[true, true, true, true, false, false, true, true, true, false, false, false, true, true, true, false, false, false, false, false] rfl rfl (take_ofW HT_.out HW_.out (by kernel_rfl)) (fun _ _ _ h => h) (Or.inl ⟨by rfl, ?_⟩) hHeld ?_ ?_
   rotate_left
   ·rintro w' ⟨s0, s1, s2⟩
    go_simp
    with_reducible rfl
   rotate_left
   ·simp only [Act.put, List.setIfInBounds_toArray, List.set_cons_zero, List.set_cons_succ, i64_w, i32_w]
    rfl
   refine one_ (i := 4) (N := some 58) #[true, true, true, true, true, false, true, true, true, false, false, false, true, true, true, false, false, false, false, false] rfl rfl (one_of HT_.out (by kernel_rfl)) (by decide) (fun K hK => ?_)
   refine goes_ Tryz.func14 (by kernel_rfl) rfl #[.int .i64 t373, .int .i64 a1] (by rfl) rfl rfl (by (try simp only [List.map_toArray, List.map_cons, List.map_nil]); first | done | rfl | (simp only [List.length_drop, List.length_take]; rfl)) ?_
   with_reducible refine (deci_Text.calls k1 t373 a1 t380 _ A16.out).mono ?_
   rintro e w55 ⟨rfl, hb⟩
   refine ⟨_, rfl, ?_⟩
   replace HO_9 := aK (Kd.R_below (gR HO_9.out) hb)
   replace HO379 := aK (Kd.R_below (gR HO379.out) hb)
   replace BK372 := aK (blk_below (g := gb372) (o := .cells #[.int .i64 ((rd_T34 l0 x32_1).f0), .int .i64 ((rd_T34 l0 x32_1).f1), .int .i64 ((rd_T34 l0 x32_1).f2)] 34 (0, 0)) (gK BK372.out) hb)
   replace BK376 := aK (blk_below (gK BK376.out) hb)
   replace HB := aK (below_step (by repeat (first | (with_reducible first | exact HB.out | apply bA | apply bN | apply bD | refine bS ?_ GE372.out | refine bS ?_ GE376.out) | exact HB.out)) hb)
   (try clear hb)
   (try clear hb2)
   (try clear hk)
   (try clear hi)
   refine hK.out _ _ ⟨(blk_cell BK376.out 0).trans rfl, (blk_cell BK376.out 1).trans rfl, (blk_cell BK376.out 2).trans rfl⟩ (fun hHeld => ?_)
   clear hK K
   refine norm_ (a' := ?_) ?_ ?_
   rotate_left
   ·show Act.put _ (some 58) _ = _
    simp only [Act.put, List.setIfInBounds_toArray, List.set_cons_zero, List.set_cons_succ, i64_w, i32_w]
    rfl
   refine pure_ (i := 5) (N := some 59) (v := ?_) (a' := ?_) #[true, true, true, true, true, true, true, true, true, false, false, false, true, true, true, false, false, false, false, false] rfl rfl (any_of HT_.out (by kernel_rfl)) (fun _ _ _ h => h) (Or.inl ⟨by rfl, ?_⟩) ?_ ?_
   rotate_left
   ·intro w'
    go_simp
    with_reducible rfl
   rotate_left
   ·simp only [Act.put, List.setIfInBounds_toArray, List.set_cons_zero, List.set_cons_succ, i64_w, i32_w]
    rfl
   refine one_ (i := 9) (N := some 63) #[true, true, true, true, true, true, true, true, true, true, false, false, true, true, true, false, false, false, false, false] rfl rfl (one_of HT_.out (by kernel_rfl)) (by decide) (fun K hK => ?_)
   refine goes_ Tryz.func14 (by kernel_rfl) rfl #[.int .i64 t374, .int .i64 a1] (by rfl) rfl rfl (by (try simp only [List.map_toArray, List.map_cons, List.map_nil]); first | done | rfl | (simp only [List.length_drop, List.length_take]; rfl)) ?_
   with_reducible refine (deci_Text.calls k1 t374 a1 t381 _ A18.out).mono ?_
   rintro e w56 ⟨rfl, hb⟩
   refine ⟨_, rfl, ?_⟩
   replace HO_9 := aK (Kd.R_below (gR HO_9.out) hb)
   replace HO379 := aK (Kd.R_below (gR HO379.out) hb)
   replace BK372 := aK (blk_below (g := gb372) (o := .cells #[.int .i64 ((rd_T34 l0 x32_1).f0), .int .i64 ((rd_T34 l0 x32_1).f1), .int .i64 ((rd_T34 l0 x32_1).f2)] 34 (0, 0)) (gK BK372.out) hb)
   replace BK376 := aK (blk_below (gK BK376.out) hb)
   replace HB := aK (below_step (by repeat (first | (with_reducible first | exact HB.out | apply bA | apply bN | apply bD | refine bS ?_ GE372.out | refine bS ?_ GE376.out) | exact HB.out)) hb)
   (try clear hb)
   (try clear hb2)
   (try clear hk)
   (try clear hi)
   refine hK.out _ _ ⟨(blk_cell BK376.out 0).trans rfl, (blk_cell BK376.out 1).trans rfl, (blk_cell BK376.out 2).trans rfl⟩ (fun hHeld => ?_)
   clear hK K
   refine norm_ (a' := ?_) ?_ ?_
   rotate_left
   ·show Act.put _ (some 63) _ = _
    simp only [Act.put, List.setIfInBounds_toArray, List.set_cons_zero, List.set_cons_succ, i64_w, i32_w]
    rfl
   refine pure_ (i := 10) (N := some 64) (v := ?_) (a' := ?_) #[true, true, true, true, true, true, true, true, true, true, true, false, true, true, true, false, false, false, false, false] rfl rfl (any_of HT_.out (by kernel_rfl)) (fun _ _ _ h => h) (Or.inl ⟨by rfl, ?_⟩) ?_ ?_
   rotate_left
   ·intro w'
    go_simp
    with_reducible rfl
   rotate_left
   ·simp only [Act.put, List.setIfInBounds_toArray, List.set_cons_zero, List.set_cons_succ, i64_w, i32_w]
    rfl
   refine pure_ (i := 11) (N := some 65) (v := ?_) (a' := ?_) #[true, true, true, true, true, true, true, true, true, true, true, true, true, true, true, false, false, false, false, false] rfl rfl (any_of HT_.out (by kernel_rfl)) (fun _ _ _ h => h) (Or.inl ⟨by rfl, ?_⟩) ?_ ?_
   rotate_left
   ·intro w'
    go_simp
    with_reducible rfl
   rotate_left
   ·simp only [Act.put, List.setIfInBounds_toArray, List.set_cons_zero, List.set_cons_succ, i64_w, i32_w]
    rfl
   refine one_ (i := 15) (N := some 69) #[true, true, true, true, true, true, true, true, true, true, true, true, true, true, true, true, false, false, false, false] rfl rfl (one_of HT_.out (by kernel_rfl)) (by decide) (fun K hK => ?_)
   refine goes_ Tryz.func14 (by kernel_rfl) rfl #[.int .i64 t375, .int .i64 a2] (by rfl) rfl rfl (by (try simp only [List.map_toArray, List.map_cons, List.map_nil]); first | done | rfl | (simp only [List.length_drop, List.length_take]; rfl)) ?_
   with_reducible refine (deci_Text.calls k1 t375 a2 t382 _ A21.out).mono ?_
   rintro e w57 ⟨rfl, hb⟩
   refine ⟨_, rfl, ?_⟩
   replace HO_9 := aK (Kd.R_below (gR HO_9.out) hb)
   replace HO379 := aK (Kd.R_below (gR HO379.out) hb)
   replace BK372 := aK (blk_below (g := gb372) (o := .cells #[.int .i64 ((rd_T34 l0 x32_1).f0), .int .i64 ((rd_T34 l0 x32_1).f1), .int .i64 ((rd_T34 l0 x32_1).f2)] 34 (0, 0)) (gK BK372.out) hb)
   replace BK376 := aK (blk_below (gK BK376.out) hb)
   replace HB := aK (below_step (by repeat (first | (with_reducible first | exact HB.out | apply bA | apply bN | apply bD | refine bS ?_ GE372.out | refine bS ?_ GE376.out) | exact HB.out)) hb)
   (try clear hb)
   (try clear hb2)
   (try clear hk)
   (try clear hi)
   refine hK.out _ _ ⟨(blk_cell BK376.out 0).trans rfl, (blk_cell BK376.out 1).trans rfl, (blk_cell BK376.out 2).trans rfl⟩ (fun hHeld => ?_)
   clear hK K
   refine norm_ (a' := ?_) ?_ ?_
   rotate_left
   ·show Act.put _ (some 69) _ = _
    simp only [Act.put, List.setIfInBounds_toArray, List.set_cons_zero, List.set_cons_succ, i64_w, i32_w]
    rfl
   refine pure_ (i := 16) (N := some 70) (v := ?_) (a' := ?_) #[true, true, true, true, true, true, true, true, true, true, true, true, true, true, true, true, true, false, false, false] rfl rfl (any_of HT_.out (by kernel_rfl)) (fun _ _ _ h => h) (Or.inl ⟨by rfl, ?_⟩) ?_ ?_
   rotate_left
   ·intro w'
    go_simp
    with_reducible rfl
   rotate_left
   ·simp only [Act.put, List.setIfInBounds_toArray, List.set_cons_zero, List.set_cons_succ, i64_w, i32_w]
    rfl
   refine pure_ (i := 17) (N := some 71) (v := ?_) (a' := ?_) #[true, true, true, true, true, true, true, true, true, true, true, true, true, true, true, true, true, true, false, false] rfl rfl (any_of HT_.out (by kernel_rfl)) (fun _ _ _ h => h) (Or.inl ⟨by rfl, ?_⟩) ?_ ?_
   rotate_left
   ·intro w'
    go_simp
    with_reducible rfl
   rotate_left
   ·simp only [Act.put, List.setIfInBounds_toArray, List.set_cons_zero, List.set_cons_succ, i64_w, i32_w]
    rfl
   refine pure_ (i := 18) (N := some 72) (v := ?_) (a' := ?_) #[true, true, true, true, true, true, true, true, true, true, true, true, true, true, true, true, true, true, true, false] rfl rfl (any_of HT_.out (by kernel_rfl)) (fun _ _ _ h => h) (Or.inl ⟨by rfl, ?_⟩) ?_ ?_
   rotate_left
   ·intro w'
    go_simp
    with_reducible rfl
   rotate_left
   ·simp only [Act.put, List.setIfInBounds_toArray, List.set_cons_zero, List.set_cons_succ, i64_w, i32_w]
    rfl
   refine pure_ (i := 19) (N := some 10) (v := ?_) (a' := ?_) #[true, true, true, true, true, true, true, true, true, true, true, true, true, true, true, true, true, true, true, true] rfl rfl (any_of HT_.out (by kernel_rfl)) (fun _ _ _ h => h) (Or.inl ⟨by rfl, ?_⟩) ?_ ?_
   rotate_left
   ·intro w'
    go_simp
    with_reducible rfl
   rotate_left
   ·simp only [Act.put, List.setIfInBounds_toArray, List.set_cons_zero, List.set_cons_succ, i64_w, i32_w]
    rfl
   refine done_ (done_of HT_.out (by kernel_rfl)) ?_
   try go_wp2
   replace HO_9 := aK (Kd.R_drew HO_9.out)
   replace HO379 := aK (Kd.R_drew HO379.out)
   replace BK372 := aK (blk_drew BK372.out)
   replace BK376 := aK (blk_drew BK376.out)
   replace HB := aK (bD HB.out)
   obtain ⟨Ao59, co59, eo59⟩ := Kd.R_slice HO379.out
   (first | subst eo59 | (injection eo59 with f1_ f2_ f3_; have f4_ := f1_.symm; have f5_ := f3_.symm; clear f1_ f2_ f3_; subst f4_; subst f5_))
   have p383 : 0 ≤ ((ji26) : Int) := of_decide_eq_true (by first | (with_reducible assumption) | assumption)
   have q383 : (ji26) < (y377.length : Int) := of_decide_eq_true (by first | (with_reducible assumption) | assumption)
   obtain ⟨ad383, e383, hx383_0, hx383_1, hx383_2⟩ := at_T34 (Kd.R_reads' HO379.out).2.2 (ji26) p383 q383
   cases e383
   replace p383 := eq_true p383
   replace q383 := eq_true q383
   have p384 : 0 ≤ ((ji26) : Int) := of_decide_eq_true (by first | (with_reducible assumption) | assumption)
   have q384 : (ji26) < (y377.length : Int) := of_decide_eq_true (by first | (with_reducible assumption) | assumption)
   obtain ⟨ad384, e384, hx384_0, hx384_1, hx384_2⟩ := at_T34 (Kd.R_reads' HO379.out).2.2 (ji26) p384 q384
   obtain rfl : ad383 = ad384 := (by injection e384)
   replace p384 := eq_true p384
   replace q384 := eq_true q384
   refine start_ (n := 22) (S := fun w' => w'.cell? ⟨gb376, 0, none⟩ = some (.int .i64 t373) ∧ w'.cell? ⟨gb376, 1, none⟩ = some (.int .i64 t374) ∧ w'.cell? ⟨gb376, 2, none⟩ = some (.int .i64 t375) ∧ w'.cell? (ad383.add (((ji26)).toNat * 3)) = some (.int .i64 ((rd_T34 y377 (ji26)).f0)) ∧ w'.cell? ⟨(ad383.add (((ji26)).toNat * 3)).block, (ad383.add (((ji26)).toNat * 3)).off + 1, none⟩ = some (.int .i64 ((rd_T34 y377 (ji26)).f1)) ∧ w'.cell? ⟨(ad383.add (((ji26)).toNat * 3)).block, (ad383.add (((ji26)).toNat * 3)).off + 2, none⟩ = some (.int .i64 ((rd_T34 y377 (ji26)).f2)) ∧ w'.cell? (ad383.add (((ji26)).toNat * 3)) = some (.int .i64 ((rd_T34 y377 (ji26)).f0)) ∧ w'.cell? ⟨(ad383.add (((ji26)).toNat * 3)).block, (ad383.add (((ji26)).toNat * 3)).off + 1, none⟩ = some (.int .i64 ((rd_T34 y377 (ji26)).f1)) ∧ w'.cell? ⟨(ad383.add (((ji26)).toNat * 3)).block, (ad383.add (((ji26)).toNat * 3)).off + 2, none⟩ = some (.int .i64 ((rd_T34 y377 (ji26)).f2))) (ds := []) #[false, false, false, false, false, false, false, false, false, false, false, false, false, false, false, false, false, false, false, false, false, false] (by kernel_rfl) rfl rfl ⟨(blk_cell BK376.out 0).trans rfl, (blk_cell BK376.out 1).trans rfl, (blk_cell BK376.out 2).trans rfl, hx383_0, hx383_1, hx383_2, hx384_0, hx384_1, hx384_2⟩ (fun hHeld => ?_); refine with_tabW isohyetlaw25_DataBack.tab16 isohyetlaw25_DataBack.bits16 (fun HT_ HW_ => ?_)
   generalize w57.drew = w58 at HO_9 HO379 BK372 BK376 HB hx383_0 hx383_1 hx383_2 hx384_0 hx384_1 hx384_2 hHeld ⊢
   refine pure_ (i := 0) (N := some 75) (v := ?_) (a' := ?_) #[true, false, false, false, false, false, false, false, false, false, false, false, false, false, false, false, false, false, false, false, false, false] rfl rfl (any_of HT_.out (by kernel_rfl)) (fun _ _ _ h => h) (Or.inl ⟨by rfl, ?_⟩) ?_ ?_
   rotate_left
   ·intro w'
    go_simp
    with_reducible rfl
   rotate_left
   ·simp only [Act.put, List.setIfInBounds_toArray, List.set_cons_zero, List.set_cons_succ, i64_w, i32_w]
    rfl
   refine pure_ (i := 1) (N := some 76) (v := ?_) (a' := ?_) #[true, true, false, false, false, false, false, false, false, false, false, false, false, false, false, false, false, false, false, false, false, false] rfl rfl (any_of HT_.out (by kernel_rfl)) (fun _ _ _ h => h) (Or.inl ⟨by rfl, ?_⟩) ?_ ?_
   rotate_left
   ·intro w'
    go_simp
    with_reducible rfl
   rotate_left
   ·simp only [Act.put, List.setIfInBounds_toArray, List.set_cons_zero, List.set_cons_succ, i64_w, i32_w]
    rfl
   refine pure_ (i := 2) (N := some 77) (v := ?_) (a' := ?_) #[true, true, true, false, false, false, false, false, false, false, false, false, false, false, false, false, false, false, false, false, false, false] rfl rfl (any_of HT_.out (by kernel_rfl)) (fun _ _ _ h => h) (Or.inl ⟨by rfl, ?_⟩) ?_ ?_
   rotate_left
   ·intro w'
    go_simp
    with_reducible rfl
   rotate_left
   ·simp only [Act.put, List.setIfInBounds_toArray, List.set_cons_zero, List.set_cons_succ, i64_w, i32_w]
    rfl
   refine pure_ (i := 3) (N := some 78) (v := ?_) (a' := ?_) #[true, true, true, true, false, false, false, false, false, false, false, false, false, false, false, false, false, false, false, false, false, false] rfl rfl (any_of HT_.out (by kernel_rfl)) (fun _ _ _ h => h) (Or.inl ⟨by rfl, ?_⟩) ?_ ?_
   rotate_left
   ·intro w'
    go_simp
    with_reducible rfl
   rotate_left
   ·simp only [Act.put, List.setIfInBounds_toArray, List.set_cons_zero, List.set_cons_succ, i64_w, i32_w]
    rfl
   refine pure_ (i := 4) (N := some 79) (v := ?_) (a' := ?_) #[true, true, true, true, true, false, false, false, false, false, false, false, false, false, false, false, false, false, false, false, false, false] rfl rfl (any_of HT_.out (by kernel_rfl)) (fun _ _ _ h => h) (Or.inl ⟨by rfl, ?_⟩) ?_ ?_
   rotate_left
   ·intro w'
    go_simp
    with_reducible rfl
   rotate_left
   ·simp only [Act.put, List.setIfInBounds_toArray, List.set_cons_zero, List.set_cons_succ, i64_w, i32_w]
    rfl
   refine pure_ (i := 6) (N := some 81) (v := ?_) (a' := ?_) #[true, true, true, true, true, false, true, false, false, false, false, false, false, false, false, false, false, false, false, false, false, false] rfl rfl (any_of HT_.out (by kernel_rfl)) (fun _ _ _ h => h) (Or.inl ⟨by rfl, ?_⟩) ?_ ?_
   rotate_left
   ·intro w'
    go_simp
    with_reducible rfl
   rotate_left
   ·simp only [Act.put, List.setIfInBounds_toArray, List.set_cons_zero, List.set_cons_succ, i64_w, i32_w]
    rfl
   refine pure_ (i := 7) (N := some 82) (v := ?_) (a' := ?_) #[true, true, true, true, true, false, true, true, false, false, false, false, false, false, false, false, false, false, false, false, false, false] rfl rfl (any_of HT_.out (by kernel_rfl)) (fun _ _ _ h => h) (Or.inl ⟨by rfl, ?_⟩) ?_ ?_
   rotate_left
   ·intro w'
    go_simp
    with_reducible rfl
   rotate_left
   ·simp only [Act.put, List.setIfInBounds_toArray, List.set_cons_zero, List.set_cons_succ, i64_w, i32_w]
    rfl
   refine pure_ (i := 8) (N := some 83) (v := ?_) (a' := ?_) #[true, true, true, true, true, false, true, true, true, false, false, false, false, false, false, false, false, false, false, false, false, false] rfl rfl (any_of HT_.out (by kernel_rfl)) (fun _ _ _ h => h) (Or.inl ⟨by rfl, ?_⟩) ?_ ?_
   rotate_left
   ·intro w'
    go_simp
    with_reducible rfl
   rotate_left
   ·simp only [Act.put, List.setIfInBounds_toArray, List.set_cons_zero, List.set_cons_succ, i64_w, i32_w]
    rfl
   refine pure_ (i := 9) (N := some 84) (v := ?_) (a' := ?_) #[true, true, true, true, true, false, true, true, true, true, false, false, false, false, false, false, false, false, false, false, false, false] rfl rfl (any_of HT_.out (by kernel_rfl)) (fun _ _ _ h => h) (Or.inl ⟨by rfl, ?_⟩) ?_ ?_
   rotate_left
   ·intro w'
    go_simp
    with_reducible rfl
   rotate_left
   ·simp only [Act.put, List.setIfInBounds_toArray, List.set_cons_zero, List.set_cons_succ, i64_w, i32_w]
    rfl
   refine pure_ (i := 10) (N := some 85) (v := ?_) (a' := ?_) #[true, true, true, true, true, false, true, true, true, true, true, false, false, false, false, false, false, false, false, false, false, false] rfl rfl (any_of HT_.out (by kernel_rfl)) (fun _ _ _ h => h) (Or.inl ⟨by rfl, ?_⟩) ?_ ?_
   rotate_left
   ·intro w'
    go_simp
    with_reducible rfl
   rotate_left
   ·simp only [Act.put, List.setIfInBounds_toArray, List.set_cons_zero, List.set_cons_succ, i64_w, i32_w]
    rfl
   refine pure_ (i := 13) (N := some 88) (v := ?_) (a' := ?_) #[true, true, true, true, true, false, true, true, true, true, true, false, false, true, false, false, false, false, false, false, false, false] rfl rfl (any_of HT_.out (by kernel_rfl)) (fun _ _ _ h => h) (Or.inl ⟨by rfl, ?_⟩) ?_ ?_
   rotate_left
   ·intro w'
    go_simp
    with_reducible rfl
   rotate_left
   ·simp only [Act.put, List.setIfInBounds_toArray, List.set_cons_zero, List.set_cons_succ, i64_w, i32_w]
    rfl
   refine pure_ (i := 15) (N := some 90) (v := ?_) (a' := ?_) #[true, true, true, true, true, false, true, true, true, true, true, false, false, true, false, true, false, false, false, false, false, false] rfl rfl (any_of HT_.out (by kernel_rfl)) (fun _ _ _ h => h) (Or.inl ⟨by rfl, ?_⟩) ?_ ?_
   rotate_left
   ·intro w'
    go_simp
    with_reducible rfl
   rotate_left
   ·simp only [Act.put, List.setIfInBounds_toArray, List.set_cons_zero, List.set_cons_succ, i64_w, i32_w]
    rfl
   refine take_ (i := 5) (N := some 80) (v := ?_) (a' := ?_) #[true, true, true, true, true, true, true, true, true, true, true, false, false, true, false, true, false, false, false, false, false, false] rfl rfl (take_ofW HT_.out HW_.out (by kernel_rfl)) (fun _ _ _ h => h) (Or.inl ⟨by rfl, ?_⟩) hHeld ?_ ?_
   rotate_left
   ·rintro w' ⟨s0, s1, s2, s3, s4, s5, s6, s7, s8⟩
    go_simp
    with_reducible rfl
   rotate_left
   ·simp only [Act.put, List.setIfInBounds_toArray, List.set_cons_zero, List.set_cons_succ, i64_w, i32_w]
    rfl
   refine take_ (i := 11) (N := some 86) (v := ?_) (a' := ?_) #[true, true, true, true, true, true, true, true, true, true, true, true, false, true, false, true, false, false, false, false, false, false] rfl rfl (take_ofW HT_.out HW_.out (by kernel_rfl)) (fun _ _ _ h => h) (Or.inl ⟨by rfl, ?_⟩) hHeld ?_ ?_
   rotate_left
   ·rintro w' ⟨s0, s1, s2, s3, s4, s5, s6, s7, s8⟩
    go_simp
    with_reducible rfl
   rotate_left
   ·simp only [Act.put, List.setIfInBounds_toArray, List.set_cons_zero, List.set_cons_succ, i64_w, i32_w]
    rfl
   refine pure_ (i := 12) (N := some 87) (v := ?_) (a' := ?_) #[true, true, true, true, true, true, true, true, true, true, true, true, true, true, false, true, false, false, false, false, false, false] rfl rfl (any_of HT_.out (by kernel_rfl)) (fun _ _ _ h => h) (Or.inl ⟨by rfl, ?_⟩) ?_ ?_
   rotate_left
   ·intro w'
    go_simp
    with_reducible rfl
   rotate_left
   ·simp only [Act.put, List.setIfInBounds_toArray, List.set_cons_zero, List.set_cons_succ, i64_w, i32_w]
    rfl
   refine take_ (i := 14) (N := some 89) (v := ?_) (a' := ?_) #[true, true, true, true, true, true, true, true, true, true, true, true, true, true, true, true, false, false, false, false, false, false] rfl rfl (take_ofW HT_.out HW_.out (by kernel_rfl)) (fun _ _ _ h => h) (Or.inl ⟨by rfl, ?_⟩) hHeld ?_ ?_
   rotate_left
   ·rintro w' ⟨s0, s1, s2, s3, s4, s5, s6, s7, s8⟩
    go_simp
    with_reducible rfl
   rotate_left
   ·simp only [Act.put, List.setIfInBounds_toArray, List.set_cons_zero, List.set_cons_succ, i64_w, i32_w]
    rfl
   refine take_ (i := 16) (N := some 91) (v := ?_) (a' := ?_) #[true, true, true, true, true, true, true, true, true, true, true, true, true, true, true, true, true, false, false, false, false, false] rfl rfl (take_ofW HT_.out HW_.out (by kernel_rfl)) (fun _ _ _ h => h) (Or.inl ⟨by rfl, ?_⟩) hHeld ?_ ?_
   rotate_left
   ·rintro w' ⟨s0, s1, s2, s3, s4, s5, s6, s7, s8⟩
    go_simp
    with_reducible rfl
   rotate_left
   ·simp only [Act.put, List.setIfInBounds_toArray, List.set_cons_zero, List.set_cons_succ, i64_w, i32_w]
    rfl
   refine pure_ (i := 17) (N := some 92) (v := ?_) (a' := ?_) #[true, true, true, true, true, true, true, true, true, true, true, true, true, true, true, true, true, true, false, false, false, false] rfl rfl (any_of HT_.out (by kernel_rfl)) (fun _ _ _ h => h) (Or.inl ⟨by rfl, ?_⟩) ?_ ?_
   rotate_left
   ·intro w'
    go_simp
    with_reducible rfl
   rotate_left
   ·simp only [Act.put, List.setIfInBounds_toArray, List.set_cons_zero, List.set_cons_succ, i64_w, i32_w]
    rfl
   refine join_ (σ := Nat × Nat) 2 #[true, true, true, true, true, true, true, true, true, true, true, true, true, true, true, true, true, true, true, true, false, false] (fun s_ => [(15, .pointer (some ⟨s_.1, 0, none⟩)), (16, .pointer (some ⟨s_.2, 0, none⟩))]) (fun s_ w' => (w'.cell? ⟨gb376, 0, none⟩ = some (.int .i64 t373) ∧ w'.cell? ⟨gb376, 1, none⟩ = some (.int .i64 t374) ∧ w'.cell? ⟨gb376, 2, none⟩ = some (.int .i64 t375) ∧ w'.cell? (ad383.add (((ji26)).toNat * 3)) = some (.int .i64 ((rd_T34 y377 (ji26)).f0)) ∧ w'.cell? ⟨(ad383.add (((ji26)).toNat * 3)).block, (ad383.add (((ji26)).toNat * 3)).off + 1, none⟩ = some (.int .i64 ((rd_T34 y377 (ji26)).f1)) ∧ w'.cell? ⟨(ad383.add (((ji26)).toNat * 3)).block, (ad383.add (((ji26)).toNat * 3)).off + 2, none⟩ = some (.int .i64 ((rd_T34 y377 (ji26)).f2)) ∧ w'.cell? (ad383.add (((ji26)).toNat * 3)) = some (.int .i64 ((rd_T34 y377 (ji26)).f0)) ∧ w'.cell? ⟨(ad383.add (((ji26)).toNat * 3)).block, (ad383.add (((ji26)).toNat * 3)).off + 1, none⟩ = some (.int .i64 ((rd_T34 y377 (ji26)).f1)) ∧ w'.cell? ⟨(ad383.add (((ji26)).toNat * 3)).block, (ad383.add (((ji26)).toNat * 3)).off + 2, none⟩ = some (.int .i64 ((rd_T34 y377 (ji26)).f2))) ∧ (Kd.R k34 34 w' w.heap.size (fun k_ => k_ ≠ gb372 ∧ k_ ≠ gb376) (.slice (some ad383) y377.length co59) y377) ∧ (Kd.R k52 52 w' w.heap.size (fun _ => True) u9 x9_1) ∧ (w'.heap[gb372]? = some (.cells #[.int .i64 ((rd_T34 l0 x32_1).f0), .int .i64 ((rd_T34 l0 x32_1).f1), .int .i64 ((rd_T34 l0 x32_1).f2)] 34 (0, 0))) ∧ (w'.heap[gb376]? = some (.cells #[.int .i64 t373, .int .i64 t374, .int .i64 t375] 34 (0, 0))) ∧ (w'.heap[s_.1]? = some (.cells #[.int .i64 0, .int .i64 0] 51 (0, 0))) ∧ (w'.heap[s_.2]? = some (.cells #[.int .i64 0, .int .i64 0] 51 (0, 0))) ∧ (w.heap.size ≤ s_.1) ∧ (w.heap.size ≤ s_.1) ∧ (gb372 ≠ s_.1) ∧ (s_.1 ≠ gb372) ∧ (gb376 ≠ s_.1) ∧ (s_.1 ≠ gb376) ∧ (s_.2 ≠ s_.1) ∧ (s_.1 ≠ s_.2) ∧ (w.heap.size ≤ s_.2) ∧ (w.heap.size ≤ s_.2) ∧ (gb372 ≠ s_.2) ∧ (s_.2 ≠ gb372) ∧ (gb376 ≠ s_.2) ∧ (s_.2 ≠ gb376) ∧ (Below w.heap.size w w')) ?_ ?_
   rotate_left
   ·intro hCont
    refine two_ (i := 18) (j := 19) (Ni := some 15) (Nj := some 16) #[true, true, true, true, true, true, true, true, true, true, true, true, true, true, true, true, true, true, true, false, false, false] #[true, true, true, true, true, true, true, true, true, true, true, true, true, true, true, true, true, true, false, true, false, false] rfl rfl rfl rfl (two_of HT_.out (by kernel_rfl)) (by decide) (by decide) (fun K hK => ?_) (fun K hK => ?_)
    ·skip
     refine box_step ?hg (N := 15) ?hd (cs := #[.int .i64 0, .int .i64 0]) (t := 51) ?hr ?_; (case hd => rfl); (case hg => rfl); (case hr => first | (go_simp; done) | (go_simp; rfl))
     intro gb385 hg w60 hbox hb
     have HS3_ := (hb.cell (World.block_lt_of_cell? _ _ (hHeld.2.2.2.1))).trans (hHeld.2.2.2.1)
     have HS4_ := (hb.cell (World.block_lt_of_cell? _ _ (hHeld.2.2.2.2.1))).trans (hHeld.2.2.2.2.1)
     have HS5_ := (hb.cell (World.block_lt_of_cell? _ _ (hHeld.2.2.2.2.2.1))).trans (hHeld.2.2.2.2.2.1)
     have HS6_ := (hb.cell (World.block_lt_of_cell? _ _ (hHeld.2.2.2.2.2.2.1))).trans (hHeld.2.2.2.2.2.2.1)
     have HS7_ := (hb.cell (World.block_lt_of_cell? _ _ (hHeld.2.2.2.2.2.2.2.1))).trans (hHeld.2.2.2.2.2.2.2.1)
     have HS8_ := (hb.cell (World.block_lt_of_cell? _ _ (hHeld.2.2.2.2.2.2.2.2))).trans (hHeld.2.2.2.2.2.2.2.2)
     replace HO_9 := aK (Kd.R_below (gR HO_9.out) hb)
     replace HO379 := aK (Kd.R_below (gR HO379.out) hb)
     have n2_ := aK (blk_below (g := gb372) (o := .cells #[.int .i64 ((rd_T34 l0 x32_1).f0), .int .i64 ((rd_T34 l0 x32_1).f1), .int .i64 ((rd_T34 l0 x32_1).f2)] 34 (0, 0)) (gK BK372.out) hb)
     have n3_ := aK (blk_below (gK BK376.out) hb)
     have n4_ := aK (below_step (by repeat (first | (with_reducible first | exact HB.out | apply bA | apply bN | apply bD | refine bS ?_ GE372.out | refine bS ?_ GE376.out) | exact HB.out)) hb)
     have BK385 := aK (hbox)
     have GW385 := aK ((by rw [hg]; exact (below_size (by repeat (first | (with_reducible first | exact HB.out | apply bA | apply bN | apply bD | refine bS ?_ GE372.out | refine bS ?_ GE376.out) | exact HB.out))) : w.heap.size ≤ gb385))
     have GE385 := aK ((by rw [hg]; exact (below_size (by repeat (first | (with_reducible first | exact HB.out | apply bA | apply bN | apply bD | refine bS ?_ GE372.out | refine bS ?_ GE376.out) | exact HB.out))) : w.heap.size ≤ gb385))
     have NB372_385 := aK ((by rw [hg]; exact Nat.ne_of_lt (blk_lt (g := gb372) (o := .cells #[.int .i64 ((rd_T34 l0 x32_1).f0), .int .i64 ((rd_T34 l0 x32_1).f1), .int .i64 ((rd_T34 l0 x32_1).f2)] 34 (0, 0)) (gK BK372.out)) : gb372 ≠ gb385))
     have NB385_372 := aK ((by rw [hg]; exact Nat.ne_of_gt (blk_lt (g := gb372) (o := .cells #[.int .i64 ((rd_T34 l0 x32_1).f0), .int .i64 ((rd_T34 l0 x32_1).f1), .int .i64 ((rd_T34 l0 x32_1).f2)] 34 (0, 0)) (gK BK372.out)) : gb385 ≠ gb372))
     have NB376_385 := aK ((by rw [hg]; exact Nat.ne_of_lt (blk_lt (gK BK376.out)) : gb376 ≠ gb385))
     have NB385_376 := aK ((by rw [hg]; exact Nat.ne_of_gt (blk_lt (gK BK376.out)) : gb385 ≠ gb376))
     clear BK372 BK376 HB
     have BK372 := n2_
     have BK376 := n3_
     have HB := n4_
     clear n2_ n3_ n4_
     clear hb hbox hg
     refine hK.out _ _ ⟨(blk_cell BK376.out 0).trans rfl, (blk_cell BK376.out 1).trans rfl, (blk_cell BK376.out 2).trans rfl, HS3_, HS4_, HS5_, HS6_, HS7_, HS8_⟩ (fun hHeld => ?_)
     clear hK K
     refine norm_ (a' := ?_) ?_ ?_
     rotate_left
     ·show Act.put _ (some 15) _ = _
      simp only [Act.put, List.setIfInBounds_toArray, List.set_cons_zero, List.set_cons_succ, i64_w, i32_w]
      rfl
     refine one_ (i := 19) (N := some 16) #[true, true, true, true, true, true, true, true, true, true, true, true, true, true, true, true, true, true, true, true, false, false] rfl rfl (one_of HT_.out (by kernel_rfl)) (by decide) (fun K hK => ?_)
     refine box_step ?hg (N := 16) ?hd (cs := #[.int .i64 0, .int .i64 0]) (t := 51) ?hr ?_; (case hd => rfl); (case hg => rfl); (case hr => first | (go_simp; done) | (go_simp; rfl))
     intro gb386 hg w61 hbox hb
     have HS3_ := (hb.cell (World.block_lt_of_cell? _ _ (hHeld.2.2.2.1))).trans (hHeld.2.2.2.1)
     have HS4_ := (hb.cell (World.block_lt_of_cell? _ _ (hHeld.2.2.2.2.1))).trans (hHeld.2.2.2.2.1)
     have HS5_ := (hb.cell (World.block_lt_of_cell? _ _ (hHeld.2.2.2.2.2.1))).trans (hHeld.2.2.2.2.2.1)
     have HS6_ := (hb.cell (World.block_lt_of_cell? _ _ (hHeld.2.2.2.2.2.2.1))).trans (hHeld.2.2.2.2.2.2.1)
     have HS7_ := (hb.cell (World.block_lt_of_cell? _ _ (hHeld.2.2.2.2.2.2.2.1))).trans (hHeld.2.2.2.2.2.2.2.1)
     have HS8_ := (hb.cell (World.block_lt_of_cell? _ _ (hHeld.2.2.2.2.2.2.2.2))).trans (hHeld.2.2.2.2.2.2.2.2)
     replace HO_9 := aK (Kd.R_below (gR HO_9.out) hb)
     replace HO379 := aK (Kd.R_below (gR HO379.out) hb)
     have n2_ := aK (blk_below (g := gb372) (o := .cells #[.int .i64 ((rd_T34 l0 x32_1).f0), .int .i64 ((rd_T34 l0 x32_1).f1), .int .i64 ((rd_T34 l0 x32_1).f2)] 34 (0, 0)) (gK BK372.out) hb)
     have n3_ := aK (blk_below (gK BK376.out) hb)
     have n4_ := aK (blk_below (gK BK385.out) hb)
     have n5_ := aK (below_step (by repeat (first | (with_reducible first | exact HB.out | apply bA | apply bN | apply bD | refine bS ?_ GE372.out | refine bS ?_ GE376.out | refine bS ?_ GE385.out) | exact HB.out)) hb)
     have BK386 := aK (hbox)
     have GW386 := aK ((by rw [hg]; exact (below_size (by repeat (first | (with_reducible first | exact HB.out | apply bA | apply bN | apply bD | refine bS ?_ GE372.out | refine bS ?_ GE376.out | refine bS ?_ GE385.out) | exact HB.out))) : w.heap.size ≤ gb386))
     have GE386 := aK ((by rw [hg]; exact (below_size (by repeat (first | (with_reducible first | exact HB.out | apply bA | apply bN | apply bD | refine bS ?_ GE372.out | refine bS ?_ GE376.out | refine bS ?_ GE385.out) | exact HB.out))) : w.heap.size ≤ gb386))
     have NB372_386 := aK ((by rw [hg]; exact Nat.ne_of_lt (blk_lt (g := gb372) (o := .cells #[.int .i64 ((rd_T34 l0 x32_1).f0), .int .i64 ((rd_T34 l0 x32_1).f1), .int .i64 ((rd_T34 l0 x32_1).f2)] 34 (0, 0)) (gK BK372.out)) : gb372 ≠ gb386))
     have NB386_372 := aK ((by rw [hg]; exact Nat.ne_of_gt (blk_lt (g := gb372) (o := .cells #[.int .i64 ((rd_T34 l0 x32_1).f0), .int .i64 ((rd_T34 l0 x32_1).f1), .int .i64 ((rd_T34 l0 x32_1).f2)] 34 (0, 0)) (gK BK372.out)) : gb386 ≠ gb372))
     have NB376_386 := aK ((by rw [hg]; exact Nat.ne_of_lt (blk_lt (gK BK376.out)) : gb376 ≠ gb386))
     have NB386_376 := aK ((by rw [hg]; exact Nat.ne_of_gt (blk_lt (gK BK376.out)) : gb386 ≠ gb376))
     have NB385_386 := aK ((by rw [hg]; exact Nat.ne_of_lt (blk_lt (gK BK385.out)) : gb385 ≠ gb386))
     have NB386_385 := aK ((by rw [hg]; exact Nat.ne_of_gt (blk_lt (gK BK385.out)) : gb386 ≠ gb385))
     clear BK372 BK376 BK385 HB
     have BK372 := n2_
     have BK376 := n3_
     have BK385 := n4_
     have HB := n5_
     clear n2_ n3_ n4_ n5_
     clear hb hbox hg
     refine hK.out _ _ ⟨(blk_cell BK376.out 0).trans rfl, (blk_cell BK376.out 1).trans rfl, (blk_cell BK376.out 2).trans rfl, HS3_, HS4_, HS5_, HS6_, HS7_, HS8_⟩ (fun hHeld => ?_)
     clear hK K
     refine norm_ (a' := ?_) ?_ ?_
     rotate_left
     ·show Act.put _ (some 16) _ = _
      simp only [Act.put, List.setIfInBounds_toArray, List.set_cons_zero, List.set_cons_succ, i64_w, i32_w]
      rfl
     exact norm_ (by simp only [putAll, Act.put, List.setIfInBounds_toArray, List.set_cons_zero, List.set_cons_succ]) (hCont (gb385, gb386) _ ⟨hHeld, (gR HO379.out), (gR HO_9.out), (gK BK372.out), (gK BK376.out), (gK BK385.out), (gK BK386.out), GW385.out, GE385.out, NB372_385.out, NB385_372.out, NB376_385.out, NB385_376.out, NB386_385.out, NB385_386.out, GW386.out, GE386.out, NB372_386.out, NB386_372.out, NB376_386.out, NB386_376.out, (by repeat (first | (with_reducible first | exact HB.out | apply bA | apply bN | apply bD | refine bS ?_ GE372.out | refine bS ?_ GE376.out | refine bS ?_ GE385.out | refine bS ?_ GE386.out) | exact HB.out))⟩)
    ·skip
     refine box_step ?hg (N := 16) ?hd (cs := #[.int .i64 0, .int .i64 0]) (t := 51) ?hr ?_; (case hd => rfl); (case hg => rfl); (case hr => first | (go_simp; done) | (go_simp; rfl))
     intro gb386 hg w60 hbox hb
     have HS3_ := (hb.cell (World.block_lt_of_cell? _ _ (hHeld.2.2.2.1))).trans (hHeld.2.2.2.1)
     have HS4_ := (hb.cell (World.block_lt_of_cell? _ _ (hHeld.2.2.2.2.1))).trans (hHeld.2.2.2.2.1)
     have HS5_ := (hb.cell (World.block_lt_of_cell? _ _ (hHeld.2.2.2.2.2.1))).trans (hHeld.2.2.2.2.2.1)
     have HS6_ := (hb.cell (World.block_lt_of_cell? _ _ (hHeld.2.2.2.2.2.2.1))).trans (hHeld.2.2.2.2.2.2.1)
     have HS7_ := (hb.cell (World.block_lt_of_cell? _ _ (hHeld.2.2.2.2.2.2.2.1))).trans (hHeld.2.2.2.2.2.2.2.1)
     have HS8_ := (hb.cell (World.block_lt_of_cell? _ _ (hHeld.2.2.2.2.2.2.2.2))).trans (hHeld.2.2.2.2.2.2.2.2)
     replace HO_9 := aK (Kd.R_below (gR HO_9.out) hb)
     replace HO379 := aK (Kd.R_below (gR HO379.out) hb)
     have n2_ := aK (blk_below (g := gb372) (o := .cells #[.int .i64 ((rd_T34 l0 x32_1).f0), .int .i64 ((rd_T34 l0 x32_1).f1), .int .i64 ((rd_T34 l0 x32_1).f2)] 34 (0, 0)) (gK BK372.out) hb)
     have n3_ := aK (blk_below (gK BK376.out) hb)
     have n4_ := aK (below_step (by repeat (first | (with_reducible first | exact HB.out | apply bA | apply bN | apply bD | refine bS ?_ GE372.out | refine bS ?_ GE376.out) | exact HB.out)) hb)
     have BK386 := aK (hbox)
     have GW386 := aK ((by rw [hg]; exact (below_size (by repeat (first | (with_reducible first | exact HB.out | apply bA | apply bN | apply bD | refine bS ?_ GE372.out | refine bS ?_ GE376.out) | exact HB.out))) : w.heap.size ≤ gb386))
     have GE386 := aK ((by rw [hg]; exact (below_size (by repeat (first | (with_reducible first | exact HB.out | apply bA | apply bN | apply bD | refine bS ?_ GE372.out | refine bS ?_ GE376.out) | exact HB.out))) : w.heap.size ≤ gb386))
     have NB372_386 := aK ((by rw [hg]; exact Nat.ne_of_lt (blk_lt (g := gb372) (o := .cells #[.int .i64 ((rd_T34 l0 x32_1).f0), .int .i64 ((rd_T34 l0 x32_1).f1), .int .i64 ((rd_T34 l0 x32_1).f2)] 34 (0, 0)) (gK BK372.out)) : gb372 ≠ gb386))
     have NB386_372 := aK ((by rw [hg]; exact Nat.ne_of_gt (blk_lt (g := gb372) (o := .cells #[.int .i64 ((rd_T34 l0 x32_1).f0), .int .i64 ((rd_T34 l0 x32_1).f1), .int .i64 ((rd_T34 l0 x32_1).f2)] 34 (0, 0)) (gK BK372.out)) : gb386 ≠ gb372))
     have NB376_386 := aK ((by rw [hg]; exact Nat.ne_of_lt (blk_lt (gK BK376.out)) : gb376 ≠ gb386))
     have NB386_376 := aK ((by rw [hg]; exact Nat.ne_of_gt (blk_lt (gK BK376.out)) : gb386 ≠ gb376))
     clear BK372 BK376 HB
     have BK372 := n2_
     have BK376 := n3_
     have HB := n4_
     clear n2_ n3_ n4_
     clear hb hbox hg
     refine hK.out _ _ ⟨(blk_cell BK376.out 0).trans rfl, (blk_cell BK376.out 1).trans rfl, (blk_cell BK376.out 2).trans rfl, HS3_, HS4_, HS5_, HS6_, HS7_, HS8_⟩ (fun hHeld => ?_)
     clear hK K
     refine norm_ (a' := ?_) ?_ ?_
     rotate_left
     ·show Act.put _ (some 16) _ = _
      simp only [Act.put, List.setIfInBounds_toArray, List.set_cons_zero, List.set_cons_succ, i64_w, i32_w]
      rfl
     refine one_ (i := 18) (N := some 15) #[true, true, true, true, true, true, true, true, true, true, true, true, true, true, true, true, true, true, true, true, false, false] rfl rfl (one_of HT_.out (by kernel_rfl)) (by decide) (fun K hK => ?_)
     refine box_step ?hg (N := 15) ?hd (cs := #[.int .i64 0, .int .i64 0]) (t := 51) ?hr ?_; (case hd => rfl); (case hg => rfl); (case hr => first | (go_simp; done) | (go_simp; rfl))
     intro gb385 hg w61 hbox hb
     have HS3_ := (hb.cell (World.block_lt_of_cell? _ _ (hHeld.2.2.2.1))).trans (hHeld.2.2.2.1)
     have HS4_ := (hb.cell (World.block_lt_of_cell? _ _ (hHeld.2.2.2.2.1))).trans (hHeld.2.2.2.2.1)
     have HS5_ := (hb.cell (World.block_lt_of_cell? _ _ (hHeld.2.2.2.2.2.1))).trans (hHeld.2.2.2.2.2.1)
     have HS6_ := (hb.cell (World.block_lt_of_cell? _ _ (hHeld.2.2.2.2.2.2.1))).trans (hHeld.2.2.2.2.2.2.1)
     have HS7_ := (hb.cell (World.block_lt_of_cell? _ _ (hHeld.2.2.2.2.2.2.2.1))).trans (hHeld.2.2.2.2.2.2.2.1)
     have HS8_ := (hb.cell (World.block_lt_of_cell? _ _ (hHeld.2.2.2.2.2.2.2.2))).trans (hHeld.2.2.2.2.2.2.2.2)
     replace HO_9 := aK (Kd.R_below (gR HO_9.out) hb)
     replace HO379 := aK (Kd.R_below (gR HO379.out) hb)
     have n2_ := aK (blk_below (g := gb372) (o := .cells #[.int .i64 ((rd_T34 l0 x32_1).f0), .int .i64 ((rd_T34 l0 x32_1).f1), .int .i64 ((rd_T34 l0 x32_1).f2)] 34 (0, 0)) (gK BK372.out) hb)
     have n3_ := aK (blk_below (gK BK376.out) hb)
     have n4_ := aK (blk_below (gK BK386.out) hb)
     have n5_ := aK (below_step (by repeat (first | (with_reducible first | exact HB.out | apply bA | apply bN | apply bD | refine bS ?_ GE372.out | refine bS ?_ GE376.out | refine bS ?_ GE386.out) | exact HB.out)) hb)
     have BK385 := aK (hbox)
     have GW385 := aK ((by rw [hg]; exact (below_size (by repeat (first | (with_reducible first | exact HB.out | apply bA | apply bN | apply bD | refine bS ?_ GE372.out | refine bS ?_ GE376.out | refine bS ?_ GE386.out) | exact HB.out))) : w.heap.size ≤ gb385))
     have GE385 := aK ((by rw [hg]; exact (below_size (by repeat (first | (with_reducible first | exact HB.out | apply bA | apply bN | apply bD | refine bS ?_ GE372.out | refine bS ?_ GE376.out | refine bS ?_ GE386.out) | exact HB.out))) : w.heap.size ≤ gb385))
     have NB372_385 := aK ((by rw [hg]; exact Nat.ne_of_lt (blk_lt (g := gb372) (o := .cells #[.int .i64 ((rd_T34 l0 x32_1).f0), .int .i64 ((rd_T34 l0 x32_1).f1), .int .i64 ((rd_T34 l0 x32_1).f2)] 34 (0, 0)) (gK BK372.out)) : gb372 ≠ gb385))
     have NB385_372 := aK ((by rw [hg]; exact Nat.ne_of_gt (blk_lt (g := gb372) (o := .cells #[.int .i64 ((rd_T34 l0 x32_1).f0), .int .i64 ((rd_T34 l0 x32_1).f1), .int .i64 ((rd_T34 l0 x32_1).f2)] 34 (0, 0)) (gK BK372.out)) : gb385 ≠ gb372))
     have NB376_385 := aK ((by rw [hg]; exact Nat.ne_of_lt (blk_lt (gK BK376.out)) : gb376 ≠ gb385))
     have NB385_376 := aK ((by rw [hg]; exact Nat.ne_of_gt (blk_lt (gK BK376.out)) : gb385 ≠ gb376))
     have NB386_385 := aK ((by rw [hg]; exact Nat.ne_of_lt (blk_lt (gK BK386.out)) : gb386 ≠ gb385))
     have NB385_386 := aK ((by rw [hg]; exact Nat.ne_of_gt (blk_lt (gK BK386.out)) : gb385 ≠ gb386))
     clear BK372 BK376 BK386 HB
     have BK372 := n2_
     have BK376 := n3_
     have BK386 := n4_
     have HB := n5_
     clear n2_ n3_ n4_ n5_
     clear hb hbox hg
     refine hK.out _ _ ⟨(blk_cell BK376.out 0).trans rfl, (blk_cell BK376.out 1).trans rfl, (blk_cell BK376.out 2).trans rfl, HS3_, HS4_, HS5_, HS6_, HS7_, HS8_⟩ (fun hHeld => ?_)
     clear hK K
     refine norm_ (a' := ?_) ?_ ?_
     rotate_left
     ·show Act.put _ (some 15) _ = _
      simp only [Act.put, List.setIfInBounds_toArray, List.set_cons_zero, List.set_cons_succ, i64_w, i32_w]
      rfl
     exact norm_ (by simp only [putAll, Act.put, List.setIfInBounds_toArray, List.set_cons_zero, List.set_cons_succ]) (hCont (gb385, gb386) _ ⟨hHeld, (gR HO379.out), (gR HO_9.out), (gK BK372.out), (gK BK376.out), (gK BK385.out), (gK BK386.out), GW385.out, GE385.out, NB372_385.out, NB385_372.out, NB376_385.out, NB385_376.out, NB386_385.out, NB385_386.out, GW386.out, GE386.out, NB372_386.out, NB386_372.out, NB376_386.out, NB386_376.out, (by repeat (first | (with_reducible first | exact HB.out | apply bA | apply bN | apply bD | refine bS ?_ GE372.out | refine bS ?_ GE376.out | refine bS ?_ GE386.out | refine bS ?_ GE385.out) | exact HB.out))⟩)
   rintro ⟨gb385, gb386⟩ w62 ⟨hS_, h0_, h1_, h2_, h3_, h4_, h5_, h6_, h7_, h8_, h9_, h10_, h11_, h12_, h13_, h14_, h15_, h16_, h17_, h18_, h19_, h20_⟩
   replace HO379 : Aside0 (Kd.R k34 34 w62 w.heap.size (fun k_ => k_ ≠ gb372 ∧ k_ ≠ gb376) (.slice (some ad383) y377.length co59) y377) := ⟨h0_⟩
   replace HO_9 : Aside0 (Kd.R k52 52 w62 w.heap.size (fun _ => True) u9 x9_1) := ⟨h1_⟩
   replace BK372 : Aside0 (w62.heap[gb372]? = some (.cells #[.int .i64 ((rd_T34 l0 x32_1).f0), .int .i64 ((rd_T34 l0 x32_1).f1), .int .i64 ((rd_T34 l0 x32_1).f2)] 34 (0, 0))) := ⟨h2_⟩
   replace BK376 : Aside0 (w62.heap[gb376]? = some (.cells #[.int .i64 t373, .int .i64 t374, .int .i64 t375] 34 (0, 0))) := ⟨h3_⟩
   have BK385 : Aside0 (w62.heap[gb385]? = some (.cells #[.int .i64 0, .int .i64 0] 51 (0, 0))) := ⟨h4_⟩
   have BK386 : Aside0 (w62.heap[gb386]? = some (.cells #[.int .i64 0, .int .i64 0] 51 (0, 0))) := ⟨h5_⟩
   have GW385 : Aside0 (w.heap.size ≤ gb385) := ⟨h6_⟩
   have GE385 : Aside0 (w.heap.size ≤ gb385) := ⟨h7_⟩
   have NB372_385 : Aside0 (gb372 ≠ gb385) := ⟨h8_⟩
   have NB385_372 : Aside0 (gb385 ≠ gb372) := ⟨h9_⟩
   have NB376_385 : Aside0 (gb376 ≠ gb385) := ⟨h10_⟩
   have NB385_376 : Aside0 (gb385 ≠ gb376) := ⟨h11_⟩
   have NB386_385 : Aside0 (gb386 ≠ gb385) := ⟨h12_⟩
   have NB385_386 : Aside0 (gb385 ≠ gb386) := ⟨h13_⟩
   have GW386 : Aside0 (w.heap.size ≤ gb386) := ⟨h14_⟩
   have GE386 : Aside0 (w.heap.size ≤ gb386) := ⟨h15_⟩
   have NB372_386 : Aside0 (gb372 ≠ gb386) := ⟨h16_⟩
   have NB386_372 : Aside0 (gb386 ≠ gb372) := ⟨h17_⟩
   have NB376_386 : Aside0 (gb376 ≠ gb386) := ⟨h18_⟩
   have NB386_376 : Aside0 (gb386 ≠ gb376) := ⟨h19_⟩
   replace HB : Aside0 (Below w.heap.size w w62) := ⟨h20_⟩
   clear h0_ h1_ h2_ h3_ h4_ h5_ h6_ h7_ h8_ h9_ h10_ h11_ h12_ h13_ h14_ h15_ h16_ h17_ h18_ h19_ h20_
   have hHeld : w62.cell? ⟨gb376, 0, none⟩ = some (.int .i64 t373) ∧ w62.cell? ⟨gb376, 1, none⟩ = some (.int .i64 t374) ∧ w62.cell? ⟨gb376, 2, none⟩ = some (.int .i64 t375) ∧ w62.cell? (ad383.add (((ji26)).toNat * 3)) = some (.int .i64 ((rd_T34 y377 (ji26)).f0)) ∧ w62.cell? ⟨(ad383.add (((ji26)).toNat * 3)).block, (ad383.add (((ji26)).toNat * 3)).off + 1, none⟩ = some (.int .i64 ((rd_T34 y377 (ji26)).f1)) ∧ w62.cell? ⟨(ad383.add (((ji26)).toNat * 3)).block, (ad383.add (((ji26)).toNat * 3)).off + 2, none⟩ = some (.int .i64 ((rd_T34 y377 (ji26)).f2)) ∧ w62.cell? (ad383.add (((ji26)).toNat * 3)) = some (.int .i64 ((rd_T34 y377 (ji26)).f0)) ∧ w62.cell? ⟨(ad383.add (((ji26)).toNat * 3)).block, (ad383.add (((ji26)).toNat * 3)).off + 1, none⟩ = some (.int .i64 ((rd_T34 y377 (ji26)).f1)) ∧ w62.cell? ⟨(ad383.add (((ji26)).toNat * 3)).block, (ad383.add (((ji26)).toNat * 3)).off + 2, none⟩ = some (.int .i64 ((rd_T34 y377 (ji26)).f2)) := hS_
   refine norm_ (a' := ?_) ?_ ?_
   rotate_left
   ·simp only [putAll, Act.put, List.setIfInBounds_toArray, List.set_cons_zero, List.set_cons_succ]
    rfl
   refine one_ (i := 20) (N := none) #[true, true, true, true, true, true, true, true, true, true, true, true, true, true, true, true, true, true, true, true, true, false] rfl rfl (one_of HT_.out (by kernel_rfl)) (by decide) (fun K hK => ?_)
   have hs63 : w62.cell? ⟨gb385, 0, none⟩ = some (.int .i64 0) := (blk_cell BK385.out 0).trans rfl
   have hfs63 := blk_frozen BK385.out 0
   have hns63_0 := NB372_385.out
   have hns63_1 := NB376_385.out
   have hns63_3 := NB386_385.out
   have hms63_0 := NB385_372.out
   have hms63_1 := NB385_376.out
   have hms63_3 := NB385_386.out
   have hs64 : w62.cell? ⟨gb385, 1, none⟩ = some (.int .i64 0) := (blk_cell BK385.out 1).trans rfl
   have hfs64 := blk_frozen BK385.out 1
   have hns64_0 := NB372_385.out
   have hns64_1 := NB376_385.out
   have hns64_3 := NB386_385.out
   have hms64_0 := NB385_372.out
   have hms64_1 := NB385_376.out
   have hms64_3 := NB385_386.out
   refine skip_ (w1 := ?_) (by rfl) rfl ?_ ?_
   rotate_left
   ·go_simp
    rfl
   refine hK.out _ _ ⟨((cell_far (p := ⟨gb385, _, none⟩) NB376_385.out _).trans (((cell_far (p := ⟨gb385, _, none⟩) NB376_385.out _).trans (hHeld.1)))), ((cell_far (p := ⟨gb385, _, none⟩) NB376_385.out _).trans (((cell_far (p := ⟨gb385, _, none⟩) NB376_385.out _).trans (hHeld.2.1)))), ((cell_far (p := ⟨gb385, _, none⟩) NB376_385.out _).trans (((cell_far (p := ⟨gb385, _, none⟩) NB376_385.out _).trans (hHeld.2.2.1)))), ((cell_far (p := ⟨gb385, _, none⟩) (by first | exact Kd.own_blk (Kd.R_ne HO379.out BK385.out (by decide)) | (rw [add_block]; exact Kd.own_blk (Kd.R_ne HO379.out BK385.out (by decide))) | (show (Addr.add _ _).block ≠ _; rw [add_block]; exact Kd.own_blk (Kd.R_ne HO379.out BK385.out (by decide))) | (dsimp only; exact Kd.own_blk (Kd.R_ne HO379.out BK385.out (by decide)))) _).trans (((cell_far (p := ⟨gb385, _, none⟩) (by first | exact Kd.own_blk (Kd.R_ne HO379.out BK385.out (by decide)) | (rw [add_block]; exact Kd.own_blk (Kd.R_ne HO379.out BK385.out (by decide))) | (show (Addr.add _ _).block ≠ _; rw [add_block]; exact Kd.own_blk (Kd.R_ne HO379.out BK385.out (by decide))) | (dsimp only; exact Kd.own_blk (Kd.R_ne HO379.out BK385.out (by decide)))) _).trans (hHeld.2.2.2.1)))), ((cell_far (p := ⟨gb385, _, none⟩) (by first | exact Kd.own_blk (Kd.R_ne HO379.out BK385.out (by decide)) | (rw [add_block]; exact Kd.own_blk (Kd.R_ne HO379.out BK385.out (by decide))) | (show (Addr.add _ _).block ≠ _; rw [add_block]; exact Kd.own_blk (Kd.R_ne HO379.out BK385.out (by decide))) | (dsimp only; exact Kd.own_blk (Kd.R_ne HO379.out BK385.out (by decide)))) _).trans (((cell_far (p := ⟨gb385, _, none⟩) (by first | exact Kd.own_blk (Kd.R_ne HO379.out BK385.out (by decide)) | (rw [add_block]; exact Kd.own_blk (Kd.R_ne HO379.out BK385.out (by decide))) | (show (Addr.add _ _).block ≠ _; rw [add_block]; exact Kd.own_blk (Kd.R_ne HO379.out BK385.out (by decide))) | (dsimp only; exact Kd.own_blk (Kd.R_ne HO379.out BK385.out (by decide)))) _).trans (hHeld.2.2.2.2.1)))), ((cell_far (p := ⟨gb385, _, none⟩) (by first | exact Kd.own_blk (Kd.R_ne HO379.out BK385.out (by decide)) | (rw [add_block]; exact Kd.own_blk (Kd.R_ne HO379.out BK385.out (by decide))) | (show (Addr.add _ _).block ≠ _; rw [add_block]; exact Kd.own_blk (Kd.R_ne HO379.out BK385.out (by decide))) | (dsimp only; exact Kd.own_blk (Kd.R_ne HO379.out BK385.out (by decide)))) _).trans (((cell_far (p := ⟨gb385, _, none⟩) (by first | exact Kd.own_blk (Kd.R_ne HO379.out BK385.out (by decide)) | (rw [add_block]; exact Kd.own_blk (Kd.R_ne HO379.out BK385.out (by decide))) | (show (Addr.add _ _).block ≠ _; rw [add_block]; exact Kd.own_blk (Kd.R_ne HO379.out BK385.out (by decide))) | (dsimp only; exact Kd.own_blk (Kd.R_ne HO379.out BK385.out (by decide)))) _).trans (hHeld.2.2.2.2.2.1)))), ((cell_far (p := ⟨gb385, _, none⟩) (by first | exact Kd.own_blk (Kd.R_ne HO379.out BK385.out (by decide)) | (rw [add_block]; exact Kd.own_blk (Kd.R_ne HO379.out BK385.out (by decide))) | (show (Addr.add _ _).block ≠ _; rw [add_block]; exact Kd.own_blk (Kd.R_ne HO379.out BK385.out (by decide))) | (dsimp only; exact Kd.own_blk (Kd.R_ne HO379.out BK385.out (by decide)))) _).trans (((cell_far (p := ⟨gb385, _, none⟩) (by first | exact Kd.own_blk (Kd.R_ne HO379.out BK385.out (by decide)) | (rw [add_block]; exact Kd.own_blk (Kd.R_ne HO379.out BK385.out (by decide))) | (show (Addr.add _ _).block ≠ _; rw [add_block]; exact Kd.own_blk (Kd.R_ne HO379.out BK385.out (by decide))) | (dsimp only; exact Kd.own_blk (Kd.R_ne HO379.out BK385.out (by decide)))) _).trans (hHeld.2.2.2.2.2.2.1)))), ((cell_far (p := ⟨gb385, _, none⟩) (by first | exact Kd.own_blk (Kd.R_ne HO379.out BK385.out (by decide)) | (rw [add_block]; exact Kd.own_blk (Kd.R_ne HO379.out BK385.out (by decide))) | (show (Addr.add _ _).block ≠ _; rw [add_block]; exact Kd.own_blk (Kd.R_ne HO379.out BK385.out (by decide))) | (dsimp only; exact Kd.own_blk (Kd.R_ne HO379.out BK385.out (by decide)))) _).trans (((cell_far (p := ⟨gb385, _, none⟩) (by first | exact Kd.own_blk (Kd.R_ne HO379.out BK385.out (by decide)) | (rw [add_block]; exact Kd.own_blk (Kd.R_ne HO379.out BK385.out (by decide))) | (show (Addr.add _ _).block ≠ _; rw [add_block]; exact Kd.own_blk (Kd.R_ne HO379.out BK385.out (by decide))) | (dsimp only; exact Kd.own_blk (Kd.R_ne HO379.out BK385.out (by decide)))) _).trans (hHeld.2.2.2.2.2.2.2.1)))), ((cell_far (p := ⟨gb385, _, none⟩) (by first | exact Kd.own_blk (Kd.R_ne HO379.out BK385.out (by decide)) | (rw [add_block]; exact Kd.own_blk (Kd.R_ne HO379.out BK385.out (by decide))) | (show (Addr.add _ _).block ≠ _; rw [add_block]; exact Kd.own_blk (Kd.R_ne HO379.out BK385.out (by decide))) | (dsimp only; exact Kd.own_blk (Kd.R_ne HO379.out BK385.out (by decide)))) _).trans (((cell_far (p := ⟨gb385, _, none⟩) (by first | exact Kd.own_blk (Kd.R_ne HO379.out BK385.out (by decide)) | (rw [add_block]; exact Kd.own_blk (Kd.R_ne HO379.out BK385.out (by decide))) | (show (Addr.add _ _).block ≠ _; rw [add_block]; exact Kd.own_blk (Kd.R_ne HO379.out BK385.out (by decide))) | (dsimp only; exact Kd.own_blk (Kd.R_ne HO379.out BK385.out (by decide)))) _).trans (hHeld.2.2.2.2.2.2.2.2))))⟩ (fun hHeld => ?_)
   clear hK K
   refine one_ (i := 21) (N := none) #[true, true, true, true, true, true, true, true, true, true, true, true, true, true, true, true, true, true, true, true, true, true] rfl rfl (one_of HT_.out (by kernel_rfl)) (by decide) (fun K hK => ?_)
   have hs65 : w62.cell? ⟨gb386, 0, none⟩ = some (.int .i64 0) := (blk_cell BK386.out 0).trans rfl
   have hfs65 := blk_frozen BK386.out 0
   have hns65_0 := NB372_386.out
   have hns65_1 := NB376_386.out
   have hns65_2 := NB385_386.out
   have hms65_0 := NB386_372.out
   have hms65_1 := NB386_376.out
   have hms65_2 := NB386_385.out
   have hs66 : w62.cell? ⟨gb386, 1, none⟩ = some (.int .i64 0) := (blk_cell BK386.out 1).trans rfl
   have hfs66 := blk_frozen BK386.out 1
   have hns66_0 := NB372_386.out
   have hns66_1 := NB376_386.out
   have hns66_2 := NB385_386.out
   have hms66_0 := NB386_372.out
   have hms66_1 := NB386_376.out
   have hms66_2 := NB386_385.out
   refine skip_ (w1 := ?_) (by rfl) rfl ?_ ?_
   rotate_left
   ·go_simp
    rfl
   refine hK.out _ _ ⟨((cell_far (p := ⟨gb386, _, none⟩) NB376_386.out _).trans (((cell_far (p := ⟨gb386, _, none⟩) NB376_386.out _).trans (hHeld.1)))), ((cell_far (p := ⟨gb386, _, none⟩) NB376_386.out _).trans (((cell_far (p := ⟨gb386, _, none⟩) NB376_386.out _).trans (hHeld.2.1)))), ((cell_far (p := ⟨gb386, _, none⟩) NB376_386.out _).trans (((cell_far (p := ⟨gb386, _, none⟩) NB376_386.out _).trans (hHeld.2.2.1)))), ((cell_far (p := ⟨gb386, _, none⟩) (by first | exact Kd.own_blk (Kd.R_ne HO379.out BK386.out (by decide)) | (rw [add_block]; exact Kd.own_blk (Kd.R_ne HO379.out BK386.out (by decide))) | (show (Addr.add _ _).block ≠ _; rw [add_block]; exact Kd.own_blk (Kd.R_ne HO379.out BK386.out (by decide))) | (dsimp only; exact Kd.own_blk (Kd.R_ne HO379.out BK386.out (by decide)))) _).trans (((cell_far (p := ⟨gb386, _, none⟩) (by first | exact Kd.own_blk (Kd.R_ne HO379.out BK386.out (by decide)) | (rw [add_block]; exact Kd.own_blk (Kd.R_ne HO379.out BK386.out (by decide))) | (show (Addr.add _ _).block ≠ _; rw [add_block]; exact Kd.own_blk (Kd.R_ne HO379.out BK386.out (by decide))) | (dsimp only; exact Kd.own_blk (Kd.R_ne HO379.out BK386.out (by decide)))) _).trans (hHeld.2.2.2.1)))), ((cell_far (p := ⟨gb386, _, none⟩) (by first | exact Kd.own_blk (Kd.R_ne HO379.out BK386.out (by decide)) | (rw [add_block]; exact Kd.own_blk (Kd.R_ne HO379.out BK386.out (by decide))) | (show (Addr.add _ _).block ≠ _; rw [add_block]; exact Kd.own_blk (Kd.R_ne HO379.out BK386.out (by decide))) | (dsimp only; exact Kd.own_blk (Kd.R_ne HO379.out BK386.out (by decide)))) _).trans (((cell_far (p := ⟨gb386, _, none⟩) (by first | exact Kd.own_blk (Kd.R_ne HO379.out BK386.out (by decide)) | (rw [add_block]; exact Kd.own_blk (Kd.R_ne HO379.out BK386.out (by decide))) | (show (Addr.add _ _).block ≠ _; rw [add_block]; exact Kd.own_blk (Kd.R_ne HO379.out BK386.out (by decide))) | (dsimp only; exact Kd.own_blk (Kd.R_ne HO379.out BK386.out (by decide)))) _).trans (hHeld.2.2.2.2.1)))), ((cell_far (p := ⟨gb386, _, none⟩) (by first | exact Kd.own_blk (Kd.R_ne HO379.out BK386.out (by decide)) | (rw [add_block]; exact Kd.own_blk (Kd.R_ne HO379.out BK386.out (by decide))) | (show (Addr.add _ _).block ≠ _; rw [add_block]; exact Kd.own_blk (Kd.R_ne HO379.out BK386.out (by decide))) | (dsimp only; exact Kd.own_blk (Kd.R_ne HO379.out BK386.out (by decide)))) _).trans (((cell_far (p := ⟨gb386, _, none⟩) (by first | exact Kd.own_blk (Kd.R_ne HO379.out BK386.out (by decide)) | (rw [add_block]; exact Kd.own_blk (Kd.R_ne HO379.out BK386.out (by decide))) | (show (Addr.add _ _).block ≠ _; rw [add_block]; exact Kd.own_blk (Kd.R_ne HO379.out BK386.out (by decide))) | (dsimp only; exact Kd.own_blk (Kd.R_ne HO379.out BK386.out (by decide)))) _).trans (hHeld.2.2.2.2.2.1)))), ((cell_far (p := ⟨gb386, _, none⟩) (by first | exact Kd.own_blk (Kd.R_ne HO379.out BK386.out (by decide)) | (rw [add_block]; exact Kd.own_blk (Kd.R_ne HO379.out BK386.out (by decide))) | (show (Addr.add _ _).block ≠ _; rw [add_block]; exact Kd.own_blk (Kd.R_ne HO379.out BK386.out (by decide))) | (dsimp only; exact Kd.own_blk (Kd.R_ne HO379.out BK386.out (by decide)))) _).trans (((cell_far (p := ⟨gb386, _, none⟩) (by first | exact Kd.own_blk (Kd.R_ne HO379.out BK386.out (by decide)) | (rw [add_block]; exact Kd.own_blk (Kd.R_ne HO379.out BK386.out (by decide))) | (show (Addr.add _ _).block ≠ _; rw [add_block]; exact Kd.own_blk (Kd.R_ne HO379.out BK386.out (by decide))) | (dsimp only; exact Kd.own_blk (Kd.R_ne HO379.out BK386.out (by decide)))) _).trans (hHeld.2.2.2.2.2.2.1)))), ((cell_far (p := ⟨gb386, _, none⟩) (by first | exact Kd.own_blk (Kd.R_ne HO379.out BK386.out (by decide)) | (rw [add_block]; exact Kd.own_blk (Kd.R_ne HO379.out BK386.out (by decide))) | (show (Addr.add _ _).block ≠ _; rw [add_block]; exact Kd.own_blk (Kd.R_ne HO379.out BK386.out (by decide))) | (dsimp only; exact Kd.own_blk (Kd.R_ne HO379.out BK386.out (by decide)))) _).trans (((cell_far (p := ⟨gb386, _, none⟩) (by first | exact Kd.own_blk (Kd.R_ne HO379.out BK386.out (by decide)) | (rw [add_block]; exact Kd.own_blk (Kd.R_ne HO379.out BK386.out (by decide))) | (show (Addr.add _ _).block ≠ _; rw [add_block]; exact Kd.own_blk (Kd.R_ne HO379.out BK386.out (by decide))) | (dsimp only; exact Kd.own_blk (Kd.R_ne HO379.out BK386.out (by decide)))) _).trans (hHeld.2.2.2.2.2.2.2.1)))), ((cell_far (p := ⟨gb386, _, none⟩) (by first | exact Kd.own_blk (Kd.R_ne HO379.out BK386.out (by decide)) | (rw [add_block]; exact Kd.own_blk (Kd.R_ne HO379.out BK386.out (by decide))) | (show (Addr.add _ _).block ≠ _; rw [add_block]; exact Kd.own_blk (Kd.R_ne HO379.out BK386.out (by decide))) | (dsimp only; exact Kd.own_blk (Kd.R_ne HO379.out BK386.out (by decide)))) _).trans (((cell_far (p := ⟨gb386, _, none⟩) (by first | exact Kd.own_blk (Kd.R_ne HO379.out BK386.out (by decide)) | (rw [add_block]; exact Kd.own_blk (Kd.R_ne HO379.out BK386.out (by decide))) | (show (Addr.add _ _).block ≠ _; rw [add_block]; exact Kd.own_blk (Kd.R_ne HO379.out BK386.out (by decide))) | (dsimp only; exact Kd.own_blk (Kd.R_ne HO379.out BK386.out (by decide)))) _).trans (hHeld.2.2.2.2.2.2.2.2))))⟩ (fun hHeld => ?_)
   clear hK K
   refine done_ (done_of HT_.out (by kernel_rfl)) ?_
   have hnb67 := NB385_372.out
   have hnc67 := NB372_385.out
   have hnb68 := NB385_376.out
   have hnc68 := NB376_385.out
   have hnb69 := NB385_386.out
   have hnc69 := NB386_385.out
   have hcz70_0 : w62.cell? ⟨gb385, 0, none⟩ = some (.int .i64 0) := (blk_cell BK385.out 0).trans rfl
   have hcz70_1 : w62.cell? ⟨gb385, 1, none⟩ = some (.int .i64 0) := (blk_cell BK385.out 1).trans rfl
   have hfz70_0 := blk_frozen BK385.out 0
   have hfz70_1 := blk_frozen BK385.out 1
   have hnb71 := NB386_372.out
   have hnc71 := NB372_386.out
   have hnb72 := NB386_376.out
   have hnc72 := NB376_386.out
   have hcz73_0 : w62.cell? ⟨gb386, 0, none⟩ = some (.int .i64 0) := (blk_cell BK386.out 0).trans rfl
   have hcz73_1 : w62.cell? ⟨gb386, 1, none⟩ = some (.int .i64 0) := (blk_cell BK386.out 1).trans rfl
   have hfz73_0 := blk_frozen BK386.out 0
   have hfz73_1 := blk_frozen BK386.out 1
   try go_wp2_with (first | ((with_reducible refine gate_builtin (b := .append) (xs := #[.tmp 93, .tmp 97]) rfl ?_); (try (refine gate_guard (by rfl) ?_; dsimp only)); at_builtin; refine Kd.R_append k52 (w0 := w) w.heap.size rfl (.tmp 93) (.tmp 97) 37 52 (.agg #[(.int .i64 0), (.int .i64 0), (.int .i64 0), (.int .i64 0)]) 32 rfl Tryz.underlying37 info52 rfl (by decide) (by omega) u9 x9_1 (⟨(⟨(rd_T34 y377 (ji26)).f0, (rd_T34 y377 (ji26)).f1⟩ : S51), (⟨t373, t374⟩ : S51)⟩ : S52) [.int .i64 ((rd_T34 y377 (ji26)).f0), .int .i64 ((rd_T34 y377 (ji26)).f1), .int .i64 t373, .int .i64 t374] (fun _ => True) (fun _ => False) rfl (by first | (go_simp; done) | (go_simp; rfl)) ?aP (fun _ hk => hk.elim) ?aF ?aO ?aB ?aS ?aL ?_; (case aP => exact k52_mkM _ _ _ (⟨(⟨(rd_T34 y377 (ji26)).f0, (rd_T34 y377 (ji26)).f1⟩ : S51), (⟨t373, t374⟩ : S51)⟩ : S52)); (case aB => exact (by repeat (first | (with_reducible first | exact HB.out | apply bA | apply bN | apply bD | refine bS ?_ GE372.out | refine bS ?_ GE376.out | refine bS ?_ GE385.out | refine bS ?_ GE386.out) | exact HB.out))); (case aF => exact (fun _ _ => trivial)); (case aO => exact (gR (Kd.R_mono (Kd.R_far (p := ⟨gb386, 1, none⟩) (Kd.R_far (p := ⟨gb386, 0, none⟩) (Kd.R_far (p := ⟨gb385, 1, none⟩) (Kd.R_far (p := ⟨gb385, 0, none⟩) (Kd.R_types (Kd.R_types HO_9.out BK385.out (by decide)) BK386.out (by decide)) (fun _ hk => hk.1.2) (.int .i64 ((rd_T34 y377 (ji26)).f0))) (fun _ hk => hk.1.2) (.int .i64 ((rd_T34 y377 (ji26)).f1))) (fun _ hk => hk.2) (.int .i64 t373)) (fun _ hk => hk.2) (.int .i64 t374)) (fun _ hk => trivial)))); (case aS => exact (below_size (by repeat (first | (with_reducible first | exact HB.out | apply bA | apply bN | apply bD | refine bS ?_ GE372.out | refine bS ?_ GE376.out | refine bS ?_ GE385.out | refine bS ?_ GE386.out) | exact HB.out)))); (case aL => have := LMc29.out; omega); intro v388 w74 ho hb hg hat; rw [← Ny387.out] at ho; replace BK372 := aK (blk_grown (g := gb372) (o := .cells #[.int .i64 ((rd_T34 l0 x32_1).f0), .int .i64 ((rd_T34 l0 x32_1).f1), .int .i64 ((rd_T34 l0 x32_1).f2)] 34 (0, 0)) (by (with_reducible repeat (first | refine blk_drewN ?_ _ | refine blk_drew ?_ | refine blk_alloc ?_ _)); refine blk_far ?_ NB372_386.out _; (with_reducible repeat (first | refine blk_drewN ?_ _ | refine blk_drew ?_ | refine blk_alloc ?_ _)); refine blk_far ?_ NB372_386.out _; (with_reducible repeat (first | refine blk_drewN ?_ _ | refine blk_drew ?_ | refine blk_alloc ?_ _)); refine blk_far ?_ NB372_385.out _; (with_reducible repeat (first | refine blk_drewN ?_ _ | refine blk_drew ?_ | refine blk_alloc ?_ _)); refine blk_far ?_ NB372_385.out _; (with_reducible repeat (first | refine blk_drewN ?_ _ | refine blk_drew ?_ | refine blk_alloc ?_ _)); exact BK372.out) hg (Kd.R_ne HO_9.out BK372.out (by decide))); replace BK376 := aK (blk_grown (g := gb376) (o := .cells #[.int .i64 t373, .int .i64 t374, .int .i64 t375] 34 (0, 0)) (by (with_reducible repeat (first | refine blk_drewN ?_ _ | refine blk_drew ?_ | refine blk_alloc ?_ _)); refine blk_far ?_ NB376_386.out _; (with_reducible repeat (first | refine blk_drewN ?_ _ | refine blk_drew ?_ | refine blk_alloc ?_ _)); refine blk_far ?_ NB376_386.out _; (with_reducible repeat (first | refine blk_drewN ?_ _ | refine blk_drew ?_ | refine blk_alloc ?_ _)); refine blk_far ?_ NB376_385.out _; (with_reducible repeat (first | refine blk_drewN ?_ _ | refine blk_drew ?_ | refine blk_alloc ?_ _)); refine blk_far ?_ NB376_385.out _; (with_reducible repeat (first | refine blk_drewN ?_ _ | refine blk_drew ?_ | refine blk_alloc ?_ _)); exact BK376.out) hg (Kd.R_ne HO_9.out BK376.out (by decide))); replace HO379 := aK (Kd.R_over' (gR (Kd.R_mono (Kd.R_mono (Kd.R_far (p := ⟨gb386, 1, none⟩) (Kd.R_far (p := ⟨gb386, 0, none⟩) (Kd.R_far (p := ⟨gb385, 1, none⟩) (Kd.R_far (p := ⟨gb385, 0, none⟩) (Kd.R_types (Kd.R_types HO379.out BK385.out (by decide)) BK386.out (by decide)) (fun _ hk => hk.1.2) (.int .i64 ((rd_T34 y377 (ji26)).f0))) (fun _ hk => hk.1.2) (.int .i64 ((rd_T34 y377 (ji26)).f1))) (fun _ hk => hk.2) (.int .i64 t373)) (fun _ hk => hk.2) (.int .i64 t374)) (fun _ h_ => h_.1)) (fun _ h_ => h_.1))) (Kd.R_typed (gR (Kd.R_mono (Kd.R_mono (Kd.R_far (p := ⟨gb386, 1, none⟩) (Kd.R_far (p := ⟨gb386, 0, none⟩) (Kd.R_far (p := ⟨gb385, 1, none⟩) (Kd.R_far (p := ⟨gb385, 0, none⟩) (Kd.R_types (Kd.R_types HO_9.out BK385.out (by decide)) BK386.out (by decide)) (fun _ hk => hk.1.2) (.int .i64 ((rd_T34 y377 (ji26)).f0))) (fun _ hk => hk.1.2) (.int .i64 ((rd_T34 y377 (ji26)).f1))) (fun _ hk => hk.2) (.int .i64 t373)) (fun _ hk => hk.2) (.int .i64 t374)) (fun _ h_ => h_.1)) (fun _ h_ => h_.1)))) (by decide) hg); have n3_ := aK (blk_grown (g := gb385) (o := .cells #[.int .i64 ((rd_T34 y377 (ji26)).f0), .int .i64 ((rd_T34 y377 (ji26)).f1)] 51 (0, 0)) (by (with_reducible repeat (first | refine blk_drewN ?_ _ | refine blk_drew ?_ | refine blk_alloc ?_ _)); refine blk_far ?_ NB385_386.out _; (with_reducible repeat (first | refine blk_drewN ?_ _ | refine blk_drew ?_ | refine blk_alloc ?_ _)); refine blk_far ?_ NB385_386.out _; (with_reducible repeat (first | refine blk_drewN ?_ _ | refine blk_drew ?_ | refine blk_alloc ?_ _)); refine blk_put (cs := #[.int .i64 ((rd_T34 y377 (ji26)).f0), .int .i64 0]) ?_ 1 _ rfl; (with_reducible repeat (first | refine blk_drewN ?_ _ | refine blk_drew ?_ | refine blk_alloc ?_ _)); refine blk_put (cs := #[.int .i64 0, .int .i64 0]) ?_ 0 _ rfl; (with_reducible repeat (first | refine blk_drewN ?_ _ | refine blk_drew ?_ | refine blk_alloc ?_ _)); exact BK385.out) hg (Kd.R_ne HO_9.out BK385.out (by decide))); have n4_ := aK (blk_grown (g := gb386) (o := .cells #[.int .i64 t373, .int .i64 t374] 51 (0, 0)) (by (with_reducible repeat (first | refine blk_drewN ?_ _ | refine blk_drew ?_ | refine blk_alloc ?_ _)); refine blk_put (cs := #[.int .i64 t373, .int .i64 0]) ?_ 1 _ rfl; (with_reducible repeat (first | refine blk_drewN ?_ _ | refine blk_drew ?_ | refine blk_alloc ?_ _)); refine blk_put (cs := #[.int .i64 0, .int .i64 0]) ?_ 0 _ rfl; (with_reducible repeat (first | refine blk_drewN ?_ _ | refine blk_drew ?_ | refine blk_alloc ?_ _)); refine blk_far ?_ NB386_385.out _; (with_reducible repeat (first | refine blk_drewN ?_ _ | refine blk_drew ?_ | refine blk_alloc ?_ _)); refine blk_far ?_ NB386_385.out _; (with_reducible repeat (first | refine blk_drewN ?_ _ | refine blk_drew ?_ | refine blk_alloc ?_ _)); exact BK386.out) hg (Kd.R_ne HO_9.out BK386.out (by decide))); replace HB := aK (hb); have HO389 := aK (ho); clear BK385 BK386 HO_9; have BK385 := n3_; have BK386 := n4_; clear n3_ n4_; clear ho hb hg hat))
   replace HO379 := aK (Kd.R_drew HO379.out)
   replace HO389 := aK (Kd.R_drew HO389.out)
   replace BK372 := aK (blk_drew BK372.out)
   replace BK376 := aK (blk_drew BK376.out)
   replace BK385 := aK (blk_drew BK385.out)
   replace BK386 := aK (blk_drew BK386.out)
   replace HB := aK (bD HB.out)
   refine start_ (n := 26) (S := fun w' => w'.cell? ⟨gb385, 0, none⟩ = some (.int .i64 ((rd_T34 y377 (ji26)).f0)) ∧ w'.cell? ⟨gb385, 1, none⟩ = some (.int .i64 ((rd_T34 y377 (ji26)).f1)) ∧ w'.cell? ⟨gb386, 0, none⟩ = some (.int .i64 t373) ∧ w'.cell? ⟨gb386, 1, none⟩ = some (.int .i64 t374)) (ds := []) #[false, false, false, false, false, false, false, false, false, false, false, false, false, false, false, false, false, false, false, false, false, false, false, false, false, false] (by kernel_rfl) rfl rfl ⟨(blk_cell BK385.out 0).trans rfl, (blk_cell BK385.out 1).trans rfl, (blk_cell BK386.out 0).trans rfl, (blk_cell BK386.out 1).trans rfl⟩ (fun hHeld => ?_); refine with_tabW isohyetlaw25_DataBack.tab18 isohyetlaw25_DataBack.bits18 (fun HT_ HW_ => ?_)
   generalize w74.drew = w75 at HO379 HO389 BK372 BK376 BK385 BK386 HB hHeld ⊢
   refine pure_ (i := 0) (N := some 99) (v := ?_) (a' := ?_) #[true, false, false, false, false, false, false, false, false, false, false, false, false, false, false, false, false, false, false, false, false, false, false, false, false, false] rfl rfl (any_of HT_.out (by kernel_rfl)) (fun _ _ _ h => h) (Or.inl ⟨by rfl, ?_⟩) ?_ ?_
   rotate_left
   ·intro w'
    go_simp
    with_reducible rfl
   rotate_left
   ·simp only [Act.put, List.setIfInBounds_toArray, List.set_cons_zero, List.set_cons_succ, i64_w, i32_w]
    rfl
   refine pure_ (i := 1) (N := some 100) (v := ?_) (a' := ?_) #[true, true, false, false, false, false, false, false, false, false, false, false, false, false, false, false, false, false, false, false, false, false, false, false, false, false] rfl rfl (any_of HT_.out (by kernel_rfl)) (fun _ _ _ h => h) (Or.inl ⟨by rfl, ?_⟩) ?_ ?_
   rotate_left
   ·intro w'
    go_simp
    with_reducible rfl
   rotate_left
   ·simp only [Act.put, List.setIfInBounds_toArray, List.set_cons_zero, List.set_cons_succ, i64_w, i32_w]
    rfl
   refine pure_ (i := 3) (N := some 102) (v := ?_) (a' := ?_) #[true, true, false, true, false, false, false, false, false, false, false, false, false, false, false, false, false, false, false, false, false, false, false, false, false, false] rfl rfl (any_of HT_.out (by kernel_rfl)) (fun _ _ _ h => h) (Or.inl ⟨by rfl, ?_⟩) ?_ ?_
   rotate_left
   ·intro w'
    go_simp
    with_reducible rfl
   rotate_left
   ·simp only [Act.put, List.setIfInBounds_toArray, List.set_cons_zero, List.set_cons_succ, i64_w, i32_w]
    rfl
   refine pure_ (i := 6) (N := some 105) (v := ?_) (a' := ?_) #[true, true, false, true, false, false, true, false, false, false, false, false, false, false, false, false, false, false, false, false, false, false, false, false, false, false] rfl rfl (any_of HT_.out (by kernel_rfl)) (fun _ _ _ h => h) (Or.inl ⟨by rfl, ?_⟩) ?_ ?_
   rotate_left
   ·intro w'
    go_simp
    with_reducible rfl
   rotate_left
   ·simp only [Act.put, List.setIfInBounds_toArray, List.set_cons_zero, List.set_cons_succ, i64_w, i32_w]
    rfl
   refine pure_ (i := 8) (N := some 107) (v := ?_) (a' := ?_) #[true, true, false, true, false, false, true, false, true, false, false, false, false, false, false, false, false, false, false, false, false, false, false, false, false, false] rfl rfl (any_of HT_.out (by kernel_rfl)) (fun _ _ _ h => h) (Or.inl ⟨by rfl, ?_⟩) ?_ ?_
   rotate_left
   ·intro w'
    go_simp
    with_reducible rfl
   rotate_left
   ·simp only [Act.put, List.setIfInBounds_toArray, List.set_cons_zero, List.set_cons_succ, i64_w, i32_w]
    rfl
   refine pure_ (i := 12) (N := some 111) (v := ?_) (a' := ?_) #[true, true, false, true, false, false, true, false, true, false, false, false, true, false, false, false, false, false, false, false, false, false, false, false, false, false] rfl rfl (any_of HT_.out (by kernel_rfl)) (fun _ _ _ h => h) (Or.inl ⟨by rfl, ?_⟩) ?_ ?_
   rotate_left
   ·intro w'
    go_simp
    with_reducible rfl
   rotate_left
   ·simp only [Act.put, List.setIfInBounds_toArray, List.set_cons_zero, List.set_cons_succ, i64_w, i32_w]
    rfl
   refine pure_ (i := 14) (N := some 113) (v := ?_) (a' := ?_) #[true, true, false, true, false, false, true, false, true, false, false, false, true, false, true, false, false, false, false, false, false, false, false, false, false, false] rfl rfl (any_of HT_.out (by kernel_rfl)) (fun _ _ _ h => h) (Or.inl ⟨by rfl, ?_⟩) ?_ ?_
   rotate_left
   ·intro w'
    go_simp
    with_reducible rfl
   rotate_left
   ·simp only [Act.put, List.setIfInBounds_toArray, List.set_cons_zero, List.set_cons_succ, i64_w, i32_w]
    rfl
   refine pure_ (i := 18) (N := some 117) (v := ?_) (a' := ?_) #[true, true, false, true, false, false, true, false, true, false, false, false, true, false, true, false, false, false, true, false, false, false, false, false, false, false] rfl rfl (any_of HT_.out (by kernel_rfl)) (fun _ _ _ h => h) (Or.inl ⟨by rfl, ?_⟩) ?_ ?_
   rotate_left
   ·intro w'
    go_simp
    with_reducible rfl
   rotate_left
   ·simp only [Act.put, List.setIfInBounds_toArray, List.set_cons_zero, List.set_cons_succ, i64_w, i32_w]
    rfl
   refine pure_ (i := 20) (N := some 119) (v := ?_) (a' := ?_) #[true, true, false, true, false, false, true, false, true, false, false, false, true, false, true, false, false, false, true, false, true, false, false, false, false, false] rfl rfl (any_of HT_.out (by kernel_rfl)) (fun _ _ _ h => h) (Or.inl ⟨by rfl, ?_⟩) ?_ ?_
   rotate_left
   ·intro w'
    go_simp
    with_reducible rfl
   rotate_left
   ·simp only [Act.put, List.setIfInBounds_toArray, List.set_cons_zero, List.set_cons_succ, i64_w, i32_w]
    rfl
   refine take_ (i := 2) (N := some 101) (v := ?_) (a' := ?_) #[true, true, true, true, false, false, true, false, true, false, false, false, true, false, true, false, false, false, true, false, true, false, false, false, false, false] rfl rfl (take_ofW HT_.out HW_.out (by kernel_rfl)) (fun _ _ _ h => h) (Or.inl ⟨by rfl, ?_⟩) hHeld ?_ ?_
   rotate_left
   ·rintro w' ⟨s0, s1, s2, s3⟩
    go_simp
    with_reducible rfl
   rotate_left
   ·simp only [Act.put, List.setIfInBounds_toArray, List.set_cons_zero, List.set_cons_succ, i64_w, i32_w]
    rfl
   refine take_ (i := 7) (N := some 106) (v := ?_) (a' := ?_) #[true, true, true, true, false, false, true, true, true, false, false, false, true, false, true, false, false, false, true, false, true, false, false, false, false, false] rfl rfl (take_ofW HT_.out HW_.out (by kernel_rfl)) (fun _ _ _ h => h) (Or.inl ⟨by rfl, ?_⟩) hHeld ?_ ?_
   rotate_left
   ·rintro w' ⟨s0, s1, s2, s3⟩
    go_simp
    with_reducible rfl
   rotate_left
   ·simp only [Act.put, List.setIfInBounds_toArray, List.set_cons_zero, List.set_cons_succ, i64_w, i32_w]
    rfl
   refine take_ (i := 13) (N := some 112) (v := ?_) (a' := ?_) #[true, true, true, true, false, false, true, true, true, false, false, false, true, true, true, false, false, false, true, false, true, false, false, false, false, false] rfl rfl (take_ofW HT_.out HW_.out (by kernel_rfl)) (fun _ _ _ h => h) (Or.inl ⟨by rfl, ?_⟩) hHeld ?_ ?_
   rotate_left
   ·rintro w' ⟨s0, s1, s2, s3⟩
    go_simp
    with_reducible rfl
   rotate_left
   ·simp only [Act.put, List.setIfInBounds_toArray, List.set_cons_zero, List.set_cons_succ, i64_w, i32_w]
    rfl
   refine take_ (i := 19) (N := some 118) (v := ?_) (a' := ?_) #[true, true, true, true, false, false, true, true, true, false, false, false, true, true, true, false, false, false, true, true, true, false, false, false, false, false] rfl rfl (take_ofW HT_.out HW_.out (by kernel_rfl)) (fun _ _ _ h => h) (Or.inl ⟨by rfl, ?_⟩) hHeld ?_ ?_
   rotate_left
   ·rintro w' ⟨s0, s1, s2, s3⟩
    go_simp
    with_reducible rfl
   rotate_left
   ·simp only [Act.put, List.setIfInBounds_toArray, List.set_cons_zero, List.set_cons_succ, i64_w, i32_w]
    rfl
   refine one_ (i := 4) (N := some 103) #[true, true, true, true, true, false, true, true, true, false, false, false, true, true, true, false, false, false, true, true, true, false, false, false, false, false] rfl rfl (one_of HT_.out (by kernel_rfl)) (by decide) (fun K hK => ?_)
   refine goes_ Tryz.func14 (by kernel_rfl) rfl #[.int .i64 ((rd_T34 y377 (ji26)).f0), .int .i64 a1] (by rfl) rfl rfl (by (try simp only [List.map_toArray, List.map_cons, List.map_nil]); first | done | (simp only [hji26]; rfl) | rfl | (simp only [List.length_drop, List.length_take]; rfl)) ?_
   with_reducible refine (deci_Text.calls k1 ((rd_T34 y377 (ji26)).f0) a1 t390 _ A30.out).mono ?_
   rintro e w76 ⟨rfl, hb⟩
   refine ⟨_, rfl, ?_⟩
   replace HO379 := aK (Kd.R_below (gR HO379.out) hb)
   replace HO389 := aK (Kd.R_below (gR HO389.out) hb)
   replace BK372 := aK (blk_below (g := gb372) (o := .cells #[.int .i64 ((rd_T34 l0 x32_1).f0), .int .i64 ((rd_T34 l0 x32_1).f1), .int .i64 ((rd_T34 l0 x32_1).f2)] 34 (0, 0)) (gK BK372.out) hb)
   replace BK376 := aK (blk_below (gK BK376.out) hb)
   replace BK385 := aK (blk_below (g := gb385) (o := .cells #[.int .i64 ((rd_T34 y377 (ji26)).f0), .int .i64 ((rd_T34 y377 (ji26)).f1)] 51 (0, 0)) (gK BK385.out) hb)
   replace BK386 := aK (blk_below (gK BK386.out) hb)
   replace HB := aK (below_step (by repeat (first | (with_reducible first | exact HB.out | apply bA | apply bN | apply bD | refine bS ?_ GE372.out | refine bS ?_ GE376.out | refine bS ?_ GE385.out | refine bS ?_ GE386.out) | exact HB.out)) hb)
   (try clear hb)
   (try clear hb2)
   (try clear hk)
   (try clear hi)
   refine hK.out _ _ ⟨(blk_cell BK385.out 0).trans rfl, (blk_cell BK385.out 1).trans rfl, (blk_cell BK386.out 0).trans rfl, (blk_cell BK386.out 1).trans rfl⟩ (fun hHeld => ?_)
   clear hK K
   refine norm_ (a' := ?_) ?_ ?_
   rotate_left
   ·show Act.put _ (some 103) _ = _
    simp only [Act.put, List.setIfInBounds_toArray, List.set_cons_zero, List.set_cons_succ, i64_w, i32_w]
    rfl
   refine pure_ (i := 5) (N := some 104) (v := ?_) (a' := ?_) #[true, true, true, true, true, true, true, true, true, false, false, false, true, true, true, false, false, false, true, true, true, false, false, false, false, false] rfl rfl (any_of HT_.out (by kernel_rfl)) (fun _ _ _ h => h) (Or.inl ⟨by rfl, ?_⟩) ?_ ?_
   rotate_left
   ·intro w'
    go_simp
    with_reducible rfl
   rotate_left
   ·simp only [Act.put, List.setIfInBounds_toArray, List.set_cons_zero, List.set_cons_succ, i64_w, i32_w]
    rfl
   refine one_ (i := 9) (N := some 108) #[true, true, true, true, true, true, true, true, true, true, false, false, true, true, true, false, false, false, true, true, true, false, false, false, false, false] rfl rfl (one_of HT_.out (by kernel_rfl)) (by decide) (fun K hK => ?_)
   refine goes_ Tryz.func14 (by kernel_rfl) rfl #[.int .i64 ((rd_T34 y377 (ji26)).f1), .int .i64 a1] (by rfl) rfl rfl (by (try simp only [List.map_toArray, List.map_cons, List.map_nil]); first | done | (simp only [hji26]; rfl) | rfl | (simp only [List.length_drop, List.length_take]; rfl)) ?_
   with_reducible refine (deci_Text.calls k1 ((rd_T34 y377 (ji26)).f1) a1 t391 _ A32.out).mono ?_
   rintro e w77 ⟨rfl, hb⟩
   refine ⟨_, rfl, ?_⟩
   replace HO379 := aK (Kd.R_below (gR HO379.out) hb)
   replace HO389 := aK (Kd.R_below (gR HO389.out) hb)
   replace BK372 := aK (blk_below (g := gb372) (o := .cells #[.int .i64 ((rd_T34 l0 x32_1).f0), .int .i64 ((rd_T34 l0 x32_1).f1), .int .i64 ((rd_T34 l0 x32_1).f2)] 34 (0, 0)) (gK BK372.out) hb)
   replace BK376 := aK (blk_below (gK BK376.out) hb)
   replace BK385 := aK (blk_below (g := gb385) (o := .cells #[.int .i64 ((rd_T34 y377 (ji26)).f0), .int .i64 ((rd_T34 y377 (ji26)).f1)] 51 (0, 0)) (gK BK385.out) hb)
   replace BK386 := aK (blk_below (gK BK386.out) hb)
   replace HB := aK (below_step (by repeat (first | (with_reducible first | exact HB.out | apply bA | apply bN | apply bD | refine bS ?_ GE372.out | refine bS ?_ GE376.out | refine bS ?_ GE385.out | refine bS ?_ GE386.out) | exact HB.out)) hb)
   (try clear hb)
   (try clear hb2)
   (try clear hk)
   (try clear hi)
   refine hK.out _ _ ⟨(blk_cell BK385.out 0).trans rfl, (blk_cell BK385.out 1).trans rfl, (blk_cell BK386.out 0).trans rfl, (blk_cell BK386.out 1).trans rfl⟩ (fun hHeld => ?_)
   clear hK K
   refine norm_ (a' := ?_) ?_ ?_
   rotate_left
   ·show Act.put _ (some 108) _ = _
    simp only [Act.put, List.setIfInBounds_toArray, List.set_cons_zero, List.set_cons_succ, i64_w, i32_w]
    rfl
   refine pure_ (i := 10) (N := some 109) (v := ?_) (a' := ?_) #[true, true, true, true, true, true, true, true, true, true, true, false, true, true, true, false, false, false, true, true, true, false, false, false, false, false] rfl rfl (any_of HT_.out (by kernel_rfl)) (fun _ _ _ h => h) (Or.inl ⟨by rfl, ?_⟩) ?_ ?_
   rotate_left
   ·intro w'
    go_simp
    with_reducible rfl
   rotate_left
   ·simp only [Act.put, List.setIfInBounds_toArray, List.set_cons_zero, List.set_cons_succ, i64_w, i32_w]
    rfl
   refine pure_ (i := 11) (N := some 110) (v := ?_) (a' := ?_) #[true, true, true, true, true, true, true, true, true, true, true, true, true, true, true, false, false, false, true, true, true, false, false, false, false, false] rfl rfl (any_of HT_.out (by kernel_rfl)) (fun _ _ _ h => h) (Or.inl ⟨by rfl, ?_⟩) ?_ ?_
   rotate_left
   ·intro w'
    go_simp
    with_reducible rfl
   rotate_left
   ·simp only [Act.put, List.setIfInBounds_toArray, List.set_cons_zero, List.set_cons_succ, i64_w, i32_w]
    rfl
   refine one_ (i := 15) (N := some 114) #[true, true, true, true, true, true, true, true, true, true, true, true, true, true, true, true, false, false, true, true, true, false, false, false, false, false] rfl rfl (one_of HT_.out (by kernel_rfl)) (by decide) (fun K hK => ?_)
   refine goes_ Tryz.func14 (by kernel_rfl) rfl #[.int .i64 t373, .int .i64 a1] (by rfl) rfl rfl (by (try simp only [List.map_toArray, List.map_cons, List.map_nil]); first | done | rfl | (simp only [List.length_drop, List.length_take]; rfl)) ?_
   with_reducible refine (deci_Text.calls k1 t373 a1 t392 _ A35.out).mono ?_
   rintro e w78 ⟨rfl, hb⟩
   refine ⟨_, rfl, ?_⟩
   replace HO379 := aK (Kd.R_below (gR HO379.out) hb)
   replace HO389 := aK (Kd.R_below (gR HO389.out) hb)
   replace BK372 := aK (blk_below (g := gb372) (o := .cells #[.int .i64 ((rd_T34 l0 x32_1).f0), .int .i64 ((rd_T34 l0 x32_1).f1), .int .i64 ((rd_T34 l0 x32_1).f2)] 34 (0, 0)) (gK BK372.out) hb)
   replace BK376 := aK (blk_below (gK BK376.out) hb)
   replace BK385 := aK (blk_below (g := gb385) (o := .cells #[.int .i64 ((rd_T34 y377 (ji26)).f0), .int .i64 ((rd_T34 y377 (ji26)).f1)] 51 (0, 0)) (gK BK385.out) hb)
   replace BK386 := aK (blk_below (gK BK386.out) hb)
   replace HB := aK (below_step (by repeat (first | (with_reducible first | exact HB.out | apply bA | apply bN | apply bD | refine bS ?_ GE372.out | refine bS ?_ GE376.out | refine bS ?_ GE385.out | refine bS ?_ GE386.out) | exact HB.out)) hb)
   (try clear hb)
   (try clear hb2)
   (try clear hk)
   (try clear hi)
   refine hK.out _ _ ⟨(blk_cell BK385.out 0).trans rfl, (blk_cell BK385.out 1).trans rfl, (blk_cell BK386.out 0).trans rfl, (blk_cell BK386.out 1).trans rfl⟩ (fun hHeld => ?_)
   clear hK K
   refine norm_ (a' := ?_) ?_ ?_
   rotate_left
   ·show Act.put _ (some 114) _ = _
    simp only [Act.put, List.setIfInBounds_toArray, List.set_cons_zero, List.set_cons_succ, i64_w, i32_w]
    rfl
   refine pure_ (i := 16) (N := some 115) (v := ?_) (a' := ?_) #[true, true, true, true, true, true, true, true, true, true, true, true, true, true, true, true, true, false, true, true, true, false, false, false, false, false] rfl rfl (any_of HT_.out (by kernel_rfl)) (fun _ _ _ h => h) (Or.inl ⟨by rfl, ?_⟩) ?_ ?_
   rotate_left
   ·intro w'
    go_simp
    with_reducible rfl
   rotate_left
   ·simp only [Act.put, List.setIfInBounds_toArray, List.set_cons_zero, List.set_cons_succ, i64_w, i32_w]
    rfl
   refine pure_ (i := 17) (N := some 116) (v := ?_) (a' := ?_) #[true, true, true, true, true, true, true, true, true, true, true, true, true, true, true, true, true, true, true, true, true, false, false, false, false, false] rfl rfl (any_of HT_.out (by kernel_rfl)) (fun _ _ _ h => h) (Or.inl ⟨by rfl, ?_⟩) ?_ ?_
   rotate_left
   ·intro w'
    go_simp
    with_reducible rfl
   rotate_left
   ·simp only [Act.put, List.setIfInBounds_toArray, List.set_cons_zero, List.set_cons_succ, i64_w, i32_w]
    rfl
   refine one_ (i := 21) (N := some 120) #[true, true, true, true, true, true, true, true, true, true, true, true, true, true, true, true, true, true, true, true, true, true, false, false, false, false] rfl rfl (one_of HT_.out (by kernel_rfl)) (by decide) (fun K hK => ?_)
   refine goes_ Tryz.func14 (by kernel_rfl) rfl #[.int .i64 t374, .int .i64 a1] (by rfl) rfl rfl (by (try simp only [List.map_toArray, List.map_cons, List.map_nil]); first | done | rfl | (simp only [List.length_drop, List.length_take]; rfl)) ?_
   with_reducible refine (deci_Text.calls k1 t374 a1 t393 _ A38.out).mono ?_
   rintro e w79 ⟨rfl, hb⟩
   refine ⟨_, rfl, ?_⟩
   replace HO379 := aK (Kd.R_below (gR HO379.out) hb)
   replace HO389 := aK (Kd.R_below (gR HO389.out) hb)
   replace BK372 := aK (blk_below (g := gb372) (o := .cells #[.int .i64 ((rd_T34 l0 x32_1).f0), .int .i64 ((rd_T34 l0 x32_1).f1), .int .i64 ((rd_T34 l0 x32_1).f2)] 34 (0, 0)) (gK BK372.out) hb)
   replace BK376 := aK (blk_below (gK BK376.out) hb)
   replace BK385 := aK (blk_below (g := gb385) (o := .cells #[.int .i64 ((rd_T34 y377 (ji26)).f0), .int .i64 ((rd_T34 y377 (ji26)).f1)] 51 (0, 0)) (gK BK385.out) hb)
   replace BK386 := aK (blk_below (gK BK386.out) hb)
   replace HB := aK (below_step (by repeat (first | (with_reducible first | exact HB.out | apply bA | apply bN | apply bD | refine bS ?_ GE372.out | refine bS ?_ GE376.out | refine bS ?_ GE385.out | refine bS ?_ GE386.out) | exact HB.out)) hb)
   (try clear hb)
   (try clear hb2)
   (try clear hk)
   (try clear hi)
   refine hK.out _ _ ⟨(blk_cell BK385.out 0).trans rfl, (blk_cell BK385.out 1).trans rfl, (blk_cell BK386.out 0).trans rfl, (blk_cell BK386.out 1).trans rfl⟩ (fun hHeld => ?_)
   clear hK K
   refine norm_ (a' := ?_) ?_ ?_
   rotate_left
   ·show Act.put _ (some 120) _ = _
    simp only [Act.put, List.setIfInBounds_toArray, List.set_cons_zero, List.set_cons_succ, i64_w, i32_w]
    rfl
   refine pure_ (i := 22) (N := some 121) (v := ?_) (a' := ?_) #[true, true, true, true, true, true, true, true, true, true, true, true, true, true, true, true, true, true, true, true, true, true, true, false, false, false] rfl rfl (any_of HT_.out (by kernel_rfl)) (fun _ _ _ h => h) (Or.inl ⟨by rfl, ?_⟩) ?_ ?_
   rotate_left
   ·intro w'
    go_simp
    with_reducible rfl
   rotate_left
   ·simp only [Act.put, List.setIfInBounds_toArray, List.set_cons_zero, List.set_cons_succ, i64_w, i32_w]
    rfl
   refine pure_ (i := 23) (N := some 122) (v := ?_) (a' := ?_) #[true, true, true, true, true, true, true, true, true, true, true, true, true, true, true, true, true, true, true, true, true, true, true, true, false, false] rfl rfl (any_of HT_.out (by kernel_rfl)) (fun _ _ _ h => h) (Or.inl ⟨by rfl, ?_⟩) ?_ ?_
   rotate_left
   ·intro w'
    go_simp
    with_reducible rfl
   rotate_left
   ·simp only [Act.put, List.setIfInBounds_toArray, List.set_cons_zero, List.set_cons_succ, i64_w, i32_w]
    rfl
   refine pure_ (i := 24) (N := some 123) (v := ?_) (a' := ?_) #[true, true, true, true, true, true, true, true, true, true, true, true, true, true, true, true, true, true, true, true, true, true, true, true, true, false] rfl rfl (any_of HT_.out (by kernel_rfl)) (fun _ _ _ h => h) (Or.inl ⟨by rfl, ?_⟩) ?_ ?_
   rotate_left
   ·intro w'
    go_simp
    with_reducible rfl
   rotate_left
   ·simp only [Act.put, List.setIfInBounds_toArray, List.set_cons_zero, List.set_cons_succ, i64_w, i32_w]
    rfl
   refine pure_ (i := 25) (N := some 11) (v := ?_) (a' := ?_) #[true, true, true, true, true, true, true, true, true, true, true, true, true, true, true, true, true, true, true, true, true, true, true, true, true, true] rfl rfl (any_of HT_.out (by kernel_rfl)) (fun _ _ _ h => h) (Or.inl ⟨by rfl, ?_⟩) ?_ ?_
   rotate_left
   ·intro w'
    go_simp
    with_reducible rfl
   rotate_left
   ·simp only [Act.put, List.setIfInBounds_toArray, List.set_cons_zero, List.set_cons_succ, i64_w, i32_w]
    rfl
   refine done_ (done_of HT_.out (by kernel_rfl)) ?_
   try go_wp2
   go_roundg k1
   case measure => have := HK1.out; omega
   case rel => exact ⟨(y377), (y387), (x10_1 ++ (((((t380 ++ (⟨#[32]⟩ : ByteArray)) ++ t381) ++ (⟨#[32]⟩ : ByteArray)) ++ t382) ++ (⟨#[10]⟩ : ByteArray))), (x11_1 ++ (((((((t390 ++ (⟨#[32]⟩ : ByteArray)) ++ t391) ++ (⟨#[32]⟩ : ByteArray)) ++ t392) ++ (⟨#[32]⟩ : ByteArray)) ++ t393) ++ (⟨#[10]⟩ : ByteArray))), (wrap64 (x32_1 + 1)), (by first | rfl | (simp; done) | (simp [*]; done)), (by first | rfl | (simp; done) | (simp [*]; done)), (by first | rfl | (simp; done) | (simp [*]; done)), H', ⟨by have := HK1.out; omega⟩, ⟨by (with_reducible repeat (first | apply Kd.R_alloc | apply Kd.R_drewN | apply Kd.R_drew)); exact Kd.R_mono HO379.out (fun _ hk => trivial)⟩, ⟨gR HO389.out⟩, ⟨by repeat (first | (with_reducible first | exact HB.out | apply bA | apply bN | apply bD | refine bS ?_ GE372.out | refine bS ?_ GE376.out | refine bS ?_ GE385.out | refine bS ?_ GE386.out) | exact HB.out)⟩⟩
end Go.Proofs.YtknekneicecgiaaGreatDoor.M
