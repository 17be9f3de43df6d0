-- By drive.py (this session's program), out of the translation. Lean checks it.
import Derived.Test.YtpgmhhkkbjbpgaaA0
import Derived.Test.YtpgmhhkkbjbpgaaC1
import Derived.Test.YtpgmhhkkbjbpgaaC2
import Derived.Test.YtpgmhhkkbjbpgaaC7
namespace Go.Proofs.Ytpgmhhkkbjbpgaa.M
open Go.Proofs.Ytpgmhhkkbjbpgaa.MB Go.Proofs.Ytpgmhhkkbjbpgaa
open Go.RowKit Go.Proofs.YtpgmhhkkbjbpgaaW.PrintWords Go.Proofs.YtpgmhhkkbjbpgaaW.PrintLast Go.Proofs.YtpgmhhkkbjbpgaaW.PrintMore
attribute [local go_sem] max2_int min2_int max_two min_two max_three min_three max_four min_four   -- for this text's walks alone
set_option linter.unusedVariables false
set_option linter.unusedSimpArgs false
attribute [local go_sem] add64_run sub64_run

/-! ### isohyetlaw02_fit: function 9 -/
def isohyetlaw02_fit.f (k : Nat)  : Option (Bool) := (num_Of.f k (-7)).bind fun bt387 => ((num_Of.f k 2).bind fun bt391 => ((num_Div.f k bt387.1 bt387.2 bt391.1 bt391.2).bind fun bt395 => ((num_Int.f k bt395.1 bt395.2.1).bind fun bt405 => (if bt405.2 = true then (if bt405.1 = (-4) then ((num_Sign.f k bt395.2.2.1 bt395.2.2.2).bind fun t407 => (if t407 = 1 then ((num_Cmp.f k bt395.1 bt395.2.1 bt395.2.2.1 bt395.2.2.2).bind fun t408 => (if t408 = (-1) then (some ((bt395.2.2.2.length : Int) == 1)) else (some false))) else (some false))) else (some false)) else (some false)))))
theorem isohyetlaw02_fit.mono : ∀ k, LeO (isohyetlaw02_fit.f k ) (isohyetlaw02_fit.f (k + 1) ) := by
 intro  k
 unfold isohyetlaw02_fit.f
 repeat' first
   | (with_reducible exact num_Cmp.mono _ _ _ _ _)
   | (with_reducible exact num_Div.mono _ _ _ _ _)
   | (with_reducible exact num_Int.mono _ _ _)
   | (with_reducible exact num_Of.mono _ _)
   | (with_reducible exact num_Sign.mono _ _ _)
   | (with_reducible exact LeO.refl _)
   | (with_reducible exact LeO.none _)
   | (with_reducible refine LeO.ite ?_ ?_)
   | (with_reducible refine LeO.bind ?_ (fun _ => ?_))
   | exact num_Cmp.mono _ _ _ _ _
   | exact num_Div.mono _ _ _ _ _
   | exact num_Int.mono _ _ _
   | exact num_Of.mono _ _
   | exact num_Sign.mono _ _ _
   | exact LeO.none _
   | refine LeO.ite ?_ ?_
   | refine LeO.bind ?_ (fun _ => ?_)
set_option maxHeartbeats 8000000 in
set_option maxRecDepth 100000 in
theorem isohyetlaw02_fit.calls (k : Nat)  (r : Bool) (w : World) (HTRUE : r = true) (h : isohyetlaw02_fit.f k  = some r) :
  Calls Try.prog 9 #[] w fun e w' => e = .returned (.bool r) ∧ Below w.heap.size w w' := by
 have hu25 := Try.underlying25
 have HB := Aside0.mk (Below.refl w.heap.size w)
 have H : ((num_Of.f k (-7)).bind fun bt387 => ((num_Of.f k 2).bind fun bt391 => ((num_Div.f k bt387.1 bt387.2 bt391.1 bt391.2).bind fun bt395 => ((num_Int.f k bt395.1 bt395.2.1).bind fun bt405 => (if bt405.2 = true then (if bt405.1 = (-4) then ((num_Sign.f k bt395.2.2.1 bt395.2.2.2).bind fun t407 => (if t407 = 1 then ((num_Cmp.f k bt395.1 bt395.2.1 bt395.2.2.1 bt395.2.2.2).bind fun t408 => (if t408 = (-1) then (some ((bt395.2.2.2.length : Int) == 1)) else (some false))) else (some false))) else (some false)) else (some false)))))) = some r := h
 clear h
 replace H := Option.bind_eq_some_iff.mp H
 obtain ⟨⟨t387, t388⟩, A10, H⟩ := H
 replace H : ((num_Of.f k 2).bind fun bt391 => ((num_Div.f k t387 t388 bt391.1 bt391.2).bind fun bt395 => ((num_Int.f k bt395.1 bt395.2.1).bind fun bt405 => (if bt405.2 = true then (if bt405.1 = (-4) then ((num_Sign.f k bt395.2.2.1 bt395.2.2.2).bind fun t407 => (if t407 = 1 then ((num_Cmp.f k bt395.1 bt395.2.1 bt395.2.2.1 bt395.2.2.2).bind fun t408 => (if t408 = (-1) then (some ((bt395.2.2.2.length : Int) == 1)) else (some false))) else (some false))) else (some false)) else (some false))))) = some r := H
 have A1 := Aside0.mk A10
 clear A10
 replace H := Option.bind_eq_some_iff.mp H
 obtain ⟨⟨t391, t392⟩, A20, H⟩ := H
 replace H : ((num_Div.f k t387 t388 t391 t392).bind fun bt395 => ((num_Int.f k bt395.1 bt395.2.1).bind fun bt405 => (if bt405.2 = true then (if bt405.1 = (-4) then ((num_Sign.f k bt395.2.2.1 bt395.2.2.2).bind fun t407 => (if t407 = 1 then ((num_Cmp.f k bt395.1 bt395.2.1 bt395.2.2.1 bt395.2.2.2).bind fun t408 => (if t408 = (-1) then (some ((bt395.2.2.2.length : Int) == 1)) else (some false))) else (some false))) else (some false)) else (some false)))) = some r := H
 have A2 := Aside0.mk A20
 clear A20
 replace H := Option.bind_eq_some_iff.mp H
 obtain ⟨⟨t395, t396, t399, t400⟩, A30, H⟩ := H
 replace H : ((num_Int.f k t395 t396).bind fun bt405 => (if bt405.2 = true then (if bt405.1 = (-4) then ((num_Sign.f k t399 t400).bind fun t407 => (if t407 = 1 then ((num_Cmp.f k t395 t396 t399 t400).bind fun t408 => (if t408 = (-1) then (some ((t400.length : Int) == 1)) else (some false))) else (some false))) else (some false)) else (some false))) = some r := H
 have A3 := Aside0.mk A30
 clear A30
 replace H := Option.bind_eq_some_iff.mp H
 obtain ⟨⟨t405, t406⟩, A40, H⟩ := H
 replace H : (if t406 = true then (if t405 = (-4) then ((num_Sign.f k t399 t400).bind fun t407 => (if t407 = 1 then ((num_Cmp.f k t395 t396 t399 t400).bind fun t408 => (if t408 = (-1) then (some ((t400.length : Int) == 1)) else (some false))) else (some false))) else (some false)) else (some false)) = some r := H
 have A4 := Aside0.mk A40
 clear A40
 by_cases c5 : t406 = true
 ·subst c5
  have H1 : (if t405 = (-4) then ((num_Sign.f k t399 t400).bind fun t407 => (if t407 = 1 then ((num_Cmp.f k t395 t396 t399 t400).bind fun t408 => (if t408 = (-1) then (some ((t400.length : Int) == 1)) else (some false))) else (some false))) else (some false)) = some r := by rw [if_pos rfl] at H; exact H
  clear H
  have H := H1
  clear H1
  by_cases c6 : t405 = (-4)
  ·rw [if_pos c6] at H
   have c6b0 : (t405 == (-4)) = true := beq_iff_eq.mpr c6
   have c6b1 : (t405 != (-4)) = false := bne_eq_false_iff_eq.mpr c6
   clear c6
   replace H := Option.bind_eq_some_iff.mp H
   obtain ⟨t407, A70, H⟩ := H
   replace H : (if t407 = 1 then ((num_Cmp.f k t395 t396 t399 t400).bind fun t408 => (if t408 = (-1) then (some ((t400.length : Int) == 1)) else (some false))) else (some false)) = some r := H
   have A7 := Aside0.mk A70
   clear A70
   by_cases c8 : t407 = 1
   ·rw [if_pos c8] at H
    have c8b0 : (t407 == 1) = true := beq_iff_eq.mpr c8
    have c8b1 : (t407 != 1) = false := bne_eq_false_iff_eq.mpr c8
    clear c8
    replace H := Option.bind_eq_some_iff.mp H
    obtain ⟨t408, A90, H⟩ := H
    replace H : (if t408 = (-1) then (some ((t400.length : Int) == 1)) else (some false)) = some r := H
    have A9 := Aside0.mk A90
    clear A90
    by_cases c10 : t408 = (-1)
    ·rw [if_pos c10] at H
     have c10b0 : (t408 == (-1)) = true := beq_iff_eq.mpr c10
     have c10b1 : (t408 != (-1)) = false := bne_eq_false_iff_eq.mpr c10
     clear c10
     obtain rfl := Option.some.inj H
     go_enter Try.func9, Try.ntmps9
     go_wp2_with (first | ((with_reducible refine gate_callee (f := 11) rfl ?_); refine goesL_ (some 6) rfl rfl Try.func11 (by kernel_rfl) rfl #[.int .i64 (-7)] rfl (by (try simp only [List.map_toArray, List.map_cons, List.map_nil]); first | done | rfl | (simp only [List.length_drop, List.length_take]; rfl)) ?_; (with_reducible refine (num_Of.calls k (-7) t387 t388 _ A1.out).mono ?_); (try clear A1); rintro e w11 ⟨v389, rfl, ho0, hb⟩; refine ⟨_, rfl, ?_⟩; have n0_ := Aside0.mk (Kd.V_lower (Kd.V_mono (ok' := fun k_ => True) ho0 (fun k_ hk_ => trivial)) (below_size (gB HB.out))); have n1_ := Aside0.mk (below_step (gB HB.out) hb); clear HB; have HO390 := n0_; have HB := n1_; clear n0_ n1_; (try clear hb); (try clear hb2); (try clear hk); (try clear hi); (try clear ho0)) | ((with_reducible refine gate_callee (f := 11) rfl ?_); refine goesL_ (some 7) rfl rfl Try.func11 (by kernel_rfl) rfl #[.int .i64 2] rfl (by (try simp only [List.map_toArray, List.map_cons, List.map_nil]); first | done | rfl | (simp only [List.length_drop, List.length_take]; rfl)) ?_; (with_reducible refine (num_Of.calls k 2 t391 t392 _ A2.out).mono ?_); (try clear A2); rintro e w12 ⟨v393, rfl, ho0, hb⟩; refine ⟨_, rfl, ?_⟩; have n0_ := Aside0.mk (Kd.V_below (gV HO390.out) hb); have n1_ := Aside0.mk (Kd.V_lower (Kd.V_mono (ok' := fun k_ => True) ho0 (fun k_ hk_ => trivial)) (below_size (gB HB.out))); have n2_ := Aside0.mk (below_step (gB HB.out) hb); clear HO390; clear HB; have HO390 := n0_; have HO394 := n1_; have HB := n2_; clear n0_ n1_ n2_; (try clear hb); (try clear hb2); (try clear hk); (try clear hi); (try clear ho0); obtain ⟨Ao13, co13, eo13⟩ := Kd.V_slice HO390.out; subst eo13; obtain ⟨Ao14, co14, eo14⟩ := Kd.V_slice HO394.out; subst eo14) | ((with_reducible refine gate_callee (f := 19) rfl ?_); refine goesL_ (some 8) rfl rfl Try.func19 (by kernel_rfl) rfl #[.agg #[.bool t387, .slice Ao13 t388.length co13], .agg #[.bool t391, .slice Ao14 t392.length co14]] rfl (by (try simp only [List.map_toArray, List.map_cons, List.map_nil]); first | done | rfl | (simp only [List.length_drop, List.length_take]; rfl)) ?_; (with_reducible refine (num_Div.calls k t387 (fun k_ => True) _ _ t388 t391 (fun k_ => True) _ _ t392 t395 t396 t399 t400 _ ?side1 ?side2 A3.out).mono ?_); (case side1 => exact HO390.out); (case side2 => exact HO394.out); (try clear A3); rintro e w15 ⟨v397, v401, rfl, ho0, ho1, hb⟩; refine ⟨_, rfl, ?_⟩; have n0_ := Aside0.mk (Kd.V_below (gV HO390.out) hb); have n1_ := Aside0.mk (Kd.V_below (gV HO394.out) hb); have n2_ := Aside0.mk (Kd.V_lower (Kd.V_mono (ok' := fun k_ => True) ho0 (fun k_ hk_ => trivial)) (below_size (gB HB.out))); have n3_ := Aside0.mk (Kd.V_lower (Kd.V_mono (ok' := fun k_ => True) ho1 (fun k_ hk_ => trivial)) (below_size (gB HB.out))); have n4_ := Aside0.mk (below_step (gB HB.out) hb); clear HO390; clear HO394; clear HB; have HO390 := n0_; have HO394 := n1_; have HO398 := n2_; have HO402 := n3_; have HB := n4_; clear n0_ n1_ n2_ n3_ n4_; (try clear hb); (try clear hb2); (try clear hk); (try clear hi); (try clear ho0); (try clear ho1)) | ((with_reducible refine gate_dst (N := 1) rfl ?_); (try (refine gate_guard (by rfl) ?_; dsimp only)); refine box_event ?hg (N := 1) ?hd (cs := #[.bool false, .slice none 0 0]) (t := 25) ?hr ?_; (case hd => rfl); (case hg => rfl); (case hr => first | (go_simp; done) | (go_simp; rfl)); intro gb403 hg w16 hbox hb; have n0_ := Aside0.mk (Kd.V_below (gV HO390.out) hb); have n1_ := Aside0.mk (Kd.V_below (gV HO394.out) hb); have n2_ := Aside0.mk (Kd.V_below (gV HO398.out) hb); have n3_ := Aside0.mk (Kd.V_below (gV HO402.out) hb); have n4_ := Aside0.mk (below_step (gB HB.out) hb); have n5_ := Aside0.mk (hbox); have n6_ := Aside0.mk ((by rw [hg]; exact (below_size (gB HB.out)) : w.heap.size ≤ gb403)); clear HO390; clear HO394; clear HO398; clear HO402; clear HB; have HO390 := n0_; have HO394 := n1_; have HO398 := n2_; have HO402 := n3_; have HB := n4_; have BK403 := n5_; have GE403 := n6_; clear n0_ n1_ n2_ n3_ n4_ n5_ n6_; clear hb hbox hg) | ((with_reducible refine gate_dst (N := 2) rfl ?_); (try (refine gate_guard (by rfl) ?_; dsimp only)); refine box_event ?hg (N := 2) ?hd (cs := #[.bool false, .slice none 0 0]) (t := 25) ?hr ?_; (case hd => rfl); (case hg => rfl); (case hr => first | (go_simp; done) | (go_simp; rfl)); intro gb404 hg w17 hbox hb; have n0_ := Aside0.mk (Kd.V_below (gV HO390.out) hb); have n1_ := Aside0.mk (Kd.V_below (gV HO394.out) hb); have n2_ := Aside0.mk (Kd.V_below (gV HO398.out) hb); have n3_ := Aside0.mk (Kd.V_below (gV HO402.out) hb); have n4_ := Aside0.mk (blk_below (gK BK403.out) hb); have n5_ := Aside0.mk (below_step (by repeat (first | (with_reducible first | exact HB.out | apply bA | apply bN | apply bD | refine bS ?_ GE403.out) | exact HB.out)) hb); have n6_ := Aside0.mk (hbox); have n7_ := Aside0.mk ((by rw [hg]; exact (below_size (by repeat (first | (with_reducible first | exact HB.out | apply bA | apply bN | apply bD | refine bS ?_ GE403.out) | exact HB.out))) : w.heap.size ≤ gb404)); have n8_ := Aside0.mk ((by rw [hg]; exact Nat.ne_of_lt (blk_lt (g := gb403) (o := .cells #[.bool false, .slice none 0 0] 25 (0, 0)) (gK BK403.out)) : gb403 ≠ gb404)); have n9_ := Aside0.mk ((by rw [hg]; exact Nat.ne_of_gt (blk_lt (g := gb403) (o := .cells #[.bool false, .slice none 0 0] 25 (0, 0)) (gK BK403.out)) : gb404 ≠ gb403)); clear HO390; clear HO394; clear HO398; clear HO402; clear BK403; clear HB; have HO390 := n0_; have HO394 := n1_; have HO398 := n2_; have HO402 := n3_; have BK403 := n4_; have HB := n5_; have BK404 := n6_; have GE404 := n7_; have NB403_404 := n8_; have NB404_403 := n9_; clear n0_ n1_ n2_ n3_ n4_ n5_ n6_ n7_ n8_ n9_; clear hb hbox hg; have hnb18 := NB403_404.out; have hnc18 := NB404_403.out; have hcz19_0 : w17.cell? ⟨gb403, 0, none⟩ = some (.bool false) := (blk_cell BK403.out 0).trans rfl; have hcz19_1 : w17.cell? ⟨gb403, 1, none⟩ = some (.slice none 0 0) := (blk_cell BK403.out 1).trans rfl; have hfz19_0 := blk_frozen BK403.out 0; have hfz19_1 := blk_frozen BK403.out 1; obtain ⟨Ao20, co20, eo20⟩ := Kd.V_slice HO398.out; subst eo20; have hcz21_0 : w17.cell? ⟨gb404, 0, none⟩ = some (.bool false) := (blk_cell BK404.out 0).trans rfl; have hcz21_1 : w17.cell? ⟨gb404, 1, none⟩ = some (.slice none 0 0) := (blk_cell BK404.out 1).trans rfl; have hfz21_0 := blk_frozen BK404.out 0; have hfz21_1 := blk_frozen BK404.out 1; obtain ⟨Ao22, co22, eo22⟩ := Kd.V_slice HO402.out; subst eo22) | ((with_reducible refine gate_callee (f := 12) rfl ?_); refine goesL_ (some 13) rfl rfl Try.func12 (by kernel_rfl) rfl #[.agg #[.bool t395, .slice Ao20 t396.length co20]] rfl (by (try simp only [List.map_toArray, List.map_cons, List.map_nil]); first | done | rfl | (simp only [List.length_drop, List.length_take]; rfl)) ?_; (with_reducible refine (num_Int.calls k t395 _ _ t396 t405 true _ ?side1 ?side2 A4.out).mono ?_); (case side1 => refine (Kd.V_reads' (e := 54) (base := w.heap.size) (ok := fun k_ => True) (n := t396.length) (c := co20) ?_).2.2; exact (gV (Kd.V_mono (Kd.V_mono (Kd.V_far (p := ⟨gb404, 1, none⟩) (Kd.V_far (p := ⟨gb404, 0, none⟩) (Kd.V_far (p := ⟨gb403, 1, none⟩) (Kd.V_far (p := ⟨gb403, 0, none⟩) (V_away (V_away HO398.out BK403.out (by simp)) BK404.out (by simp)) (fun _ hk => hk.1.2) (.bool t395)) (fun _ hk => hk.1.2) (.slice Ao20 t396.length co20)) (fun _ hk => hk.2) (.bool t399)) (fun _ hk => hk.2) (.slice Ao22 t400.length co22)) (fun _ h_ => h_.1)) (fun _ h_ => h_.1)))); (case side2 => exact (Kd.V_reads' HO398.out).2.1); (try clear A4); rintro e w23 ⟨rfl, hb⟩; refine ⟨_, rfl, ?_⟩; have n0_ := Aside0.mk (Kd.V_below (gV (Kd.V_mono (Kd.V_mono (Kd.V_far (p := ⟨gb404, 1, none⟩) (Kd.V_far (p := ⟨gb404, 0, none⟩) (Kd.V_far (p := ⟨gb403, 1, none⟩) (Kd.V_far (p := ⟨gb403, 0, none⟩) (V_away (V_away HO390.out BK403.out (by simp)) BK404.out (by simp)) (fun _ hk => hk.1.2) (.bool t395)) (fun _ hk => hk.1.2) (.slice Ao20 t396.length co20)) (fun _ hk => hk.2) (.bool t399)) (fun _ hk => hk.2) (.slice Ao22 t400.length co22)) (fun _ h_ => h_.1)) (fun _ h_ => h_.1))) hb); have n1_ := Aside0.mk (Kd.V_below (gV (Kd.V_mono (Kd.V_mono (Kd.V_far (p := ⟨gb404, 1, none⟩) (Kd.V_far (p := ⟨gb404, 0, none⟩) (Kd.V_far (p := ⟨gb403, 1, none⟩) (Kd.V_far (p := ⟨gb403, 0, none⟩) (V_away (V_away HO394.out BK403.out (by simp)) BK404.out (by simp)) (fun _ hk => hk.1.2) (.bool t395)) (fun _ hk => hk.1.2) (.slice Ao20 t396.length co20)) (fun _ hk => hk.2) (.bool t399)) (fun _ hk => hk.2) (.slice Ao22 t400.length co22)) (fun _ h_ => h_.1)) (fun _ h_ => h_.1))) hb); have n2_ := Aside0.mk (Kd.V_below (gV (Kd.V_mono (Kd.V_mono (Kd.V_far (p := ⟨gb404, 1, none⟩) (Kd.V_far (p := ⟨gb404, 0, none⟩) (Kd.V_far (p := ⟨gb403, 1, none⟩) (Kd.V_far (p := ⟨gb403, 0, none⟩) (V_away (V_away HO398.out BK403.out (by simp)) BK404.out (by simp)) (fun _ hk => hk.1.2) (.bool t395)) (fun _ hk => hk.1.2) (.slice Ao20 t396.length co20)) (fun _ hk => hk.2) (.bool t399)) (fun _ hk => hk.2) (.slice Ao22 t400.length co22)) (fun _ h_ => h_.1)) (fun _ h_ => h_.1))) hb); have n3_ := Aside0.mk (Kd.V_below (gV (Kd.V_mono (Kd.V_mono (Kd.V_far (p := ⟨gb404, 1, none⟩) (Kd.V_far (p := ⟨gb404, 0, none⟩) (Kd.V_far (p := ⟨gb403, 1, none⟩) (Kd.V_far (p := ⟨gb403, 0, none⟩) (V_away (V_away HO402.out BK403.out (by simp)) BK404.out (by simp)) (fun _ hk => hk.1.2) (.bool t395)) (fun _ hk => hk.1.2) (.slice Ao20 t396.length co20)) (fun _ hk => hk.2) (.bool t399)) (fun _ hk => hk.2) (.slice Ao22 t400.length co22)) (fun _ h_ => h_.1)) (fun _ h_ => h_.1))) hb); have n4_ := Aside0.mk (blk_below (g := gb403) (o := .cells #[.bool t395, .slice Ao20 t396.length co20] 25 (0, 0)) (by (with_reducible repeat (first | refine blk_drewN ?_ _ | refine blk_drew ?_ | refine blk_alloc ?_ _)); refine blk_far ?_ NB403_404.out _; (with_reducible repeat (first | refine blk_drewN ?_ _ | refine blk_drew ?_ | refine blk_alloc ?_ _)); refine blk_far ?_ NB403_404.out _; (with_reducible repeat (first | refine blk_drewN ?_ _ | refine blk_drew ?_ | refine blk_alloc ?_ _)); refine blk_put (cs := #[.bool t395, .slice none 0 0]) ?_ 1 _ rfl; (with_reducible repeat (first | refine blk_drewN ?_ _ | refine blk_drew ?_ | refine blk_alloc ?_ _)); refine blk_put (cs := #[.bool false, .slice none 0 0]) ?_ 0 _ rfl; (with_reducible repeat (first | refine blk_drewN ?_ _ | refine blk_drew ?_ | refine blk_alloc ?_ _)); exact BK403.out) hb); have n5_ := Aside0.mk (blk_below (g := gb404) (o := .cells #[.bool t399, .slice Ao22 t400.length co22] 25 (0, 0)) (by (with_reducible repeat (first | refine blk_drewN ?_ _ | refine blk_drew ?_ | refine blk_alloc ?_ _)); refine blk_put (cs := #[.bool t399, .slice none 0 0]) ?_ 1 _ rfl; (with_reducible repeat (first | refine blk_drewN ?_ _ | refine blk_drew ?_ | refine blk_alloc ?_ _)); refine blk_put (cs := #[.bool false, .slice none 0 0]) ?_ 0 _ rfl; (with_reducible repeat (first | refine blk_drewN ?_ _ | refine blk_drew ?_ | refine blk_alloc ?_ _)); refine blk_far ?_ NB404_403.out _; (with_reducible repeat (first | refine blk_drewN ?_ _ | refine blk_drew ?_ | refine blk_alloc ?_ _)); refine blk_far ?_ NB404_403.out _; (with_reducible repeat (first | refine blk_drewN ?_ _ | refine blk_drew ?_ | refine blk_alloc ?_ _)); exact BK404.out) hb); have n6_ := Aside0.mk (below_step (by repeat (first | (with_reducible first | exact HB.out | apply bA | apply bN | apply bD | refine bS ?_ GE403.out | refine bS ?_ GE404.out) | exact HB.out)) hb); clear HO390; clear HO394; clear HO398; clear HO402; clear BK403; clear BK404; clear HB; have HO390 := n0_; have HO394 := n1_; have HO398 := n2_; have HO402 := n3_; have BK403 := n4_; have BK404 := n5_; have HB := n6_; clear n0_ n1_ n2_ n3_ n4_ n5_ n6_; (try clear hb); (try clear hb2); (try clear hk); (try clear hi); have hcz24_0 : w23.cell? ⟨gb404, 0, none⟩ = some (.bool t399) := (blk_cell BK404.out 0).trans rfl; have hcz24_1 : w23.cell? ⟨gb404, 1, none⟩ = some (.slice Ao22 t400.length co22) := (blk_cell BK404.out 1).trans rfl; have hfz24_0 := blk_frozen BK404.out 0; have hfz24_1 := blk_frozen BK404.out 1) | (go_at_call 15; (with_reducible refine (num_Sign.calls k t399 _ _ t400 t407 _ ?side1 ?side2 A7.out).mono ?_); (case side1 => repeat (first | exact (Kd.V_reads' HO402.out).2.2 | (with_reducible refine Kd.C_alloc ?_ _) | (with_reducible refine Kd.C_drewN ?_ _) | (with_reducible refine Kd.C_drew ?_))); (case side2 => exact (Kd.V_reads' HO402.out).2.1); (try clear A7); rintro e w25 ⟨rfl, hb⟩; have n0_ := Aside0.mk (Kd.V_below (gV HO390.out) hb); have n1_ := Aside0.mk (Kd.V_below (gV HO394.out) hb); have n2_ := Aside0.mk (Kd.V_below (gV HO398.out) hb); have n3_ := Aside0.mk (Kd.V_below (gV HO402.out) hb); have n4_ := Aside0.mk (blk_below (gK BK403.out) hb); have n5_ := Aside0.mk (blk_below (gK BK404.out) hb); have n6_ := Aside0.mk (below_step (by repeat (first | (with_reducible first | exact HB.out | apply bA | apply bN | apply bD | refine bS ?_ GE403.out | refine bS ?_ GE404.out) | exact HB.out)) hb); clear HO390; clear HO394; clear HO398; clear HO402; clear BK403; clear BK404; clear HB; have HO390 := n0_; have HO394 := n1_; have HO398 := n2_; have HO402 := n3_; have BK403 := n4_; have BK404 := n5_; have HB := n6_; clear n0_ n1_ n2_ n3_ n4_ n5_ n6_; (try clear hb); (try clear hb2); (try clear hk); (try clear hi); have hcz26_0 : w25.cell? ⟨gb403, 0, none⟩ = some (.bool t395) := (blk_cell BK403.out 0).trans rfl; have hcz26_1 : w25.cell? ⟨gb403, 1, none⟩ = some (.slice Ao20 t396.length co20) := (blk_cell BK403.out 1).trans rfl; have hfz26_0 := blk_frozen BK403.out 0; have hfz26_1 := blk_frozen BK403.out 1; have hcz27_0 : w25.cell? ⟨gb404, 0, none⟩ = some (.bool t399) := (blk_cell BK404.out 0).trans rfl; have hcz27_1 : w25.cell? ⟨gb404, 1, none⟩ = some (.slice Ao22 t400.length co22) := (blk_cell BK404.out 1).trans rfl; have hfz27_0 := blk_frozen BK404.out 0; have hfz27_1 := blk_frozen BK404.out 1) | (go_at_call 14; (with_reducible refine (num_Cmp.calls k t395 _ _ t396 t399 _ _ t400 t408 _ ?side1 ?side2 ?side3 ?side4 A9.out).mono ?_); (case side1 => repeat (first | exact (Kd.V_reads' HO398.out).2.2 | (with_reducible refine Kd.C_alloc ?_ _) | (with_reducible refine Kd.C_drewN ?_ _) | (with_reducible refine Kd.C_drew ?_))); (case side2 => exact (Kd.V_reads' HO398.out).2.1); (case side3 => repeat (first | exact (Kd.V_reads' HO402.out).2.2 | (with_reducible refine Kd.C_alloc ?_ _) | (with_reducible refine Kd.C_drewN ?_ _) | (with_reducible refine Kd.C_drew ?_))); (case side4 => exact (Kd.V_reads' HO402.out).2.1); (try clear A9); rintro e w28 ⟨rfl, hb⟩; have n0_ := Aside0.mk (Kd.V_below (gV HO390.out) hb); have n1_ := Aside0.mk (Kd.V_below (gV HO394.out) hb); have n2_ := Aside0.mk (Kd.V_below (gV HO398.out) hb); have n3_ := Aside0.mk (Kd.V_below (gV HO402.out) hb); have n4_ := Aside0.mk (blk_below (gK BK403.out) hb); have n5_ := Aside0.mk (blk_below (gK BK404.out) hb); have n6_ := Aside0.mk (below_step (by repeat (first | (with_reducible first | exact HB.out | apply bA | apply bN | apply bD | refine bS ?_ GE403.out | refine bS ?_ GE404.out) | exact HB.out)) hb); clear HO390; clear HO394; clear HO398; clear HO402; clear BK403; clear BK404; clear HB; have HO390 := n0_; have HO394 := n1_; have HO398 := n2_; have HO402 := n3_; have BK403 := n4_; have BK404 := n5_; have HB := n6_; clear n0_ n1_ n2_ n3_ n4_ n5_ n6_; (try clear hb); (try clear hb2); (try clear hk); (try clear hi); have hcz29_0 : w28.cell? ⟨gb404, 0, none⟩ = some (.bool t399) := (blk_cell BK404.out 0).trans rfl; have hcz29_1 : w28.cell? ⟨gb404, 1, none⟩ = some (.slice Ao22 t400.length co22) := (blk_cell BK404.out 1).trans rfl; have hfz29_0 := blk_frozen BK404.out 0; have hfz29_1 := blk_frozen BK404.out 1))
     go_ret
     exact ⟨by first | rfl | (simp [errW_none, errW_some] <;> rfl) | (simp [*, errW_none, errW_some] <;> rfl), by repeat (first | (with_reducible first | exact HB.out | apply bA | apply bN | apply bD | refine bS ?_ GE403.out | refine bS ?_ GE404.out) | exact HB.out)⟩
    ·rw [if_neg c10] at H
     have c10b0 : (t408 == (-1)) = false := beq_eq_false_iff_ne.mpr c10
     have c10b1 : (t408 != (-1)) = true := bne_iff_ne.mpr c10
     exact absurd ((Option.some.inj H).trans HTRUE) (by decide)
   ·rw [if_neg c8] at H
    have c8b0 : (t407 == 1) = false := beq_eq_false_iff_ne.mpr c8
    have c8b1 : (t407 != 1) = true := bne_iff_ne.mpr c8
    exact absurd ((Option.some.inj H).trans HTRUE) (by decide)
  ·rw [if_neg c6] at H
   have c6b0 : (t405 == (-4)) = false := beq_eq_false_iff_ne.mpr c6
   have c6b1 : (t405 != (-4)) = true := bne_iff_ne.mpr c6
   exact absurd ((Option.some.inj H).trans HTRUE) (by decide)
 ·replace c5 := Bool.eq_false_iff.mpr c5
  subst c5
  have H1 : (some false) = some r := by rw [if_neg (show ¬ (false = true) by decide)] at H; exact H
  clear H
  have H := H1
  clear H1
  exact absurd ((Option.some.inj H).trans HTRUE) (by decide)

end Go.Proofs.Ytpgmhhkkbjbpgaa.M
