/- data.PrintJob, walked. -/
import Derived.Test.YtknekneicecgiaaGreatDoorJQ
import Derived.Test.YtknekneicecgiaaGreatDoorE5
import Derived.Test.YtknekneicecgiaaGreatDoorE13
import Derived.Deep.RegionWith
import Derived.RegionTactic
import Derived.Deep.DeepCutAuto
namespace Go.Proofs.YtknekneicecgiaaGreatDoor.M
open Go.RowKit Go.Lib Go.Proofs Go.Proofs.YtknekneicecgiaaGreatDoorW.PrintWords Go.Proofs.YtknekneicecgiaaGreatDoor.MB
set_option linter.unusedVariables false
set_option linter.unusedSimpArgs false
def wMethod : ByteArray := ⟨#[109, 101, 116, 104, 111, 100]⟩
def wScale : ByteArray := ⟨#[115, 99, 97, 108, 101]⟩
def wLevels : ByteArray := ⟨#[108, 101, 118, 101, 108, 115]⟩
def wCell : ByteArray := ⟨#[99, 101, 108, 108]⟩
def wOrigin : ByteArray := ⟨#[111, 114, 105, 103, 105, 110]⟩
def wSize : ByteArray := ⟨#[115, 105, 122, 101]⟩
def nlB : ByteArray := ⟨#[10]⟩
theorem jnB2 (a b : ByteArray) : (jnB [a, b]).size = a.size + 1 + b.size := by
  show (Lib.join [a.data.toList, b.data.toList] [32]).length = _
  simp [Lib.join]
  omega
theorem jnB3 (a b c : ByteArray) : (jnB [a, b, c]).size = a.size + 1 + b.size + 1 + c.size := by
  show (Lib.join [a.data.toList, b.data.toList, c.data.toList] [32]).length = _
  simp [Lib.join]
  omega
theorem nl_size : nlB.size = 1 := rfl
def pjA (x ts : ByteArray) : ByteArray := (⟨#[]⟩ ++ (jnB [wMethod, x] ++ nlB)) ++ (jnB [wScale, ts] ++ nlB)
def pjB (x ts tl : ByteArray) (L : List Int) : ByteArray := if L = [] then pjA x ts else pjA x ts ++ (jnB [wLevels, tl] ++ nlB)
def pjC (x ts tl tx ty tc tn tm : ByteArray) (L : List Int) (gc : Int) : ByteArray := if gc = 0 then pjB x ts tl L else ((pjB x ts tl L ++ (jnB [wOrigin, tx, ty] ++ nlB)) ++ (jnB [wCell, tc] ++ nlB)) ++ (jnB [wSize, tn, tm] ++ nlB)
theorem lit_S (w : World) (xs : List ByteArray) (h : xs.length ≤ 1000) : Kd.C Kd.string (w.alloc (.cells (xs.map Value.string).toArray 9)) (some ⟨w.heap.size, 0, none⟩) xs.length xs :=
  (Kd.R_reads' (ok := fun _ => True) (Kd.R_of_own (enc := Value.string) (own_lit_of (enc := Value.string) w w.heap.size 9 xs (Nat.le_refl _) (by omega)) (fun _ _ => trivial))).2.2
/-- What the printing holds: the Builder's text; blocks that stay. -/
def PJ (w : World) (b : Nat) (K : List (Nat × Array Value × TypeId)) (x : ByteArray) (wi : World) : Prop :=
  Below w.heap.size w wi ∧ (∀ q ∈ K, wi.heap[q.1]? = some (.cells q.2.1 q.2.2 (0, 0)) ∧ q.1 ≠ b ∧ q.2.2 ≠ 5) ∧ IsF b x wi ∧ w.heap.size ≤ b
theorem PJ.below {w : World} {b : Nat} {K : List (Nat × Array Value × TypeId)} {x : ByteArray} {wi wj : World} (h : PJ w b K x wi) (hb : Below wi.heap.size wi wj) : PJ w b K x wj :=
  ⟨h.1.trans (hb.mono h.1.size), fun q hq => ⟨blk_below (h.2.1 q hq).1 hb, (h.2.1 q hq).2⟩, bf_below h.2.2.1 hb, h.2.2.2⟩
theorem PJ.put {w : World} {b : Nat} {K : List (Nat × Array Value × TypeId)} {x : ByteArray} {wi : World} (h : PJ w b K x wi) (l : List ByteArray) (h1 : l.length ≤ 1000) (h2 : (jnB l).size ≤ 100000000) (h3 : x.size ≤ 100000000) :
    Calls Tryz.prog 34 #[.slice (some ⟨wi.heap.size, 0, none⟩) l.length l.length, .pointer (some ⟨b, 0, none⟩)] (wi.alloc (.cells (l.map Value.string).toArray 9)) fun e w' => e = .returned (.tuple #[]) ∧ PJ w b K (x ++ (jnB l ++ nlB)) w' := by
  have h' := h.below (below_alloc (Below.refl wi.heap.size wi) (.cells (l.map Value.string).toArray 9))
  refine (put_ok h'.2.2.1 (lit_S wi l h1) (Nat.le_refl _) h1 h2 h3).mono ?_
  rintro e w' ⟨rfl, hF, hA⟩
  exact ⟨rfl, h'.1.trans (hA.1.mono h.2.2.2), fun q hq => ⟨hA.block (h'.2.1 q hq).1 (h'.2.1 q hq).2.1 (h'.2.1 q hq).2.2, (h'.2.1 q hq).2⟩, hF, h.2.2.2⟩
theorem pjB_size {x ts tl : ByteArray} {L : List Int} (hx : x.size ≤ 10000) (ht : ts.size ≤ 10000) (hl : tl.size ≤ 10000) : (pjB x ts tl L).size ≤ 40000 := by
  have h1 : wMethod.size = 6 := rfl
  have h2 : wScale.size = 5 := rfl
  have h3 : wLevels.size = 6 := rfl
  have h4 : (⟨#[]⟩ : ByteArray).size = 0 := rfl
  unfold pjB pjA
  split <;> simp only [ByteArray.size_append, jnB2, nl_size, h1, h2, h3, h4] <;> omega
theorem PJ.more {w : World} {b : Nat} {K : List (Nat × Array Value × TypeId)} {x : ByteArray} {wi : World} (h : PJ w b K x wi) (cs : Array Value) (t : TypeId) (ht : t ≠ 5) : PJ w b ((wi.heap.size, cs, t) :: K) x (wi.alloc (.cells cs t)) := by
  have h' := h.below (below_alloc (Below.refl wi.heap.size wi) (.cells cs t))
  refine ⟨h'.1, fun q hq => ?_, h'.2.2.1, h'.2.2.2⟩
  rcases List.mem_cons.1 hq with rfl | hq
  · exact ⟨heap_alloc_new wi _, fun e => by have := bf_lt h.2.2.1; have e : wi.heap.size = b := e; omega, ht⟩
  · exact h'.2.1 q hq
set_option maxHeartbeats 4000000 in
set_option maxRecDepth 100000 in
theorem data_PrintJob.calls (k : Nat) (m : Int) (x : ByteArray) (s : Int) (Al : Option Addr) (cl : Nat) (L : List Int) (gx gy gc gcols grows xy z : Int) (tl tx ty tc : ByteArray) (w : World) (HT0 : TabW w) (HP0 : TabP w)
    (hm : 0 ≤ m ∧ m ≤ 2) (hx : mths[m.toNat]? = some x) (hs : 0 ≤ s ∧ s ≤ 1000000) (hC : Kd.C (Kd.int .i64) w Al L.length L) (hc : L.length ≤ cl)
    (hL : L ≠ [] → level_Print.f k L z = some tl) (hg : gc ≠ 0 → deci_Text.f k gx xy = some tx ∧ deci_Text.f k gy xy = some ty ∧ deci_Text.f k gc xy = some tc ∧ (0 ≤ gcols ∧ gcols ≤ 1000000) ∧ (0 ≤ grows ∧ grows ≤ 1000000))
    (hsz : x.size ≤ 10000 ∧ (itB s).size ≤ 10000 ∧ tl.size ≤ 10000 ∧ tx.size ≤ 10000 ∧ ty.size ≤ 10000 ∧ tc.size ≤ 10000 ∧ (itB gcols).size ≤ 10000 ∧ (itB grows).size ≤ 10000) :
    Calls Tryz.prog 19 #[.agg #[.int .i64 m, .int .i64 s, .slice Al L.length cl, .int .i64 gx, .int .i64 gy, .int .i64 gc, .int .i64 gcols, .int .i64 grows], .int .i64 xy, .int .i64 z] w fun e w' => e = .returned (.string (pjC x (itB s) tl tx ty tc (itB gcols) (itB grows) L gc)) ∧ Below w.heap.size w w' := by
  have HT := Aside0.mk HT0
  have HP := Aside0.mk HP0
  have HC := Aside0.mk hC
  have Hc := Aside0.mk hc
  have HL := Aside0.mk hL
  have HG := Aside0.mk hg
  have HS := Aside0.mk hsz
  have HSs := Aside0.mk hs
  have hmf : ∀ (fn : Fn) (first cap : Array Value) (w : World), (Instr.makeFunc fn first cap).run Tryz.prog w = .ok (.func fn first cap) w := fun _ _ _ _ => rfl
  have hm0 : 0 ≤ m := hm.1
  have hm2 : m ≤ 2 := hm.2
  have hmc : w.cell? ⟨0, m.toNat, none⟩ = some (.string x) := HT0.2.2 _ _ hx
  clear HT0 HP0 hC hc hL hg hsz hs hx hm
  have hmm : min (max m 0) 2 = m := by omega
  have hW0 : PJ w (w.heap.size + 1) [(w.heap.size, #[.int .i64 m, .int .i64 s, .slice Al L.length cl, .int .i64 gx, .int .i64 gy, .int .i64 gc, .int .i64 gcols, .int .i64 grows], 43)] ⟨#[]⟩ ((w.alloc (.cells #[.int .i64 m, .int .i64 s, .slice Al L.length cl, .int .i64 gx, .int .i64 gy, .int .i64 gc, .int .i64 gcols, .int .i64 grows] 43)).alloc (.cells #[.pointer none, .slice none 0 0] 80)) := by
    have hs : (w.alloc (.cells #[.int .i64 m, .int .i64 s, .slice Al L.length cl, .int .i64 gx, .int .i64 gy, .int .i64 gc, .int .i64 gcols, .int .i64 grows] 43)).heap.size = w.heap.size + 1 := by simp
    refine ⟨below_alloc (below_alloc (Below.refl _ _) _) _, fun q hq => ?_, bf_fresh ?_, Nat.le_succ _⟩
    · simp only [List.mem_cons, List.not_mem_nil, or_false] at hq
      subst hq
      exact ⟨(heap_alloc_old _ _ (by rw [hs]; exact Nat.lt_succ_self _)).trans (heap_alloc_new w _), Nat.ne_of_lt (Nat.lt_succ_self _), (by decide : (43 : Nat) ≠ 5)⟩
    · have h := heap_alloc_new (w.alloc (.cells #[.int .i64 m, .int .i64 s, .slice Al L.length cl, .int .i64 gx, .int .i64 gy, .int .i64 gc, .int .i64 gcols, .int .i64 grows] 43)) (.cells #[.pointer none, .slice none 0 0] 80)
      rw [hs] at h
      exact h
  have HW0 := Aside0.mk hW0
  have H0 : Aside0 (0 < w.heap.size) := ⟨by have := HT.out.2.1; omega⟩
  have HMc := Aside0.mk hmc
  clear hW0 hmc
  go_enter Tryz.func19, Tryz.ntmps19
  go_upto_region 3 with (fail)
  generalize (w.alloc (.cells #[.int .i64 m, .int .i64 s, .slice Al L.length cl, .int .i64 gx, .int .i64 gy, .int .i64 gc, .int .i64 gcols, .int .i64 grows] 43)).alloc (.cells #[.pointer none, .slice none 0 0] 80) = w2 at HW0 ⊢
  have hk2 := (HW0.out.2.1 _ List.mem_cons_self).1
  have c0 : w2.cell? ⟨w.heap.size, 0, none⟩ = some (.int .i64 m) := blk_cell hk2 0
  have cm : w2.cell? ⟨0, m.toNat, none⟩ = some (.string x) := (HW0.out.1.cell (p := ⟨0, m.toNat, none⟩) H0.out).trans HMc.out
  clear hk2
  go_upto_region 5 with (first
    | (go_at_call 18; refine (itoa_calls s _ (tabp_below HP.out HW1.out.1) HSs.out.1 HSs.out.2).mono ?_; rintro e w4 ⟨rfl, hb4⟩; have HW4 := Aside0.mk (HW1.out.below hb4); clear hb4)
    | (go_at_call 34; refine (HW4.out.put [wScale, itB s] (by simp) (by rw [jnB2]; have := HS.out.2.1; have h6 : wScale.size = 5 := rfl; omega) HX1.out).mono ?_; rintro e w5 ⟨rfl, hW5⟩; have HW5 := Aside0.mk hW5; have hk5 := (hW5.2.1 _ List.mem_cons_self).1; have d2 : w5.cell? ⟨w.heap.size, 2, none⟩ = some (.slice Al L.length cl) := blk_cell hk5 2; clear hW5)
    | (go_at_call 34; refine (HW0.out.put [wMethod, x] (by simp) (by rw [jnB2]; have := HS.out.1; have h6 : wMethod.size = 6 := rfl; omega) (by decide)).mono ?_; rintro e w3 ⟨rfl, hW3⟩; have HW1 := Aside0.mk hW3; have hk3 := (hW3.2.1 _ List.mem_cons_self).1; have c1 : w3.cell? ⟨w.heap.size, 1, none⟩ = some (.int .i64 s) := blk_cell hk3 1; have HX1 : Aside0 (((⟨#[]⟩ : ByteArray) ++ (jnB [wMethod, x] ++ nlB)).size ≤ 100000000) := ⟨by rw [ByteArray.size_append, ByteArray.size_append, jnB2]; have := HS.out.1; have h6 : wMethod.size = 6 := rfl; have h7 : (⟨#[]⟩ : ByteArray).size = 0 := rfl; have h8 := nl_size; omega⟩; clear hk3 hW3))
  rcases Classical.em (L = []) with hLn | hLn
  case' inl =>
    have hl0 : ((L.length : Int)) = 0 := by rw [hLn]; rfl
    have hl1 : decide ((0 : Int) < (L.length : Int)) = false := by rw [hl0]; rfl
    go_upto_region 7 with (fail)
    have HWB : Aside0 (PJ w (w.heap.size + 1) [(w.heap.size, #[.int .i64 m, .int .i64 s, .slice Al L.length cl, .int .i64 gx, .int .i64 gy, .int .i64 gc, .int .i64 gcols, .int .i64 grows], 43)] (pjB x (itB s) tl L) w5) := ⟨by unfold pjB; rw [if_pos hLn]; exact HW5.out⟩
    clear hl0 hl1 d2 c0 cm HW0 HW4 HW1 HX1 HW5 hLn
    generalize w5 = w6 at HWB hk5 ⊢
  case' inr =>
    have hl0 : 0 < L.length := List.length_pos_iff.2 hLn
    have HX2 : Aside0 ((pjA x (itB s)).size ≤ 100000000) := ⟨by
      have h1 : wMethod.size = 6 := rfl
      have h2 : wScale.size = 5 := rfl
      have h4 : (⟨#[]⟩ : ByteArray).size = 0 := rfl
      have := HS.out.1
      have := HS.out.2.1
      unfold pjA
      simp only [ByteArray.size_append, jnB2, nl_size, h1, h2, h4]
      omega⟩
    have hl1 : decide ((0 : Int) < (L.length : Int)) = true := by simp; exact hl0
    go_upto_region 7 with (first
      | (go_at_call 36; refine (level_Print.calls k Al cl L z tl _ ((Kd.heap_int .i64).C (fun k hk => HW5.out.1.block k hk) HC.out) Hc.out (HL.out hLn)).mono ?_; rintro e w6 ⟨rfl, hb6⟩; have HW6 := Aside0.mk (HW5.out.below hb6); clear hb6)
      | (go_at_call 34; refine (HW6.out.put [wLevels, tl] (by simp) (by rw [jnB2]; have := HS.out.2.2.1; have h6 : wLevels.size = 6 := rfl; omega) HX2.out).mono ?_; rintro e w7 ⟨rfl, hW7⟩; have HW7 := Aside0.mk hW7; clear hW7))
    have HWB : Aside0 (PJ w (w.heap.size + 1) [(w.heap.size, #[.int .i64 m, .int .i64 s, .slice Al L.length cl, .int .i64 gx, .int .i64 gy, .int .i64 gc, .int .i64 gcols, .int .i64 grows], 43)] (pjB x (itB s) tl L) w7) := ⟨by unfold pjB; rw [if_neg hLn]; exact HW7.out⟩
    have hk5 := (HWB.out.2.1 _ List.mem_cons_self).1
    clear hl0 hl1 HX2 HW0 HW4 HW1 HX1 HW5 HW6 HW7 hLn d2 c0 cm
    generalize w7 = w6 at HWB hk5 ⊢
  all_goals
    have HXB := Aside0.mk (pjB_size (x := x) (ts := itB s) (tl := tl) (L := L) HS.out.1 HS.out.2.1 HS.out.2.2.1)
    have HPC : Aside0 (pjC x (itB s) tl tx ty tc (itB gcols) (itB grows) L gc = if gc = 0 then pjB x (itB s) tl L else ((pjB x (itB s) tl L ++ (jnB [wOrigin, tx, ty] ++ nlB)) ++ (jnB [wCell, tc] ++ nlB)) ++ (jnB [wSize, itB gcols, itB grows] ++ nlB)) := ⟨rfl⟩
    generalize pjB x (itB s) tl L = XB at HWB HXB HPC
    have c3 : w6.cell? ⟨w.heap.size, 3, none⟩ = some (.int .i64 gx) := blk_cell hk5 3
    have c4 : w6.cell? ⟨w.heap.size, 4, none⟩ = some (.int .i64 gy) := blk_cell hk5 4
    have c5 : w6.cell? ⟨w.heap.size, 5, none⟩ = some (.int .i64 gc) := blk_cell hk5 5
    have c6 : w6.cell? ⟨w.heap.size, 6, none⟩ = some (.int .i64 gcols) := blk_cell hk5 6
    have c7 : w6.cell? ⟨w.heap.size, 7, none⟩ = some (.int .i64 grows) := blk_cell hk5 7
    have HWG := Aside0.mk (HWB.out.more #[.int .i64 gx, .int .i64 gy, .int .i64 gc, .int .i64 gcols, .int .i64 grows] 41 (by decide))
    clear hk5 HWB
    go_upto_region 8 with (fail)
    obtain ⟨b9, hb9⟩ : ∃ q, q = w6.heap.size := ⟨_, rfl⟩
    rw [← hb9] at HWG ⊢
    generalize w6.alloc (.cells #[.int .i64 gx, .int .i64 gy, .int .i64 gc, .int .i64 gcols, .int .i64 grows] 41) = w7 at HWG ⊢
    clear hb9 c3 c4 c5 c6 c7
    have e2 : w7.cell? ⟨b9, 2, none⟩ = some (.int .i64 gc) := blk_cell (HWG.out.2.1 _ List.mem_cons_self).1 2
    rcases Classical.em (gc = 0) with h0 | h0
    · have hg0 : (gc != 0) = false := by rw [h0]; rfl
      have HPC1 : Aside0 (pjC x (itB s) tl tx ty tc (itB gcols) (itB grows) L gc = XB) := ⟨by rw [HPC.out, if_pos h0]⟩
      clear h0
      go_wp2_with (first | (go_at_call 32; refine (bf_string HWG.out.2.2.1).mono ?_; rintro e w8 ⟨rfl, hb8⟩; have HB8 := Aside0.mk (HWG.out.1.trans (hb8.mono HWG.out.2.2.2)); clear hb8))
      go_ret
      exact ⟨by rw [HPC1.out]; rfl, HB8.out⟩
    · have hg0 : (gc != 0) = true := bne_iff_ne.mpr h0
      have HPC1 : Aside0 (pjC x (itB s) tl tx ty tc (itB gcols) (itB grows) L gc = ((XB ++ (jnB [wOrigin, tx, ty] ++ nlB)) ++ (jnB [wCell, tc] ++ nlB)) ++ (jnB [wSize, itB gcols, itB grows] ++ nlB)) := ⟨by rw [HPC.out, if_neg h0]⟩
      obtain ⟨t1, t2, t3, t4, t5⟩ := HG.out h0
      have HT1 := Aside0.mk t1
      have HT2 := Aside0.mk t2
      have HT3 := Aside0.mk t3
      have HT4 := Aside0.mk t4
      have HT5 := Aside0.mk t5
      have HX9 : Aside0 ((jnB [wOrigin, tx, ty]).size ≤ 50000 ∧ (jnB [wCell, tc]).size ≤ 50000 ∧ (jnB [wSize, itB gcols, itB grows]).size ≤ 50000) := ⟨by
        have h1 : wOrigin.size = 6 := rfl
        have h2 : wCell.size = 4 := rfl
        have h3 : wSize.size = 4 := rfl
        have := HS.out
        rw [jnB2, jnB3, jnB3]
        omega⟩
      clear h0 t1 t2 t3 t4 t5 HG HPC
      go_upto_region 9 with (fail)
      go_cut [] (fun wx => Aside0 (PJ w (w.heap.size + 1) [(b9, #[.int .i64 gx, .int .i64 gy, .int .i64 gc, .int .i64 gcols, .int .i64 grows], 41), (w.heap.size, #[.int .i64 m, .int .i64 s, .slice Al L.length cl, .int .i64 gx, .int .i64 gy, .int .i64 gc, .int .i64 gcols, .int .i64 grows], 43)] (XB ++ (jnB [wOrigin, tx, ty] ++ nlB)) wx))
      case first =>
        have e0 : w7.cell? ⟨b9, 0, none⟩ = some (.int .i64 gx) := blk_cell (HWG.out.2.1 _ List.mem_cons_self).1 0
        have e1 : w7.cell? ⟨b9, 1, none⟩ = some (.int .i64 gy) := blk_cell (HWG.out.2.1 _ List.mem_cons_self).1 1
        have HWd : Aside0 (PJ w (w.heap.size + 1) [(b9, #[.int .i64 gx, .int .i64 gy, .int .i64 gc, .int .i64 gcols, .int .i64 grows], 41), (w.heap.size, #[.int .i64 m, .int .i64 s, .slice Al L.length cl, .int .i64 gx, .int .i64 gy, .int .i64 gc, .int .i64 gcols, .int .i64 grows], 43)] XB w7.drew) := ⟨HWG.out.below (below_drew (Below.refl _ _))⟩
        go_region_with (first
          | (go_at_call 14; refine (deci_Text.calls k gx xy tx _ HT1.out).mono ?_; rintro e w8 ⟨rfl, hb8⟩; have HW8 := Aside0.mk (HWd.out.below hb8); have g1 : w8.cell? ⟨b9, 1, none⟩ = some (.int .i64 gy) := blk_cell (HW8.out.2.1 _ List.mem_cons_self).1 1; clear hb8)
          | (go_at_call 14; refine (deci_Text.calls k gy xy ty _ HT2.out).mono ?_; rintro e w9 ⟨rfl, hb9⟩; have HW9 := Aside0.mk (HW8.out.below hb9); clear hb9)
          | (go_at_call 34; refine (HW9.out.put [wOrigin, tx, ty] (by simp) (by have := HX9.out; omega) (by have := HXB.out; omega)).mono ?_; rintro e w10 ⟨rfl, hW10⟩; have HW10 := Aside0.mk hW10; clear hW10))
        all_goals (go_wp2_with fail)
        all_goals go_meet
        all_goals exact HW10
      case rest =>
        clear HWG e2 hg0
        have HWr := hcut
        have e2 : wc.cell? ⟨b9, 2, none⟩ = some (.int .i64 gc) := blk_cell (HWr.out.2.1 _ List.mem_cons_self).1 2
        go_upto_region 11 with (first
          | (go_at_call 14; refine (deci_Text.calls k gc xy tc _ HT3.out).mono ?_; rintro e w8 ⟨rfl, hb8⟩; have HW8 := Aside0.mk (HWr.out.below hb8); clear hb8)
          | (go_at_call 34; refine (HW8.out.put [wCell, tc] (by simp) (by have := HX9.out; omega) (by have h1 := HXB.out; have h2 := HX9.out; have h3 := nl_size; rw [ByteArray.size_append, ByteArray.size_append]; omega)).mono ?_; rintro e w9 ⟨rfl, hW9⟩; have HW9 := Aside0.mk hW9; clear hW9))
        clear HWr HW8 e2
        generalize hX2 : (XB ++ (jnB [wOrigin, tx, ty] ++ nlB)) ++ (jnB [wCell, tc] ++ nlB) = X2 at HW9 HPC1
        have HX10 : Aside0 (X2.size ≤ 200000) := ⟨by
          have h1 := HXB.out
          have h2 := HX9.out
          have h3 := nl_size
          rw [← hX2]
          simp only [ByteArray.size_append]
          omega⟩
        clear hX2
        go_cut [] (fun wx => Aside0 (PJ w (w.heap.size + 1) [(b9, #[.int .i64 gx, .int .i64 gy, .int .i64 gc, .int .i64 gcols, .int .i64 grows], 41), (w.heap.size, #[.int .i64 m, .int .i64 s, .slice Al L.length cl, .int .i64 gx, .int .i64 gy, .int .i64 gc, .int .i64 gcols, .int .i64 grows], 43)] (X2 ++ (jnB [wSize, itB gcols, itB grows] ++ nlB)) wx))
        case first =>
          have e3 : w9.cell? ⟨b9, 3, none⟩ = some (.int .i64 gcols) := blk_cell (HW9.out.2.1 _ List.mem_cons_self).1 3
          have e4 : w9.cell? ⟨b9, 4, none⟩ = some (.int .i64 grows) := blk_cell (HW9.out.2.1 _ List.mem_cons_self).1 4
          have HWd : Aside0 (PJ w (w.heap.size + 1) [(b9, #[.int .i64 gx, .int .i64 gy, .int .i64 gc, .int .i64 gcols, .int .i64 grows], 41), (w.heap.size, #[.int .i64 m, .int .i64 s, .slice Al L.length cl, .int .i64 gx, .int .i64 gy, .int .i64 gc, .int .i64 gcols, .int .i64 grows], 43)] X2 w9.drew) := ⟨HW9.out.below (below_drew (Below.refl _ _))⟩
          have HPd := Aside0.mk (tabp_below HP.out HWd.out.1)
          go_region_with (first
            | (go_at_call 18; refine (itoa_calls gcols w9.drew HPd.out HT4.out.1 HT4.out.2).mono ?_; rintro e w10 ⟨rfl, hb10⟩; have HW10 := Aside0.mk (HWd.out.below hb10); have g4 : w10.cell? ⟨b9, 4, none⟩ = some (.int .i64 grows) := blk_cell (HW10.out.2.1 _ List.mem_cons_self).1 4; have HPe := Aside0.mk (tabp_below HPd.out hb10); clear hb10)
            | (go_at_call 18; refine (itoa_calls grows _ HPe.out HT5.out.1 HT5.out.2).mono ?_; rintro e w11 ⟨rfl, hb11⟩; have HW11 := Aside0.mk (HW10.out.below hb11); clear hb11)
            | (go_at_call 34; refine (HW11.out.put [wSize, itB gcols, itB grows] (by simp) (by have := HX9.out; omega) (by have := HX10.out; omega)).mono ?_; rintro e w12 ⟨rfl, hW12⟩; have HW12 := Aside0.mk hW12; clear hW12))
          all_goals (go_wp2_with fail)
          all_goals go_meet
          all_goals exact HW12
        case rest =>
          clear HW9
          have HWr := hcut
          go_wp2_with (first | (go_at_call 32; refine (bf_string HWr.out.2.2.1).mono ?_; rintro e w8 ⟨rfl, hb8⟩; have HB8 := Aside0.mk (HWr.out.1.trans (hb8.mono HWr.out.2.2.2)); clear hb8))
          go_ret
          exact ⟨by rw [HPC1.out]; rfl, HB8.out⟩
end Go.Proofs.YtknekneicecgiaaGreatDoor.M
