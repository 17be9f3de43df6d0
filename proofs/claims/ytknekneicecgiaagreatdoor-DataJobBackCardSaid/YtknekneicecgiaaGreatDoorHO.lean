/- A job's scale, levels, cell, origin and size: what its value does where it is read without an error. A job's size. -/
import Derived.Test.YtknekneicecgiaaGreatDoorX8
import Derived.Test.YtknekneicecgiaaGreatDoorE6
import Derived.Test.YtknekneicecgiaaGreatDoorE12
import Derived.Test.YtknekneicecgiaaGreatDoorE14
import Derived.Deep.RegionWith
import Derived.RegionTactic
namespace Go.Proofs.YtknekneicecgiaaGreatDoor.M
open Go.RowKit Go.Lib Go.Proofs.YtknekneicecgiaaGreatDoorW.PrintWords Go.Proofs.YtknekneicecgiaaGreatDoorW.PrintLast Go.Proofs.YtknekneicecgiaaGreatDoor.MB
set_option linter.unusedVariables false
set_option linter.unusedSimpArgs false
theorem value_or {P : Program} {f : Nat} {vf vg : RS → ByteArray → List ByteArray → Option (RS × Int)} {xy z : Int} {Br Bm B : Nat} (h1 : ValueOk P f vf xy z Br Bm B) (h2 : ValueOk P f vg xy z Br Bm B) : ValueOk P f (fun st k l => (vf st k l).or (vg st k l)) xy z Br Bm B := by
  intro ok st st' key l e A c w hB hI hread hc hf
  have hf : (vf st key l).or (vg st key l) = some (st', e) := hf
  cases h : vf st key l with
  | some x =>
    rw [h] at hf
    exact h1 ok st st' key l e A c w hB hI hread hc (h.trans hf)
  | none =>
    rw [h] at hf
    exact h2 ok st st' key l e A c w hB hI hread hc hf
theorem key_is {key k : ByteArray} (h : key.data.toList = k.data.toList) : key = k := by
  cases key
  cases k
  congr 1
  exact Array.toList_inj.mp h
theorem head_cell {w : World} {b o : Nat} {l : List ByteArray} (hl : 0 < l.length) (hcell : ∀ j x, l[j]? = some x → w.cell? ⟨b, o + j, none⟩ = some (.string x)) : w.cell? ⟨b, o, none⟩ = some (.string (l.headD ⟨#[]⟩)) := by
  have h := hcell 0 (l.headD ⟨#[]⟩) (by cases l with
    | nil => simp at hl
    | cons x t => rfl)
  rwa [Nat.add_zero] at h
/-- A second number stored. -/
theorem rs_put_on {xy z : Int} {Br Bm B : Nat} {ok : Nat → Prop} {st1 st2 : RS} {w w3 w4 : World} (hB2 : 2 < B) (hBr : B ≤ Br) (hB : B ≤ w.heap.size)
    (h1 : RSInv xy z Br Bm B (fun k => ok k ∨ w.heap.size ≤ k) st1 w3 ∧ Spare ok B w w3) (hb : Below w3.heap.size w3 w4) (j : Nat) (u : Value)
    (hcs : ∀ vl, (rsCells st1 vl xy z Bm).setIfInBounds j u = rsCells st2 vl xy z Bm) (hs : st2.seen = st1.seen) (hl : st2.lv = st1.lv) :
    RSInv xy z Br Bm B (fun k => ok k ∨ w.heap.size ≤ k) st2 (w4.setCell ⟨Br, j, none⟩ u) ∧ Spare ok B w (w4.setCell ⟨Br, j, none⟩ u) := by
  have hs2 := h1.2.2.1
  have h2 := rs_put hB2 hBr (Nat.le_trans hB hs2) h1.1 hb j u hcs hs hl
  refine ⟨(rs_keeps xy z Br Bm B).mono h2.1 (fun k hk => ?_), h1.2.trans h2.2 (fun k hk h => ?_)⟩
  · rcases hk with hk | hk
    · exact hk
    · exact .inr (Nat.le_trans hs2 hk)
  · rcases h with h | h
    · exact h
    · omega
def scaleF (k : Nat) (st : RS) (key : ByteArray) (l : List ByteArray) : Option (RS × Int) :=
  if key.data.toList = kScale.data.toList ∧ 0 < l.length then (data_count.f k (l.headD ⟨#[]⟩) 0 9).bind fun t => if t.2 = 0 then some ({ st with s := t.1 }, 0) else none else none
set_option maxHeartbeats 4000000 in
set_option maxRecDepth 100000 in
theorem scale_ok (k : Nat) (xy z : Int) (Br Bm B : Nat) (hB2 : 2 < B) (hBr : B ≤ Br) : ValueOk Tryz.prog 49 (scaleF k) xy z Br Bm B := by
  intro ok st st' key l e A c w hB hI hread hc hf
  unfold scaleF at hf
  split at hf
  · rename_i hk
    obtain ⟨hk, hl⟩ := hk
    obtain rfl := key_is hk
    obtain ⟨⟨n, e1⟩, hn, hf⟩ := Option.bind_eq_some_iff.mp hf
    by_cases h0 : e1 = 0
    · subst h0
      rw [if_pos rfl] at hf
      have hf := Option.some.inj hf
      simp only [Prod.mk.injEq] at hf
      obtain ⟨rfl, rfl⟩ := hf
      obtain ⟨b, o, rfl, hcell⟩ := C_cells (hread w (fun _ _ _ => rfl)) hl
      have hy := head_cell hl hcell
      generalize l.headD ⟨#[]⟩ = y at hy hn
      have HI := Aside0.mk hI
      have HN := Aside0.mk hn
      obtain ⟨vl, h1, _⟩ := hI
      have H1 := Aside0.mk h1
      have hln : 0 < l.length := hl
      have hli : (0 : Int) < (l.length : Int) := by omega
      clear h1 hcell hread hl hk hn hc
      show Calls Tryz.prog 49 #[.pointer (some ⟨Br, 0, none⟩), .string ⟨#[115, 99, 97, 108, 101]⟩, .slice (some ⟨b, o, none⟩) l.length c] w _
      go_enter Tryz.func49, Tryz.ntmps49
      go_wp2_with (go_at_call 76; refine (data_count.calls k y 0 9 n 0 _ HN.out).mono ?_; rintro e w2 ⟨rfl, hb2⟩; have h2 := (hb2.block _ (blk_lt H1.out)).trans H1.out; have c1 : w2.cell? ⟨Br, 1, none⟩ = some (.int .i64 st.s) := blk_cell h2 1; have f1 : w2.frozen? ⟨Br, 1, none⟩ = false := blk_frozen h2 1; have HB2 := Aside0.mk hb2; clear h2 hb2)
      go_ret
      exact ⟨rfl, rs_put hB2 hBr hB HI.out HB2.out 1 (.int .i64 n) (fun _ => rfl) rfl rfl⟩
    · rw [if_neg h0] at hf
      cases hf
  · cases hf
/-- The levels stored. -/
theorem rs_putl {xy z : Int} {Br Bm B : Nat} {ok : Nat → Prop} {st : RS} {w w4 : World} {v : Value} {L : List Int} (hB2 : 2 < B) (hBr : B ≤ Br) (hB : B ≤ w.heap.size) (hI : RSInv xy z Br Bm B ok st w) (hb : Below w.heap.size w w4) (hv : Kd.R (Kd.int .i64) 3 w4 w.heap.size (fun _ => True) v L) :
    RSInv xy z Br Bm B (fun k => ok k ∨ w.heap.size ≤ k) { st with lv := L } (w4.setCell ⟨Br, 2, none⟩ v) ∧ Spare ok B w (w4.setCell ⟨Br, 2, none⟩ v) := by
  have o1 : ok Br := by obtain ⟨_, _, _, o, _⟩ := hI; exact o.1
  obtain ⟨vl, h1, h2, ho, hT, hR⟩ := keep_below (rs_keeps xy z Br Bm B) hI hb
  have h1' : w4.heap[Br]? = some (.cells (rsCells st vl xy z Bm) 70 (0, 0)) := h1
  have hne : Bm ≠ Br := fun h => by
    obtain ⟨es, clock, h3, _⟩ := h2
    rw [h, h1'] at h3
    cases h3
  have hsz : (w4.setCell ⟨Br, 2, none⟩ v).heap.size = w4.heap.size := by simp
  have hfar : ∀ k, k ≠ Br → (w4.setCell ⟨Br, 2, none⟩ v).heap[k]? = w4.heap[k]? := fun k hk => Below.heap_setCell w4 ⟨Br, 2, none⟩ v k hk
  refine ⟨⟨v, ?_, own_map_move h2 (hfar _ hne), ho, tab_move hT (by rw [hsz]; exact Nat.le_refl _) (hfar _ (by omega)) (hfar _ (by omega)), ?_⟩, (hb.mono hB).trans ((Below.refl B w4).setCell hBr v), by rw [hsz]; exact hb.size, fun k hk hn => (hfar _ (fun h => hn (by rw [h]; exact o1))).trans (hb.block k hk)⟩
  · exact blk_set h1' 2 v
  · have hv2 := Kd.R_lower (Kd.R_mono (Kd.R_bound hv) (fun k hk => (Or.inr hk.2.1 : ok k ∨ w.heap.size ≤ k))) hB
    exact Kd.R_set hv2 h1' (fun q hq => by
      simp only [List.mem_cons] at hq
      rcases hq with rfl | hq
      · decide
      · have : (Kd.int .i64).E = [] := rfl
        rw [this] at hq
        cases hq) 2 v
def levelsF (k : Nat) (z : Int) (st : RS) (key : ByteArray) (l : List ByteArray) : Option (RS × Int) :=
  if key.data.toList = kLevels.data.toList ∧ 0 < l.length then (level_Parse.f k (l.headD ⟨#[]⟩) z).bind fun t => if t.2 = 0 then some ({ st with lv := t.1 }, 0) else none else none
set_option maxHeartbeats 4000000 in
set_option maxRecDepth 100000 in
theorem levels_ok (k : Nat) (xy z : Int) (Br Bm B : Nat) (hB2 : 2 < B) (hBr : B ≤ Br) : ValueOk Tryz.prog 49 (levelsF k z) xy z Br Bm B := by
  intro ok st st' key l e A c w hB hI hread hc hf
  unfold levelsF at hf
  split at hf
  · rename_i hk
    obtain ⟨hk, hl⟩ := hk
    obtain rfl := key_is hk
    obtain ⟨b, o, rfl, hcell⟩ := C_cells (hread w (fun _ _ _ => rfl)) hl
    have HI := Aside0.mk hI
    have HRead := Aside0.mk hread
    have Hc := Aside0.mk hc
    obtain ⟨vl, h1, h2, ⟨o1, o2, o3, o4⟩, hT, hR⟩ := hI
    have H1 := Aside0.mk h1
    have HT := Aside0.mk hT
    have O1 := Aside0.mk o1
    obtain ⟨⟨n, e1⟩, hn, hf⟩ := Option.bind_eq_some_iff.mp hf
    by_cases h0 : e1 = 0
    · subst h0
      rw [if_pos rfl] at hf
      have hf := Option.some.inj hf
      simp only [Prod.mk.injEq] at hf
      obtain ⟨rfl, rfl⟩ := hf
      have hy := head_cell hl hcell
      generalize l.headD ⟨#[]⟩ = y at hy hn
      have HN := Aside0.mk hn
      have hln : 0 < l.length := hl
      have hli : (0 : Int) < (l.length : Int) := by omega
      obtain ⟨Al, cl, rfl⟩ := Kd.R_slice hR
      have x9 : w.cell? ⟨Br, 9, none⟩ = some (.int .i64 z) := blk_cell h1 9
      have HTd : Aside0 (TabW w.drew) := ⟨hT⟩
      have H1d : Aside0 (w.drew.heap[Br]? = _) := ⟨h1⟩
      have HBd : Aside0 (Below w.heap.size w w.drew) := ⟨below_drew (Below.refl w.heap.size w)⟩
      clear h1 h2 hcell hread hl hk hn hc hT hR o1 o2 o3 o4
      show Calls Tryz.prog 49 #[.pointer (some ⟨Br, 0, none⟩), .string ⟨#[108, 101, 118, 101, 108, 115]⟩, .slice (some ⟨b, o, none⟩) l.length c] w _
      go_enter Tryz.func49, Tryz.ntmps49
      go_wp2
      go_region_with (go_at_call 77; refine (level_Parse.calls k y z n 0 _ HTd.out HN.out).mono ?_; rintro e w2 ⟨v2, rfl, hR2, hb2⟩; have h2 := (hb2.block _ (blk_lt H1d.out)).trans H1d.out; obtain ⟨A2, c2, rfl⟩ := Kd.R_slice hR2; have c1 : w2.cell? ⟨Br, 2, none⟩ = some (.slice Al st.lv.length cl) := blk_cell h2 2; have f1 : w2.frozen? ⟨Br, 2, none⟩ = false := blk_frozen h2 2; have HB2 := Aside0.mk hb2; have HR2 := Aside0.mk hR2; clear h2 hb2 hR2)
      all_goals (try go_wp2)
      all_goals go_ret
      all_goals exact ⟨rfl, rs_putl hB2 hBr hB HI.out (HBd.out.trans HB2.out) HR2.out⟩
    · rw [if_neg h0] at hf
      cases hf
  · cases hf
def cellF (k : Nat) (xy : Int) (st : RS) (key : ByteArray) (l : List ByteArray) : Option (RS × Int) :=
  if key.data.toList = kCell.data.toList ∧ 0 < l.length then (data_numbers.f k l [xy]).bind fun t => if t.2 = 0 ∧ 0 < t.1.length ∧ 1 ≤ rd t.1 0 then some ({ st with gc := rd t.1 0 }, 0) else none else none
set_option maxHeartbeats 4000000 in
set_option maxRecDepth 100000 in
theorem cell_ok (k : Nat) (xy z : Int) (Br Bm B : Nat) (hB2 : 2 < B) (hBr : B ≤ Br) : ValueOk Tryz.prog 49 (cellF k xy) xy z Br Bm B := by
  intro ok st st' key l e A c w hB hI hread hc hf
  unfold cellF at hf
  split at hf
  · rename_i hk
    obtain ⟨hk, hl⟩ := hk
    obtain rfl := key_is hk
    obtain ⟨b, o, rfl, hcell⟩ := C_cells (hread w (fun _ _ _ => rfl)) hl
    have HI := Aside0.mk hI
    have HRead := Aside0.mk hread
    have Hc := Aside0.mk hc
    obtain ⟨vl, h1, h2, ⟨o1, o2, o3, o4⟩, hT, hR⟩ := hI
    have H1 := Aside0.mk h1
    have HT := Aside0.mk hT
    have O1 := Aside0.mk o1
    obtain ⟨⟨n, e1⟩, hn, hf⟩ := Option.bind_eq_some_iff.mp hf
    by_cases h0 : e1 = 0 ∧ 0 < n.length ∧ 1 ≤ rd n 0
    · rw [if_pos h0] at hf
      obtain ⟨rfl, hn0, hn1⟩ := h0
      have hf := Option.some.inj hf
      simp only [Prod.mk.injEq] at hf
      obtain ⟨rfl, rfl⟩ := hf
      have HN := Aside0.mk hn
      have HC := Aside0.mk (hread w (fun _ _ _ => rfl))
      have HL := Aside0.mk (lit_C w [xy] (by simp))
      have p0n : 0 < n.length := hn0
      have p0 : (0 : Int) < (n.length : Int) := by omega
      have hlt : (decide (rd n 0 < 1)) = false := by simp; omega
      have x8 : w.cell? ⟨Br, 8, none⟩ = some (.int .i64 xy) := blk_cell h1 8
      have Hn0 := Aside0.mk hn0
      clear h1 h2 hcell hread hl hk hn hc hT hR o1 o2 o3 o4 hn0 hn1
      show Calls Tryz.prog 49 #[.pointer (some ⟨Br, 0, none⟩), .string ⟨#[99, 101, 108, 108]⟩, .slice (some ⟨b, o, none⟩) l.length c] w _
      go_enter Tryz.func49, Tryz.ntmps49
      go_wp2_with (go_at_call 23; refine (data_numbers.calls k _ _ l _ _ [xy] n 0 _ (Kd.C_alloc HC.out _) Hc.out HL.out (Nat.le_refl _) (tab_below HT.out (below_alloc (Below.refl _ _) _)) HN.out).mono ?_; rintro e w2 ⟨v2, rfl, hR2, hb2⟩; obtain ⟨A2, c2, rfl⟩ := Kd.R_slice hR2; obtain ⟨bn, on, rfl, hcn⟩ := C_cells (Kd.R_reads' hR2).2.2 (by have := Hn0.out; omega); have x0 : w2.cell? ⟨bn, on, none⟩ = some (.int .i64 (rd n 0)) := hcn 0 _ (rd_get n 0 Hn0.out); have hb3 := (below_alloc (Below.refl w.heap.size w) (.cells #[.int .i64 xy] 3)).trans (hb2.mono (below_alloc (Below.refl w.heap.size w) (.cells #[.int .i64 xy] 3)).size); have h2 := (hb3.block _ (blk_lt H1.out)).trans H1.out; have c5 : w2.cell? ⟨Br, 5, none⟩ = some (.int .i64 st.gc) := blk_cell h2 5; have f5 : w2.frozen? ⟨Br, 5, none⟩ = false := blk_frozen h2 5; have HB3 := Aside0.mk hb3; clear h2 hb2 hb3 hR2 hcn)
      go_ret
      exact ⟨rfl, rs_put hB2 hBr hB HI.out HB3.out 5 (.int .i64 (rd n 0)) (fun _ => rfl) rfl rfl⟩
    · rw [if_neg h0] at hf
      cases hf
  · cases hf
def originF (k : Nat) (xy : Int) (st : RS) (key : ByteArray) (l : List ByteArray) : Option (RS × Int) :=
  if key.data.toList = kOrigin.data.toList ∧ 0 < l.length then (data_numbers.f k l [xy, xy]).bind fun t => if t.2 = 0 ∧ 1 < t.1.length then some ({ st with gx := rd t.1 0, gy := rd t.1 1 }, 0) else none else none
set_option maxHeartbeats 4000000 in
set_option maxRecDepth 100000 in
theorem origin_ok (k : Nat) (xy z : Int) (Br Bm B : Nat) (hB2 : 2 < B) (hBr : B ≤ Br) : ValueOk Tryz.prog 49 (originF k xy) xy z Br Bm B := by
  intro ok st st' key l e A c w hB hI hread hc hf
  unfold originF at hf
  split at hf
  · rename_i hk
    obtain ⟨hk, hl⟩ := hk
    obtain rfl := key_is hk
    obtain ⟨b, o, rfl, hcell⟩ := C_cells (hread w (fun _ _ _ => rfl)) hl
    have HI := Aside0.mk hI
    have HRead := Aside0.mk hread
    have Hc := Aside0.mk hc
    obtain ⟨vl, h1, h2, ⟨o1, o2, o3, o4⟩, hT, hR⟩ := hI
    have H1 := Aside0.mk h1
    have HT := Aside0.mk hT
    have O1 := Aside0.mk o1
    obtain ⟨⟨n, e1⟩, hn, hf⟩ := Option.bind_eq_some_iff.mp hf
    by_cases h0 : e1 = 0 ∧ 1 < n.length
    · rw [if_pos h0] at hf
      obtain ⟨rfl, hn0⟩ := h0
      have hf := Option.some.inj hf
      simp only [Prod.mk.injEq] at hf
      obtain ⟨rfl, rfl⟩ := hf
      have HN := Aside0.mk hn
      have HC := Aside0.mk (hread w.drew (fun _ _ _ => rfl))
      have HL := Aside0.mk (lit_C w.drew [xy, xy] (by simp))
      have p0n : 0 < n.length := by omega
      have p1n : 1 < n.length := hn0
      have p0 : (0 : Int) < (n.length : Int) := by omega
      have p1 : (1 : Int) < (n.length : Int) := by omega
      have x8 : w.cell? ⟨Br, 8, none⟩ = some (.int .i64 xy) := blk_cell h1 8
      have Hn0 := Aside0.mk hn0
      have HTd : Aside0 (TabW w.drew) := ⟨hT⟩
      have H1d : Aside0 (w.drew.heap[Br]? = _) := ⟨h1⟩
      have HBd : Aside0 (Below w.heap.size w w.drew) := ⟨below_drew (Below.refl w.heap.size w)⟩
      clear h1 h2 hcell hread hl hk hn hc hT hR o1 o2 o3 o4 hn0
      show Calls Tryz.prog 49 #[.pointer (some ⟨Br, 0, none⟩), .string ⟨#[111, 114, 105, 103, 105, 110]⟩, .slice (some ⟨b, o, none⟩) l.length c] w _
      go_enter Tryz.func49, Tryz.ntmps49
      go_wp2
      go_region_with (go_at_call 23; refine (data_numbers.calls k _ _ l _ _ [xy, xy] n 0 _ (Kd.C_alloc HC.out _) Hc.out HL.out (Nat.le_refl _) (tab_below HTd.out (below_alloc (Below.refl _ _) _)) HN.out).mono ?_; rintro e w2 ⟨v2, rfl, hR2, hb2⟩; obtain ⟨A2, c2, rfl⟩ := Kd.R_slice hR2; obtain ⟨bn, on, rfl, hcn⟩ := C_cells (Kd.R_reads' hR2).2.2 (by have := Hn0.out; omega); have x0 : w2.cell? ⟨bn, on, none⟩ = some (.int .i64 (rd n 0)) := hcn 0 _ (rd_get n 0 (by have := Hn0.out; omega)); have x1 : w2.cell? ⟨bn, on + 1, none⟩ = some (.int .i64 (rd n 1)) := hcn 1 _ (rd_get n 1 Hn0.out); have hb3 := HBd.out.trans ((below_alloc (Below.refl w.drew.heap.size w.drew) (.cells #[.int .i64 xy, .int .i64 xy] 3)).trans (hb2.mono (below_alloc (Below.refl w.drew.heap.size w.drew) (.cells #[.int .i64 xy, .int .i64 xy] 3)).size)); have h2 := (hb3.block _ (blk_lt H1.out)).trans H1.out; have c3 : w2.cell? ⟨Br, 3, none⟩ = some (.int .i64 st.gx) := blk_cell h2 3; have f3 : w2.frozen? ⟨Br, 3, none⟩ = false := blk_frozen h2 3; have c4 : w2.cell? ⟨Br, 4, none⟩ = some (.int .i64 st.gy) := blk_cell h2 4; have f4 : w2.frozen? ⟨Br, 4, none⟩ = false := blk_frozen h2 4; have HB3 := Aside0.mk hb3; clear h2 hb2 hb3 hR2 hcn)
      all_goals (try go_wp2)
      all_goals go_region
      all_goals (try go_wp2)
      all_goals go_ret
      all_goals
        have h3 := rs_put_on hB2 hBr hB (rs_put hB2 hBr hB HI.out HB3.out 3 (.int .i64 (rd n 0)) (st' := { st with gx := rd n 0 }) (fun _ => rfl) rfl rfl) (Below.refl _ _) 4 (.int .i64 (rd n 1)) (st2 := { st with gx := rd n 0, gy := rd n 1 }) (fun _ => rfl) rfl rfl
        exact ⟨rfl, (rs_keeps xy z Br Bm B).step h3.1 (Nat.le_refl _) (fun _ _ _ => rfl), below_drew h3.2.1, h3.2.2.1, h3.2.2.2⟩
    · rw [if_neg h0] at hf
      cases hf
  · cases hf
end Go.Proofs.YtknekneicecgiaaGreatDoor.M
namespace Go.Proofs.YtknekneicecgiaaGreatDoor.M
open Go.RowKit Go.Lib Go.Proofs.YtknekneicecgiaaGreatDoorW.PrintWords Go.Proofs.YtknekneicecgiaaGreatDoorW.PrintLast Go.Proofs.YtknekneicecgiaaGreatDoor.MB
set_option linter.unusedVariables false
set_option linter.unusedSimpArgs false
def sizeF (k : Nat) (st : RS) (key : ByteArray) (l : List ByteArray) : Option (RS × Int) :=
  if key.data.toList = kSize.data.toList ∧ 1 < l.length then (data_count.f k (l.headD ⟨#[]⟩) 1 1099511627776).bind fun t => if t.2 = 0 then (data_count.f k (l.getD 1 ⟨#[]⟩) 1 1099511627776).bind fun u => if u.2 = 0 then some ({ st with gcols := t.1, grows := u.1 }, 0) else none else none else none
set_option maxHeartbeats 1000000 in
set_option maxRecDepth 100000 in
theorem size_ok (k : Nat) (xy z : Int) (Br Bm B : Nat) (hB2 : 2 < B) (hBr : B ≤ Br) : ValueOk Tryz.prog 49 (sizeF k) xy z Br Bm B := by
  intro ok st st' key l e A c w hB hI hread hc hf
  unfold sizeF at hf
  split at hf
  · rename_i hk
    obtain ⟨hk, hl⟩ := hk
    obtain rfl := key_is hk
    obtain ⟨b, o, rfl, hcell⟩ := C_cells (hread w (fun _ _ _ => rfl)) (Nat.lt_trans Nat.zero_lt_one hl)
    have HI := Aside0.mk hI
    have HRead := Aside0.mk hread
    have Hc := Aside0.mk hc
    obtain ⟨vl, h1, h2, ⟨o1, o2, o3, o4⟩, hT, hR⟩ := hI
    have H1 := Aside0.mk h1
    have HT := Aside0.mk hT
    have O1 := Aside0.mk o1
    obtain ⟨⟨n, e1⟩, hn, hf⟩ := Option.bind_eq_some_iff.mp hf
    by_cases h0 : e1 = 0
    · subst h0
      rw [if_pos rfl] at hf
      obtain ⟨⟨m, e2⟩, hm, hf⟩ := Option.bind_eq_some_iff.mp hf
      by_cases h3 : e2 = 0
      · subst h3
        rw [if_pos rfl] at hf
        have hf := Option.some.inj hf
        simp only [Prod.mk.injEq] at hf
        obtain ⟨rfl, rfl⟩ := hf
        have hy := head_cell (Nat.lt_trans Nat.zero_lt_one hl) hcell
        have HY : Aside0 (∀ W : World, (∀ k, k < w.heap.size → ¬ ok k → W.heap[k]? = w.heap[k]?) → W.cell? ⟨b, o + 1, none⟩ = some (.string (l.getD 1 ⟨#[]⟩))) := ⟨fun W hW => by
          obtain ⟨b2, o2, he, hcell2⟩ := C_cells (hread W hW) (Nat.lt_trans Nat.zero_lt_one hl)
          injection he with he
          injection he with he1 he2 he3
          subst he1 he2
          exact hcell2 1 _ (by rw [List.getElem?_eq_getElem hl, List.getD_eq_getElem?_getD, List.getElem?_eq_getElem hl]; rfl)⟩
        generalize l.getD 1 ⟨#[]⟩ = y1 at HY hm
        generalize l.headD ⟨#[]⟩ = y0 at hy hn
        have HN := Aside0.mk hn
        have HM := Aside0.mk hm
        have hln : 1 < l.length := hl
        have hln0 : 0 < l.length := by omega
        have hli : (0 : Int) < (l.length : Int) := by omega
        have hli1 : (1 : Int) < (l.length : Int) := by omega
        clear h1 h2 hcell hread hl hk hn hm hc hT hR o1 o2 o3 o4
        show Calls Tryz.prog 49 #[.pointer (some ⟨Br, 0, none⟩), .string ⟨#[115, 105, 122, 101]⟩, .slice (some ⟨b, o, none⟩) l.length c] w _
        go_enter Tryz.func49, Tryz.ntmps49
        go_upto_region 6 with (first
          | (go_at_call 76; refine (data_count.calls k y0 1 1099511627776 n 0 _ HN.out).mono ?_; rintro e w2 ⟨rfl, hb2⟩; have h2 := (hb2.block _ (blk_lt H1.out)).trans H1.out; have c6 : w2.cell? ⟨Br, 6, none⟩ = some (.int .i64 st.gcols) := blk_cell h2 6; have f6 : w2.frozen? ⟨Br, 6, none⟩ = false := blk_frozen h2 6; have h3 := rs_put hB2 hBr hB HI.out hb2 6 (.int .i64 n) (st' := { st with gcols := n }) (fun _ => rfl) rfl rfl; have hy1 := HY.out _ (fun k hk hn => h3.2.2.2 k hk hn); have H3 := Aside0.mk h3; have H4 := Aside0.mk (blk_set h2 6 (.int .i64 n)); clear h2 hb2 h3))
        go_wp2_with (first
          | (go_at_call 76; refine (data_count.calls k y1 1 1099511627776 m 0 _ HM.out).mono ?_; rintro e w4 ⟨rfl, hb4⟩; have h5 := (hb4.block _ (blk_lt H4.out)).trans H4.out; have c7 : w4.cell? ⟨Br, 7, none⟩ = some (.int .i64 st.grows) := blk_cell h5 7; have f7 : w4.frozen? ⟨Br, 7, none⟩ = false := blk_frozen h5 7; have HB4 := Aside0.mk hb4; clear hb4 h5))
        go_ret
        exact ⟨rfl, rs_put_on hB2 hBr hB H3.out HB4.out 7 (.int .i64 m) (fun _ => rfl) rfl rfl⟩
      · rw [if_neg h3] at hf
        cases hf
    · rw [if_neg h0] at hf
      cases hf
  · cases hf
end Go.Proofs.YtknekneicecgiaaGreatDoor.M
