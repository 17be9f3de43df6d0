/- A job's reader: what it holds, and what it does with a line, over what a key's value does. -/
import Derived.Test.YtknekneicecgiaaGreatDoorHE
import Derived.Test.YtknekneicecgiaaGreatDoorHM
import Derived.BigQuiet
import Derived.Deep.QuietTactic
import Derived.Carry
namespace Go.Proofs.YtknekneicecgiaaGreatDoor.M
open Go.RowKit Go.Lib Go.Proofs.YtknekneicecgiaaGreatDoorW.PrintWords Go.Proofs.YtknekneicecgiaaGreatDoorW.PrintLast Go.Proofs.YtknekneicecgiaaGreatDoor.MB
open Go.Maps (Keyed string_keyed)
set_option linter.unusedVariables false
set_option linter.unusedSimpArgs false
structure RS where
  m : Int
  s : Int
  lv : List Int
  gx : Int
  gy : Int
  gc : Int
  gcols : Int
  grows : Int
  seen : List ByteArray
def litS (s : ByteArray) : Lit := .string s.data.toList
def kMethod : ByteArray := ⟨#[109, 101, 116, 104, 111, 100]⟩
def kScale : ByteArray := ⟨#[115, 99, 97, 108, 101]⟩
def kLevels : ByteArray := ⟨#[108, 101, 118, 101, 108, 115]⟩
def kCell : ByteArray := ⟨#[99, 101, 108, 108]⟩
def kOrigin : ByteArray := ⟨#[111, 114, 105, 103, 105, 110]⟩
def kSize : ByteArray := ⟨#[115, 105, 122, 101]⟩
def num (n : Int) : DataW Unit := .lit (.int .i64 n)
def wantD : DataW Unit := ((((((DataW.map []).put (litS kMethod) (num 1)).put (litS kScale) (num 1)).put (litS kLevels) (num 1)).put (litS kCell) (num 1)).put (litS kOrigin) (num 2)).put (litS kSize) (num 2)
def wantOf (k : ByteArray) : Int :=
  if k.data.toList = kSize.data.toList then 2 else if k.data.toList = kOrigin.data.toList then 2 else if k.data.toList = kCell.data.toList then 1 else if k.data.toList = kLevels.data.toList then 1 else if k.data.toList = kScale.data.toList then 1 else if k.data.toList = kMethod.data.toList then 1 else 0
theorem isMap_put {D : DataW Unit} (h : Maps.IsMap D) (k : Lit) (d : DataW Unit) : Maps.IsMap (D.put k d) := h.put k d
theorem at_put {D : DataW Unit} (hD : Maps.IsMap D) (k c : ByteArray) (d z : DataW Unit) : (D.put (litS c) d).atKey (litS k) z = if k.data.toList = c.data.toList then d else D.atKey (litS k) z := by
  by_cases h : k.data.toList = c.data.toList
  · rw [if_pos h, show litS k = litS c from by unfold litS; rw [h]]
    exact Maps.atKey_put_same hD (by unfold litS; trivial) d z
  · rw [if_neg h]
    exact Maps.atKey_put_other (fun e => h (by unfold litS at e; injection e)) d z
theorem want_at (k : ByteArray) : wantD.atKey (litS k) (num 0) = num (wantOf k) := by
  have i0 : Maps.IsMap (DataW.map [] : DataW Unit) := Maps.isMap_empty
  unfold wantD
  rw [at_put (by repeat (first | exact i0 | apply isMap_put)), at_put (by repeat (first | exact i0 | apply isMap_put)), at_put (by repeat (first | exact i0 | apply isMap_put)), at_put (by repeat (first | exact i0 | apply isMap_put)), at_put (by repeat (first | exact i0 | apply isMap_put)), at_put i0]
  unfold wantOf
  repeat (split; rfl)
  rfl
def seenD (l : List ByteArray) : DataW Unit := l.foldl (fun D k => D.put (litS k) (.lit (.bool true))) (.map [])
def isSeen (l : List ByteArray) (k : ByteArray) : Bool := l.any fun y => decide (k.data.toList = y.data.toList)
theorem seenD_snoc (l : List ByteArray) (k : ByteArray) : seenD (l ++ [k]) = (seenD l).put (litS k) (.lit (.bool true)) := by simp [seenD]
theorem snoc_ind2 {α : Type} {P : List α → Prop} (h0 : P []) (h1 : ∀ l c, P l → P (l ++ [c])) (l : List α) : P l := by
  have : ∀ r : List α, P r.reverse := fun r => by
    induction r with
    | nil => simpa using h0
    | cons c r ih => simpa using h1 _ c ih
  simpa using this l.reverse
theorem seenD_ok (l : List ByteArray) : Maps.IsMap (seenD l) ∧ ∀ k, (seenD l).atKey (litS k) (.lit (.bool false)) = .lit (.bool (isSeen l k)) := by
  induction l using snoc_ind2 with
  | h0 => exact ⟨Maps.isMap_empty, fun k => rfl⟩
  | h1 l c ih =>
    rw [seenD_snoc]
    refine ⟨ih.1.put _ _, fun k => ?_⟩
    rw [at_put ih.1, isSeen, List.any_append]
    by_cases h : k.data.toList = c.data.toList
    · simp [h]
    · rw [if_neg h, ih.2 k]
      simp only [List.any_cons, List.any_nil, Bool.or_false, decide_eq_false h]
      rfl
def RSInv (xy z : Int) (Br Bm B : Nat) (ok : Nat → Prop) (st : RS) (w : World) : Prop :=
  ∃ vl, w.heap[Br]? = some (.cells #[.int .i64 st.m, .int .i64 st.s, vl, .int .i64 st.gx, .int .i64 st.gy, .int .i64 st.gc, .int .i64 st.gcols, .int .i64 st.grows, .int .i64 xy, .int .i64 z, .map (some Bm)] 70 (0, 0)) ∧
    w.ownsMap Tryz.prog 9 (plainElem Tryz.prog 4) Bm st.seen.length (seenD st.seen) ∧ (ok Br ∧ ok Bm ∧ ok 2 ∧ ok 0) ∧ TabW w ∧ Kd.R (Kd.int .i64) 3 w B ok vl st.lv
theorem own_map_move {w w1 : World} {P : Program} {k b n : Nat} {R : Value → Option (DataW Unit × List MemPlace)} {D : DataW Unit} (h : w.ownsMap P k R b n D) (hm : w1.heap[b]? = w.heap[b]?) : w1.ownsMap P k R b n D := by
  obtain ⟨es, clock, hb, r⟩ := h
  exact ⟨es, clock, hm.trans hb, r⟩
theorem rs_keeps (xy z : Int) (Br Bm B : Nat) : Keeps (RSInv xy z Br Bm B) where
  mono := by
    rintro ok ok' st w ⟨v, h1, h2, ⟨o1, o2, o3, o4⟩, hT, hR⟩ h
    exact ⟨v, h1, h2, ⟨h _ o1, h _ o2, h _ o3, h _ o4⟩, hT, Kd.R_mono hR h⟩
  bound := by
    rintro ok st w ⟨v, h1, h2, ⟨o1, o2, o3, o4⟩, hT, hR⟩
    exact ⟨v, h1, h2, ⟨⟨o1, blk_lt h1⟩, ⟨o2, h2.lt⟩, ⟨o3, hT.2.1⟩, ⟨o4, Nat.lt_of_le_of_lt (Nat.zero_le _) hT.2.1⟩⟩, hT, Kd.R_mono (Kd.R_bound hR) (fun k hk => ⟨hk.1, hk.2.2.1⟩)⟩
  step := by
    rintro ok st w w1 ⟨v, h1, h2, ⟨o1, o2, o3, o4⟩, hT, hR⟩ hs h
    exact ⟨v, (h _ o1 (blk_lt h1)).trans h1, own_map_move h2 (h _ o2 h2.lt), ⟨o1, o2, o3, o4⟩, tab_move hT hs (h _ o3 hT.2.1) (h _ o4 (Nat.lt_of_le_of_lt (Nat.zero_le _) hT.2.1)), Kd.R_step hR h⟩
/-- What a key's value does. -/
def ValueOk (P : Program) (f : Nat) (vf : RS → ByteArray → List ByteArray → Option (RS × Int)) (xy z : Int) (Br Bm B : Nat) : Prop :=
  ∀ (ok : Nat → Prop) (st st' : RS) (key : ByteArray) (l : List ByteArray) (e : Int) (A : Option Addr) (c : Nat) (w : World), B ≤ w.heap.size → RSInv xy z Br Bm B ok st w →
    (∀ W : World, (∀ k, k < w.heap.size → ¬ ok k → W.heap[k]? = w.heap[k]?) → Kd.C Kd.string W A l.length l) → l.length ≤ c → vf st key l = some (st', e) →
    Calls P f #[.pointer (some ⟨Br, 0, none⟩), .string key, .slice A l.length c] w fun en w' => en = .returned (.int .i64 e) ∧ RSInv xy z Br Bm B (fun k => ok k ∨ w.heap.size ≤ k) st' w' ∧ Spare ok B w w'
def lineF (vf : RS → ByteArray → List ByteArray → Option (RS × Int)) (st : RS) (l : List ByteArray) : Option (RS × Int) :=
  if (l.headD ⟨#[]⟩).size ≤ 1000000 ∧ st.seen.length ≤ 1000000 then
    (if wantOf (l.headD ⟨#[]⟩) = 0 ∨ ¬ ((l.drop 1).length : Int) = wantOf (l.headD ⟨#[]⟩) then some (st, 1)
    else if isSeen st.seen (l.headD ⟨#[]⟩) = true then some (st, 6)
    else vf { st with seen := st.seen ++ [l.headD ⟨#[]⟩] } (l.headD ⟨#[]⟩) (l.drop 1))
  else none
theorem below_mapped {w W1 W2 W3 W4 W5 W6 : World} {n : Nat} (g1 : ((w.drewN n).alloc (.map #[] 0)).grownBy W1 (some w.heap.size)) (g2 : W1.grownBy W2 (some w.heap.size)) (g3 : W2.grownBy W3 (some w.heap.size)) (g4 : W3.grownBy W4 (some w.heap.size)) (g5 : W4.grownBy W5 (some w.heap.size)) (g6 : W5.grownBy W6 (some w.heap.size)) : Below w.heap.size w W6 := by
  have hr : ∀ k, some w.heap.size = some k → w.heap.size ≤ k := fun k hk => by cases hk; exact Nat.le_refl _
  have b0 := below_alloc (pw_below_drewN (Below.refl w.heap.size w) n) (.map #[] 0)
  have b1 := b0.grown g1 b0.size hr
  have b2 := b1.grown g2 b1.size hr
  have b3 := b2.grown g3 b2.size hr
  have b4 := b3.grown g4 b3.size hr
  have b5 := b4.grown g5 b4.size hr
  exact b5.grown g6 b5.size hr
theorem keep_below {σ : Type} {Inv : (Nat → Prop) → σ → World → Prop} (hk : Keeps Inv) {ok : Nat → Prop} {st : σ} {w w2 : World} (hI : Inv ok st w) (hb : Below w.heap.size w w2) : Inv (fun k => ok k ∨ w.heap.size ≤ k) st w2 :=
  hk.mono (hk.step hI hb.size (fun k _ hk => hb.block k hk)) (fun k hk => .inl hk)
theorem rs_seen {xy z : Int} {Br Bm B : Nat} {ok : Nat → Prop} {st : RS} {w W6 W7 : World} {y : ByteArray} (hB2 : 2 < B) (hBm : B ≤ Bm) (hI : RSInv xy z Br Bm B ok st w) (hb : Below w.heap.size w W6)
    (hM : W7.ownsMap Tryz.prog 9 (plainElem Tryz.prog 4) Bm (st.seen.length + 1) ((seenD st.seen).put (litS y) (.lit (.bool true)))) (hg : W6.grownBy W7 (some Bm)) : RSInv xy z Br Bm B (fun k => ok k ∧ k < w.heap.size) { st with seen := st.seen ++ [y] } W7 := by
  obtain ⟨vl, h1, h2, ⟨o1, o2, o3, o4⟩, hT, hR⟩ := hI
  have hmap : ∃ es clock, w.heap[Bm]? = some (.map es clock) := by obtain ⟨es, clock, h, _⟩ := h2; exact ⟨es, clock, h⟩
  obtain ⟨es, clock, hmap⟩ := hmap
  have hfar : ∀ k, k < w.heap.size → k ≠ Bm → W7.heap[k]? = w.heap[k]? := fun k hk hn => (hg.block k (Nat.lt_of_lt_of_le hk hb.size) (fun h => hn (Option.some.inj h))).trans (hb.block k hk)
  have hcells : ∀ k cs t, w.heap[k]? = some (.cells cs t (0, 0)) → k ≠ Bm := fun k cs t h e => by rw [e, hmap] at h; cases h
  have hs := Nat.le_trans hb.size hg.size
  have hT2 := hT.2.1
  refine ⟨vl, (hfar _ (blk_lt h1) (hcells _ _ _ h1)).trans h1, ?_, ⟨⟨o1, blk_lt h1⟩, ⟨o2, h2.lt⟩, ⟨o3, hT2⟩, ⟨o4, by omega⟩⟩, tab_move hT hs (hfar _ hT2 (by omega)) (hfar _ (by omega) (by omega)), ?_⟩
  · have h3 := hM
    rw [← seenD_snoc] at h3
    rw [List.length_append, List.length_singleton]
    exact h3
  · refine Kd.R_mono (Kd.R_move (Kd.R_bound hR) (fun k hk => ?_)) (fun k hk => ⟨hk.1, hk.2.2.1⟩)
    obtain ⟨_, _, hlt, q, _, cells, hc⟩ := hk
    exact hfar k hlt (hcells _ _ _ hc)
theorem rest_reads {ok : Nat → Prop} {w W6 W7 W : World} {Bm c : Nat} {A A' : Option Addr} {l rest : List ByteArray} (hR : Kd.R Kd.string 9 w 0 (fun k => ¬ ok k) (.slice A l.length c) l) (hb : Below w.heap.size w W6) (hg : W6.grownBy W7 (some Bm)) (o2 : ok Bm)
    (hW : ∀ k, k < W7.heap.size → ¬ (ok k ∧ k < w.heap.size) → W.heap[k]? = W7.heap[k]?) (hread : ∀ w : World, ReadsOf Value.string (⟨#[]⟩ : ByteArray) w A l.length l → ReadsOf Value.string (⟨#[]⟩ : ByteArray) w A' rest.length rest) : Kd.C Kd.string W A' rest.length rest := by
  have hs := Nat.le_trans hb.size hg.size
  have h1 : Kd.R Kd.string 9 W 0 (fun k => ¬ ok k) (.slice A l.length c) l := Kd.R_step hR (fun k hk hlt => (hW k (by omega) (fun h => hk h.1)).trans ((hg.block k (Nat.lt_of_lt_of_le hlt hb.size) (fun h => hk (by rw [Option.some.inj h]; exact o2))).trans (hb.block k hlt)))
  exact Kd.C_of_reads (hread W (Kd.reads_of_C (Kd.R_reads' h1).2.2))
theorem line_inv {σ : Type} {Inv : (Nat → Prop) → σ → World → Prop} (hk : Keeps Inv) {ok : Nat → Prop} {st : σ} {w W6 W7 w8 : World} {Bm : Nat} (hb : Below w.heap.size w W6) (hg : W6.grownBy W7 (some Bm)) (hI : Inv (fun k => (ok k ∧ k < w.heap.size) ∨ W7.heap.size ≤ k) st w8) : Inv (fun k => ok k ∨ w.heap.size ≤ k) st w8 :=
  hk.mono hI (fun k hk => by
    rcases hk with hk | hk
    · exact .inl hk.1
    · exact .inr (Nat.le_trans (Nat.le_trans hb.size hg.size) hk))
theorem line_spare {ok : Nat → Prop} {B Bm : Nat} {w W6 W7 w8 : World} (hBm : B ≤ Bm) (hB : B ≤ w.heap.size) (o2 : ok Bm) (hb : Below w.heap.size w W6) (hg : W6.grownBy W7 (some Bm)) (hS : Spare (fun k => ok k ∧ k < w.heap.size) B W7 w8) : Spare ok B w w8 := by
  have h1 : Spare ok B w W7 := ⟨(hb.mono hB).grown hg (Nat.le_trans hB hb.size) (fun k hk => by cases hk; exact hBm), Nat.le_trans hb.size hg.size, fun k hk hn => (hg.block k (Nat.lt_of_lt_of_le hk hb.size) (fun h => hn (by rw [Option.some.inj h]; exact o2))).trans (hb.block k hk)⟩
  exact h1.trans hS (fun k _ h => h.1)
set_option maxHeartbeats 8000000 in
set_option maxRecDepth 100000 in
theorem line_steps (vf : RS → ByteArray → List ByteArray → Option (RS × Int)) (xy z : Int) (Br Bm B : Nat) (hB2 : 2 < B) (hBm : B ≤ Bm) (hv : ValueOk Tryz.prog 49 vf xy z Br Bm B) : Steps Tryz.prog 27 #[.pointer (some ⟨Br, 0, none⟩)] #[] (lineF vf) (RSInv xy z Br Bm B) B := by
  intro ok st st' l e v w hB hI hR hne hf
  have HI := Aside0.mk hI
  have HV := Aside0.mk hv
  obtain ⟨vl, h1, h2, ⟨o1, o2, o3, o4⟩, hT, hRl⟩ := hI
  have HR := Aside0.mk hR
  obtain ⟨A, c, rfl, hc, hC⟩ := Kd.R_reads hR
  have hpos : 0 < l.length := List.length_pos_iff.mpr hne
  obtain ⟨b, o, rfl, hcell⟩ := C_cells hC hpos
  have hkey := hcell 0 (l.headD ⟨#[]⟩) (by cases l with
    | nil => exact absurd rfl hne
    | cons x t => rfl)
  rw [Nat.add_zero] at hkey
  obtain ⟨i9, hi9, hz0, hz1, hz2⟩ := info_parts (show (Tryz.prog.info? 9).map (fun i => (i.zero, i.size, i.bytes)) = some (some (.string ⟨#[]⟩), 1, 16) by kernel_rfl)
  obtain ⟨A', hcut, hread, hlen⟩ := print_drop_of (P := Tryz.prog) Value.string (⟨#[]⟩ : ByteArray) 29 9 .i64 Tryz.underlying29 hi9 hz1 (some ⟨b, o, none⟩) c l 1 (by decide) (by omega) hc
  show Calls Tryz.prog 27 #[.pointer (some ⟨Br, 0, none⟩), .slice (some ⟨b, o, none⟩) l.length c] w _
  have hcut : ∀ W : World, (Instr.slice 29 (.slice (some ⟨b, o, none⟩) l.length c) (some (.int .i64 1)) none none).run Tryz.prog W = .ok (.slice A' (l.drop 1).length (c - 1)) W := hcut
  have hread := Aside0.mk (show ∀ w : World, ReadsOf Value.string (⟨#[]⟩ : ByteArray) w (some ⟨b, o, none⟩) l.length l → ReadsOf Value.string (⟨#[]⟩ : ByteArray) w A' (l.drop 1).length (l.drop 1) from hread)
  have hlen := Aside0.mk (show (l.drop 1).length ≤ c - 1 from hlen)
  have hposn : (0 : Int) < (l.length : Int) := by omega
  unfold lineF at hf
  split at hf
  · rename_i hy
    have HZ := fun W => @Aside0.out _ (Aside0.mk (show (zeroValue 3).run Tryz.prog W = .ok (.int .i64 0) W by kernel_rfl))
    generalize l.headD ⟨#[]⟩ = y at hf hy hkey
    generalize hrest : l.drop 1 = rest at hf hcut hread hlen
    have HY : Aside0 (y.size ≤ maxLen) := ⟨by have := hy.1; unfold maxLen; omega⟩
    have HSn := Aside0.mk hy.2
    have HWt := Aside0.mk (want_at y)
    have HB := Aside0.mk hB
    have H1 := Aside0.mk h1
    have H2 := Aside0.mk h2
    have HT := Aside0.mk hT
    have HRl := Aside0.mk hRl
    have hmm := @run_makeMap Tryz.prog
    have hl0 : 0 < l.length := hpos
    clear hy hR hC hcell hne hi9 hz0 hz1 hz2 hB hv h1 h2 hT hRl hc
    by_cases hw : wantOf y = 0 ∨ ¬ (rest.length : Int) = wantOf y
    · rw [if_pos hw] at hf
      have h' := Option.some.inj hf
      simp only [Prod.mk.injEq] at h'
      obtain ⟨rfl, rfl⟩ := h'
      generalize wantOf y = wn at HWt hw
      have hq : ∃ b1 b2 : Bool, (wn == 0) = b1 ∧ ((rest.length : Int) != wn) = b2 ∧ (b1 || b2) = true := by
        refine ⟨_, _, rfl, rfl, ?_⟩
        rcases hw with hw | hw
        · rw [beq_iff_eq.mpr hw, Bool.true_or]
        · rw [bne_iff_ne.mpr hw, Bool.or_true]
      clear hw
      obtain ⟨b1, b2, q1, q2, q3⟩ := hq
      cases b1 <;> cases b2 <;> simp only [Bool.or_true, Bool.true_or, Bool.or_false, reduceCtorEq] at q3
      all_goals
        go_enter Tryz.func27, Tryz.ntmps27
        go_wp2
        go_quiet (fail)
        go_wp2_with (first | (refine wpList_insert_own _ rfl (.tmp 13) (.const (.string ⟨#[109, 101, 116, 104, 111, 100]⟩)) (.const (.int .i64 1)) 103 rfl 9 3 (string_keyed Tryz.underlying9) Tryz.underlying103 (plainElem Tryz.prog 3) _ 0 _ rfl (World.ownsMap_made _ _ _ _) (by decide) (.string ⟨#[109, 101, 116, 104, 111, 100]⟩) (.int .i64 1) (litS kMethod) rfl rfl (Go.WideMaps.keyOf_string_mk Tryz.underlying9 (by decide)) (num 1) [] (plainElem_int Tryz.underlying3 (by decide)) ?_; intro W1 ho_ hg_; have M1 := Aside0.mk ho_; have G1 := Aside0.mk hg_; clear ho_ hg_) | (refine wpList_insert_own _ rfl (.tmp 13) (.const (.string ⟨#[115, 99, 97, 108, 101]⟩)) (.const (.int .i64 1)) 103 rfl 9 3 (string_keyed Tryz.underlying9) Tryz.underlying103 (plainElem Tryz.prog 3) _ 1 _ rfl M1.out (by decide) (.string ⟨#[115, 99, 97, 108, 101]⟩) (.int .i64 1) (litS kScale) rfl rfl (Go.WideMaps.keyOf_string_mk Tryz.underlying9 (by decide)) (num 1) [] (plainElem_int Tryz.underlying3 (by decide)) ?_; intro W2 ho_ hg_; have M2 := Aside0.mk ho_; have G2 := Aside0.mk hg_; clear ho_ hg_) | (refine wpList_insert_own _ rfl (.tmp 13) (.const (.string ⟨#[108, 101, 118, 101, 108, 115]⟩)) (.const (.int .i64 1)) 103 rfl 9 3 (string_keyed Tryz.underlying9) Tryz.underlying103 (plainElem Tryz.prog 3) _ 2 _ rfl M2.out (by decide) (.string ⟨#[108, 101, 118, 101, 108, 115]⟩) (.int .i64 1) (litS kLevels) rfl rfl (Go.WideMaps.keyOf_string_mk Tryz.underlying9 (by decide)) (num 1) [] (plainElem_int Tryz.underlying3 (by decide)) ?_; intro W3 ho_ hg_; have M3 := Aside0.mk ho_; have G3 := Aside0.mk hg_; clear ho_ hg_) | (refine wpList_insert_own _ rfl (.tmp 13) (.const (.string ⟨#[99, 101, 108, 108]⟩)) (.const (.int .i64 1)) 103 rfl 9 3 (string_keyed Tryz.underlying9) Tryz.underlying103 (plainElem Tryz.prog 3) _ 3 _ rfl M3.out (by decide) (.string ⟨#[99, 101, 108, 108]⟩) (.int .i64 1) (litS kCell) rfl rfl (Go.WideMaps.keyOf_string_mk Tryz.underlying9 (by decide)) (num 1) [] (plainElem_int Tryz.underlying3 (by decide)) ?_; intro W4 ho_ hg_; have M4 := Aside0.mk ho_; have G4 := Aside0.mk hg_; clear ho_ hg_) | (refine wpList_insert_own _ rfl (.tmp 13) (.const (.string ⟨#[111, 114, 105, 103, 105, 110]⟩)) (.const (.int .i64 2)) 103 rfl 9 3 (string_keyed Tryz.underlying9) Tryz.underlying103 (plainElem Tryz.prog 3) _ 4 _ rfl M4.out (by decide) (.string ⟨#[111, 114, 105, 103, 105, 110]⟩) (.int .i64 2) (litS kOrigin) rfl rfl (Go.WideMaps.keyOf_string_mk Tryz.underlying9 (by decide)) (num 2) [] (plainElem_int Tryz.underlying3 (by decide)) ?_; intro W5 ho_ hg_; have M5 := Aside0.mk ho_; have G5 := Aside0.mk hg_; clear ho_ hg_) | (refine wpList_insert_own _ rfl (.tmp 13) (.const (.string ⟨#[115, 105, 122, 101]⟩)) (.const (.int .i64 2)) 103 rfl 9 3 (string_keyed Tryz.underlying9) Tryz.underlying103 (plainElem Tryz.prog 3) _ 5 _ rfl M5.out (by decide) (.string ⟨#[115, 105, 122, 101]⟩) (.int .i64 2) (litS kSize) rfl rfl (Go.WideMaps.keyOf_string_mk Tryz.underlying9 (by decide)) (num 2) [] (plainElem_int Tryz.underlying3 (by decide)) ?_; intro W6 ho_ hg_; have M6 := Aside0.mk ho_; have G6 := Aside0.mk hg_; clear ho_ hg_; have HW6 := Aside0.mk (below_mapped G1.out G2.out G3.out G4.out G5.out G6.out); have zc : W6.cell? ⟨Br, 10, none⟩ = some (.map (some Bm)) := blk_cell ((HW6.out.block _ (blk_lt H1.out)).trans H1.out) 10; have HM6 := Aside0.mk (own_map_move H2.out (HW6.out.block _ H2.out.lt))) | (at_lookup; refine wpList_lookup_own_num _ rfl (.tmp 14) (.tmp 15) 103 rfl 9 3 .i64 (string_keyed Tryz.underlying9) Tryz.underlying103 Tryz.underlying3 (HZ _) _ 6 wantD rfl M6.out (.string y) (litS y) rfl (Go.WideMaps.keyOf_string_mk Tryz.underlying9 HY.out) _ HWt.out ?_))
        go_ret
        exact ⟨rfl, keep_below (rs_keeps xy z Br Bm B) HI.out HW6.out, Spare.below HW6.out HB.out⟩
    · rw [if_neg hw] at hf
      have q1 : (wantOf y == 0) = false := beq_eq_false_iff_ne.mpr (fun h => hw (.inl h))
      have q2 : ((rest.length : Int) != wantOf y) = false := by
        have : (rest.length : Int) = wantOf y := Decidable.byContradiction (fun h => hw (.inr h))
        rw [this]
        simp
      generalize wantOf y = wn at HWt q1 q2
      clear hw
      have HZb := fun W => @Aside0.out _ (Aside0.mk (show (zeroValue 4).run Tryz.prog W = .ok (.bool false) W by kernel_rfl))
      have HSe := Aside0.mk ((seenD_ok st.seen).2 y)
      by_cases hs : isSeen st.seen y = true
      · rw [if_pos hs] at hf
        have h' := Option.some.inj hf
        simp only [Prod.mk.injEq] at h'
        obtain ⟨rfl, rfl⟩ := h'
        rw [hs] at HSe
        clear hs
        go_enter Tryz.func27, Tryz.ntmps27
        go_wp2
        go_quiet (fail)
        go_wp2_with (first | (refine wpList_insert_own _ rfl (.tmp 13) (.const (.string ⟨#[109, 101, 116, 104, 111, 100]⟩)) (.const (.int .i64 1)) 103 rfl 9 3 (string_keyed Tryz.underlying9) Tryz.underlying103 (plainElem Tryz.prog 3) _ 0 _ rfl (World.ownsMap_made _ _ _ _) (by decide) (.string ⟨#[109, 101, 116, 104, 111, 100]⟩) (.int .i64 1) (litS kMethod) rfl rfl (Go.WideMaps.keyOf_string_mk Tryz.underlying9 (by decide)) (num 1) [] (plainElem_int Tryz.underlying3 (by decide)) ?_; intro W1 ho_ hg_; have M1 := Aside0.mk ho_; have G1 := Aside0.mk hg_; clear ho_ hg_) | (refine wpList_insert_own _ rfl (.tmp 13) (.const (.string ⟨#[115, 99, 97, 108, 101]⟩)) (.const (.int .i64 1)) 103 rfl 9 3 (string_keyed Tryz.underlying9) Tryz.underlying103 (plainElem Tryz.prog 3) _ 1 _ rfl M1.out (by decide) (.string ⟨#[115, 99, 97, 108, 101]⟩) (.int .i64 1) (litS kScale) rfl rfl (Go.WideMaps.keyOf_string_mk Tryz.underlying9 (by decide)) (num 1) [] (plainElem_int Tryz.underlying3 (by decide)) ?_; intro W2 ho_ hg_; have M2 := Aside0.mk ho_; have G2 := Aside0.mk hg_; clear ho_ hg_) | (refine wpList_insert_own _ rfl (.tmp 13) (.const (.string ⟨#[108, 101, 118, 101, 108, 115]⟩)) (.const (.int .i64 1)) 103 rfl 9 3 (string_keyed Tryz.underlying9) Tryz.underlying103 (plainElem Tryz.prog 3) _ 2 _ rfl M2.out (by decide) (.string ⟨#[108, 101, 118, 101, 108, 115]⟩) (.int .i64 1) (litS kLevels) rfl rfl (Go.WideMaps.keyOf_string_mk Tryz.underlying9 (by decide)) (num 1) [] (plainElem_int Tryz.underlying3 (by decide)) ?_; intro W3 ho_ hg_; have M3 := Aside0.mk ho_; have G3 := Aside0.mk hg_; clear ho_ hg_) | (refine wpList_insert_own _ rfl (.tmp 13) (.const (.string ⟨#[99, 101, 108, 108]⟩)) (.const (.int .i64 1)) 103 rfl 9 3 (string_keyed Tryz.underlying9) Tryz.underlying103 (plainElem Tryz.prog 3) _ 3 _ rfl M3.out (by decide) (.string ⟨#[99, 101, 108, 108]⟩) (.int .i64 1) (litS kCell) rfl rfl (Go.WideMaps.keyOf_string_mk Tryz.underlying9 (by decide)) (num 1) [] (plainElem_int Tryz.underlying3 (by decide)) ?_; intro W4 ho_ hg_; have M4 := Aside0.mk ho_; have G4 := Aside0.mk hg_; clear ho_ hg_) | (refine wpList_insert_own _ rfl (.tmp 13) (.const (.string ⟨#[111, 114, 105, 103, 105, 110]⟩)) (.const (.int .i64 2)) 103 rfl 9 3 (string_keyed Tryz.underlying9) Tryz.underlying103 (plainElem Tryz.prog 3) _ 4 _ rfl M4.out (by decide) (.string ⟨#[111, 114, 105, 103, 105, 110]⟩) (.int .i64 2) (litS kOrigin) rfl rfl (Go.WideMaps.keyOf_string_mk Tryz.underlying9 (by decide)) (num 2) [] (plainElem_int Tryz.underlying3 (by decide)) ?_; intro W5 ho_ hg_; have M5 := Aside0.mk ho_; have G5 := Aside0.mk hg_; clear ho_ hg_) | (refine wpList_insert_own _ rfl (.tmp 13) (.const (.string ⟨#[115, 105, 122, 101]⟩)) (.const (.int .i64 2)) 103 rfl 9 3 (string_keyed Tryz.underlying9) Tryz.underlying103 (plainElem Tryz.prog 3) _ 5 _ rfl M5.out (by decide) (.string ⟨#[115, 105, 122, 101]⟩) (.int .i64 2) (litS kSize) rfl rfl (Go.WideMaps.keyOf_string_mk Tryz.underlying9 (by decide)) (num 2) [] (plainElem_int Tryz.underlying3 (by decide)) ?_; intro W6 ho_ hg_; have M6 := Aside0.mk ho_; have G6 := Aside0.mk hg_; clear ho_ hg_; have HW6 := Aside0.mk (below_mapped G1.out G2.out G3.out G4.out G5.out G6.out); have zc : W6.cell? ⟨Br, 10, none⟩ = some (.map (some Bm)) := blk_cell ((HW6.out.block _ (blk_lt H1.out)).trans H1.out) 10; have HM6 := Aside0.mk (own_map_move H2.out (HW6.out.block _ H2.out.lt))) | (at_lookup; refine wpList_lookup_own_num _ rfl (.tmp 14) (.tmp 15) 103 rfl 9 3 .i64 (string_keyed Tryz.underlying9) Tryz.underlying103 Tryz.underlying3 (HZ _) _ 6 wantD rfl M6.out (.string y) (litS y) rfl (Go.WideMaps.keyOf_string_mk Tryz.underlying9 HY.out) _ HWt.out ?_) | (at_lookup; refine wpList_lookup_own_bool _ rfl (.tmp 30) (.tmp 31) 68 rfl 9 4 (string_keyed Tryz.underlying9) Tryz.underlying68 Tryz.underlying4 (HZb _) Bm _ (seenD st.seen) rfl HM6.out (.string y) (litS y) rfl (Go.WideMaps.keyOf_string_mk Tryz.underlying9 HY.out) _ HSe.out ?_))
        go_ret
        exact ⟨rfl, keep_below (rs_keeps xy z Br Bm B) HI.out HW6.out, Spare.below HW6.out HB.out⟩
      · rw [if_neg hs] at hf
        have hs : isSeen st.seen y = false := by simpa using hs
        rw [hs] at HSe
        have HF := Aside0.mk hf
        clear hs hf
        go_enter Tryz.func27, Tryz.ntmps27
        go_wp2
        go_quiet (fail)
        go_wp2_with (first | (refine wpList_insert_own _ rfl (.tmp 13) (.const (.string ⟨#[109, 101, 116, 104, 111, 100]⟩)) (.const (.int .i64 1)) 103 rfl 9 3 (string_keyed Tryz.underlying9) Tryz.underlying103 (plainElem Tryz.prog 3) _ 0 _ rfl (World.ownsMap_made _ _ _ _) (by decide) (.string ⟨#[109, 101, 116, 104, 111, 100]⟩) (.int .i64 1) (litS kMethod) rfl rfl (Go.WideMaps.keyOf_string_mk Tryz.underlying9 (by decide)) (num 1) [] (plainElem_int Tryz.underlying3 (by decide)) ?_; intro W1 ho_ hg_; have M1 := Aside0.mk ho_; have G1 := Aside0.mk hg_; clear ho_ hg_) | (refine wpList_insert_own _ rfl (.tmp 13) (.const (.string ⟨#[115, 99, 97, 108, 101]⟩)) (.const (.int .i64 1)) 103 rfl 9 3 (string_keyed Tryz.underlying9) Tryz.underlying103 (plainElem Tryz.prog 3) _ 1 _ rfl M1.out (by decide) (.string ⟨#[115, 99, 97, 108, 101]⟩) (.int .i64 1) (litS kScale) rfl rfl (Go.WideMaps.keyOf_string_mk Tryz.underlying9 (by decide)) (num 1) [] (plainElem_int Tryz.underlying3 (by decide)) ?_; intro W2 ho_ hg_; have M2 := Aside0.mk ho_; have G2 := Aside0.mk hg_; clear ho_ hg_) | (refine wpList_insert_own _ rfl (.tmp 13) (.const (.string ⟨#[108, 101, 118, 101, 108, 115]⟩)) (.const (.int .i64 1)) 103 rfl 9 3 (string_keyed Tryz.underlying9) Tryz.underlying103 (plainElem Tryz.prog 3) _ 2 _ rfl M2.out (by decide) (.string ⟨#[108, 101, 118, 101, 108, 115]⟩) (.int .i64 1) (litS kLevels) rfl rfl (Go.WideMaps.keyOf_string_mk Tryz.underlying9 (by decide)) (num 1) [] (plainElem_int Tryz.underlying3 (by decide)) ?_; intro W3 ho_ hg_; have M3 := Aside0.mk ho_; have G3 := Aside0.mk hg_; clear ho_ hg_) | (refine wpList_insert_own _ rfl (.tmp 13) (.const (.string ⟨#[99, 101, 108, 108]⟩)) (.const (.int .i64 1)) 103 rfl 9 3 (string_keyed Tryz.underlying9) Tryz.underlying103 (plainElem Tryz.prog 3) _ 3 _ rfl M3.out (by decide) (.string ⟨#[99, 101, 108, 108]⟩) (.int .i64 1) (litS kCell) rfl rfl (Go.WideMaps.keyOf_string_mk Tryz.underlying9 (by decide)) (num 1) [] (plainElem_int Tryz.underlying3 (by decide)) ?_; intro W4 ho_ hg_; have M4 := Aside0.mk ho_; have G4 := Aside0.mk hg_; clear ho_ hg_) | (refine wpList_insert_own _ rfl (.tmp 13) (.const (.string ⟨#[111, 114, 105, 103, 105, 110]⟩)) (.const (.int .i64 2)) 103 rfl 9 3 (string_keyed Tryz.underlying9) Tryz.underlying103 (plainElem Tryz.prog 3) _ 4 _ rfl M4.out (by decide) (.string ⟨#[111, 114, 105, 103, 105, 110]⟩) (.int .i64 2) (litS kOrigin) rfl rfl (Go.WideMaps.keyOf_string_mk Tryz.underlying9 (by decide)) (num 2) [] (plainElem_int Tryz.underlying3 (by decide)) ?_; intro W5 ho_ hg_; have M5 := Aside0.mk ho_; have G5 := Aside0.mk hg_; clear ho_ hg_) | (refine wpList_insert_own _ rfl (.tmp 13) (.const (.string ⟨#[115, 105, 122, 101]⟩)) (.const (.int .i64 2)) 103 rfl 9 3 (string_keyed Tryz.underlying9) Tryz.underlying103 (plainElem Tryz.prog 3) _ 5 _ rfl M5.out (by decide) (.string ⟨#[115, 105, 122, 101]⟩) (.int .i64 2) (litS kSize) rfl rfl (Go.WideMaps.keyOf_string_mk Tryz.underlying9 (by decide)) (num 2) [] (plainElem_int Tryz.underlying3 (by decide)) ?_; intro W6 ho_ hg_; have M6 := Aside0.mk ho_; have G6 := Aside0.mk hg_; clear ho_ hg_; have HW6 := Aside0.mk (below_mapped G1.out G2.out G3.out G4.out G5.out G6.out); have zc : W6.cell? ⟨Br, 10, none⟩ = some (.map (some Bm)) := blk_cell ((HW6.out.block _ (blk_lt H1.out)).trans H1.out) 10; have HM6 := Aside0.mk (own_map_move H2.out (HW6.out.block _ H2.out.lt))) | (at_lookup; refine wpList_lookup_own_num _ rfl (.tmp 14) (.tmp 15) 103 rfl 9 3 .i64 (string_keyed Tryz.underlying9) Tryz.underlying103 Tryz.underlying3 (HZ _) _ 6 wantD rfl M6.out (.string y) (litS y) rfl (Go.WideMaps.keyOf_string_mk Tryz.underlying9 HY.out) _ HWt.out ?_) | (at_lookup; refine wpList_lookup_own_bool _ rfl (.tmp 30) (.tmp 31) 68 rfl 9 4 (string_keyed Tryz.underlying9) Tryz.underlying68 Tryz.underlying4 (HZb _) Bm _ (seenD st.seen) rfl HM6.out (.string y) (litS y) rfl (Go.WideMaps.keyOf_string_mk Tryz.underlying9 HY.out) _ HSe.out ?_) | (at_mapUpdate; refine wpList_mapUpdate_own _ rfl (.tmp 36) (.tmp 37) (.const (.bool true)) 68 rfl 9 4 (string_keyed Tryz.underlying9) Tryz.underlying68 (plainElem Tryz.prog 4) Bm _ (seenD st.seen) rfl HM6.out (by have := HSn.out; unfold maxLen; omega) (.string y) (.bool true) (litS y) rfl rfl (Go.WideMaps.keyOf_string_mk Tryz.underlying9 HY.out) (.lit (.bool true)) [] (plainElem_bool Tryz.underlying4 true) ?_; intro W7 ho_ hg_; have M7 := Aside0.mk ho_; have G7 := Aside0.mk hg_; clear ho_ hg_) | (go_at_call 49; refine (HV.out (fun k => ok k ∧ k < w.heap.size) _ st' y rest e A' (c - 1) W7 (Nat.le_trans HB.out (Nat.le_trans HW6.out.size G7.out.size)) (rs_seen hB2 hBm HI.out HW6.out M7.out G7.out) (fun W hW => rest_reads HR.out HW6.out G7.out o2 hW hread.out) hlen.out HF.out).mono ?_; rintro en w8 ⟨rfl, hI8, hS8⟩; have HI8 := Aside0.mk hI8; have HS8 := Aside0.mk hS8; clear hI8 hS8))
        go_ret
        exact ⟨rfl, line_inv (rs_keeps xy z Br Bm B) HW6.out G7.out HI8.out, line_spare hBm HB.out o2 HW6.out G7.out HS8.out⟩
  · cases hf
end Go.Proofs.YtknekneicecgiaaGreatDoor.M
