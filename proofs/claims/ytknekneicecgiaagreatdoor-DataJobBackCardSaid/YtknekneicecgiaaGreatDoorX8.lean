/- A literal map's insertions, and a look-up of a bool, at the operation. A job's reader: what it holds, and what it does with a line, over what a key's value does. A job's method: its word's number. What a law of package data begins with: one sample is read, and a job's wrong method is told at its line. The laws' check (fit) answers true. -/
import Derived.Test.YtknekneicecgiaaGreatDoorX0
import Derived.WalkKit
import Derived.Maps.OwnSet
import Derived.Maps.Views
import Derived.Test.YtknekneicecgiaaGreatDoorHE
import Derived.BigQuiet
import Derived.Deep.QuietTactic
import Derived.Carry
import Derived.Test.YtknekneicecgiaaGreatDoorE9
import Derived.Test.YtknekneicecgiaaGreatDoorX9
import Derived.KernelRfl
namespace Go
open Go.Maps (Keyed)
end Go
namespace Go.Proofs.YtknekneicecgiaaGreatDoor.MB
open Go Go.RowKit
open Go.Maps (Keyed)
theorem plainElem_bool_inv {H : Type} {P : Program} {e : TypeId} (he : P.underlying e = some .bool) {v : Value} {z : DataW H × List MemPlace} (h : plainElem P e v = some z) : ∃ x, v = .bool x ∧ z = (.lit (.bool x), []) := by
  unfold plainElem at h
  rw [he] at h
  cases v <;> simp at h
  exact ⟨_, rfl, h.symm⟩
/-- 'm[k]' at bools. -/
theorem wpList_lookup_own_bool {H : Type} {P : Program} (w : World) {ops : Array Oper} {rest : List Oper} {o : Oper} {a : Act} {Q : Exit → Act → World → Prop}
    (hg : o.guard = none) (m x : Operand) (t : TypeId) (hop : o.op = Op.lookup t m x false)
    (k e : TypeId) (K : Keyed P k) (ht : P.underlying t = some (.map k e)) (he : P.underlying e = some .bool) (hz : (zeroValue e).run P w = .ok (.bool false) w) (b n : Nat) (D : DataW H)
    (hm : a.eval m = .map (some b)) (hown : w.ownsMap P k (plainElem P e) b n D) (key : Value) (kl : Lit) (hx : a.eval x = key) (hkey : keyOf P k key = some kl)
    (c : Bool) (hat : D.atKey kl (.lit (.bool false)) = .lit (.bool c)) (hK : wpList P ops Q rest (a.put o.dst (.bool c)) w) :
    wpList P ops Q (o :: rest) a w := by
  refine wpList_plain hg fun K' hK' => ?_
  obtain ⟨v, ps, hrun, hv⟩ := hown.lookup K ht hz (plainElem_bool he false) hkey
  obtain ⟨c', rfl, hc⟩ := plainElem_bool_inv he hv
  rw [hat] at hc
  simp only [Prod.mk.injEq] at hc
  have hcc : c = c' := by have h := hc.1; injection h with h; injection h
  subst hcc
  unfold Oper.wp
  simp [execOp, hop, hm, hx, hrun, Result.andThen]
  exact hK' _ _ hK
/-- 'm[k]' at ints, where the number is known. -/
theorem wpList_lookup_own_num {H : Type} {P : Program} (w : World) {ops : Array Oper} {rest : List Oper} {o : Oper} {a : Act} {Q : Exit → Act → World → Prop}
    (hg : o.guard = none) (m x : Operand) (t : TypeId) (hop : o.op = Op.lookup t m x false)
    (k e : TypeId) (q : IntKind) (K : Keyed P k) (ht : P.underlying t = some (.map k e)) (he : P.underlying e = some (.int q)) (hz : (zeroValue e).run P w = .ok (.int q 0) w) (b n : Nat) (D : DataW H)
    (hm : a.eval m = .map (some b)) (hown : w.ownsMap P k (plainElem P e) b n D) (key : Value) (kl : Lit) (hx : a.eval x = key) (hkey : keyOf P k key = some kl)
    (c : Int) (hat : D.atKey kl (.lit (.int q 0)) = .lit (.int q c)) (hK : wpList P ops Q rest (a.put o.dst (.int q c)) w) :
    wpList P ops Q (o :: rest) a w :=
  wpList_lookup_own_int w hg m x t hop k e q K ht he hz b n D hm hown key kl hx hkey (fun c' h _ => by
    rw [hat] at h
    injection h with h
    injection h with _ h
    subst h
    exact hK)
/-- A literal's entry. -/
theorem wpList_insert_own {H : Type} {P : Program} (w : World) {ops : Array Oper} {rest : List Oper} {o : Oper} {a : Act} {Q : Exit → Act → World → Prop}
    (hg : o.guard = none) (m x v : Operand) (t : TypeId) (hop : o.op = Op.insert t m x v)
    (k e : TypeId) (K : Keyed P k) (ht : P.underlying t = some (.map k e)) (R : Value → Option (DataW H × List MemPlace)) (b n : Nat) (D : DataW H)
    (hm : a.eval m = .map (some b)) (hown : w.ownsMap P k R b n D) (hn : n < maxLen) (key val : Value) (kl : Lit) (hx : a.eval x = key) (hv : a.eval v = val) (hkey : keyOf P k key = some kl)
    (d : DataW H) (ps : List MemPlace) (hval : R val = some (d, ps))
    (hK : ∀ w', w'.ownsMap P k R b (n + 1) (D.put kl d) → w.grownBy w' (some b) → wpList P ops Q rest (a.put o.dst undef) w') :
    wpList P ops Q (o :: rest) a w := by
  refine wpList_plain hg fun K' hK' => ?_
  obtain ⟨w', hrun, r1, r2⟩ := hown.update K ht hn hkey hval
  unfold Oper.wp
  simp [execOp, hop, hm, hx, hv, hrun, Result.andThen]
  exact hK' _ _ (hK w' r1 r2)
end Go.Proofs.YtknekneicecgiaaGreatDoor.MB
namespace Go.Proofs.YtknekneicecgiaaGreatDoor.M
open Go.RowKit Go.Lib Go.Proofs.YtknekneicecgiaaGreatDoorW.PrintWords Go.Proofs.YtknekneicecgiaaGreatDoorW.PrintLast Go.Proofs.YtknekneicecgiaaGreatDoor.MB
open Go.Maps (Keyed string_keyed)
set_option linter.unusedVariables false
set_option linter.unusedSimpArgs false
structure RS where
  m : Int
  s : Int
  lv : List Int
  gx : Int
  gy : Int
  gc : Int
  gcols : Int
  grows : Int
  seen : List ByteArray
def litS (s : ByteArray) : Lit := .string s.data.toList
def kMethod : ByteArray := ⟨#[109, 101, 116, 104, 111, 100]⟩
def kScale : ByteArray := ⟨#[115, 99, 97, 108, 101]⟩
def kLevels : ByteArray := ⟨#[108, 101, 118, 101, 108, 115]⟩
def kCell : ByteArray := ⟨#[99, 101, 108, 108]⟩
def kOrigin : ByteArray := ⟨#[111, 114, 105, 103, 105, 110]⟩
def kSize : ByteArray := ⟨#[115, 105, 122, 101]⟩
def num (n : Int) : DataW Unit := .lit (.int .i64 n)
def wantD : DataW Unit := ((((((DataW.map []).put (litS kMethod) (num 1)).put (litS kScale) (num 1)).put (litS kLevels) (num 1)).put (litS kCell) (num 1)).put (litS kOrigin) (num 2)).put (litS kSize) (num 2)
def wantOf (k : ByteArray) : Int :=
  if k.data.toList = kSize.data.toList then 2 else if k.data.toList = kOrigin.data.toList then 2 else if k.data.toList = kCell.data.toList then 1 else if k.data.toList = kLevels.data.toList then 1 else if k.data.toList = kScale.data.toList then 1 else if k.data.toList = kMethod.data.toList then 1 else 0
theorem isMap_put {D : DataW Unit} (h : Maps.IsMap D) (k : Lit) (d : DataW Unit) : Maps.IsMap (D.put k d) := h.put k d
theorem at_put {D : DataW Unit} (hD : Maps.IsMap D) (k c : ByteArray) (d z : DataW Unit) : (D.put (litS c) d).atKey (litS k) z = if k.data.toList = c.data.toList then d else D.atKey (litS k) z := by
  by_cases h : k.data.toList = c.data.toList
  · rw [if_pos h, show litS k = litS c from by unfold litS; rw [h]]
    exact Maps.atKey_put_same hD (by unfold litS; trivial) d z
  · rw [if_neg h]
    exact Maps.atKey_put_other (fun e => h (by unfold litS at e; injection e)) d z
theorem want_at (k : ByteArray) : wantD.atKey (litS k) (num 0) = num (wantOf k) := by
  have i0 : Maps.IsMap (DataW.map [] : DataW Unit) := Maps.isMap_empty
  unfold wantD
  rw [at_put (by repeat (first | exact i0 | apply isMap_put)), at_put (by repeat (first | exact i0 | apply isMap_put)), at_put (by repeat (first | exact i0 | apply isMap_put)), at_put (by repeat (first | exact i0 | apply isMap_put)), at_put (by repeat (first | exact i0 | apply isMap_put)), at_put i0]
  unfold wantOf
  repeat (split; rfl)
  rfl
def seenD (l : List ByteArray) : DataW Unit := l.foldl (fun D k => D.put (litS k) (.lit (.bool true))) (.map [])
def isSeen (l : List ByteArray) (k : ByteArray) : Bool := l.any fun y => decide (k.data.toList = y.data.toList)
theorem seenD_snoc (l : List ByteArray) (k : ByteArray) : seenD (l ++ [k]) = (seenD l).put (litS k) (.lit (.bool true)) := by simp [seenD]
theorem snoc_ind2 {α : Type} {P : List α → Prop} (h0 : P []) (h1 : ∀ l c, P l → P (l ++ [c])) (l : List α) : P l := by
  have : ∀ r : List α, P r.reverse := fun r => by
    induction r with
    | nil => simpa using h0
    | cons c r ih => simpa using h1 _ c ih
  simpa using this l.reverse
theorem seenD_ok (l : List ByteArray) : Maps.IsMap (seenD l) ∧ ∀ k, (seenD l).atKey (litS k) (.lit (.bool false)) = .lit (.bool (isSeen l k)) := by
  induction l using snoc_ind2 with
  | h0 => exact ⟨Maps.isMap_empty, fun k => rfl⟩
  | h1 l c ih =>
    rw [seenD_snoc]
    refine ⟨ih.1.put _ _, fun k => ?_⟩
    rw [at_put ih.1, isSeen, List.any_append]
    by_cases h : k.data.toList = c.data.toList
    · simp [h]
    · rw [if_neg h, ih.2 k]
      simp only [List.any_cons, List.any_nil, Bool.or_false, decide_eq_false h]
      rfl
def RSInv (xy z : Int) (Br Bm B : Nat) (ok : Nat → Prop) (st : RS) (w : World) : Prop :=
  ∃ vl, w.heap[Br]? = some (.cells #[.int .i64 st.m, .int .i64 st.s, vl, .int .i64 st.gx, .int .i64 st.gy, .int .i64 st.gc, .int .i64 st.gcols, .int .i64 st.grows, .int .i64 xy, .int .i64 z, .map (some Bm)] 70 (0, 0)) ∧
    w.ownsMap Tryz.prog 9 (plainElem Tryz.prog 4) Bm st.seen.length (seenD st.seen) ∧ (ok Br ∧ ok Bm ∧ ok 2 ∧ ok 0) ∧ TabW w ∧ Kd.R (Kd.int .i64) 3 w B ok vl st.lv
theorem own_map_move {w w1 : World} {P : Program} {k b n : Nat} {R : Value → Option (DataW Unit × List MemPlace)} {D : DataW Unit} (h : w.ownsMap P k R b n D) (hm : w1.heap[b]? = w.heap[b]?) : w1.ownsMap P k R b n D := by
  obtain ⟨es, clock, hb, r⟩ := h
  exact ⟨es, clock, hm.trans hb, r⟩
theorem rs_keeps (xy z : Int) (Br Bm B : Nat) : Keeps (RSInv xy z Br Bm B) where
  mono := by
    rintro ok ok' st w ⟨v, h1, h2, ⟨o1, o2, o3, o4⟩, hT, hR⟩ h
    exact ⟨v, h1, h2, ⟨h _ o1, h _ o2, h _ o3, h _ o4⟩, hT, Kd.R_mono hR h⟩
  bound := by
    rintro ok st w ⟨v, h1, h2, ⟨o1, o2, o3, o4⟩, hT, hR⟩
    exact ⟨v, h1, h2, ⟨⟨o1, blk_lt h1⟩, ⟨o2, h2.lt⟩, ⟨o3, hT.2.1⟩, ⟨o4, Nat.lt_of_le_of_lt (Nat.zero_le _) hT.2.1⟩⟩, hT, Kd.R_mono (Kd.R_bound hR) (fun k hk => ⟨hk.1, hk.2.2.1⟩)⟩
  step := by
    rintro ok st w w1 ⟨v, h1, h2, ⟨o1, o2, o3, o4⟩, hT, hR⟩ hs h
    exact ⟨v, (h _ o1 (blk_lt h1)).trans h1, own_map_move h2 (h _ o2 h2.lt), ⟨o1, o2, o3, o4⟩, tab_move hT hs (h _ o3 hT.2.1) (h _ o4 (Nat.lt_of_le_of_lt (Nat.zero_le _) hT.2.1)), Kd.R_step hR h⟩
/-- What a key's value does. -/
def ValueOk (P : Program) (f : Nat) (vf : RS → ByteArray → List ByteArray → Option (RS × Int)) (xy z : Int) (Br Bm B : Nat) : Prop :=
  ∀ (ok : Nat → Prop) (st st' : RS) (key : ByteArray) (l : List ByteArray) (e : Int) (A : Option Addr) (c : Nat) (w : World), B ≤ w.heap.size → RSInv xy z Br Bm B ok st w →
    (∀ W : World, (∀ k, k < w.heap.size → ¬ ok k → W.heap[k]? = w.heap[k]?) → Kd.C Kd.string W A l.length l) → l.length ≤ c → vf st key l = some (st', e) →
    Calls P f #[.pointer (some ⟨Br, 0, none⟩), .string key, .slice A l.length c] w fun en w' => en = .returned (.int .i64 e) ∧ RSInv xy z Br Bm B (fun k => ok k ∨ w.heap.size ≤ k) st' w' ∧ Spare ok B w w'
def lineF (vf : RS → ByteArray → List ByteArray → Option (RS × Int)) (st : RS) (l : List ByteArray) : Option (RS × Int) :=
  if (l.headD ⟨#[]⟩).size ≤ 1000000 ∧ st.seen.length ≤ 1000000 then
    (if wantOf (l.headD ⟨#[]⟩) = 0 ∨ ¬ ((l.drop 1).length : Int) = wantOf (l.headD ⟨#[]⟩) then some (st, 1)
    else if isSeen st.seen (l.headD ⟨#[]⟩) = true then some (st, 6)
    else vf { st with seen := st.seen ++ [l.headD ⟨#[]⟩] } (l.headD ⟨#[]⟩) (l.drop 1))
  else none
theorem below_mapped {w W1 W2 W3 W4 W5 W6 : World} {n : Nat} (g1 : ((w.drewN n).alloc (.map #[] 0)).grownBy W1 (some w.heap.size)) (g2 : W1.grownBy W2 (some w.heap.size)) (g3 : W2.grownBy W3 (some w.heap.size)) (g4 : W3.grownBy W4 (some w.heap.size)) (g5 : W4.grownBy W5 (some w.heap.size)) (g6 : W5.grownBy W6 (some w.heap.size)) : Below w.heap.size w W6 := by
  have hr : ∀ k, some w.heap.size = some k → w.heap.size ≤ k := fun k hk => by cases hk; exact Nat.le_refl _
  have b0 := below_alloc (pw_below_drewN (Below.refl w.heap.size w) n) (.map #[] 0)
  have b1 := b0.grown g1 b0.size hr
  have b2 := b1.grown g2 b1.size hr
  have b3 := b2.grown g3 b2.size hr
  have b4 := b3.grown g4 b3.size hr
  have b5 := b4.grown g5 b4.size hr
  exact b5.grown g6 b5.size hr
theorem keep_below {σ : Type} {Inv : (Nat → Prop) → σ → World → Prop} (hk : Keeps Inv) {ok : Nat → Prop} {st : σ} {w w2 : World} (hI : Inv ok st w) (hb : Below w.heap.size w w2) : Inv (fun k => ok k ∨ w.heap.size ≤ k) st w2 :=
  hk.mono (hk.step hI hb.size (fun k _ hk => hb.block k hk)) (fun k hk => .inl hk)
theorem rs_seen {xy z : Int} {Br Bm B : Nat} {ok : Nat → Prop} {st : RS} {w W6 W7 : World} {y : ByteArray} (hB2 : 2 < B) (hBm : B ≤ Bm) (hI : RSInv xy z Br Bm B ok st w) (hb : Below w.heap.size w W6)
    (hM : W7.ownsMap Tryz.prog 9 (plainElem Tryz.prog 4) Bm (st.seen.length + 1) ((seenD st.seen).put (litS y) (.lit (.bool true)))) (hg : W6.grownBy W7 (some Bm)) : RSInv xy z Br Bm B (fun k => ok k ∧ k < w.heap.size) { st with seen := st.seen ++ [y] } W7 := by
  obtain ⟨vl, h1, h2, ⟨o1, o2, o3, o4⟩, hT, hR⟩ := hI
  have hmap : ∃ es clock, w.heap[Bm]? = some (.map es clock) := by obtain ⟨es, clock, h, _⟩ := h2; exact ⟨es, clock, h⟩
  obtain ⟨es, clock, hmap⟩ := hmap
  have hfar : ∀ k, k < w.heap.size → k ≠ Bm → W7.heap[k]? = w.heap[k]? := fun k hk hn => (hg.block k (Nat.lt_of_lt_of_le hk hb.size) (fun h => hn (Option.some.inj h))).trans (hb.block k hk)
  have hcells : ∀ k cs t, w.heap[k]? = some (.cells cs t (0, 0)) → k ≠ Bm := fun k cs t h e => by rw [e, hmap] at h; cases h
  have hs := Nat.le_trans hb.size hg.size
  have hT2 := hT.2.1
  refine ⟨vl, (hfar _ (blk_lt h1) (hcells _ _ _ h1)).trans h1, ?_, ⟨⟨o1, blk_lt h1⟩, ⟨o2, h2.lt⟩, ⟨o3, hT2⟩, ⟨o4, by omega⟩⟩, tab_move hT hs (hfar _ hT2 (by omega)) (hfar _ (by omega) (by omega)), ?_⟩
  · have h3 := hM
    rw [← seenD_snoc] at h3
    rw [List.length_append, List.length_singleton]
    exact h3
  · refine Kd.R_mono (Kd.R_move (Kd.R_bound hR) (fun k hk => ?_)) (fun k hk => ⟨hk.1, hk.2.2.1⟩)
    obtain ⟨_, _, hlt, q, _, cells, hc⟩ := hk
    exact hfar k hlt (hcells _ _ _ hc)
theorem rest_reads {ok : Nat → Prop} {w W6 W7 W : World} {Bm c : Nat} {A A' : Option Addr} {l rest : List ByteArray} (hR : Kd.R Kd.string 9 w 0 (fun k => ¬ ok k) (.slice A l.length c) l) (hb : Below w.heap.size w W6) (hg : W6.grownBy W7 (some Bm)) (o2 : ok Bm)
    (hW : ∀ k, k < W7.heap.size → ¬ (ok k ∧ k < w.heap.size) → W.heap[k]? = W7.heap[k]?) (hread : ∀ w : World, ReadsOf Value.string (⟨#[]⟩ : ByteArray) w A l.length l → ReadsOf Value.string (⟨#[]⟩ : ByteArray) w A' rest.length rest) : Kd.C Kd.string W A' rest.length rest := by
  have hs := Nat.le_trans hb.size hg.size
  have h1 : Kd.R Kd.string 9 W 0 (fun k => ¬ ok k) (.slice A l.length c) l := Kd.R_step hR (fun k hk hlt => (hW k (by omega) (fun h => hk h.1)).trans ((hg.block k (Nat.lt_of_lt_of_le hlt hb.size) (fun h => hk (by rw [Option.some.inj h]; exact o2))).trans (hb.block k hlt)))
  exact Kd.C_of_reads (hread W (Kd.reads_of_C (Kd.R_reads' h1).2.2))
theorem line_inv {σ : Type} {Inv : (Nat → Prop) → σ → World → Prop} (hk : Keeps Inv) {ok : Nat → Prop} {st : σ} {w W6 W7 w8 : World} {Bm : Nat} (hb : Below w.heap.size w W6) (hg : W6.grownBy W7 (some Bm)) (hI : Inv (fun k => (ok k ∧ k < w.heap.size) ∨ W7.heap.size ≤ k) st w8) : Inv (fun k => ok k ∨ w.heap.size ≤ k) st w8 :=
  hk.mono hI (fun k hk => by
    rcases hk with hk | hk
    · exact .inl hk.1
    · exact .inr (Nat.le_trans (Nat.le_trans hb.size hg.size) hk))
theorem line_spare {ok : Nat → Prop} {B Bm : Nat} {w W6 W7 w8 : World} (hBm : B ≤ Bm) (hB : B ≤ w.heap.size) (o2 : ok Bm) (hb : Below w.heap.size w W6) (hg : W6.grownBy W7 (some Bm)) (hS : Spare (fun k => ok k ∧ k < w.heap.size) B W7 w8) : Spare ok B w w8 := by
  have h1 : Spare ok B w W7 := ⟨(hb.mono hB).grown hg (Nat.le_trans hB hb.size) (fun k hk => by cases hk; exact hBm), Nat.le_trans hb.size hg.size, fun k hk hn => (hg.block k (Nat.lt_of_lt_of_le hk hb.size) (fun h => hn (by rw [Option.some.inj h]; exact o2))).trans (hb.block k hk)⟩
  exact h1.trans hS (fun k _ h => h.1)
set_option maxHeartbeats 8000000 in
set_option maxRecDepth 100000 in
theorem line_steps (vf : RS → ByteArray → List ByteArray → Option (RS × Int)) (xy z : Int) (Br Bm B : Nat) (hB2 : 2 < B) (hBm : B ≤ Bm) (hv : ValueOk Tryz.prog 49 vf xy z Br Bm B) : Steps Tryz.prog 27 #[.pointer (some ⟨Br, 0, none⟩)] #[] (lineF vf) (RSInv xy z Br Bm B) B := by
  intro ok st st' l e v w hB hI hR hne hf
  have HI := Aside0.mk hI
  have HV := Aside0.mk hv
  obtain ⟨vl, h1, h2, ⟨o1, o2, o3, o4⟩, hT, hRl⟩ := hI
  have HR := Aside0.mk hR
  obtain ⟨A, c, rfl, hc, hC⟩ := Kd.R_reads hR
  have hpos : 0 < l.length := List.length_pos_iff.mpr hne
  obtain ⟨b, o, rfl, hcell⟩ := C_cells hC hpos
  have hkey := hcell 0 (l.headD ⟨#[]⟩) (by cases l with
    | nil => exact absurd rfl hne
    | cons x t => rfl)
  rw [Nat.add_zero] at hkey
  obtain ⟨i9, hi9, hz0, hz1, hz2⟩ := info_parts (show (Tryz.prog.info? 9).map (fun i => (i.zero, i.size, i.bytes)) = some (some (.string ⟨#[]⟩), 1, 16) by kernel_rfl)
  obtain ⟨A', hcut, hread, hlen⟩ := print_drop_of (P := Tryz.prog) Value.string (⟨#[]⟩ : ByteArray) 29 9 .i64 Tryz.underlying29 hi9 hz1 (some ⟨b, o, none⟩) c l 1 (by decide) (by omega) hc
  show Calls Tryz.prog 27 #[.pointer (some ⟨Br, 0, none⟩), .slice (some ⟨b, o, none⟩) l.length c] w _
  have hcut : ∀ W : World, (Instr.slice 29 (.slice (some ⟨b, o, none⟩) l.length c) (some (.int .i64 1)) none none).run Tryz.prog W = .ok (.slice A' (l.drop 1).length (c - 1)) W := hcut
  have hread := Aside0.mk (show ∀ w : World, ReadsOf Value.string (⟨#[]⟩ : ByteArray) w (some ⟨b, o, none⟩) l.length l → ReadsOf Value.string (⟨#[]⟩ : ByteArray) w A' (l.drop 1).length (l.drop 1) from hread)
  have hlen := Aside0.mk (show (l.drop 1).length ≤ c - 1 from hlen)
  have hposn : (0 : Int) < (l.length : Int) := by omega
  unfold lineF at hf
  split at hf
  · rename_i hy
    have HZ := fun W => @Aside0.out _ (Aside0.mk (show (zeroValue 3).run Tryz.prog W = .ok (.int .i64 0) W by kernel_rfl))
    generalize l.headD ⟨#[]⟩ = y at hf hy hkey
    generalize hrest : l.drop 1 = rest at hf hcut hread hlen
    have HY : Aside0 (y.size ≤ maxLen) := ⟨by have := hy.1; unfold maxLen; omega⟩
    have HSn := Aside0.mk hy.2
    have HWt := Aside0.mk (want_at y)
    have HB := Aside0.mk hB
    have H1 := Aside0.mk h1
    have H2 := Aside0.mk h2
    have HT := Aside0.mk hT
    have HRl := Aside0.mk hRl
    have hmm := @run_makeMap Tryz.prog
    have hl0 : 0 < l.length := hpos
    clear hy hR hC hcell hne hi9 hz0 hz1 hz2 hB hv h1 h2 hT hRl hc
    by_cases hw : wantOf y = 0 ∨ ¬ (rest.length : Int) = wantOf y
    · rw [if_pos hw] at hf
      have h' := Option.some.inj hf
      simp only [Prod.mk.injEq] at h'
      obtain ⟨rfl, rfl⟩ := h'
      generalize wantOf y = wn at HWt hw
      have hq : ∃ b1 b2 : Bool, (wn == 0) = b1 ∧ ((rest.length : Int) != wn) = b2 ∧ (b1 || b2) = true := by
        refine ⟨_, _, rfl, rfl, ?_⟩
        rcases hw with hw | hw
        · rw [beq_iff_eq.mpr hw, Bool.true_or]
        · rw [bne_iff_ne.mpr hw, Bool.or_true]
      clear hw
      obtain ⟨b1, b2, q1, q2, q3⟩ := hq
      cases b1 <;> cases b2 <;> simp only [Bool.or_true, Bool.true_or, Bool.or_false, reduceCtorEq] at q3
      all_goals
        go_enter Tryz.func27, Tryz.ntmps27
        go_wp2
        go_quiet (fail)
        go_wp2_with (first | (refine wpList_insert_own _ rfl (.tmp 13) (.const (.string ⟨#[109, 101, 116, 104, 111, 100]⟩)) (.const (.int .i64 1)) 103 rfl 9 3 (string_keyed Tryz.underlying9) Tryz.underlying103 (plainElem Tryz.prog 3) _ 0 _ rfl (World.ownsMap_made _ _ _ _) (by decide) (.string ⟨#[109, 101, 116, 104, 111, 100]⟩) (.int .i64 1) (litS kMethod) rfl rfl (Go.WideMaps.keyOf_string_mk Tryz.underlying9 (by decide)) (num 1) [] (plainElem_int Tryz.underlying3 (by decide)) ?_; intro W1 ho_ hg_; have M1 := Aside0.mk ho_; have G1 := Aside0.mk hg_; clear ho_ hg_) | (refine wpList_insert_own _ rfl (.tmp 13) (.const (.string ⟨#[115, 99, 97, 108, 101]⟩)) (.const (.int .i64 1)) 103 rfl 9 3 (string_keyed Tryz.underlying9) Tryz.underlying103 (plainElem Tryz.prog 3) _ 1 _ rfl M1.out (by decide) (.string ⟨#[115, 99, 97, 108, 101]⟩) (.int .i64 1) (litS kScale) rfl rfl (Go.WideMaps.keyOf_string_mk Tryz.underlying9 (by decide)) (num 1) [] (plainElem_int Tryz.underlying3 (by decide)) ?_; intro W2 ho_ hg_; have M2 := Aside0.mk ho_; have G2 := Aside0.mk hg_; clear ho_ hg_) | (refine wpList_insert_own _ rfl (.tmp 13) (.const (.string ⟨#[108, 101, 118, 101, 108, 115]⟩)) (.const (.int .i64 1)) 103 rfl 9 3 (string_keyed Tryz.underlying9) Tryz.underlying103 (plainElem Tryz.prog 3) _ 2 _ rfl M2.out (by decide) (.string ⟨#[108, 101, 118, 101, 108, 115]⟩) (.int .i64 1) (litS kLevels) rfl rfl (Go.WideMaps.keyOf_string_mk Tryz.underlying9 (by decide)) (num 1) [] (plainElem_int Tryz.underlying3 (by decide)) ?_; intro W3 ho_ hg_; have M3 := Aside0.mk ho_; have G3 := Aside0.mk hg_; clear ho_ hg_) | (refine wpList_insert_own _ rfl (.tmp 13) (.const (.string ⟨#[99, 101, 108, 108]⟩)) (.const (.int .i64 1)) 103 rfl 9 3 (string_keyed Tryz.underlying9) Tryz.underlying103 (plainElem Tryz.prog 3) _ 3 _ rfl M3.out (by decide) (.string ⟨#[99, 101, 108, 108]⟩) (.int .i64 1) (litS kCell) rfl rfl (Go.WideMaps.keyOf_string_mk Tryz.underlying9 (by decide)) (num 1) [] (plainElem_int Tryz.underlying3 (by decide)) ?_; intro W4 ho_ hg_; have M4 := Aside0.mk ho_; have G4 := Aside0.mk hg_; clear ho_ hg_) | (refine wpList_insert_own _ rfl (.tmp 13) (.const (.string ⟨#[111, 114, 105, 103, 105, 110]⟩)) (.const (.int .i64 2)) 103 rfl 9 3 (string_keyed Tryz.underlying9) Tryz.underlying103 (plainElem Tryz.prog 3) _ 4 _ rfl M4.out (by decide) (.string ⟨#[111, 114, 105, 103, 105, 110]⟩) (.int .i64 2) (litS kOrigin) rfl rfl (Go.WideMaps.keyOf_string_mk Tryz.underlying9 (by decide)) (num 2) [] (plainElem_int Tryz.underlying3 (by decide)) ?_; intro W5 ho_ hg_; have M5 := Aside0.mk ho_; have G5 := Aside0.mk hg_; clear ho_ hg_) | (refine wpList_insert_own _ rfl (.tmp 13) (.const (.string ⟨#[115, 105, 122, 101]⟩)) (.const (.int .i64 2)) 103 rfl 9 3 (string_keyed Tryz.underlying9) Tryz.underlying103 (plainElem Tryz.prog 3) _ 5 _ rfl M5.out (by decide) (.string ⟨#[115, 105, 122, 101]⟩) (.int .i64 2) (litS kSize) rfl rfl (Go.WideMaps.keyOf_string_mk Tryz.underlying9 (by decide)) (num 2) [] (plainElem_int Tryz.underlying3 (by decide)) ?_; intro W6 ho_ hg_; have M6 := Aside0.mk ho_; have G6 := Aside0.mk hg_; clear ho_ hg_; have HW6 := Aside0.mk (below_mapped G1.out G2.out G3.out G4.out G5.out G6.out); have zc : W6.cell? ⟨Br, 10, none⟩ = some (.map (some Bm)) := blk_cell ((HW6.out.block _ (blk_lt H1.out)).trans H1.out) 10; have HM6 := Aside0.mk (own_map_move H2.out (HW6.out.block _ H2.out.lt))) | (at_lookup; refine wpList_lookup_own_num _ rfl (.tmp 14) (.tmp 15) 103 rfl 9 3 .i64 (string_keyed Tryz.underlying9) Tryz.underlying103 Tryz.underlying3 (HZ _) _ 6 wantD rfl M6.out (.string y) (litS y) rfl (Go.WideMaps.keyOf_string_mk Tryz.underlying9 HY.out) _ HWt.out ?_))
        go_ret
        exact ⟨rfl, keep_below (rs_keeps xy z Br Bm B) HI.out HW6.out, Spare.below HW6.out HB.out⟩
    · rw [if_neg hw] at hf
      have q1 : (wantOf y == 0) = false := beq_eq_false_iff_ne.mpr (fun h => hw (.inl h))
      have q2 : ((rest.length : Int) != wantOf y) = false := by
        have : (rest.length : Int) = wantOf y := Decidable.byContradiction (fun h => hw (.inr h))
        rw [this]
        simp
      generalize wantOf y = wn at HWt q1 q2
      clear hw
      have HZb := fun W => @Aside0.out _ (Aside0.mk (show (zeroValue 4).run Tryz.prog W = .ok (.bool false) W by kernel_rfl))
      have HSe := Aside0.mk ((seenD_ok st.seen).2 y)
      by_cases hs : isSeen st.seen y = true
      · rw [if_pos hs] at hf
        have h' := Option.some.inj hf
        simp only [Prod.mk.injEq] at h'
        obtain ⟨rfl, rfl⟩ := h'
        rw [hs] at HSe
        clear hs
        go_enter Tryz.func27, Tryz.ntmps27
        go_wp2
        go_quiet (fail)
        go_wp2_with (first | (refine wpList_insert_own _ rfl (.tmp 13) (.const (.string ⟨#[109, 101, 116, 104, 111, 100]⟩)) (.const (.int .i64 1)) 103 rfl 9 3 (string_keyed Tryz.underlying9) Tryz.underlying103 (plainElem Tryz.prog 3) _ 0 _ rfl (World.ownsMap_made _ _ _ _) (by decide) (.string ⟨#[109, 101, 116, 104, 111, 100]⟩) (.int .i64 1) (litS kMethod) rfl rfl (Go.WideMaps.keyOf_string_mk Tryz.underlying9 (by decide)) (num 1) [] (plainElem_int Tryz.underlying3 (by decide)) ?_; intro W1 ho_ hg_; have M1 := Aside0.mk ho_; have G1 := Aside0.mk hg_; clear ho_ hg_) | (refine wpList_insert_own _ rfl (.tmp 13) (.const (.string ⟨#[115, 99, 97, 108, 101]⟩)) (.const (.int .i64 1)) 103 rfl 9 3 (string_keyed Tryz.underlying9) Tryz.underlying103 (plainElem Tryz.prog 3) _ 1 _ rfl M1.out (by decide) (.string ⟨#[115, 99, 97, 108, 101]⟩) (.int .i64 1) (litS kScale) rfl rfl (Go.WideMaps.keyOf_string_mk Tryz.underlying9 (by decide)) (num 1) [] (plainElem_int Tryz.underlying3 (by decide)) ?_; intro W2 ho_ hg_; have M2 := Aside0.mk ho_; have G2 := Aside0.mk hg_; clear ho_ hg_) | (refine wpList_insert_own _ rfl (.tmp 13) (.const (.string ⟨#[108, 101, 118, 101, 108, 115]⟩)) (.const (.int .i64 1)) 103 rfl 9 3 (string_keyed Tryz.underlying9) Tryz.underlying103 (plainElem Tryz.prog 3) _ 2 _ rfl M2.out (by decide) (.string ⟨#[108, 101, 118, 101, 108, 115]⟩) (.int .i64 1) (litS kLevels) rfl rfl (Go.WideMaps.keyOf_string_mk Tryz.underlying9 (by decide)) (num 1) [] (plainElem_int Tryz.underlying3 (by decide)) ?_; intro W3 ho_ hg_; have M3 := Aside0.mk ho_; have G3 := Aside0.mk hg_; clear ho_ hg_) | (refine wpList_insert_own _ rfl (.tmp 13) (.const (.string ⟨#[99, 101, 108, 108]⟩)) (.const (.int .i64 1)) 103 rfl 9 3 (string_keyed Tryz.underlying9) Tryz.underlying103 (plainElem Tryz.prog 3) _ 3 _ rfl M3.out (by decide) (.string ⟨#[99, 101, 108, 108]⟩) (.int .i64 1) (litS kCell) rfl rfl (Go.WideMaps.keyOf_string_mk Tryz.underlying9 (by decide)) (num 1) [] (plainElem_int Tryz.underlying3 (by decide)) ?_; intro W4 ho_ hg_; have M4 := Aside0.mk ho_; have G4 := Aside0.mk hg_; clear ho_ hg_) | (refine wpList_insert_own _ rfl (.tmp 13) (.const (.string ⟨#[111, 114, 105, 103, 105, 110]⟩)) (.const (.int .i64 2)) 103 rfl 9 3 (string_keyed Tryz.underlying9) Tryz.underlying103 (plainElem Tryz.prog 3) _ 4 _ rfl M4.out (by decide) (.string ⟨#[111, 114, 105, 103, 105, 110]⟩) (.int .i64 2) (litS kOrigin) rfl rfl (Go.WideMaps.keyOf_string_mk Tryz.underlying9 (by decide)) (num 2) [] (plainElem_int Tryz.underlying3 (by decide)) ?_; intro W5 ho_ hg_; have M5 := Aside0.mk ho_; have G5 := Aside0.mk hg_; clear ho_ hg_) | (refine wpList_insert_own _ rfl (.tmp 13) (.const (.string ⟨#[115, 105, 122, 101]⟩)) (.const (.int .i64 2)) 103 rfl 9 3 (string_keyed Tryz.underlying9) Tryz.underlying103 (plainElem Tryz.prog 3) _ 5 _ rfl M5.out (by decide) (.string ⟨#[115, 105, 122, 101]⟩) (.int .i64 2) (litS kSize) rfl rfl (Go.WideMaps.keyOf_string_mk Tryz.underlying9 (by decide)) (num 2) [] (plainElem_int Tryz.underlying3 (by decide)) ?_; intro W6 ho_ hg_; have M6 := Aside0.mk ho_; have G6 := Aside0.mk hg_; clear ho_ hg_; have HW6 := Aside0.mk (below_mapped G1.out G2.out G3.out G4.out G5.out G6.out); have zc : W6.cell? ⟨Br, 10, none⟩ = some (.map (some Bm)) := blk_cell ((HW6.out.block _ (blk_lt H1.out)).trans H1.out) 10; have HM6 := Aside0.mk (own_map_move H2.out (HW6.out.block _ H2.out.lt))) | (at_lookup; refine wpList_lookup_own_num _ rfl (.tmp 14) (.tmp 15) 103 rfl 9 3 .i64 (string_keyed Tryz.underlying9) Tryz.underlying103 Tryz.underlying3 (HZ _) _ 6 wantD rfl M6.out (.string y) (litS y) rfl (Go.WideMaps.keyOf_string_mk Tryz.underlying9 HY.out) _ HWt.out ?_) | (at_lookup; refine wpList_lookup_own_bool _ rfl (.tmp 30) (.tmp 31) 68 rfl 9 4 (string_keyed Tryz.underlying9) Tryz.underlying68 Tryz.underlying4 (HZb _) Bm _ (seenD st.seen) rfl HM6.out (.string y) (litS y) rfl (Go.WideMaps.keyOf_string_mk Tryz.underlying9 HY.out) _ HSe.out ?_))
        go_ret
        exact ⟨rfl, keep_below (rs_keeps xy z Br Bm B) HI.out HW6.out, Spare.below HW6.out HB.out⟩
      · rw [if_neg hs] at hf
        have hs : isSeen st.seen y = false := by simpa using hs
        rw [hs] at HSe
        have HF := Aside0.mk hf
        clear hs hf
        go_enter Tryz.func27, Tryz.ntmps27
        go_wp2
        go_quiet (fail)
        go_wp2_with (first | (refine wpList_insert_own _ rfl (.tmp 13) (.const (.string ⟨#[109, 101, 116, 104, 111, 100]⟩)) (.const (.int .i64 1)) 103 rfl 9 3 (string_keyed Tryz.underlying9) Tryz.underlying103 (plainElem Tryz.prog 3) _ 0 _ rfl (World.ownsMap_made _ _ _ _) (by decide) (.string ⟨#[109, 101, 116, 104, 111, 100]⟩) (.int .i64 1) (litS kMethod) rfl rfl (Go.WideMaps.keyOf_string_mk Tryz.underlying9 (by decide)) (num 1) [] (plainElem_int Tryz.underlying3 (by decide)) ?_; intro W1 ho_ hg_; have M1 := Aside0.mk ho_; have G1 := Aside0.mk hg_; clear ho_ hg_) | (refine wpList_insert_own _ rfl (.tmp 13) (.const (.string ⟨#[115, 99, 97, 108, 101]⟩)) (.const (.int .i64 1)) 103 rfl 9 3 (string_keyed Tryz.underlying9) Tryz.underlying103 (plainElem Tryz.prog 3) _ 1 _ rfl M1.out (by decide) (.string ⟨#[115, 99, 97, 108, 101]⟩) (.int .i64 1) (litS kScale) rfl rfl (Go.WideMaps.keyOf_string_mk Tryz.underlying9 (by decide)) (num 1) [] (plainElem_int Tryz.underlying3 (by decide)) ?_; intro W2 ho_ hg_; have M2 := Aside0.mk ho_; have G2 := Aside0.mk hg_; clear ho_ hg_) | (refine wpList_insert_own _ rfl (.tmp 13) (.const (.string ⟨#[108, 101, 118, 101, 108, 115]⟩)) (.const (.int .i64 1)) 103 rfl 9 3 (string_keyed Tryz.underlying9) Tryz.underlying103 (plainElem Tryz.prog 3) _ 2 _ rfl M2.out (by decide) (.string ⟨#[108, 101, 118, 101, 108, 115]⟩) (.int .i64 1) (litS kLevels) rfl rfl (Go.WideMaps.keyOf_string_mk Tryz.underlying9 (by decide)) (num 1) [] (plainElem_int Tryz.underlying3 (by decide)) ?_; intro W3 ho_ hg_; have M3 := Aside0.mk ho_; have G3 := Aside0.mk hg_; clear ho_ hg_) | (refine wpList_insert_own _ rfl (.tmp 13) (.const (.string ⟨#[99, 101, 108, 108]⟩)) (.const (.int .i64 1)) 103 rfl 9 3 (string_keyed Tryz.underlying9) Tryz.underlying103 (plainElem Tryz.prog 3) _ 3 _ rfl M3.out (by decide) (.string ⟨#[99, 101, 108, 108]⟩) (.int .i64 1) (litS kCell) rfl rfl (Go.WideMaps.keyOf_string_mk Tryz.underlying9 (by decide)) (num 1) [] (plainElem_int Tryz.underlying3 (by decide)) ?_; intro W4 ho_ hg_; have M4 := Aside0.mk ho_; have G4 := Aside0.mk hg_; clear ho_ hg_) | (refine wpList_insert_own _ rfl (.tmp 13) (.const (.string ⟨#[111, 114, 105, 103, 105, 110]⟩)) (.const (.int .i64 2)) 103 rfl 9 3 (string_keyed Tryz.underlying9) Tryz.underlying103 (plainElem Tryz.prog 3) _ 4 _ rfl M4.out (by decide) (.string ⟨#[111, 114, 105, 103, 105, 110]⟩) (.int .i64 2) (litS kOrigin) rfl rfl (Go.WideMaps.keyOf_string_mk Tryz.underlying9 (by decide)) (num 2) [] (plainElem_int Tryz.underlying3 (by decide)) ?_; intro W5 ho_ hg_; have M5 := Aside0.mk ho_; have G5 := Aside0.mk hg_; clear ho_ hg_) | (refine wpList_insert_own _ rfl (.tmp 13) (.const (.string ⟨#[115, 105, 122, 101]⟩)) (.const (.int .i64 2)) 103 rfl 9 3 (string_keyed Tryz.underlying9) Tryz.underlying103 (plainElem Tryz.prog 3) _ 5 _ rfl M5.out (by decide) (.string ⟨#[115, 105, 122, 101]⟩) (.int .i64 2) (litS kSize) rfl rfl (Go.WideMaps.keyOf_string_mk Tryz.underlying9 (by decide)) (num 2) [] (plainElem_int Tryz.underlying3 (by decide)) ?_; intro W6 ho_ hg_; have M6 := Aside0.mk ho_; have G6 := Aside0.mk hg_; clear ho_ hg_; have HW6 := Aside0.mk (below_mapped G1.out G2.out G3.out G4.out G5.out G6.out); have zc : W6.cell? ⟨Br, 10, none⟩ = some (.map (some Bm)) := blk_cell ((HW6.out.block _ (blk_lt H1.out)).trans H1.out) 10; have HM6 := Aside0.mk (own_map_move H2.out (HW6.out.block _ H2.out.lt))) | (at_lookup; refine wpList_lookup_own_num _ rfl (.tmp 14) (.tmp 15) 103 rfl 9 3 .i64 (string_keyed Tryz.underlying9) Tryz.underlying103 Tryz.underlying3 (HZ _) _ 6 wantD rfl M6.out (.string y) (litS y) rfl (Go.WideMaps.keyOf_string_mk Tryz.underlying9 HY.out) _ HWt.out ?_) | (at_lookup; refine wpList_lookup_own_bool _ rfl (.tmp 30) (.tmp 31) 68 rfl 9 4 (string_keyed Tryz.underlying9) Tryz.underlying68 Tryz.underlying4 (HZb _) Bm _ (seenD st.seen) rfl HM6.out (.string y) (litS y) rfl (Go.WideMaps.keyOf_string_mk Tryz.underlying9 HY.out) _ HSe.out ?_) | (at_mapUpdate; refine wpList_mapUpdate_own _ rfl (.tmp 36) (.tmp 37) (.const (.bool true)) 68 rfl 9 4 (string_keyed Tryz.underlying9) Tryz.underlying68 (plainElem Tryz.prog 4) Bm _ (seenD st.seen) rfl HM6.out (by have := HSn.out; unfold maxLen; omega) (.string y) (.bool true) (litS y) rfl rfl (Go.WideMaps.keyOf_string_mk Tryz.underlying9 HY.out) (.lit (.bool true)) [] (plainElem_bool Tryz.underlying4 true) ?_; intro W7 ho_ hg_; have M7 := Aside0.mk ho_; have G7 := Aside0.mk hg_; clear ho_ hg_) | (go_at_call 49; refine (HV.out (fun k => ok k ∧ k < w.heap.size) _ st' y rest e A' (c - 1) W7 (Nat.le_trans HB.out (Nat.le_trans HW6.out.size G7.out.size)) (rs_seen hB2 hBm HI.out HW6.out M7.out G7.out) (fun W hW => rest_reads HR.out HW6.out G7.out o2 hW hread.out) hlen.out HF.out).mono ?_; rintro en w8 ⟨rfl, hI8, hS8⟩; have HI8 := Aside0.mk hI8; have HS8 := Aside0.mk hS8; clear hI8 hS8))
        go_ret
        exact ⟨rfl, line_inv (rs_keeps xy z Br Bm B) HW6.out G7.out HI8.out, line_spare hBm HB.out o2 HW6.out G7.out HS8.out⟩
  · cases hf
end Go.Proofs.YtknekneicecgiaaGreatDoor.M
namespace Go.Proofs.YtknekneicecgiaaGreatDoor.M
open Go.RowKit Go.Lib Go.Proofs.YtknekneicecgiaaGreatDoorW.PrintWords Go.Proofs.YtknekneicecgiaaGreatDoorW.PrintLast Go.Proofs.YtknekneicecgiaaGreatDoor.MB
set_option linter.unusedVariables false
set_option linter.unusedSimpArgs false
def methodF (st : RS) (key : ByteArray) (l : List ByteArray) : Option (RS × Int) :=
  if key.data.toList = kMethod.data.toList ∧ 0 < l.length then (slices_Index_string_string.f 10 mths (l.headD ⟨#[]⟩)).bind fun i => some ({ st with m := i }, if i < 0 then 1 else 0) else none
theorem mths_C {w : World} (h : TabW w) : Kd.C Kd.string w (some ⟨0, 0, none⟩) mths.length mths := by
  refine Kd.C_of_reads (d := ⟨#[]⟩) ⟨rfl, by decide, fun _ => ⟨_, rfl, fun j hj => ?_⟩⟩
  rw [addr_add, Nat.zero_add, h.2.2 j _ (List.getElem?_eq_getElem hj), List.getD_eq_getElem?_getD, List.getElem?_eq_getElem hj]
  rfl
def rsCells (st : RS) (vl : Value) (xy z : Int) (Bm : Nat) : Array Value := #[.int .i64 st.m, .int .i64 st.s, vl, .int .i64 st.gx, .int .i64 st.gy, .int .i64 st.gc, .int .i64 st.gcols, .int .i64 st.grows, .int .i64 xy, .int .i64 z, .map (some Bm)]
/-- A number stored into a field. -/
theorem rs_put {xy z : Int} {Br Bm B : Nat} {ok : Nat → Prop} {st st' : RS} {w w4 : World} (hB2 : 2 < B) (hBr : B ≤ Br) (hB : B ≤ w.heap.size) (hI : RSInv xy z Br Bm B ok st w) (hb : Below w.heap.size w w4) (j : Nat) (u : Value)
    (hcs : ∀ vl, (rsCells st vl xy z Bm).setIfInBounds j u = rsCells st' vl xy z Bm) (hs : st'.seen = st.seen) (hl : st'.lv = st.lv) :
    RSInv xy z Br Bm B (fun k => ok k ∨ w.heap.size ≤ k) st' (w4.setCell ⟨Br, j, none⟩ u) ∧ Spare ok B w (w4.setCell ⟨Br, j, none⟩ u) := by
  have o1 : ok Br := by obtain ⟨_, _, _, o, _⟩ := hI; exact o.1
  obtain ⟨vl, h1, h2, ho, hT, hR⟩ := keep_below (rs_keeps xy z Br Bm B) hI hb
  have h1' : w4.heap[Br]? = some (.cells (rsCells st vl xy z Bm) 70 (0, 0)) := h1
  have hne : Bm ≠ Br := fun h => by
    obtain ⟨es, clock, h3, _⟩ := h2
    rw [h, h1'] at h3
    cases h3
  have hsz : (w4.setCell ⟨Br, j, none⟩ u).heap.size = w4.heap.size := by simp
  have hfar : ∀ k, k ≠ Br → (w4.setCell ⟨Br, j, none⟩ u).heap[k]? = w4.heap[k]? := fun k hk => Below.heap_setCell w4 ⟨Br, j, none⟩ u k hk
  refine ⟨⟨vl, ?_, ?_, ho, tab_move hT (by rw [hsz]; exact Nat.le_refl _) (hfar _ (by omega)) (hfar _ (by omega)), ?_⟩, (hb.mono hB).trans ((Below.refl B w4).setCell hBr u), by rw [hsz]; exact hb.size, fun k hk hn => (hfar _ (fun h => hn (by rw [h]; exact o1))).trans (hb.block k hk)⟩
  · have h := blk_set h1' j u
    rw [hcs] at h
    exact h
  · rw [hs]
    exact own_map_move h2 (hfar _ hne)
  · rw [hl]
    exact Kd.R_set hR h1' (fun q hq => by
      simp only [List.mem_cons] at hq
      rcases hq with rfl | hq
      · decide
      · have : (Kd.int .i64).E = [] := rfl
        rw [this] at hq
        cases hq) j u
set_option maxHeartbeats 4000000 in
set_option maxRecDepth 100000 in
theorem method_ok (xy z : Int) (Br Bm B : Nat) (hB2 : 2 < B) (hBr : B ≤ Br) : ValueOk Tryz.prog 49 methodF xy z Br Bm B := by
  intro ok st st' key l e A c w hB hI hread hc hf
  unfold methodF at hf
  split at hf
  · rename_i hk
    obtain ⟨hk, hl⟩ := hk
    obtain rfl : key = kMethod := by cases key; cases hk' : kMethod; rw [hk'] at hk; congr 1; exact Array.toList_inj.mp hk
    obtain ⟨i, hix, hf⟩ := Option.bind_eq_some_iff.mp hf
    have hf := Option.some.inj hf
    simp only [Prod.mk.injEq] at hf
    obtain ⟨rfl, rfl⟩ := hf
    obtain ⟨b, o, rfl, hcell⟩ := C_cells (hread w (fun _ _ _ => rfl)) hl
    have hy := hcell 0 (l.headD ⟨#[]⟩) (by cases l with
      | nil => simp at hl
      | cons x t => rfl)
    rw [Nat.add_zero] at hy
    generalize l.headD ⟨#[]⟩ = y at hy hix
    have HI := Aside0.mk hI
    obtain ⟨vl, h1, h2, ⟨o1, o2, o3, o4⟩, hT, hR⟩ := hI
    have H1 := Aside0.mk h1
    have H2 := Aside0.mk h2
    have HT := Aside0.mk hT
    have HR := Aside0.mk hR
    have HIx := Aside0.mk hix
    have HB3 := Aside0.mk (Below.refl w.heap.size w)
    have hln : 0 < l.length := hl
    have hli : (0 : Int) < (l.length : Int) := by omega
    have f0 : w.frozen? ⟨Br, 0, none⟩ = false := blk_frozen h1 0
    have c0 : w.cell? ⟨Br, 0, none⟩ = some (.int .i64 st.m) := by rw [blk_cell h1]; rfl
    clear h1 h2 hT hR hix hcell hread hl hk
    show Calls Tryz.prog 49 #[.pointer (some ⟨Br, 0, none⟩), .string ⟨#[109, 101, 116, 104, 111, 100]⟩, .slice (some ⟨b, o, none⟩) l.length c] w _
    go_enter Tryz.func49, Tryz.ntmps49
    go_wp2
    refine start_ (n := 10) (S := fun w' => w'.cell? ⟨b, o, none⟩ = some (.string y)) (ds := [9]) #[false, false, false, false, false, false, false, false, false, false] (by kernel_rfl) rfl rfl hy (fun hHeld => ?_)
    replace H1 : Aside0 (w.drew.heap[Br]? = _) := H1
    have HT3 : Aside0 (TabW w.drew) := HT
    replace HB3 : Aside0 (Below w.heap.size w w.drew) := ⟨below_drew HB3.out⟩
    clear hy
    generalize w.drew = w3 at H1 HT3 HB3 hHeld ⊢
    have c3 : w3.cell? ⟨Br, 0, none⟩ = some (.int .i64 st.m) := by rw [blk_cell H1.out]; rfl
    have f3 : w3.frozen? ⟨Br, 0, none⟩ = false := blk_frozen H1.out 0
    refine pure_ (i := 0) (N := (some 39)) (v := ?_) (a' := ?_) #[true, false, false, false, false, false, false, false, false, false] rfl rfl (by kernel_rfl) (fun _ _ _ h => h) (Or.inl ⟨by rfl, ?_⟩) ?_ ?_
    rotate_left
    · intro w'
      go_simp
      with_reducible rfl
    rotate_left
    · simp only [Act.put, List.setIfInBounds_toArray, List.set_cons_zero, List.set_cons_succ, i64_w, i32_w]
      rfl
    refine pure_ (i := 1) (N := (some 40)) (v := ?_) (a' := ?_) #[true, true, false, false, false, false, false, false, false, false] rfl rfl (by kernel_rfl) (fun _ _ _ h => h) (Or.inl ⟨by rfl, ?_⟩) ?_ ?_
    rotate_left
    · intro w'
      go_simp
      with_reducible rfl
    rotate_left
    · simp only [Act.put, List.setIfInBounds_toArray, List.set_cons_zero, List.set_cons_succ, i64_w, i32_w]
      rfl
    refine pure_ (i := 2) (N := (some 41)) (v := ?_) (a' := ?_) #[true, true, true, false, false, false, false, false, false, false] rfl rfl (by kernel_rfl) (fun _ _ _ h => h) (Or.inl ⟨by rfl, ?_⟩) ?_ ?_
    rotate_left
    · intro w'
      go_simp
      with_reducible rfl
    rotate_left
    · simp only [Act.put, List.setIfInBounds_toArray, List.set_cons_zero, List.set_cons_succ, i64_w, i32_w]
      rfl
    refine pure_ (i := 3) (N := (some 42)) (v := ?_) (a' := ?_) #[true, true, true, true, false, false, false, false, false, false] rfl rfl (by kernel_rfl) (fun _ _ _ h => h) (Or.inl ⟨by rfl, ?_⟩) ?_ ?_
    rotate_left
    · intro w'
      go_simp
      with_reducible rfl
    rotate_left
    · simp only [Act.put, List.setIfInBounds_toArray, List.set_cons_zero, List.set_cons_succ, i64_w, i32_w]
      rfl
    refine take_ (i := 4) (N := (some 43)) (v := ?_) (a' := ?_) #[true, true, true, true, true, false, false, false, false, false] rfl rfl (by kernel_rfl) (fun _ _ _ h => h) (Or.inl ⟨by rfl, ?_⟩) hHeld ?_ ?_
    rotate_left
    · rintro w' s0
      go_simp
      with_reducible rfl
    rotate_left
    · simp only [Act.put, List.setIfInBounds_toArray, List.set_cons_zero, List.set_cons_succ, i64_w, i32_w]
      rfl
    refine one_ (i := 5) (N := (some 44)) #[true, true, true, true, true, true, false, false, false, false] rfl rfl (by kernel_rfl) (by decide) (fun K hK => ?_)
    refine goes_ Tryz.func75 (by kernel_rfl) rfl #[.slice (some ⟨0, 0, none⟩) 3 3, .string y] (by rfl) rfl rfl (by (try simp only [List.map_toArray, List.map_cons, List.map_nil]); first | done | rfl) ?_
    refine (slices_Index_string_string.calls 10 (some ⟨0, 0, none⟩) 3 mths y i w3 (mths_C HT3.out) (by decide) HIx.out).mono ?_
    rintro e w4 ⟨rfl, hd⟩
    refine ⟨_, rfl, ?_⟩
    obtain ⟨n4, rfl⟩ := hd.out
    clear hd
    refine hK.out _ _ hHeld (fun hHeld => ?_)
    clear hK K
    refine pure_ (i := 6) (N := (some 45)) (v := ?_) (a' := ?_) #[true, true, true, true, true, true, true, false, false, false] rfl rfl (by kernel_rfl) (fun _ _ _ h => h) (Or.inl ⟨by rfl, ?_⟩) ?_ ?_
    rotate_left
    · intro w'
      go_simp
      with_reducible rfl
    rotate_left
    · simp only [Act.put, List.setIfInBounds_toArray, List.set_cons_zero, List.set_cons_succ, i64_w, i32_w]
      rfl
    refine pure_ (i := 7) (N := (some 46)) (v := ?_) (a' := ?_) #[true, true, true, true, true, true, true, true, false, false] rfl rfl (by kernel_rfl) (fun _ _ _ h => h) (Or.inl ⟨by rfl, ?_⟩) ?_ ?_
    rotate_left
    · intro w'
      go_simp
      with_reducible rfl
    rotate_left
    · simp only [Act.put, List.setIfInBounds_toArray, List.set_cons_zero, List.set_cons_succ, i64_w, i32_w]
      rfl
    refine pure_ (i := 8) (N := (some 47)) (v := ?_) (a' := ?_) #[true, true, true, true, true, true, true, true, true, false] rfl rfl (by kernel_rfl) (fun _ _ _ h => h) (Or.inl ⟨by rfl, ?_⟩) ?_ ?_
    rotate_left
    · intro w'
      go_simp
      with_reducible rfl
    rotate_left
    · simp only [Act.put, List.setIfInBounds_toArray, List.set_cons_zero, List.set_cons_succ, i64_w, i32_w]
      rfl
    refine last_ (i := 9) (N := none) #[true, true, true, true, true, true, true, true, true, true] rfl rfl (by kernel_rfl) (by decide) (fun K hK => ?_)
    refine skip_ (w1 := ?_) (by rfl) rfl ?_ ?_
    rotate_left
    · go_simp
      rfl
    refine hK.out _ _ ?_
    clear hK K
    refine done_ (by kernel_rfl) ?_
    try go_wp2
    all_goals
      go_ret
      exact ⟨rfl, rs_put hB2 hBr hB HI.out (pw_below_drewN HB3.out n4) 0 (.int .i64 i) (fun _ => rfl) rfl rfl⟩
  · cases hf
end Go.Proofs.YtknekneicecgiaaGreatDoor.M
namespace Go.Proofs.YtknekneicecgiaaGreatDoor.M
open Go.RowKit Go.Lib Go.Proofs.YtknekneicecgiaaGreatDoorW.PrintWords Go.Proofs.YtknekneicecgiaaGreatDoorW.PrintLast Go.Proofs.YtknekneicecgiaaGreatDoor.MB
set_option linter.unusedVariables false
set_option linter.unusedSimpArgs false
def rs0 : RS := ⟨0, 0, [], 0, 0, 0, 0, 0, []⟩
def jobV (m s : Int) (vl : Value) (gx gy gc gcols grows : Int) : Value := .agg #[.int .i64 m, .int .i64 s, vl, .int .i64 gx, .int .i64 gy, .int .i64 gc, .int .i64 gcols, .int .i64 grows]
def zeroCells : Array Value := #[.int .i64 0, .int .i64 0, .slice none 0 0, .int .i64 0, .int .i64 0, .int .i64 0, .int .i64 0, .int .i64 0]
def jobW (w : World) (xy z : Int) : World := ((w.alloc (.cells zeroCells 43)).alloc (.map #[] 0)).alloc (.cells #[.int .i64 0, .int .i64 0, .slice none 0 0, .int .i64 0, .int .i64 0, .int .i64 0, .int .i64 0, .int .i64 0, .int .i64 xy, .int .i64 z, .map (some (w.heap.size + 1))] 70)
theorem job_below (w : World) (xy z : Int) : Below w.heap.size w (jobW w xy z) := below_alloc (below_alloc (below_alloc (Below.refl w.heap.size w) _) _) _
theorem job_size (w : World) (xy z : Int) : (jobW w xy z).heap.size = w.heap.size + 3 := by unfold jobW; simp
theorem job_start {w : World} (xy z : Int) (hT : TabW w) : RSInv xy z (w.heap.size + 2) (w.heap.size + 1) w.heap.size (fun k => k = w.heap.size + 2 ∨ k = w.heap.size + 1 ∨ k = 2 ∨ k = 0) rs0 (jobW w xy z) := by
  refine ⟨.slice none 0 0, ?_, ?_, ⟨by simp, by simp, by simp, by simp⟩, tab_below hT (job_below w xy z), Kd.R_nil _ _ _ _ _⟩
  · have hs : ((w.alloc (.cells zeroCells 43)).alloc (.map #[] 0)).heap.size = w.heap.size + 2 := by simp
    have := heap_alloc_new ((w.alloc (.cells zeroCells 43)).alloc (.map #[] 0)) (.cells #[.int .i64 0, .int .i64 0, .slice none 0 0, .int .i64 0, .int .i64 0, .int .i64 0, .int .i64 0, .int .i64 0, .int .i64 xy, .int .i64 z, .map (some (w.heap.size + 1))] 70)
    rw [hs] at this
    exact this
  · have hs : (w.alloc (.cells zeroCells 43)).heap.size = w.heap.size + 1 := by simp
    have h := (World.ownsMap_made (w.alloc (.cells zeroCells 43)) Tryz.prog 9 (plainElem (H := Unit) Tryz.prog 4)).alloc (.cells #[.int .i64 0, .int .i64 0, .slice none 0 0, .int .i64 0, .int .i64 0, .int .i64 0, .int .i64 0, .int .i64 0, .int .i64 xy, .int .i64 z, .map (some (w.heap.size + 1))] 70)
    rw [hs] at h
    exact h
theorem job_zero (w : World) (xy z : Int) : (jobW w xy z).heap[w.heap.size]? = some (.cells zeroCells 43) :=
  (heap_alloc_old _ _ (by simp; omega)).trans ((heap_alloc_old _ _ (by simp)).trans (heap_alloc_new w _))
theorem zero_set (j : Nat) (v : Value) (h : zeroCells[j]? = some v) : zeroCells.setIfInBounds j v = zeroCells := by
  apply Array.ext_getElem?
  intro i
  rw [Array.getElem?_setIfInBounds]
  split
  · rename_i hij
    subst hij
    split
    · exact h.symm
    · rename_i hlt
      rw [Array.getElem?_eq_none (by omega)] at h
      cases h
  · rfl
theorem one_reset {w : World} {b : Nat} (g : w.heap[b]? = some (.cells zeroCells 43 (0, 0))) (j : Nat) (v : Value) (h : zeroCells[j]? = some v) : (w.setCell ⟨b, j, none⟩ v).heap[b]? = some (.cells zeroCells 43 (0, 0)) := by
  have h1 := blk_set g j v
  rwa [zero_set j v h] at h1
theorem job_reset {w : World} {b : Nat} (g : w.heap[b]? = some (.cells zeroCells 43 (0, 0))) : (((((((((w.setCell ⟨b, 0, none⟩ (.int .i64 0)).setCell ⟨b, 1, none⟩ (.int .i64 0)).setCell ⟨b, 2, none⟩ (.slice none 0 0)).setCell ⟨b, 3, none⟩ (.int .i64 0)).setCell ⟨b, 4, none⟩ (.int .i64 0)).setCell ⟨b, 5, none⟩ (.int .i64 0)).setCell ⟨b, 6, none⟩ (.int .i64 0)).setCell ⟨b, 7, none⟩ (.int .i64 0))).heap[b]? = some (.cells zeroCells 43 (0, 0)) := by
  have g := one_reset g 0 (.int .i64 0) rfl
  have g := one_reset g 1 (.int .i64 0) rfl
  have g := one_reset g 2 (.slice none 0 0) rfl
  have g := one_reset g 3 (.int .i64 0) rfl
  have g := one_reset g 4 (.int .i64 0) rfl
  have g := one_reset g 5 (.int .i64 0) rfl
  have g := one_reset g 6 (.int .i64 0) rfl
  have g := one_reset g 7 (.int .i64 0) rfl
  exact g
theorem job_resetB {B b : Nat} {w0 w : World} (h : Below B w0 w) (hb : B ≤ b) : Below B w0 (((((((((w.setCell ⟨b, 0, none⟩ (.int .i64 0)).setCell ⟨b, 1, none⟩ (.int .i64 0)).setCell ⟨b, 2, none⟩ (.slice none 0 0)).setCell ⟨b, 3, none⟩ (.int .i64 0)).setCell ⟨b, 4, none⟩ (.int .i64 0)).setCell ⟨b, 5, none⟩ (.int .i64 0)).setCell ⟨b, 6, none⟩ (.int .i64 0)).setCell ⟨b, 7, none⟩ (.int .i64 0))) := by
  have h := h.setCell (p := ⟨b, 0, none⟩) hb (.int .i64 0)
  have h := h.setCell (p := ⟨b, 1, none⟩) hb (.int .i64 0)
  have h := h.setCell (p := ⟨b, 2, none⟩) hb (.slice none 0 0)
  have h := h.setCell (p := ⟨b, 3, none⟩) hb (.int .i64 0)
  have h := h.setCell (p := ⟨b, 4, none⟩) hb (.int .i64 0)
  have h := h.setCell (p := ⟨b, 5, none⟩) hb (.int .i64 0)
  have h := h.setCell (p := ⟨b, 6, none⟩) hb (.int .i64 0)
  have h := h.setCell (p := ⟨b, 7, none⟩) hb (.int .i64 0)
  exact h
set_option maxHeartbeats 4000000 in
set_option maxRecDepth 100000 in
theorem readjob_err (vf : RS → ByteArray → List ByteArray → Option (RS × Int)) (s : ByteArray) (xy z line e : Int) (st' : RS) (w : World) (HT0 : TabW w) (hv : ValueOk Tryz.prog 49 vf xy z (w.heap.size + 2) (w.heap.size + 1) w.heap.size)
    (h : data_each.f (lineF vf) s rs0 = some (st', line, e)) (he : e ≠ 0) :
    Calls Tryz.prog 13 #[.string s, .int .i64 xy, .int .i64 z] w fun en w' => en = .returned (.tuple #[jobV 0 0 (.slice none 0 0) 0 0 0 0 0, .int .i64 line, .int .i64 e]) ∧ Below w.heap.size w w' := by
  have HT := Aside0.mk HT0
  have HV := Aside0.mk hv
  have H := Aside0.mk h
  have he1 : (e != 0) = true := bne_iff_ne.mpr he
  have HI := Aside0.mk (job_start xy z HT0)
  have HTB := Aside0.mk (tab_below HT0 (job_below w xy z))
  have hmm := @run_makeMap Tryz.prog
  have hmf : ∀ (fn : Fn) (first cap : Array Value) (w : World), (Instr.makeFunc fn first cap).run Tryz.prog w = .ok (.func fn first cap) w := fun _ _ _ _ => rfl
  have HLt : Aside0 (w.heap.size < (jobW w xy z).heap.size) := ⟨by rw [job_size]; omega⟩
  have HNo : Aside0 (¬ (w.heap.size = w.heap.size + 2 ∨ w.heap.size = w.heap.size + 1 ∨ w.heap.size = 2 ∨ w.heap.size = 0)) := ⟨by have := HT0.2.1; omega⟩
  clear HT0 hv h he
  go_enter Tryz.func13, Tryz.ntmps13
  go_wp2_with (go_at_call 21; refine (data_each.calls 27 _ #[] (enters_of Tryz.func27 (by kernel_rfl) rfl) _ _ (rs_keeps _ _ _ _ _) _ (line_steps vf xy z _ _ w.heap.size HT.out.2.1 (by omega) HV.out) _ _ _ _ _ _ (jobW w xy z) (by rw [job_size]; omega) HTB.out HI.out H.out).mono ?_; rintro en w' ⟨rfl, hI2, hS2⟩; have g := (hS2.2.2 _ HLt.out HNo.out).trans (job_zero w xy z); have z0 : w'.cell? ⟨w.heap.size, 0, none⟩ = some (.int .i64 0) := blk_cell g 0; have y0 : w'.frozen? ⟨w.heap.size, 0, none⟩ = false := blk_frozen g 0; have z1 : w'.cell? ⟨w.heap.size, 1, none⟩ = some (.int .i64 0) := blk_cell g 1; have y1 : w'.frozen? ⟨w.heap.size, 1, none⟩ = false := blk_frozen g 1; have z2 : w'.cell? ⟨w.heap.size, 2, none⟩ = some (.slice none 0 0) := blk_cell g 2; have y2 : w'.frozen? ⟨w.heap.size, 2, none⟩ = false := blk_frozen g 2; have z3 : w'.cell? ⟨w.heap.size, 3, none⟩ = some (.int .i64 0) := blk_cell g 3; have y3 : w'.frozen? ⟨w.heap.size, 3, none⟩ = false := blk_frozen g 3; have z4 : w'.cell? ⟨w.heap.size, 4, none⟩ = some (.int .i64 0) := blk_cell g 4; have y4 : w'.frozen? ⟨w.heap.size, 4, none⟩ = false := blk_frozen g 4; have z5 : w'.cell? ⟨w.heap.size, 5, none⟩ = some (.int .i64 0) := blk_cell g 5; have y5 : w'.frozen? ⟨w.heap.size, 5, none⟩ = false := blk_frozen g 5; have z6 : w'.cell? ⟨w.heap.size, 6, none⟩ = some (.int .i64 0) := blk_cell g 6; have y6 : w'.frozen? ⟨w.heap.size, 6, none⟩ = false := blk_frozen g 6; have z7 : w'.cell? ⟨w.heap.size, 7, none⟩ = some (.int .i64 0) := blk_cell g 7; have y7 : w'.frozen? ⟨w.heap.size, 7, none⟩ = false := blk_frozen g 7; have G := Aside0.mk g; have HS2 := Aside0.mk hS2; clear g hS2 hI2)
  exact bodyPost_ret (results_ctt rfl _ _ w.heap.size 43 zeroCells (0, 0) _ rfl (job_reset G.out) Tryz.underlying43 rfl (by kernel_rfl)) rfl ⟨rfl, job_resetB ((job_below w xy z).trans HS2.out.1) (Nat.le_refl _)⟩
end Go.Proofs.YtknekneicecgiaaGreatDoor.M
namespace Go.Proofs.YtknekneicecgiaaGreatDoor.M
open Go.RowKit Go.Lib Go.Proofs.YtknekneicecgiaaGreatDoorW.PrintWords Go.Proofs.YtknekneicecgiaaGreatDoorW.PrintLast Go.Proofs.YtknekneicecgiaaGreatDoor.MB
set_option linter.unusedVariables false
set_option linter.unusedSimpArgs false
def tx1 : ByteArray := ⟨#[49, 32, 50, 32, 51, 10, 35, 32, 110, 111]⟩
def tx2 : ByteArray := ⟨#[10, 109, 101, 116, 104, 111, 100, 32, 102, 111, 111]⟩
set_option maxRecDepth 100000 in
theorem fit_samples : data_Samples.f 100 tx1 0 0 = some ([⟨1, 2, 3⟩], 0, 0) := by kernel_rfl
set_option maxRecDepth 100000 in
theorem fit_job : data_each.f (lineF methodF) tx2 rs0 = some (⟨-1, 0, [], 0, 0, 0, 0, 0, [kMethod]⟩, 2, 1) := by kernel_rfl
theorem cell_new {w : World} {a : Addr} {v : Value} (h : w.cell? a = some v) (cs : Array Value) (t : TypeId) : (w.alloc (.cells cs t)).cell? a = some v := pw_cell_below (below_alloc (Below.refl w.heap.size w) (.cells cs t)) h
theorem fit_read (w : World) (HT0 : TabW w) : Calls Tryz.prog 13 #[.string tx2, .int .i64 0, .int .i64 0] w fun en w' => en = .returned (.tuple #[.agg #[.int .i64 0, .int .i64 0, .slice none 0 0, .int .i64 0, .int .i64 0, .int .i64 0, .int .i64 0, .int .i64 0], .int .i64 2, .int .i64 1]) ∧ Below w.heap.size w w' :=
  readjob_err methodF tx2 0 0 2 1 _ w HT0 (method_ok 0 0 _ _ _ HT0.2.1 (by omega)) fit_job (by decide)
def isohyetlaw25_fit.f : Option Bool := some true
set_option maxHeartbeats 4000000 in
set_option maxRecDepth 100000 in
theorem isohyetlaw25_fit.calls (r : Bool) (w : World) (HT0 : TabW w) (HTRUE : r = true) (h : isohyetlaw25_fit.f = some r) :
    Calls Tryz.prog 8 #[] w fun e w' => e = .returned (.bool r) ∧ Below w.heap.size w w' := by
  subst HTRUE
  have HT := Aside0.mk HT0
  clear HT0 h
  go_enter Tryz.func8, Tryz.ntmps8
  go_wp2_with (first
    | (go_at_call 9; refine (data_Samples.calls 100 tx1 0 0 _ _ _ _ HT.out fit_samples).mono ?_; rintro e w1 ⟨v1, rfl, hR1, hb1⟩; obtain ⟨A1, c1, rfl, hc1, hC1⟩ := Kd.R_reads hR1; obtain ⟨ad1, rfl, x0, x1, x2⟩ := at_T34 hC1 0 (by decide) (by decide); have x3 : w1.cell? ⟨ad1.block, ad1.off + 2, none⟩ = some (.int .i64 3) := x2; have X3 := Aside0.mk x3; clear x0 x1 x2 x3; have HB1 := Aside0.mk hb1; have HT1 := Aside0.mk (tab_below HT.out hb1); clear hb1 hR1 hC1 hc1)
    | (go_at_call 13; refine (fit_read _ HT1.out).mono ?_; rintro e w2 ⟨rfl, hb2⟩; have x4 := pw_cell_below hb2 X3.out; have x5 := fun cs t => cell_new x4 cs t; have HB2 := Aside0.mk hb2; clear hb2))
  go_ret
  exact ⟨rfl, below_alloc ((HB1.out).trans (HB2.out.mono HB1.out.size)) _⟩
end Go.Proofs.YtknekneicecgiaaGreatDoor.M
