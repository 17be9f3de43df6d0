/- data.each, for whatever function value that keeps a state: its lines one by one. -/
import Derived.Test.YtknekneicecgiaaGreatDoorHW
namespace Go.Proofs.YtknekneicecgiaaGreatDoor.M
open Go.RowKit Go.Lib Go.Proofs.YtknekneicecgiaaGreatDoorW.PrintWords Go.Proofs.YtknekneicecgiaaGreatDoor.MB
set_option linter.unusedVariables false
set_option linter.unusedSimpArgs false
def eachL {σ : Type} (f : σ → List ByteArray → Option (σ × Int)) : List ByteArray → Int → σ → Option (σ × Int × Int)
  | [], _, st => some (st, 0, 0)
  | x :: xs, i, st => (data_Words.f x).bind fun l =>
    if l.length = 0 then eachL f xs (i + 1) st
    else if Lib.hasPrefix (l.headD ⟨#[]⟩).data.toList [35] = true then eachL f xs (i + 1) st
    else (f st l).bind fun z => if z.2 = 0 then eachL f xs (i + 1) z.1 else some (z.1, i + 1, z.2)
def linesOf (s : ByteArray) : List ByteArray := Lib.splitB ⟨#[10]⟩ 0 (Lib.countB s ⟨#[10]⟩) s
def data_each.f {σ : Type} (f : σ → List ByteArray → Option (σ × Int)) (s : ByteArray) (st : σ) : Option (σ × Int × Int) :=
  if (s.size : Int) > 200000 then some (st, 0, 2) else eachL f (linesOf s) 0 st
/-- What lies in blocks that are ok. -/
structure Keeps {σ : Type} (Inv : (Nat → Prop) → σ → World → Prop) : Prop where
  mono : ∀ {ok ok' : Nat → Prop} {st : σ} {w : World}, Inv ok st w → (∀ k, ok k → ok' k) → Inv ok' st w
  bound : ∀ {ok : Nat → Prop} {st : σ} {w : World}, Inv ok st w → Inv (fun k => ok k ∧ k < w.heap.size) st w
  step : ∀ {ok : Nat → Prop} {st : σ} {w w1 : World}, Inv ok st w → w.heap.size ≤ w1.heap.size → (∀ k, ok k → k < w.heap.size → w1.heap[k]? = w.heap[k]?) → Inv ok st w1
/-- What a step leaves alone. -/
def Spare (ok : Nat → Prop) (B : Nat) (w w' : World) : Prop := Below B w w' ∧ w.heap.size ≤ w'.heap.size ∧ ∀ k, k < w.heap.size → ¬ ok k → w'.heap[k]? = w.heap[k]?
theorem Spare.refl (ok : Nat → Prop) (B : Nat) (w : World) : Spare ok B w w := ⟨Below.refl _ _, Nat.le_refl _, fun _ _ _ => rfl⟩
theorem Spare.trans {ok ok1 : Nat → Prop} {B : Nat} {w w1 w2 : World} (h : Spare ok B w w1) (h1 : Spare ok1 B w1 w2) (hok : ∀ k, k < w.heap.size → ok1 k → ok k) : Spare ok B w w2 :=
  ⟨h.1.trans h1.1, Nat.le_trans h.2.1 h1.2.1, fun k hk hn => (h1.2.2 k (Nat.lt_of_lt_of_le hk h.2.1) (fun h2 => hn (hok k hk h2))).trans (h.2.2 k hk hn)⟩
theorem Spare.below {ok : Nat → Prop} {B : Nat} {w w1 : World} (h : Below w.heap.size w w1) (hB : B ≤ w.heap.size) : Spare ok B w w1 := ⟨h.mono hB, h.size, fun k hk _ => h.block k hk⟩
def Steps {σ : Type} (P : Program) (g : Nat) (pre lb : Array Value) (f : σ → List ByteArray → Option (σ × Int)) (Inv : (Nat → Prop) → σ → World → Prop) (B : Nat) : Prop :=
  ∀ (ok : Nat → Prop) (st st' : σ) (l : List ByteArray) (e : Int) (v : Value) (w : World), B ≤ w.heap.size → Inv ok st w → Kd.R Kd.string 9 w 0 (fun k => ¬ ok k) v l → l ≠ [] → f st l = some (st', e) →
    Calls P g (pre ++ #[v] ++ lb) w fun en w' => en = .returned (.int .i64 e) ∧ Inv (fun k => ok k ∨ w.heap.size ≤ k) st' w' ∧ Spare ok B w w'
def EachPost {σ : Type} (Inv : (Nat → Prop) → σ → World → Prop) (ok : Nat → Prop) (B : Nat) (st' : σ) (line e : Int) (w : World) (en : Ending) (w' : World) : Prop :=
  en = .returned (.tuple #[.int .i64 line, .int .i64 e]) ∧ Inv (fun k => ok k ∨ w.heap.size ≤ k) st' w' ∧ Spare ok B w w'
def EachRel {σ : Type} (f : σ → List ByteArray → Option (σ × Int)) (Inv : (Nat → Prop) → σ → World → Prop) (ok : Nat → Prop) (B : Nat) (w W : World) (ls : List ByteArray) (st' : σ) (line e : Int) (i : Nat) (wr : World) : Prop :=
  ∃ st, eachL f (ls.drop i) (i : Int) st = some (st', line, e) ∧ Inv (fun k => (ok k ∨ w.heap.size ≤ k) ∧ k ≠ w.heap.size) st wr ∧ Spare ok B w wr ∧ wr.heap[w.heap.size]? = W.heap[w.heap.size]? ∧ w.heap.size < wr.heap.size
section
variable {σ : Type} {f : σ → List ByteArray → Option (σ × Int)} {Inv : (Nat → Prop) → σ → World → Prop} {ok : Nat → Prop} {B : Nat} {w : World} {ls : List ByteArray} {st st' : σ} {line e : Int}
theorem each_start (hk : Keeps Inv) (hB : B ≤ w.heap.size) (hI : Inv ok st w) (h : eachL f ls 0 st = some (st', line, e)) : EachRel f Inv ok B w (w.alloc (.cells (ls.map Value.string).toArray 9)) ls st' line e 0 (w.alloc (.cells (ls.map Value.string).toArray 9)) := by
  have hb := below_alloc (Below.refl w.heap.size w) (.cells (ls.map Value.string).toArray 9)
  refine ⟨st, h, ?_, Spare.below hb hB, rfl, by simp⟩
  exact hk.mono (hk.step (hk.bound hI) hb.size (fun k hk _ => hb.block k hk.2)) (fun k hk => ⟨.inl hk.1, Nat.ne_of_lt hk.2⟩)
theorem each_end {W wr : World} {i : Nat} (hk : Keeps Inv) (hi : ls.length ≤ i) (h : EachRel f Inv ok B w W ls st' line e i wr) : line = 0 ∧ e = 0 ∧ Inv (fun k => ok k ∨ w.heap.size ≤ k) st' wr ∧ Spare ok B w wr := by
  obtain ⟨st, hE, hI, hS, _⟩ := h
  rw [List.drop_eq_nil_of_le hi] at hE
  have h' := Option.some.inj hE
  simp only [Prod.mk.injEq] at h'
  obtain ⟨rfl, rfl, rfl⟩ := h'
  exact ⟨rfl, rfl, hk.mono hI (fun k hk => hk.1), hS⟩
theorem each_skip {W wr w2 : World} {i : Nat} {st1 : σ} (hk : Keeps Inv) (hI : Inv (fun k => (ok k ∨ w.heap.size ≤ k) ∧ k ≠ w.heap.size) st1 wr) (hS : Spare ok B w wr) (hb : wr.heap[w.heap.size]? = W.heap[w.heap.size]?) (h : eachL f (ls.drop (i + 1)) ((i : Int) + 1) st1 = some (st', line, e))
    (hB : Below wr.heap.size wr w2) (hlt : w.heap.size < wr.heap.size) (hB0 : B ≤ w.heap.size) : EachRel f Inv ok B w W ls st' line e (i + 1) w2 := by
  refine ⟨st1, h, hk.step hI hB.size (fun k _ hk => hB.block k hk), hS.trans (Spare.below hB (by omega)) (fun _ _ h => h), (hB.block _ hlt).trans hb, Nat.lt_of_lt_of_le hlt hB.size⟩
theorem each_pre {wr w2 : World} {st1 : σ} (hk : Keeps Inv) (hI : Inv (fun k => (ok k ∨ w.heap.size ≤ k) ∧ k ≠ w.heap.size) st1 wr) (hB : Below wr.heap.size wr w2) : Inv (fun k => ((ok k ∨ w.heap.size ≤ k) ∧ k ≠ w.heap.size) ∧ k < wr.heap.size) st1 w2 :=
  hk.step (hk.bound hI) hB.size (fun k hk _ => hB.block k hk.2)
theorem each_words {wr w2 : World} {v : Value} {l : List ByteArray} {okx : Nat → Prop} (h : Kd.R Kd.string 9 w2 wr.heap.size (fun _ => True) v l) : Kd.R Kd.string 9 w2 0 (fun k => ¬ (okx k ∧ k < wr.heap.size)) v l :=
  Kd.R_lower (Kd.R_mono (Kd.R_bound h) (fun k hk h2 => by have h3 := hk.2.1; have h4 := h2.2; omega)) (Nat.zero_le _)
theorem each_ok {wr w2 : World} (hlt : w.heap.size < wr.heap.size) (hB : Below wr.heap.size wr w2) : ∀ k, (((ok k ∨ w.heap.size ≤ k) ∧ k ≠ w.heap.size) ∧ k < wr.heap.size) ∨ w2.heap.size ≤ k → ok k ∨ w.heap.size ≤ k := by
  intro k hk
  rcases hk with hk | hk
  · exact hk.1.1
  · have := hB.size
    exact .inr (by omega)
theorem each_spare {wr w2 w4 : World} (hS : Spare ok B w wr) (hB : Below wr.heap.size wr w2) (hB0 : B ≤ w.heap.size) (hlt : w.heap.size < wr.heap.size) (hS4 : Spare (fun k => ((ok k ∨ w.heap.size ≤ k) ∧ k ≠ w.heap.size) ∧ k < wr.heap.size) B w2 w4) : Spare ok B w w4 :=
  (hS.trans (Spare.below hB (by omega)) (fun _ _ h => h)).trans hS4 (fun k hk h => by
    rcases h.1.1 with h | h
    · exact h
    · omega)
theorem each_took {W wr w2 w4 : World} {i : Nat} {st2 : σ} (hk : Keeps Inv) (hS : Spare ok B w wr) (hb : wr.heap[w.heap.size]? = W.heap[w.heap.size]?) (h : eachL f (ls.drop (i + 1)) ((i : Int) + 1) st2 = some (st', line, e))
    (hB : Below wr.heap.size wr w2) (hlt : w.heap.size < wr.heap.size) (hB0 : B ≤ w.heap.size) (hI4 : Inv (fun k => (((ok k ∨ w.heap.size ≤ k) ∧ k ≠ w.heap.size) ∧ k < wr.heap.size) ∨ w2.heap.size ≤ k) st2 w4)
    (hS4 : Spare (fun k => ((ok k ∨ w.heap.size ≤ k) ∧ k ≠ w.heap.size) ∧ k < wr.heap.size) B w2 w4) : EachRel f Inv ok B w W ls st' line e (i + 1) w4 := by
  have hsz := hB.size
  refine ⟨st2, h, hk.mono hI4 (fun k hk => ⟨each_ok hlt hB k hk, ?_⟩), each_spare hS hB hB0 hlt hS4, ?_, by have := hS4.2.1; omega⟩
  · rcases hk with hk | hk
    · exact hk.1.2
    · omega
  · exact (hS4.2.2 _ (by omega) (fun h => h.1.2 rfl)).trans ((hB.block _ hlt).trans hb)
end
set_option maxHeartbeats 4000000 in
set_option maxRecDepth 100000 in
theorem data_each.calls {σ : Type} (g : Nat) (pre lb : Array Value) (eg : ∀ args w, (callFunc g args).run Tryz.prog w = .ok (.enter g args) w) (f : σ → List ByteArray → Option (σ × Int)) (Inv : (Nat → Prop) → σ → World → Prop) (hk : Keeps Inv) (B : Nat)
    (hstep : Steps Tryz.prog g pre lb f Inv B) (ok : Nat → Prop) (s : ByteArray) (st st' : σ) (line e : Int) (w : World) (hB : B ≤ w.heap.size) (HT0 : TabW w) (hI : Inv ok st w) (h : data_each.f f s st = some (st', line, e)) :
    Calls Tryz.prog 21 #[.string s, .func (.func g) pre lb] w (EachPost Inv ok B st' line e w) := by
  unfold data_each.f at h
  have HK := Aside0.mk hk
  have HS := Aside0.mk hstep
  have HI := Aside0.mk hI
  clear hk hstep hI
  by_cases hl : (s.size : Int) > 200000
  · rw [if_pos hl] at h
    have h' := Option.some.inj h
    simp only [Prod.mk.injEq] at h'
    obtain ⟨rfl, rfl, rfl⟩ := h'
    clear h
    go_enter Tryz.func21, Tryz.ntmps21
    go_wp2
    go_ret2
    exact ⟨rfl, HK.out.mono HI.out (fun k hk => .inl hk), Spare.refl _ _ _⟩
  · rw [if_neg hl] at h
    obtain ⟨⟨m, hm⟩, hm2⟩ := HT0
    have H := Aside0.mk h
    clear h
    have hn : s.size ≤ 200000 := by omega
    have cS := Tryz.strings_Split s ⟨#[10]⟩ m w (by omega) hm (by decide)
    have hlen := Lib.splitB_all ⟨#[10]⟩ (by decide) 0 (Lib.countB s ⟨#[10]⟩) s rfl
    have hcnt := Lib.countB_le ⟨#[10]⟩ (by decide) s.size s (Nat.le_refl _)
    rw [show Lib.splitB ⟨#[10]⟩ 0 (Lib.countB s ⟨#[10]⟩) s = linesOf s from rfl] at hlen cS
    have hlen : Lib.countB s ⟨#[10]⟩ + 1 = (linesOf s).length := by rw [hlen]
    rw [hlen] at cS
    have hLL : (linesOf s).length ≤ 200001 := by omega
    generalize linesOf s = ls at cS H hLL
    clear hlen hcnt hm hm2
    have HC := Aside0.mk cS
    clear cS
    go_enter Tryz.func21, Tryz.ntmps21
    go_wp2_with (go_at_call 37; refine HC.out.mono ?_; rintro e w' ⟨rfl, rfl⟩)
    go_loopg [16] ls.length (fun gf v16 wr => ∃ i : Nat, i + gf = ls.length ∧ v16 = .int .i64 i ∧ Aside0 (EachRel f Inv ok B w (w.alloc (.cells (ls.map Value.string).toArray 9)) ls st' line e i wr))
    case atStart => exact ⟨0, by omega, rfl, ⟨each_start HK.out hB HI.out H.out⟩⟩
    case round =>
      obtain ⟨i, hig, rfl, hR⟩ := hrel
      cases gk with
      | zero =>
        have hin : decide ((i : Int) < (ls.length : Int)) = false := by simp; omega
        have hin2 : decide (i < ls.length) = false := by simp; omega
        have hEnd := Aside0.mk (each_end HK.out (by omega) hR.out)
        clear hR
        go_wp2
        go_ret2
        have hE := hEnd.out
        exact ⟨by rw [hE.1, hE.2.1]; rfl, hE.2.2⟩
      | succ gf =>
        have hin : decide ((i : Int) < (ls.length : Int)) = true := by simp; omega
        have hlt : i < ls.length := by omega
        have hin2 : decide (i < ls.length) = true := by simp; omega
        have hR1 := hR.out
        obtain ⟨st1, hE, hI1, hSp, hblk, hlt1⟩ := hR1
        have hcell : wr.cell? ⟨w.heap.size, i, none⟩ = some (.string ls[i]) := by
          rw [heap_alloc_new] at hblk
          rw [blk_cell hblk]
          simp [hlt]
        rw [List.drop_eq_getElem_cons hlt] at hE
        generalize ls[i] = x at hcell hE
        unfold eachL at hE
        obtain ⟨l, hl1, hE⟩ := Option.bind_eq_some_iff.mp hE
        have HE := Aside0.mk hE
        have HL := Aside0.mk hl1
        have HI1 := Aside0.mk hI1
        have HSp := Aside0.mk hSp
        have HBk := Aside0.mk hblk
        have HLt := Aside0.mk hlt1
        clear hE hl1 hI1 hSp hblk hR H HI hlt1
        rcases Nat.eq_zero_or_pos l.length with h0 | h0
        · have HN := Aside0.mk (show eachL f (ls.drop (i + 1)) ((i : Int) + 1) st1 = some (st', line, e) from by have h := HE.out; rw [if_pos h0] at h; exact h)
          obtain rfl := List.eq_nil_of_length_eq_zero h0
          clear HE h0
          go_wp2_with (first | (go_at_call 38; refine (data_Words.calls _ _ _ HL.out).mono ?_; rintro e w2 ⟨v2, rfl, hR2, hb2⟩; obtain ⟨A2, c2, rfl⟩ := Kd.R_slice hR2; have HB2 := Aside0.mk hb2; clear hb2 hR2))
          go_roundg gf
          case measure => omega
          case rel => exact ⟨i + 1, by omega, by go_num, ⟨each_skip HK.out HI1.out HSp.out HBk.out HN.out HB2.out HLt.out hB⟩⟩
        · have HE1 := Aside0.mk (show (if Lib.hasPrefix (l.headD ⟨#[]⟩).data.toList [35] = true then eachL f (ls.drop (i + 1)) ((i : Int) + 1) st1 else (f st1 l).bind fun z => if z.2 = 0 then eachL f (ls.drop (i + 1)) ((i : Int) + 1) z.1 else some (z.1, (i : Int) + 1, z.2)) = some (st', line, e) from by have h := HE.out; rw [if_neg (by omega)] at h; exact h)
          have hne : ((l.length : Int) == 0) = false := beq_eq_false_iff_ne.mpr (by omega)
          have HPos := Aside0.mk h0
          have HHead : Aside0 (l[0]? = some (l.headD ⟨#[]⟩)) := ⟨by cases l with
            | nil => simp at h0
            | cons y l' => rfl⟩
          clear HE h0
          have qin : (0 : Int) < (l.length : Int) := by have := HPos.out; omega
          by_cases hp : Lib.hasPrefix (l.headD ⟨#[]⟩).data.toList [35] = true
          · have HN := Aside0.mk (show eachL f (ls.drop (i + 1)) ((i : Int) + 1) st1 = some (st', line, e) from by have h := HE1.out; rw [if_pos hp] at h; exact h)
            clear HE1
            generalize l.headD ⟨#[]⟩ = y at hp HHead
            go_wp2_with (first | (go_at_call 38; refine (data_Words.calls _ _ _ HL.out).mono ?_; rintro e w2 ⟨v2, rfl, hR2, hb2⟩; have HR2 := Aside0.mk hR2; obtain ⟨A2, c2, rfl, hc2, hC2⟩ := Kd.R_reads hR2; obtain ⟨b2, o2, rfl, hcl2⟩ := C_cells hC2 HPos.out; have hcell2 := hcl2 0 _ HHead.out; simp only [Nat.add_zero] at hcell2; have HB2 := Aside0.mk hb2; clear hb2 hR2 hC2 hcl2 hc2) | (go_at_call 39; refine (Tryz.strings_HasPrefix _ _ _).mono ?_; rintro e w3 ⟨rfl, he3⟩; obtain rfl := he3.symm))
            go_roundg gf
            case measure => omega
            case rel => exact ⟨i + 1, by omega, by go_num, ⟨each_skip HK.out HI1.out HSp.out HBk.out HN.out HB2.out HLt.out hB⟩⟩
          · have hE2 := HE1.out
            rw [if_neg hp] at hE2
            have hp : Lib.hasPrefix (l.headD ⟨#[]⟩).data.toList [35] = false := by simpa using hp
            obtain ⟨⟨st2, e2⟩, hf2, hE2⟩ := Option.bind_eq_some_iff.mp hE2
            have HF := Aside0.mk hf2
            have HN := Aside0.mk (show (if e2 = 0 then eachL f (ls.drop (i + 1)) ((i : Int) + 1) st2 else some (st2, (i : Int) + 1, e2)) = some (st', line, e) from hE2)
            clear HE1 hf2 hE2
            generalize l.headD ⟨#[]⟩ = y at hp HHead
            have HNe : Aside0 (l ≠ []) := ⟨fun h => by have := HPos.out; rw [h] at this; simp at this⟩
            by_cases h0 : e2 = 0
            · have HN2 := Aside0.mk (show eachL f (ls.drop (i + 1)) ((i : Int) + 1) st2 = some (st', line, e) from by have h := HN.out; rw [if_pos h0] at h; exact h)
              subst h0
              clear HN
              go_wp2_with (first | (go_at_call 38; refine (data_Words.calls _ _ _ HL.out).mono ?_; rintro e w2 ⟨v2, rfl, hR2, hb2⟩; have HR2 := Aside0.mk hR2; obtain ⟨A2, c2, rfl, hc2, hC2⟩ := Kd.R_reads hR2; obtain ⟨b2, o2, rfl, hcl2⟩ := C_cells hC2 HPos.out; have hcell2 := hcl2 0 _ HHead.out; simp only [Nat.add_zero] at hcell2; have HB2 := Aside0.mk hb2; clear hb2 hR2 hC2 hcl2 hc2) | (go_at_call 39; refine (Tryz.strings_HasPrefix _ _ _).mono ?_; rintro e w3 ⟨rfl, he3⟩; obtain rfl := he3.symm) | (go_at_fn g; refine (HS.out _ st1 st2 l _ _ w2 (Nat.le_trans hB (Nat.le_trans (Nat.le_of_lt HLt.out) HB2.out.size)) (each_pre HK.out HI1.out HB2.out) (each_words HR2.out) HNe.out HF.out).mono ?_; rintro e w4 ⟨rfl, hI4, hS4⟩; have HI4 := Aside0.mk hI4; have HS4 := Aside0.mk hS4; clear hI4 hS4))
              go_roundg gf
              case measure => omega
              case rel => exact ⟨i + 1, by omega, by go_num, ⟨each_took HK.out HSp.out HBk.out HN2.out HB2.out HLt.out hB HI4.out HS4.out⟩⟩
            · have HN2 := Aside0.mk (show some (st2, (i : Int) + 1, e2) = some (st', line, e) from by have h := HN.out; rw [if_neg h0] at h; exact h)
              have h0b : (e2 != 0) = true := bne_iff_ne.mpr h0
              have h0c : (e2 == 0) = false := beq_eq_false_iff_ne.mpr h0
              clear HN h0
              go_wp2_with (first | (go_at_call 38; refine (data_Words.calls _ _ _ HL.out).mono ?_; rintro e w2 ⟨v2, rfl, hR2, hb2⟩; have HR2 := Aside0.mk hR2; obtain ⟨A2, c2, rfl, hc2, hC2⟩ := Kd.R_reads hR2; obtain ⟨b2, o2, rfl, hcl2⟩ := C_cells hC2 HPos.out; have hcell2 := hcl2 0 _ HHead.out; simp only [Nat.add_zero] at hcell2; have HB2 := Aside0.mk hb2; clear hb2 hR2 hC2 hcl2 hc2) | (go_at_call 39; refine (Tryz.strings_HasPrefix _ _ _).mono ?_; rintro e w3 ⟨rfl, he3⟩; obtain rfl := he3.symm) | (go_at_fn g; refine (HS.out _ st1 st2 l _ _ w2 (Nat.le_trans hB (Nat.le_trans (Nat.le_of_lt HLt.out) HB2.out.size)) (each_pre HK.out HI1.out HB2.out) (each_words HR2.out) HNe.out HF.out).mono ?_; rintro e w4 ⟨rfl, hI4, hS4⟩; have HI4 := Aside0.mk hI4; have HS4 := Aside0.mk hS4; clear hI4 hS4))
              go_ret2
              have hN := Option.some.inj HN2.out
              simp only [Prod.mk.injEq] at hN
              obtain ⟨rfl, rfl, rfl⟩ := hN
              exact ⟨rfl, HK.out.mono HI4.out (each_ok HLt.out HB2.out), each_spare HSp.out HB2.out hB HLt.out HS4.out⟩
end Go.Proofs.YtknekneicecgiaaGreatDoor.M
