/- A strings.Builder that a call has made itself, as the bytes that it holds. A strings.Builder by which a call's other blocks are seen to stay; strconv.Itoa; data.PrintJob's closure. DataJobBack's sameJobs: of two jobs that hold the same. -/
import Derived.Test.YtknekneicecgiaaGreatDoorA0
import Derived.WalkKit
import Derived.Lib.BufferKept
import Derived.Shelf.Strings.BuilderK
import Derived.Deep.QuietTactic
import Derived.BigQuiet
import Derived.Deep.LoopGhost
namespace Go.Proofs.YtknekneicecgiaaGreatDoor.MB
open Go.RowKit Go.Lib Go.Proofs Go.Proofs.YtknekneicecgiaaGreatDoorW.PrintWords
def IsB (B b : Nat) (s : ByteArray) (w : World) : Prop := Lib.IsBuilder 80 5 B b (Lib.byteCells s.data.toList) w
theorem bu_fresh {w : World} {b : Nat} (h : w.heap[b]? = some (.cells #[.pointer none, .slice none 0 0] 80 (0, 0))) : IsB b b ⟨#[]⟩ w :=
  .inl ⟨Nat.le_refl _, _, h, ⟨rfl, .inl ⟨rfl, rfl⟩⟩, by simp [Value.ownBlock]⟩
end Go.Proofs.YtknekneicecgiaaGreatDoor.MB
namespace Go.Proofs.YtknekneicecgiaaGreatDoor.M
open Go.RowKit Go.Lib Go.Proofs Go.Proofs.YtknekneicecgiaaGreatDoorW.PrintWords Go.Proofs.YtknekneicecgiaaGreatDoor.MB
set_option linter.unusedVariables false
set_option linter.unusedSimpArgs false
def IsF (b : Nat) (s : ByteArray) (w : World) : Prop := Lib.IsBuilderF 80 5 b b (Lib.byteCells s.data.toList) w
theorem bf_fresh {w : World} {b : Nat} (h : w.heap[b]? = some (.cells #[.pointer none, .slice none 0 0] 80 (0, 0))) : IsF b ⟨#[]⟩ w := Lib.IsBuilderF.of (bu_fresh h)
theorem bf_lt {b : Nat} {s : ByteArray} {w : World} (h : IsF b s w) : b < w.heap.size := by
  rcases h with h | h <;> exact h.lt
theorem bfat_below {b : Nat} {p : Value} {bs : List Value} {w w1 : World} (h : Lib.BuilderAtF 80 5 b b p bs w) (hb : Below w.heap.size w w1) : Lib.BuilderAtF 80 5 b b p bs w1 := by
  obtain ⟨h1, v, h2, ⟨h3, h4⟩, h5⟩ := h
  refine ⟨h1, v, blk_below h2 hb, ⟨h3, ?_⟩, h5⟩
  rcases h4 with h4 | ⟨g, cap, cur, fz, e, e1, e2, r⟩
  · exact .inl h4
  · exact .inr ⟨g, cap, cur, fz, e, e1, blk_below e2 hb, r⟩
theorem bf_below {b : Nat} {s : ByteArray} {w w1 : World} (h : IsF b s w) (hb : Below w.heap.size w w1) : IsF b s w1 := h.imp (fun h => bfat_below h hb) (fun h => bfat_below h hb)
/-- What a write to the Builder leaves alone. -/
def Aft (b : Nat) (w w' : World) : Prop := Below b w w' ∧ Lib.OthersKept 5 (some b) w w'
theorem Aft.refl (b : Nat) (w : World) : Aft b w w := ⟨Below.refl _ _, Lib.OthersKept.refl _ _ _⟩
theorem Aft.trans {b : Nat} {w w1 w2 : World} (h : Aft b w w1) (h1 : Aft b w1 w2) : Aft b w w2 := ⟨h.1.trans h1.1, h.2.trans h1.2⟩
theorem Aft.below {b : Nat} {w w1 : World} (h : Below w.heap.size w w1) (hb : b ≤ w.heap.size) : Aft b w w1 := ⟨h.mono hb, (Lib.OthersKept.refl _ _ _).below h⟩
theorem Aft.block {b : Nat} {w w1 : World} (h : Aft b w w1) {k : Nat} {cs : Array Value} {t : TypeId} (hk : w.heap[k]? = some (.cells cs t (0, 0))) (hb : k ≠ b) (ht : t ≠ 5) : w1.heap[k]? = some (.cells cs t (0, 0)) :=
  h.2 k _ hk (fun e => hb (Option.some.inj e)) (fun c fz e => ht (by injection e))
theorem bf_write {b : Nat} {x s : ByteArray} {w : World} (h : IsF b x w) (hl : x.size + s.size ≤ 140737488355328) :
    Calls Tryz.prog 31 #[.pointer (some ⟨b, 0, none⟩), .string s] w fun e w' => e = .returned (.tuple #[.int .i64 s.size, .nilIface]) ∧ IsF b (x ++ s) w' ∧ Aft b w w' := by
  refine (Any.Builder_WriteString_k { Tryz.lays105 with } Tryz.Builder_Extra_105 b b _ s w h (by rw [Lib.byteCells_length, Array.length_toList]; exact hl) (Nat.le_of_lt (bf_lt h))).mono ?_
  rintro e w' ⟨h1, h2, h3, h4⟩
  refine ⟨h1, .inr ?_, h3, h4⟩
  rw [ByteArray.data_append, Array.toList_append, Lib.byteCells_append]
  exact h2
theorem bf_string {b : Nat} {x : ByteArray} {w : World} (h : IsF b x w) :
    Calls Tryz.prog 32 #[.pointer (some ⟨b, 0, none⟩)] w fun e w' => e = .returned (.string x) ∧ Below b w w' := by
  refine (Tryz.Builder_String_any_f b b x.data.toList w h (Nat.le_of_lt (bf_lt h))).mono ?_
  rintro e w' ⟨h1, _, h3⟩
  exact ⟨h1, h3⟩
/-- strconv's table of powers. -/
def TabP (w : World) : Prop := Lib.TabIs Tryz.prog w "internal/strconv.uint64pow10" .u64 Lib.pow10Tab
theorem tabp_below {w w' : World} (h : TabP w) (hb : Below w.heap.size w w') : TabP w' := by
  unfold TabP Lib.TabIs World.var? at h ⊢
  cases hg : Tryz.prog.globalNamed "internal/strconv.uint64pow10" with
  | none => simp [hg] at h
  | some g =>
    simp only [hg, Option.bind_some] at h ⊢
    have hlt : g < w.heap.size := by
      rcases Nat.lt_or_ge g w.heap.size with h' | h'
      · exact h'
      · simp [Array.getElem?_eq_none h'] at h
    rw [hb.block g hlt]
    exact h
def itB (n : Int) : ByteArray := ⟨(Lib.itoa n).toArray⟩
theorem itoa_calls (n : Int) (w : World) (hP : TabP w) (h0 : 0 ≤ n) (h1 : n ≤ 1000000) : Calls Tryz.prog 18 #[.int .i64 n] w fun e w' => e = .returned (.string (itB n)) ∧ Below w.heap.size w w' := by
  refine (Tryz.strconv_Itoa n (by omega) (by omega) w hP).mono ?_
  rintro e w' ⟨rfl, k, os, rfl⟩
  exact ⟨rfl, below_grow (pw_below_drewN (Below.refl _ _) k) (Nat.le_refl _) os⟩
/-- Words joined by blanks. -/
def jnB (l : List ByteArray) : ByteArray := ⟨(Lib.join (l.map (·.data.toList)) [32]).toArray⟩
theorem jn_f {l : List ByteArray} (h1 : l.length ≤ 1000) (h2 : (jnB l).size ≤ 100000000) : strings_Join.f l ⟨#[32]⟩ = some (jnB l) := by
  unfold strings_Join.f
  rw [if_pos ⟨by omega, by
    have h3 : (jnB l).size = (Lib.join (l.map (·.data.toList)) [32]).length := rfl
    rw [h3] at h2
    exact Nat.le_trans h2 (by omega)⟩]
  rfl
set_option maxHeartbeats 2000000 in
set_option maxRecDepth 100000 in
theorem put_ok {b : Nat} {x : ByteArray} {w : World} {A : Option Addr} {c : Nat} {l : List ByteArray} (h : IsF b x w) (hC : Kd.C Kd.string w A l.length l) (hc : l.length ≤ c) (h1 : l.length ≤ 1000) (h2 : (jnB l).size ≤ 100000000) (h3 : x.size ≤ 100000000) :
    Calls Tryz.prog 34 #[.slice A l.length c, .pointer (some ⟨b, 0, none⟩)] w fun e w' => e = .returned (.tuple #[]) ∧ IsF b (x ++ (jnB l ++ ⟨#[10]⟩)) w' ∧ Aft b w w' := by
  have HF := Aside0.mk h
  have HC := Aside0.mk hC
  have Hc := Aside0.mk hc
  have HJ := Aside0.mk (jn_f h1 h2)
  have hs : (9223372036854775807 < (jnB l).size + (⟨#[10]⟩ : ByteArray).size) = False := eq_false (by have h6 : (⟨#[10]⟩ : ByteArray).size = 1 := rfl; omega)
  have hs2 : (9223372036854775807 < (jnB l).size + 1) = False := eq_false (by omega)
  have HS : Aside0 (x.size + (jnB l ++ ⟨#[10]⟩ : ByteArray).size ≤ 140737488355328) := ⟨by
    rw [ByteArray.size_append]
    have h6 : (⟨#[10]⟩ : ByteArray).size = 1 := rfl
    omega⟩
  generalize hr : jnB l = r at HJ hs hs2 HS
  clear hC hc h1 h2 h3 h hr
  go_enter Tryz.func34, Tryz.ntmps34
  go_wp2_with (first
    | (go_at_call 35; refine (strings_Join.calls A c l ⟨#[32]⟩ r w HC.out Hc.out HJ.out).mono ?_; rintro e w2 ⟨rfl, hb2⟩; have HF2 := Aside0.mk (bf_below HF.out hb2); have HA2 := Aside0.mk (Aft.below hb2 (Nat.le_of_lt (bf_lt HF.out))); clear hb2)
    | (go_at_call 31; refine (bf_write HF2.out HS.out).mono ?_; rintro e w3 ⟨rfl, h5, h6⟩; have HF3 := Aside0.mk h5; have HA3 := Aside0.mk (HA2.out.trans h6); clear h5 h6))
  go_end0
  exact ⟨rfl, HF3.out, HA3.out⟩
end Go.Proofs.YtknekneicecgiaaGreatDoor.M
namespace Go.Proofs.YtknekneicecgiaaGreatDoor.M
open Go.RowKit Go.Lib Go.Proofs Go.Proofs.YtknekneicecgiaaGreatDoorW.PrintWords Go.Proofs.YtknekneicecgiaaGreatDoor.MB
set_option linter.unusedVariables false
set_option linter.unusedSimpArgs false
theorem eqA41 (d : Nat) (w : World) (x0 x1 x2 x3 x4 : Int) :
    (Op.equalIn (d + 2) 41 (.agg #[.int .i64 x0, .int .i64 x1, .int .i64 x2, .int .i64 x3, .int .i64 x4]) (.agg #[.int .i64 x0, .int .i64 x1, .int .i64 x2, .int .i64 x3, .int .i64 x4])).run Tryz.prog w = .ok true w := by
  have h : (Op.equalIn (d + 2) 41 (.agg #[.int .i64 x0, .int .i64 x1, .int .i64 x2, .int .i64 x3, .int .i64 x4]) (.agg #[.int .i64 x0, .int .i64 x1, .int .i64 x2, .int .i64 x3, .int .i64 x4])).run Tryz.prog w = .ok (x0 == x0 && (x1 == x1 && (x2 == x2 && (x3 == x3 && (x4 == x4))))) w := by
    refine eqA_of Tryz.underlying41 (by kernel_rfl) ?_
    refine eqf_cons (by rfl) (by go_simp; rfl) (by go_simp; rfl) (by go_simp) ?_
    refine eqf_cons (by rfl) (by go_simp; rfl) (by go_simp; rfl) (by go_simp) ?_
    refine eqf_cons (by rfl) (by go_simp; rfl) (by go_simp; rfl) (by go_simp) ?_
    refine eqf_cons (by rfl) (by go_simp; rfl) (by go_simp; rfl) (by go_simp) ?_
    exact eqf_last (by rfl) (by go_simp; rfl) (by go_simp; rfl) (by go_simp)
  rw [h]
  simp
set_option maxHeartbeats 4000000 in
set_option maxRecDepth 100000 in
theorem sameJobs_ok (m s gx gy gc c r : Int) (A1 A2 : Option Addr) (c1 c2 : Nat) (L : List Int) (w : World) (h1 : Kd.C (Kd.int .i64) w A1 L.length L) (h2 : Kd.C (Kd.int .i64) w A2 L.length L) (hl : L.length ≤ 1000) :
    Calls Tryz.prog 20 #[.agg #[.int .i64 m, .int .i64 s, .slice A1 L.length c1, .int .i64 gx, .int .i64 gy, .int .i64 gc, .int .i64 c, .int .i64 r], .agg #[.int .i64 m, .int .i64 s, .slice A2 L.length c2, .int .i64 gx, .int .i64 gy, .int .i64 gc, .int .i64 c, .int .i64 r]] w fun e w' => e = .returned (.bool true) ∧ Below w.heap.size w w' := by
  have HC1 := Aside0.mk h1
  have HC2 := Aside0.mk h2
  have HLl := Aside0.mk hl
  have heq := fun d W => eqA41 d W gx gy gc c r
  clear h1 h2 hl
  go_enter Tryz.func20, Tryz.ntmps20
  go_wp2
  have hB0 : Below w.heap.size w ((w.alloc (.cells #[.int .i64 m, .int .i64 s, .slice A1 L.length c1, .int .i64 gx, .int .i64 gy, .int .i64 gc, .int .i64 c, .int .i64 r] 43)).alloc (.cells #[.int .i64 m, .int .i64 s, .slice A2 L.length c2, .int .i64 gx, .int .i64 gy, .int .i64 gc, .int .i64 c, .int .i64 r] 43)) := below_alloc (below_alloc (Below.refl _ _) _) _
  have hs : (w.alloc (.cells #[.int .i64 m, .int .i64 s, .slice A1 L.length c1, .int .i64 gx, .int .i64 gy, .int .i64 gc, .int .i64 c, .int .i64 r] 43)).heap.size = w.heap.size + 1 := by simp
  have hk1 := (heap_alloc_old (w.alloc (.cells #[.int .i64 m, .int .i64 s, .slice A1 L.length c1, .int .i64 gx, .int .i64 gy, .int .i64 gc, .int .i64 c, .int .i64 r] 43)) (.cells #[.int .i64 m, .int .i64 s, .slice A2 L.length c2, .int .i64 gx, .int .i64 gy, .int .i64 gc, .int .i64 c, .int .i64 r] 43) (r := w.heap.size) (by rw [hs]; exact Nat.lt_succ_self _)).trans (heap_alloc_new w _)
  have hk2 := heap_alloc_new (w.alloc (.cells #[.int .i64 m, .int .i64 s, .slice A1 L.length c1, .int .i64 gx, .int .i64 gy, .int .i64 gc, .int .i64 c, .int .i64 r] 43)) (.cells #[.int .i64 m, .int .i64 s, .slice A2 L.length c2, .int .i64 gx, .int .i64 gy, .int .i64 gc, .int .i64 c, .int .i64 r] 43)
  rw [hs] at hk2
  have HS := Aside0.mk (And.intro hB0 (And.intro hk1 hk2))
  clear hB0 hk1 hk2 hs
  generalize ((w.alloc (.cells #[.int .i64 m, .int .i64 s, .slice A1 L.length c1, .int .i64 gx, .int .i64 gy, .int .i64 gc, .int .i64 c, .int .i64 r] 43)).alloc (.cells #[.int .i64 m, .int .i64 s, .slice A2 L.length c2, .int .i64 gx, .int .i64 gy, .int .i64 gc, .int .i64 c, .int .i64 r] 43)) = w1 at HS ⊢
  go_loopg [37] L.length (fun gf v37 wr => ∃ i : Nat, i + gf = L.length ∧ v37 = .int .i64 i ∧ Aside0 (Below w.heap.size w wr ∧ wr.heap[w.heap.size]? = some (.cells #[.int .i64 m, .int .i64 s, .slice A1 L.length c1, .int .i64 gx, .int .i64 gy, .int .i64 gc, .int .i64 c, .int .i64 r] 43) ∧ wr.heap[w.heap.size + 1]? = some (.cells #[.int .i64 m, .int .i64 s, .slice A2 L.length c2, .int .i64 gx, .int .i64 gy, .int .i64 gc, .int .i64 c, .int .i64 r] 43)))
  case atStart => exact ⟨0, by omega, rfl, HS⟩
  case round =>
    clear HS
    obtain ⟨i, hig, rfl, HR⟩ := hrel
    cases gk with
    | zero =>
      have hin : decide ((i : Int) < (L.length : Int)) = false := by simp; omega
      go_wp2
      go_ret
      exact ⟨rfl, HR.out.1⟩
    | succ gf =>
      have hlt : i < L.length := by omega
      have hlt2 : (i : Int) < (L.length : Int) := by omega
      have hin : decide ((i : Int) < (L.length : Int)) = true := by simp; omega
      obtain ⟨b1, o1, rfl, e1⟩ := C_cells ((Kd.heap_int .i64).C (fun k hk => HR.out.1.block k hk) HC1.out) (by omega)
      obtain ⟨b2, o2, rfl, e2⟩ := C_cells ((Kd.heap_int .i64).C (fun k hk => HR.out.1.block k hk) HC2.out) (by omega)
      have f1 := e1 i _ (List.getElem?_eq_getElem hlt)
      have f2 := e2 i _ (List.getElem?_eq_getElem hlt)
      generalize L[i] = y at f1 f2
      have g1 : wr.cell? ⟨w.heap.size, 2, none⟩ = some (.slice (some ⟨b1, o1, none⟩) L.length c1) := blk_cell HR.out.2.1 2
      have g2 : wr.cell? ⟨w.heap.size + 1, 2, none⟩ = some (.slice (some ⟨b2, o2, none⟩) L.length c2) := blk_cell HR.out.2.2 2
      clear e1 e2
      go_wp2
      go_quiet (fail)
      go_wp2
      go_roundg gf
      case measure => omega
      case rel => exact ⟨i + 1, by omega, congrArg (Value.int .i64) (by have := HLl.out; unfold wrap64; omega), ⟨pw_below_drewN HR.out.1 _, HR.out.2.1, HR.out.2.2⟩⟩
end Go.Proofs.YtknekneicecgiaaGreatDoor.M
