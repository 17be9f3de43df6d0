/- The law's own words of a line: a fold over its bytes. -/
import Derived.Test.YtknekneicecgiaaGreatDoorHA
import Derived.BigQuiet
import Derived.Deep.QuietTactic
namespace Go.Proofs.YtknekneicecgiaaGreatDoor.M
open Go.RowKit Go.Lib Go.Proofs.YtknekneicecgiaaGreatDoorW.PrintWords Go.Proofs.YtknekneicecgiaaGreatDoor.MB
set_option linter.unusedVariables false
set_option linter.unusedSimpArgs false
theorem snoc_ind {α : Type} {P : List α → Prop} (h0 : P []) (h1 : ∀ l c, P l → P (l ++ [c])) (l : List α) : P l := by
  have : ∀ r : List α, P r.reverse := fun r => by
    induction r with
    | nil => simpa using h0
    | cons c r ih => simpa using h1 _ c ih
  simpa using this l.reverse
def isBlank (c : UInt8) : Bool := c == 32 || c == 9 || c == 13
def addTo (l : List ByteArray) (c : UInt8) : List ByteArray := l.set (l.length - 1) (l.getD (l.length - 1) ⟨#[]⟩ ++ ⟨#[c]⟩)
def wstep (st : List ByteArray × Bool) (c : UInt8) : List ByteArray × Bool :=
  if isBlank c then (st.1, false) else (addTo (if st.2 then st.1 else st.1 ++ [⟨#[]⟩]) c, true)
def wordsL (l : List UInt8) : List ByteArray × Bool := l.foldl wstep ([], false)
theorem wordsL_snoc (l : List UInt8) (c : UInt8) : wordsL (l ++ [c]) = wstep (wordsL l) c := by simp [wordsL]
theorem addTo_length (l : List ByteArray) (c : UInt8) : (addTo l c).length = l.length := by simp [addTo]
theorem wordsL_ok (l : List UInt8) : ((wordsL l).2 = true → 0 < (wordsL l).1.length) ∧ (wordsL l).1.length ≤ l.length ∧ ∀ x ∈ (wordsL l).1, x.size ≤ l.length := by
  induction l using snoc_ind with
  | h0 => simp [wordsL]
  | h1 l c ih =>
    obtain ⟨i1, i2, i3⟩ := ih
    rw [wordsL_snoc, wstep]
    split
    · exact ⟨by simp, by simp; omega, fun x hx => by have := i3 x hx; simp; omega⟩
    · have key : ∀ m : List ByteArray, 0 < m.length → m.length ≤ l.length + 1 → (∀ x ∈ m, x.size ≤ l.length) → ((addTo m c, true).2 = true → 0 < (addTo m c, true).1.length) ∧ (addTo m c, true).1.length ≤ (l ++ [c]).length ∧ ∀ x ∈ (addTo m c, true).1, x.size ≤ (l ++ [c]).length := by
        intro m h1 h2 h3
        refine ⟨fun _ => by simp [addTo_length]; omega, by simp [addTo_length]; omega, fun x hx => ?_⟩
        rcases List.mem_or_eq_of_mem_set hx with hx | rfl
        · have := h3 x hx; simp; omega
        · rw [ByteArray.size_append]
          have h4 : m.getD (m.length - 1) ⟨#[]⟩ ∈ m := by
            rw [List.getD_eq_getElem?_getD, List.getElem?_eq_getElem (by omega)]
            exact List.getElem_mem _
          have h5 := h3 _ h4
          have h6 : (⟨#[c]⟩ : ByteArray).size = 1 := rfl
          rw [h6, List.length_append, List.length_singleton]
          omega
      cases hb : (wordsL l).2
      · rw [if_neg (by simp)]
        exact key ((wordsL l).1 ++ [⟨#[]⟩]) (by simp) (by simp; omega) (fun x hx => by
          rcases List.mem_append.1 hx with hx | hx
          · exact i3 x hx
          · simp at hx
            subst hx
            exact Nat.zero_le _)
      · rw [if_pos rfl]
        exact key (wordsL l).1 (i1 hb) (by omega) i3
def isohyetlaw25_words.f (s : ByteArray) : Option (List ByteArray) := if s.size ≤ 1000000 then some (wordsL s.data.toList).1 else none
theorem take_snoc (s : ByteArray) (k : Nat) (h : k < s.size) : s.data.toList.take (k + 1) = s.data.toList.take k ++ [s[k]] := by
  rw [List.take_succ_eq_append_getElem (by simpa using h)]; rfl
theorem own_map {w : World} {B e : Nat} {v : Value} {xs ys : List ByteArray} {n : Nat} (h : w.ownsRow B e 1 v n (xs.map Value.string)) (hx : xs = ys) (hn : n = ys.length) : w.ownsRow B e 1 v ys.length (ys.map Value.string) := by
  subst hx; subst hn; exact h
theorem one_byte {P : Program} {src e dst : TypeId} (hs : P.underlying src = some (.slice e)) (he : P.underlying e = some (.int .u8)) (hd : P.underlying dst = some .string) (w : World) (c : UInt8) :
    (convert src dst (.slice (some ⟨w.heap.size, 0, none⟩) 1 1)).run P ((w.alloc (.cells #[.int .u8 (c.toNat : Int)] e)).drew) = .ok (.string ⟨#[c]⟩) ((w.alloc (.cells #[.int .u8 (c.toNat : Int)] e)).drew) := by
  have h := run_convert_bytes_arg ((w.alloc (.cells #[.int .u8 (c.toNat : Int)] e)).drew) src e hs he w.heap.size 0 1 1 [(c.toNat : Int)] rfl (fun i hi => by
    obtain rfl : i = 0 := by omega
    exact World.cell?_alloc_at #[.int .u8 (c.toNat : Int)] e w.heap.size 0 rfl) dst hd
  rw [h]
  simp [strOfNums]
set_option maxHeartbeats 2000000 in
set_option maxRecDepth 100000 in
theorem isohyetlaw25_words.calls (s : ByteArray) (r : List ByteArray) (w : World) (h : isohyetlaw25_words.f s = some r) :
    Calls Tryz.prog 24 #[.string s] w fun e w' => ∃ v : Value, e = .returned v ∧ Kd.R Kd.string 9 w' w.heap.size (fun _ => True) v r ∧ Below w.heap.size w w' := by
  unfold isohyetlaw25_words.f at h
  split at h
  · rename_i hs
    obtain rfl := Option.some.inj h
    have kb := fun W => print_bytes (P := Tryz.prog) 9 36 5 Tryz.underlying9 Tryz.underlying36 Tryz.underlying5 s W
    have hb0 : Below (w.heap.size + 1) (Lib.bytesWorld w 5 s) (Lib.bytesWorld w 5 s) := Below.refl _ _
    have hcell : ∀ i (h : i < s.size), (Lib.bytesWorld w 5 s).cell? ⟨w.heap.size, i, none⟩ = some (.int .u8 ((s[i]'h).toNat : Int)) := fun i h => by
      rw [Lib.bytesWorld_cell w 5 s i h, List.getD_eq_getElem?_getD, List.getElem?_eq_getElem (by simpa using h)]
      rfl
    have HC := Lib.hid hcell
    clear hcell
    go_enter Tryz.func24, Tryz.ntmps24
    go_wp2
    clear kb
    go_loopg [3, 4, 10] s.size (fun gf v3 v4 v10 wr => ∃ (i : Nat) (out : List ByteArray) (inn : Bool) (v : Value), i + gf = s.size ∧ v = v3 ∧ v10 = .int .i64 i ∧ v4 = .bool inn ∧ Aside0 (wordsL (s.data.toList.take i) = (out, inn)) ∧ wr.ownsRow (w.heap.size + 1) 9 1 v out.length (out.map Value.string) ∧ Below (w.heap.size + 1) (Lib.bytesWorld w 5 s) wr)
    case atStart => exact ⟨0, [], false, _, by omega, rfl, rfl, rfl, ⟨rfl⟩, own_nil _ _ _ _, hb0⟩
    case round =>
      obtain ⟨i, out, inn, v, hig, rfl, rfl, rfl, hW, hO, hB⟩ := hrel
      cases gk with
      | zero =>
        have hin : ¬ ((i : Int) < (s.size : Int)) := by omega
        obtain rfl : i = s.size := by omega
        go_wp2
        go_ret
        have e1 : (wordsL s.data.toList).1 = out := by
          have h1 := hW.out
          rw [List.take_of_length_le (by simp [data_length])] at h1
          rw [h1]
        rw [e1]
        refine ⟨_, rfl, Kd.R_lower (base := w.heap.size + 1) (Kd.R_of_own (enc := Value.string) hO (fun _ _ => trivial)) (Nat.le_succ _), ?_⟩
        exact (bytes_below (Below.refl w.heap.size w) (Nat.le_refl _) 5 s).trans (hB.mono (Nat.le_succ _))
      | succ gf =>
        have hin : (i : Int) < (s.size : Int) := by omega
        have hlt : i < s.size := by omega
        have hc := HC.out i hlt
        have hc' : wr.cell? ⟨w.heap.size, i, none⟩ = some (.int .u8 ((s[i]'hlt).toNat : Int)) := (hB.cell (p := ⟨w.heap.size, i, none⟩) (by show w.heap.size < w.heap.size + 1; omega)).trans hc
        clear hc
        have hT : s.data.toList.take (i + 1) = s.data.toList.take i ++ [s[i]] := take_snoc s i hlt
        generalize s[i] = c at hc' hT
        have hNext : Aside0 (wordsL (s.data.toList.take (i + 1)) = wstep (out, inn) c) := ⟨by rw [hT, wordsL_snoc, hW.out]⟩
        have hOK : Aside0 ((inn = true → 0 < out.length) ∧ out.length ≤ i ∧ ∀ x ∈ out, x.size ≤ i) := ⟨by
          have h1 := wordsL_ok (s.data.toList.take i)
          rw [hW.out] at h1
          have h2 : (s.data.toList.take i).length ≤ i := List.length_take_le _ _
          exact ⟨h1.1, by have := h1.2.1; simp at this; omega, fun x hx => by have := h1.2.2 x hx; simp at this; omega⟩⟩
        clear hT hW HC
        by_cases hb : isBlank c = true
        · have hx : c = 32 ∨ c = 9 ∨ c = 13 := by simpa [isBlank, or_assoc] using hb
          have hNx : Aside0 (wordsL (s.data.toList.take (i + 1)) = (out, false)) := ⟨by rw [hNext.out, wstep, if_pos hb]⟩
          clear hNext hb hOK
          rcases hx with rfl | rfl | rfl
          all_goals
            go_wp2
            go_roundg gf
            case measure => omega
            case rel => exact ⟨i + 1, out, false, _, by omega, rfl, by go_num, rfl, hNx, hO, hB⟩
        · have h32 : ((c.toNat : Int) == 32) = false := by
            have : c ≠ 32 := fun e => hb (by rw [e]; rfl)
            have h2 : c.toNat ≠ 32 := fun e => this (UInt8.toNat_inj.1 e)
            simp; omega
          have h9 : ((c.toNat : Int) == 9) = false := by
            have : c ≠ 9 := fun e => hb (by rw [e]; rfl)
            have h2 : c.toNat ≠ 9 := fun e => this (UInt8.toNat_inj.1 e)
            simp; omega
          have h13 : ((c.toNat : Int) == 13) = false := by
            have : c ≠ 13 := fun e => hb (by rw [e]; rfl)
            have h2 : c.toNat ≠ 13 := fun e => this (UInt8.toNat_inj.1 e)
            simp; omega
          cases inn
          · have hNx : Aside0 (wordsL (s.data.toList.take (i + 1)) = (addTo (out ++ [⟨#[]⟩]) c, true)) := ⟨by rw [hNext.out, wstep, if_neg hb]; rfl⟩
            have hsz0 : w.heap.size + 1 ≤ wr.heap.size := by have := hB.size; rw [Lib.bytesWorld_size] at this; exact this
            have hl0 : (out.length + 1) * 16 ≤ 140737488355328 := by have := hOK.out.2.1; omega
            have hinfo9 : (Tryz.prog.info? 9).map (fun i => (i.zero, i.size, i.bytes)) = some (some (.string ⟨#[]⟩), 1, 16) := by kernel_rfl
            have HI := Aside0.mk hinfo9
            have HL := Aside0.mk hl0
            have HS := Aside0.mk hsz0
            clear hNext hb hinfo9 hl0 hsz0
            go_wp2_with (first | (at_builtin; refine print_append (w0 := Lib.bytesWorld w 5 s) (w.heap.size + 1) rfl (.tmp 26) (.tmp 27) 29 9 (.string ⟨#[]⟩) 16 rfl Tryz.underlying29 HI.out rfl (by decide) v (out.map Value.string) (.string ⟨#[]⟩) rfl rfl rfl (by rw [List.length_map]; exact hO) hB HS.out (by rw [List.length_map]; exact HL.out) ?_; intro v1 w1 hO1 hB1 hg1 hat1; have HO1 := Aside0.mk hO1; have HB1 := Aside0.mk hB1; clear hO1 hB1 hg1 hat1))
            obtain ⟨out1, ho1⟩ : ∃ o, o = out ++ [(⟨#[]⟩ : ByteArray)] := ⟨_, rfl⟩
            rw [← ho1] at hNx
            have hO0 : w1.ownsRow (w.heap.size + 1) 9 1 v1 out1.length (out1.map Value.string) := by
              have h := HO1.out
              rw [ho1]
              simpa using h
            have hB0 := HB1.out
            have hn : 0 < out1.length := by rw [ho1]; simp
            have hl : out1.length ≤ i + 1 := by have := hOK.out.2.1; rw [ho1]; simp; omega
            have hOK1 : Aside0 (∀ x ∈ out1, x.size ≤ i) := ⟨by
              rw [ho1]
              intro x hx
              rcases List.mem_append.1 hx with hx | hx
              · exact hOK.out.2.2 x hx
              · simp at hx
                subst hx
                exact Nat.zero_le _⟩
            clear hOK HI HL HS hO hB HO1 HB1 ho1 hc'
            obtain ⟨g, cap, rfl⟩ : ∃ g cap, v1 = Value.slice (some ⟨g, 0, none⟩) out1.length cap := by
              rcases hO0.2 with ⟨_, h0⟩ | ⟨g, cap, _, h0, _⟩
              · omega
              · exact ⟨g, cap, h0⟩
            have hcl := hO0.cellAt (out1.length - 1) (by omega)
            have hfz := hO0.frozenAt (out1.length - 1)
            rw [List.getElem?_map, List.getElem?_eq_getElem (by omega), Option.map_some] at hcl
            have hls : (out1[out1.length - 1]).size ≤ i := hOK1.out _ (List.getElem_mem _)
            have hlast : Aside0 (addTo out1 c = out1.set (out1.length - 1) (out1[out1.length - 1] ++ ⟨#[c]⟩)) := ⟨by rw [addTo, List.getD_eq_getElem?_getD, List.getElem?_eq_getElem (by omega)]; rfl⟩
            generalize out1[out1.length - 1] = last at hcl hls hlast
            clear hOK1
            have q0 : (0 : Int) ≤ (out1.length : Int) - 1 := by omega
            have q1 : (out1.length : Int) - 1 < (out1.length : Int) := by omega
            have q2 : ((out1.length : Int) - 1).toNat = out1.length - 1 := by omega
            have q3 : IntKind.i64.wrap ((out1.length : Int) - 1) = (out1.length : Int) - 1 := IntWalk.i64_in _ (by omega)
            have hgl : g < w1.heap.size := (hO0.lt g rfl).2
            have hcl2 : (w1.alloc (.cells #[.int .u8 (c.toNat : Int)] 5)).cell? ⟨g, out1.length - 1, none⟩ = some (.string last) := (World.cell?_alloc_past _ _ _ hgl).trans hcl
            have hfz2 : (w1.alloc (.cells #[.int .u8 (c.toNat : Int)] 5)).frozen? ⟨g, out1.length - 1, none⟩ = false := (hO0.alloc _).frozenAt _
            have hsum1 : (9223372036854775807 < last.size + (⟨#[c]⟩ : ByteArray).size) = False := eq_false (by have h6 : (⟨#[c]⟩ : ByteArray).size = 1 := rfl; omega)
            have hsum2 : (9223372036854775807 < last.size + 1) = False := eq_false (by omega)
            have kc := one_byte Tryz.underlying36 Tryz.underlying5 Tryz.underlying9 w1 c
            have hsz : w.heap.size + 1 ≤ w1.heap.size := by have := hB0.size; rw [Lib.bytesWorld_size] at this; exact this
            have hst := hO0.stored (out1.length - 1) (.string (last ++ ⟨#[c]⟩))
            have hO2 := own_map (ys := addTo out1 c) (by rw [← List.map_set] at hst; exact hst.1) hlast.out.symm (by rw [addTo_length])
            have hO2 := hO2.alloc (.cells #[.int .u8 (c.toNat : Int)] 5)
            have hbg := own_base hO0 g rfl
            have hB2 := (hB0.grown hst.2 hsz (fun k hk => by cases hk; exact hbg)).alloc (by have := hst.2.size; omega) (.cells #[.int .u8 (c.toNat : Int)] 5)
            have hO3 := Aside0.mk hO2
            have hB3 := Aside0.mk hB2
            clear hO2 hB2 hst
            go_region
            go_wp2
            go_roundg gf
            case measure => omega
            case rel =>
              exact ⟨i + 1, addTo out1 c, true, _, by omega, rfl, by go_num, rfl, hNx, hO3.out, below_drew hB3.out⟩
          · have hNx : Aside0 (wordsL (s.data.toList.take (i + 1)) = (addTo out c, true)) := ⟨by rw [hNext.out, wstep, if_neg hb, if_pos rfl]⟩
            have hn := hOK.out.1 rfl
            have hl : out.length ≤ i + 1 := by have := hOK.out.2.1; omega
            have hOK := Aside0.mk hOK.out.2.2
            clear hNext hb
            obtain ⟨g, cap, rfl⟩ : ∃ g cap, v = Value.slice (some ⟨g, 0, none⟩) out.length cap := by
              rcases hO.2 with ⟨_, h0⟩ | ⟨g, cap, _, h0, _⟩
              · omega
              · exact ⟨g, cap, h0⟩
            have hcl := hO.cellAt (out.length - 1) (by omega)
            have hfz := hO.frozenAt (out.length - 1)
            rw [List.getElem?_map, List.getElem?_eq_getElem (by omega), Option.map_some] at hcl
            have hls : (out[out.length - 1]).size ≤ i := hOK.out _ (List.getElem_mem _)
            have hlast : Aside0 (addTo out c = out.set (out.length - 1) (out[out.length - 1] ++ ⟨#[c]⟩)) := ⟨by rw [addTo, List.getD_eq_getElem?_getD, List.getElem?_eq_getElem (by omega)]; rfl⟩
            generalize out[out.length - 1] = last at hcl hls hlast
            clear hOK
            go_wp2
            have q0 : (0 : Int) ≤ (out.length : Int) - 1 := by omega
            have q1 : (out.length : Int) - 1 < (out.length : Int) := by omega
            have q2 : ((out.length : Int) - 1).toNat = out.length - 1 := by omega
            have q3 : IntKind.i64.wrap ((out.length : Int) - 1) = (out.length : Int) - 1 := IntWalk.i64_in _ (by omega)
            have hgl : g < wr.heap.size := (hO.lt g rfl).2
            have hcl2 : (wr.alloc (.cells #[.int .u8 (c.toNat : Int)] 5)).cell? ⟨g, out.length - 1, none⟩ = some (.string last) := (World.cell?_alloc_past _ _ _ hgl).trans hcl
            have hfz2 : (wr.alloc (.cells #[.int .u8 (c.toNat : Int)] 5)).frozen? ⟨g, out.length - 1, none⟩ = false := (hO.alloc _).frozenAt _
            have hsum1 : (9223372036854775807 < last.size + (⟨#[c]⟩ : ByteArray).size) = False := eq_false (by have h6 : (⟨#[c]⟩ : ByteArray).size = 1 := rfl; omega)
            have hsum2 : (9223372036854775807 < last.size + 1) = False := eq_false (by omega)
            have kc := one_byte Tryz.underlying36 Tryz.underlying5 Tryz.underlying9 wr c
            have hsz : w.heap.size + 1 ≤ wr.heap.size := by have := hB.size; rw [Lib.bytesWorld_size] at this; exact this
            have hst := hO.stored (out.length - 1) (.string (last ++ ⟨#[c]⟩))
            have hO2 := own_map (ys := addTo out c) (by rw [← List.map_set] at hst; exact hst.1) hlast.out.symm (by rw [addTo_length])
            have hO2 := hO2.alloc (.cells #[.int .u8 (c.toNat : Int)] 5)
            have hbg := own_base hO g rfl
            have hB2 := (hB.grown hst.2 hsz (fun k hk => by cases hk; exact hbg)).alloc (by have := hst.2.size; omega) (.cells #[.int .u8 (c.toNat : Int)] 5)
            have hO3 := Aside0.mk hO2
            have hB3 := Aside0.mk hB2
            clear hO2 hB2 hst
            go_region
            go_wp2
            go_roundg gf
            case measure => omega
            case rel =>
              exact ⟨i + 1, addTo out c, true, _, by omega, rfl, by go_num, rfl, hNx, hO3.out, below_drew hB3.out⟩
  · cases h
end Go.Proofs.YtknekneicecgiaaGreatDoor.M
