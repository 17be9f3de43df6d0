/- A job's method: its word's number. -/
import Derived.Test.YtknekneicecgiaaGreatDoorHL
import Derived.Test.YtknekneicecgiaaGreatDoorE9
namespace Go.Proofs.YtknekneicecgiaaGreatDoor.M
open Go.RowKit Go.Lib Go.Proofs.YtknekneicecgiaaGreatDoorW.PrintWords Go.Proofs.YtknekneicecgiaaGreatDoorW.PrintLast Go.Proofs.YtknekneicecgiaaGreatDoor.MB
set_option linter.unusedVariables false
set_option linter.unusedSimpArgs false
def methodF (st : RS) (key : ByteArray) (l : List ByteArray) : Option (RS × Int) :=
  if key.data.toList = kMethod.data.toList ∧ 0 < l.length then (slices_Index_string_string.f 10 mths (l.headD ⟨#[]⟩)).bind fun i => some ({ st with m := i }, if i < 0 then 1 else 0) else none
theorem mths_C {w : World} (h : TabW w) : Kd.C Kd.string w (some ⟨0, 0, none⟩) mths.length mths := by
  refine Kd.C_of_reads (d := ⟨#[]⟩) ⟨rfl, by decide, fun _ => ⟨_, rfl, fun j hj => ?_⟩⟩
  rw [addr_add, Nat.zero_add, h.2.2 j _ (List.getElem?_eq_getElem hj), List.getD_eq_getElem?_getD, List.getElem?_eq_getElem hj]
  rfl
def rsCells (st : RS) (vl : Value) (xy z : Int) (Bm : Nat) : Array Value := #[.int .i64 st.m, .int .i64 st.s, vl, .int .i64 st.gx, .int .i64 st.gy, .int .i64 st.gc, .int .i64 st.gcols, .int .i64 st.grows, .int .i64 xy, .int .i64 z, .map (some Bm)]
/-- A number stored into a field. -/
theorem rs_put {xy z : Int} {Br Bm B : Nat} {ok : Nat → Prop} {st st' : RS} {w w4 : World} (hB2 : 2 < B) (hBr : B ≤ Br) (hB : B ≤ w.heap.size) (hI : RSInv xy z Br Bm B ok st w) (hb : Below w.heap.size w w4) (j : Nat) (u : Value)
    (hcs : ∀ vl, (rsCells st vl xy z Bm).setIfInBounds j u = rsCells st' vl xy z Bm) (hs : st'.seen = st.seen) (hl : st'.lv = st.lv) :
    RSInv xy z Br Bm B (fun k => ok k ∨ w.heap.size ≤ k) st' (w4.setCell ⟨Br, j, none⟩ u) ∧ Spare ok B w (w4.setCell ⟨Br, j, none⟩ u) := by
  have o1 : ok Br := by obtain ⟨_, _, _, o, _⟩ := hI; exact o.1
  obtain ⟨vl, h1, h2, ho, hT, hR⟩ := keep_below (rs_keeps xy z Br Bm B) hI hb
  have h1' : w4.heap[Br]? = some (.cells (rsCells st vl xy z Bm) 70 (0, 0)) := h1
  have hne : Bm ≠ Br := fun h => by
    obtain ⟨es, clock, h3, _⟩ := h2
    rw [h, h1'] at h3
    cases h3
  have hsz : (w4.setCell ⟨Br, j, none⟩ u).heap.size = w4.heap.size := by simp
  have hfar : ∀ k, k ≠ Br → (w4.setCell ⟨Br, j, none⟩ u).heap[k]? = w4.heap[k]? := fun k hk => Below.heap_setCell w4 ⟨Br, j, none⟩ u k hk
  refine ⟨⟨vl, ?_, ?_, ho, tab_move hT (by rw [hsz]; exact Nat.le_refl _) (hfar _ (by omega)) (hfar _ (by omega)), ?_⟩, (hb.mono hB).trans ((Below.refl B w4).setCell hBr u), by rw [hsz]; exact hb.size, fun k hk hn => (hfar _ (fun h => hn (by rw [h]; exact o1))).trans (hb.block k hk)⟩
  · have h := blk_set h1' j u
    rw [hcs] at h
    exact h
  · rw [hs]
    exact own_map_move h2 (hfar _ hne)
  · rw [hl]
    exact Kd.R_set hR h1' (fun q hq => by
      simp only [List.mem_cons] at hq
      rcases hq with rfl | hq
      · decide
      · have : (Kd.int .i64).E = [] := rfl
        rw [this] at hq
        cases hq) j u
set_option maxHeartbeats 4000000 in
set_option maxRecDepth 100000 in
theorem method_ok (xy z : Int) (Br Bm B : Nat) (hB2 : 2 < B) (hBr : B ≤ Br) : ValueOk Tryz.prog 49 methodF xy z Br Bm B := by
  intro ok st st' key l e A c w hB hI hread hc hf
  unfold methodF at hf
  split at hf
  · rename_i hk
    obtain ⟨hk, hl⟩ := hk
    obtain rfl : key = kMethod := by cases key; cases hk' : kMethod; rw [hk'] at hk; congr 1; exact Array.toList_inj.mp hk
    obtain ⟨i, hix, hf⟩ := Option.bind_eq_some_iff.mp hf
    have hf := Option.some.inj hf
    simp only [Prod.mk.injEq] at hf
    obtain ⟨rfl, rfl⟩ := hf
    obtain ⟨b, o, rfl, hcell⟩ := C_cells (hread w (fun _ _ _ => rfl)) hl
    have hy := hcell 0 (l.headD ⟨#[]⟩) (by cases l with
      | nil => simp at hl
      | cons x t => rfl)
    rw [Nat.add_zero] at hy
    generalize l.headD ⟨#[]⟩ = y at hy hix
    have HI := Aside0.mk hI
    obtain ⟨vl, h1, h2, ⟨o1, o2, o3, o4⟩, hT, hR⟩ := hI
    have H1 := Aside0.mk h1
    have H2 := Aside0.mk h2
    have HT := Aside0.mk hT
    have HR := Aside0.mk hR
    have HIx := Aside0.mk hix
    have HB3 := Aside0.mk (Below.refl w.heap.size w)
    have hln : 0 < l.length := hl
    have hli : (0 : Int) < (l.length : Int) := by omega
    have f0 : w.frozen? ⟨Br, 0, none⟩ = false := blk_frozen h1 0
    have c0 : w.cell? ⟨Br, 0, none⟩ = some (.int .i64 st.m) := by rw [blk_cell h1]; rfl
    clear h1 h2 hT hR hix hcell hread hl hk
    show Calls Tryz.prog 49 #[.pointer (some ⟨Br, 0, none⟩), .string ⟨#[109, 101, 116, 104, 111, 100]⟩, .slice (some ⟨b, o, none⟩) l.length c] w _
    go_enter Tryz.func49, Tryz.ntmps49
    go_wp2
    refine start_ (n := 10) (S := fun w' => w'.cell? ⟨b, o, none⟩ = some (.string y)) (ds := [9]) #[false, false, false, false, false, false, false, false, false, false] (by kernel_rfl) rfl rfl hy (fun hHeld => ?_)
    replace H1 : Aside0 (w.drew.heap[Br]? = _) := H1
    have HT3 : Aside0 (TabW w.drew) := HT
    replace HB3 : Aside0 (Below w.heap.size w w.drew) := ⟨below_drew HB3.out⟩
    clear hy
    generalize w.drew = w3 at H1 HT3 HB3 hHeld ⊢
    have c3 : w3.cell? ⟨Br, 0, none⟩ = some (.int .i64 st.m) := by rw [blk_cell H1.out]; rfl
    have f3 : w3.frozen? ⟨Br, 0, none⟩ = false := blk_frozen H1.out 0
    refine pure_ (i := 0) (N := (some 39)) (v := ?_) (a' := ?_) #[true, false, false, false, false, false, false, false, false, false] rfl rfl (by kernel_rfl) (fun _ _ _ h => h) (Or.inl ⟨by rfl, ?_⟩) ?_ ?_
    rotate_left
    · intro w'
      go_simp
      with_reducible rfl
    rotate_left
    · simp only [Act.put, List.setIfInBounds_toArray, List.set_cons_zero, List.set_cons_succ, i64_w, i32_w]
      rfl
    refine pure_ (i := 1) (N := (some 40)) (v := ?_) (a' := ?_) #[true, true, false, false, false, false, false, false, false, false] rfl rfl (by kernel_rfl) (fun _ _ _ h => h) (Or.inl ⟨by rfl, ?_⟩) ?_ ?_
    rotate_left
    · intro w'
      go_simp
      with_reducible rfl
    rotate_left
    · simp only [Act.put, List.setIfInBounds_toArray, List.set_cons_zero, List.set_cons_succ, i64_w, i32_w]
      rfl
    refine pure_ (i := 2) (N := (some 41)) (v := ?_) (a' := ?_) #[true, true, true, false, false, false, false, false, false, false] rfl rfl (by kernel_rfl) (fun _ _ _ h => h) (Or.inl ⟨by rfl, ?_⟩) ?_ ?_
    rotate_left
    · intro w'
      go_simp
      with_reducible rfl
    rotate_left
    · simp only [Act.put, List.setIfInBounds_toArray, List.set_cons_zero, List.set_cons_succ, i64_w, i32_w]
      rfl
    refine pure_ (i := 3) (N := (some 42)) (v := ?_) (a' := ?_) #[true, true, true, true, false, false, false, false, false, false] rfl rfl (by kernel_rfl) (fun _ _ _ h => h) (Or.inl ⟨by rfl, ?_⟩) ?_ ?_
    rotate_left
    · intro w'
      go_simp
      with_reducible rfl
    rotate_left
    · simp only [Act.put, List.setIfInBounds_toArray, List.set_cons_zero, List.set_cons_succ, i64_w, i32_w]
      rfl
    refine take_ (i := 4) (N := (some 43)) (v := ?_) (a' := ?_) #[true, true, true, true, true, false, false, false, false, false] rfl rfl (by kernel_rfl) (fun _ _ _ h => h) (Or.inl ⟨by rfl, ?_⟩) hHeld ?_ ?_
    rotate_left
    · rintro w' s0
      go_simp
      with_reducible rfl
    rotate_left
    · simp only [Act.put, List.setIfInBounds_toArray, List.set_cons_zero, List.set_cons_succ, i64_w, i32_w]
      rfl
    refine one_ (i := 5) (N := (some 44)) #[true, true, true, true, true, true, false, false, false, false] rfl rfl (by kernel_rfl) (by decide) (fun K hK => ?_)
    refine goes_ Tryz.func75 (by kernel_rfl) rfl #[.slice (some ⟨0, 0, none⟩) 3 3, .string y] (by rfl) rfl rfl (by (try simp only [List.map_toArray, List.map_cons, List.map_nil]); first | done | rfl) ?_
    refine (slices_Index_string_string.calls 10 (some ⟨0, 0, none⟩) 3 mths y i w3 (mths_C HT3.out) (by decide) HIx.out).mono ?_
    rintro e w4 ⟨rfl, hd⟩
    refine ⟨_, rfl, ?_⟩
    obtain ⟨n4, rfl⟩ := hd.out
    clear hd
    refine hK.out _ _ hHeld (fun hHeld => ?_)
    clear hK K
    refine pure_ (i := 6) (N := (some 45)) (v := ?_) (a' := ?_) #[true, true, true, true, true, true, true, false, false, false] rfl rfl (by kernel_rfl) (fun _ _ _ h => h) (Or.inl ⟨by rfl, ?_⟩) ?_ ?_
    rotate_left
    · intro w'
      go_simp
      with_reducible rfl
    rotate_left
    · simp only [Act.put, List.setIfInBounds_toArray, List.set_cons_zero, List.set_cons_succ, i64_w, i32_w]
      rfl
    refine pure_ (i := 7) (N := (some 46)) (v := ?_) (a' := ?_) #[true, true, true, true, true, true, true, true, false, false] rfl rfl (by kernel_rfl) (fun _ _ _ h => h) (Or.inl ⟨by rfl, ?_⟩) ?_ ?_
    rotate_left
    · intro w'
      go_simp
      with_reducible rfl
    rotate_left
    · simp only [Act.put, List.setIfInBounds_toArray, List.set_cons_zero, List.set_cons_succ, i64_w, i32_w]
      rfl
    refine pure_ (i := 8) (N := (some 47)) (v := ?_) (a' := ?_) #[true, true, true, true, true, true, true, true, true, false] rfl rfl (by kernel_rfl) (fun _ _ _ h => h) (Or.inl ⟨by rfl, ?_⟩) ?_ ?_
    rotate_left
    · intro w'
      go_simp
      with_reducible rfl
    rotate_left
    · simp only [Act.put, List.setIfInBounds_toArray, List.set_cons_zero, List.set_cons_succ, i64_w, i32_w]
      rfl
    refine last_ (i := 9) (N := none) #[true, true, true, true, true, true, true, true, true, true] rfl rfl (by kernel_rfl) (by decide) (fun K hK => ?_)
    refine skip_ (w1 := ?_) (by rfl) rfl ?_ ?_
    rotate_left
    · go_simp
      rfl
    refine hK.out _ _ ?_
    clear hK K
    refine done_ (by kernel_rfl) ?_
    try go_wp2
    all_goals
      go_ret
      exact ⟨rfl, rs_put hB2 hBr hB HI.out (pw_below_drewN HB3.out n4) 0 (.int .i64 i) (fun _ => rfl) rfl rfl⟩
  · cases hf
end Go.Proofs.YtknekneicecgiaaGreatDoor.M
