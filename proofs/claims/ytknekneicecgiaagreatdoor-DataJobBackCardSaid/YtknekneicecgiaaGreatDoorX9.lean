/- data.Samples: what its closure does with a line, and the whole. data.Samples, over its closure's steps. -/
import Derived.Test.YtknekneicecgiaaGreatDoorHE
import Derived.Test.YtknekneicecgiaaGreatDoorE6
import Derived.RegionTactic
import Derived.Deep.RegionLaw
namespace Go.Proofs.YtknekneicecgiaaGreatDoor.M
open Go.RowKit Go.Lib Go.Proofs.YtknekneicecgiaaGreatDoorW.PrintWords Go.Proofs.YtknekneicecgiaaGreatDoorW.PrintLast Go.Proofs.YtknekneicecgiaaGreatDoor.MB
set_option linter.unusedVariables false
set_option linter.unusedSimpArgs false
def sampF (k : Nat) (xy z : Int) (out : List S34) (l : List ByteArray) : Option (List S34 × Int) :=
  if l.length = 3 ∧ out.length = 4000 then some (out, 5)
  else (data_numbers.f k l [xy, xy, z]).bind fun n => if n.2 = 0 then (if 2 < n.1.length ∧ out.length ≤ 4000000 then some (out ++ [⟨rd n.1 0, rd n.1 1, rd n.1 2⟩], 0) else none) else some (out, n.2)
def SampInv (xy z : Int) (Bo Bx Bz B : Nat) (ok : Nat → Prop) (out : List S34) (w : World) : Prop :=
  ∃ v, w.heap[Bo]? = some (.cells #[v] 23 (0, 0)) ∧ w.heap[Bx]? = some (.cells #[.int .i64 xy] 3 (0, 0)) ∧ w.heap[Bz]? = some (.cells #[.int .i64 z] 3 (0, 0)) ∧ (ok Bo ∧ ok Bx ∧ ok Bz ∧ ok 2 ∧ ok 0) ∧ TabW w ∧ Kd.R k34 34 w B ok v out
theorem samp_keeps (xy z : Int) (Bo Bx Bz B : Nat) : Keeps (SampInv xy z Bo Bx Bz B) where
  mono := by
    rintro ok ok' st w ⟨v, h1, h2, h3, ⟨o1, o2, o3, o4, o5⟩, hT, hR⟩ h
    exact ⟨v, h1, h2, h3, ⟨h _ o1, h _ o2, h _ o3, h _ o4, h _ o5⟩, hT, Kd.R_mono hR h⟩
  bound := by
    rintro ok st w ⟨v, h1, h2, h3, ⟨o1, o2, o3, o4, o5⟩, hT, hR⟩
    exact ⟨v, h1, h2, h3, ⟨⟨o1, blk_lt h1⟩, ⟨o2, blk_lt h2⟩, ⟨o3, blk_lt h3⟩, ⟨o4, hT.2.1⟩, ⟨o5, Nat.lt_of_le_of_lt (Nat.zero_le _) hT.2.1⟩⟩, hT, Kd.R_mono (Kd.R_bound hR) (fun k hk => ⟨hk.1, hk.2.2.1⟩)⟩
  step := by
    rintro ok st w w1 ⟨v, h1, h2, h3, ⟨o1, o2, o3, o4, o5⟩, hT, hR⟩ hs h
    exact ⟨v, (h _ o1 (blk_lt h1)).trans h1, (h _ o2 (blk_lt h2)).trans h2, (h _ o3 (blk_lt h3)).trans h3, ⟨o1, o2, o3, o4, o5⟩, tab_move hT hs (h _ o4 hT.2.1) (h _ o5 (Nat.lt_of_le_of_lt (Nat.zero_le _) hT.2.1)), Kd.R_step hR h⟩
theorem samp_on {σ : Type} {Inv : (Nat → Prop) → σ → World → Prop} (hk : Keeps Inv) {ok : Nat → Prop} {st : σ} {w w2 : World} {o : Obj} (hI : Inv ok st w) (hb : Below (w.alloc o).heap.size (w.alloc o) w2) : Inv (fun k => ok k ∨ w.heap.size ≤ k) st w2 := by
  have h1 := below_alloc (Below.refl w.heap.size w) o
  have h2 := h1.trans (hb.mono h1.size)
  exact hk.mono (hk.step hI h2.size (fun k _ hk => h2.block k hk)) (fun k hk => .inl hk)
theorem samp_two {σ : Type} {Inv : (Nat → Prop) → σ → World → Prop} (hk : Keeps Inv) {ok : Nat → Prop} {st : σ} {w w2 : World} {o : Obj} (hI : Inv ok st w) (hb : Below (w.alloc o).heap.size (w.alloc o) w2) : Inv (fun k => ok k ∧ k < w.heap.size) st w2 := by
  have h1 := below_alloc (Below.refl w.heap.size w) o
  have h2 := h1.trans (hb.mono h1.size)
  exact hk.step (hk.bound hI) h2.size (fun k hk _ => h2.block k hk.2)
theorem rd_get (n : List Int) (i : Nat) (h : i < n.length) : n[i]? = some (rd n (i : Int)) := by
  rw [rd, Int.toNat_natCast, List.getD_eq_getElem?_getD, List.getElem?_eq_getElem h]; rfl
theorem lit_C (w : World) (xs : List Int) (h : xs.length ≤ 9223372036854775807) : Kd.C (Kd.int .i64) (w.alloc (.cells (nums .i64 xs).toArray 3)) (some ⟨w.heap.size, 0, none⟩) xs.length xs :=
  (Kd.R_reads' (ok := fun _ => True) (Kd.R_of_own (enc := Value.int .i64) (own_lit w w.heap.size 3 .i64 xs (Nat.le_refl _) h) (fun _ _ => trivial))).2.2
theorem samp_end {xy z : Int} {Bo Bx Bz B : Nat} {ok : Nat → Prop} {st : List S34} {p : S34} {w w3 w1 : World} {o : Obj} {v v1 : Value} (hB2 : 2 < B) (hBo : B ≤ Bo) (hB : B ≤ w.heap.size) (hok : ok Bo ∧ ok Bx ∧ ok Bz ∧ ok 2 ∧ ok 0) (hb3 : Below (w.alloc o).heap.size (w.alloc o) w3)
    (h1 : w3.heap[Bo]? = some (.cells #[v] 23 (0, 0))) (h2 : w3.heap[Bx]? = some (.cells #[.int .i64 xy] 3 (0, 0))) (h3 : w3.heap[Bz]? = some (.cells #[.int .i64 z] 3 (0, 0))) (hT : TabW w3)
    (hR : Kd.R k34 34 w3 B (fun k => ok k ∨ w.heap.size ≤ k) v st) (hg : w3.grownBy w1 v.ownBlock) (hb1 : Below B w3 w1) (hR1 : Kd.R k34 34 w1 B (fun k => ok k ∨ w.heap.size ≤ k) v1 (st ++ [p])) :
    Ending.returned (Value.int .i64 0) = .returned (.int .i64 0) ∧ SampInv xy z Bo Bx Bz B (fun k => ok k ∨ w.heap.size ≤ k) (st ++ [p]) (w1.setCell ⟨Bo, 0, none⟩ v1) ∧ Spare ok B w (w1.setCell ⟨Bo, 0, none⟩ v1) := by
  have g1 := blk_grown h1 hg (Kd.R_ne hR h1 (by decide))
  have g2 := blk_grown h2 hg (Kd.R_ne hR h2 (by decide))
  have g3 := blk_grown h3 hg (Kd.R_ne hR h3 (by decide))
  have n2 : Bx ≠ Bo := blk_ne h2 h1 (by decide)
  have n3 : Bz ≠ Bo := blk_ne h3 h1 (by decide)
  have hs : (w1.setCell ⟨Bo, 0, none⟩ v1).heap.size = w1.heap.size := by simp
  have hfar : ∀ k, k ≠ Bo → (w1.setCell ⟨Bo, 0, none⟩ v1).heap[k]? = w1.heap[k]? := fun k hk => Below.heap_setCell w1 ⟨Bo, 0, none⟩ v1 k hk
  have a1 := below_alloc (Below.refl w.heap.size w) o
  have a2 := a1.trans (hb3.mono a1.size)
  have z3 := a2.size
  have z1 := hg.size
  refine ⟨rfl, ⟨v1, ?_, ?_, ?_, ⟨.inl hok.1, .inl hok.2.1, .inl hok.2.2.1, .inl hok.2.2.2.1, .inl hok.2.2.2.2⟩, ?_, Kd.R_set hR1 g1 (fun q hq => by
    simp only [List.mem_cons, List.not_mem_nil, or_false] at hq
    rcases hq with rfl | hq
    · decide
    · have : k34.E = [] := rfl
      rw [this] at hq
      cases hq) 0 v1⟩, ?_, by rw [hs]; omega, fun k hk hn => ?_⟩
  · have := blk_set g1 0 v1
    exact this
  · exact (hfar _ n2).trans g2
  · exact (hfar _ n3).trans g3
  · refine tab_move hT (by rw [hs]; exact z1) ((hfar _ (by omega)).trans (hb1.block _ hB2)) ((hfar _ (by omega)).trans (hb1.block _ (by omega)))
  · exact (a2.mono hB).trans (hb1.trans ((Below.refl B w1).setCell hBo v1))
  · refine (hfar _ (fun h => hn (by rw [h]; exact hok.1))).trans ((hg.block k (by omega) (fun h => ?_)).trans (a2.block k hk))
    rcases hR.1 k h.symm with h | h
    · exact hn h
    · omega
set_option maxHeartbeats 4000000 in
set_option maxRecDepth 100000 in
theorem samp_steps (k : Nat) (xy z : Int) (Bo Bx Bz B : Nat) (hB2 : 2 < B) (hBo : B ≤ Bo) : Steps Tryz.prog 22 #[] #[.pointer (some ⟨Bo, 0, none⟩), .pointer (some ⟨Bx, 0, none⟩), .pointer (some ⟨Bz, 0, none⟩)] (sampF k xy z) (SampInv xy z Bo Bx Bz B) B := by
  intro ok st st' l e v w hB hI hR hne hf
  have HI := Aside0.mk hI
  obtain ⟨vo, h1, h2, h3, ⟨o1, o2, o3, o4, o5⟩, hT, hRo⟩ := hI
  obtain ⟨A, c, rfl, hc, hC⟩ := Kd.R_reads hR
  obtain ⟨Ao, co, rfl, hco, hCo⟩ := Kd.R_reads hRo
  show Calls Tryz.prog 22 #[.slice A l.length c, .pointer (some ⟨Bo, 0, none⟩), .pointer (some ⟨Bx, 0, none⟩), .pointer (some ⟨Bz, 0, none⟩)] w _
  have c1 : w.cell? ⟨Bo, 0, none⟩ = some (.slice Ao st.length co) := by rw [blk_cell h1]; rfl
  have c2 : w.cell? ⟨Bx, 0, none⟩ = some (.int .i64 xy) := by rw [blk_cell h2]; rfl
  have c3 : w.cell? ⟨Bz, 0, none⟩ = some (.int .i64 z) := by rw [blk_cell h3]; rfl
  have f1 : w.frozen? ⟨Bo, 0, none⟩ = false := blk_frozen h1 0
  have H1 := Aside0.mk h1
  have H2 := Aside0.mk h2
  have H3 := Aside0.mk h3
  have HT := Aside0.mk hT
  have HRo := Aside0.mk hRo
  have HC := Aside0.mk hC
  have HCo := Aside0.mk hCo
  have HR := Aside0.mk hR
  have Hc := Aside0.mk hc
  unfold sampF at hf
  clear h1 h2 h3 hT hRo hC hCo hR hc hco hne
  by_cases hA : l.length = 3 ∧ st.length = 4000
  · rw [if_pos hA] at hf
    have h' := Option.some.inj hf
    simp only [Prod.mk.injEq] at h'
    obtain ⟨rfl, rfl⟩ := h'
    obtain ⟨hl, hs⟩ := hA
    have q1 : ((l.length : Int) == 3) = true := by rw [hl]; rfl
    have q2 : ((st.length : Int) == 4000) = true := by rw [hs]; rfl
    clear hf hl hs
    go_enter Tryz.func22, Tryz.ntmps22
    go_wp2
    go_ret
    exact ⟨rfl, (samp_keeps xy z Bo Bx Bz B).mono HI.out (fun k hk => .inl hk), Spare.refl _ _ _⟩
  · rw [if_neg hA] at hf
    obtain ⟨⟨n, e1⟩, hn, hf⟩ := Option.bind_eq_some_iff.mp hf
    have HN := Aside0.mk hn
    have HF := Aside0.mk hf
    clear hn hf
    have HL := Aside0.mk (lit_C w [xy, xy, z] (by simp))
    have q1 : ∃ b1 b2 : Bool, ((l.length : Int) == 3) = b1 ∧ ((st.length : Int) == 4000) = b2 ∧ (b1 && b2) = false := by
      refine ⟨_, _, rfl, rfl, ?_⟩
      by_cases hl : l.length = 3
      · have hs : st.length ≠ 4000 := fun h => hA ⟨hl, h⟩
        have : ((st.length : Int) == 4000) = false := beq_eq_false_iff_ne.mpr (by omega)
        rw [this, Bool.and_false]
      · have : ((l.length : Int) == 3) = false := beq_eq_false_iff_ne.mpr (by omega)
        rw [this, Bool.false_and]
    clear hA
    obtain ⟨b1, b2, q1, q2, q3⟩ := q1
    by_cases he : e1 = 0
    · subst he
      have hF1 := HF.out
      rw [if_pos rfl] at hF1
      by_cases hBn : 2 < n.length ∧ st.length ≤ 4000000
      · rw [if_pos hBn] at hF1
        have h' := Option.some.inj hF1
        simp only [Prod.mk.injEq] at h'
        obtain ⟨rfl, rfl⟩ := h'
        obtain ⟨hn2, hs2⟩ := hBn
        have HN2 := Aside0.mk hn2
        have HS2 := Aside0.mk hs2
        have p0 : (0 : Int) < (n.length : Int) := by omega
        have p0n : 0 < n.length := by omega
        have p1 : (1 : Int) < (n.length : Int) := by omega
        have p2 : (2 : Int) < (n.length : Int) := by omega
        clear HF hF1 hn2 hs2
        cases b1 <;> cases b2 <;> simp only [Bool.and_true, Bool.and_false, Bool.true_and, reduceCtorEq] at q3
        all_goals
          go_enter Tryz.func22, Tryz.ntmps22
          go_wp2_with (go_at_call 23; refine (data_numbers.calls k _ _ l _ _ [xy, xy, z] n _ _ (Kd.C_alloc HC.out _) Hc.out HL.out (Nat.le_refl _) (tab_below HT.out (below_alloc (Below.refl _ _) _)) HN.out).mono ?_; rintro e w2 ⟨v2, rfl, hR2, hb2⟩; obtain ⟨A2, c2, rfl⟩ := Kd.R_slice hR2; have HB2 := Aside0.mk hb2; have HR2 := Aside0.mk hR2; clear hb2 hR2)
          have hI2 := samp_two (samp_keeps xy z Bo Bx Bz B) HI.out HB2.out
          obtain ⟨vo2, d1, d2, d3, d4, dT, dR⟩ := hI2
          obtain ⟨Ao2, co2, rfl⟩ := Kd.R_slice dR
          obtain ⟨bn, on, rfl, hcn⟩ := C_cells (Kd.R_reads' HR2.out).2.2 (by have := HN2.out; omega)
          have x0 : w2.cell? ⟨bn, on, none⟩ = some (.int .i64 (rd n 0)) := hcn 0 _ (rd_get n 0 (by have := HN2.out; omega))
          have x1 : w2.cell? ⟨bn, on + 1, none⟩ = some (.int .i64 (rd n 1)) := hcn 1 _ (rd_get n 1 (by have := HN2.out; omega))
          have x2 : w2.cell? ⟨bn, on + 2, none⟩ = some (.int .i64 (rd n 2)) := hcn 2 _ (rd_get n 2 (by have := HN2.out; omega))
          have y0 : w2.cell? ⟨Bo, 0, none⟩ = some (.slice Ao2 st.length co2) := by rw [blk_cell d1]; rfl
          have hsz := (below_alloc (Below.refl w.heap.size w) (.cells (nums .i64 [xy, xy, z]).toArray 3)).size
          have hsz2 := HB2.out.size
          have hBw : B ≤ w2.heap.size := by omega
          have HRa := Aside0.mk (Kd.R_mono (ok' := fun k => ok k ∨ w.heap.size ≤ k) dR (fun k hk => .inl hk.1))
          have HD1 := Aside0.mk d1
          have HD2 := Aside0.mk d2
          have HD3 := Aside0.mk d3
          have HDT := Aside0.mk dT
          have HD4 := Aside0.mk d4
          have HBw := Aside0.mk hBw
          have HW2 := Aside0.mk (show w.heap.size ≤ w2.heap.size by omega)
          clear d1 d2 d3 d4 dT dR hcn hsz hsz2 hBw
          refine start_ (n := 14) (S := fun w' => w'.cell? ⟨Bo, 0, none⟩ = some (.slice Ao2 st.length co2) ∧ w'.cell? ⟨bn, on, none⟩ = some (.int .i64 (rd n 0)) ∧ w'.cell? ⟨bn, on + 1, none⟩ = some (.int .i64 (rd n 1)) ∧ w'.cell? ⟨bn, on + 2, none⟩ = some (.int .i64 (rd n 2))) (ds := [12, 13]) #[false, false, false, false, false, false, false, false, false, false, false, false, false, false] (by kernel_rfl) rfl rfl ⟨y0, x0, x1, x2⟩ (fun hHeld => ?_)
          have hHeld2 : (fun w' : World => w'.cell? ⟨Bo, 0, none⟩ = some (.slice Ao2 st.length co2) ∧ w'.cell? ⟨bn, on, none⟩ = some (.int .i64 (rd n 0)) ∧ w'.cell? ⟨bn, on + 1, none⟩ = some (.int .i64 (rd n 1)) ∧ w'.cell? ⟨bn, on + 2, none⟩ = some (.int .i64 (rd n 2))) (w2.drew.alloc (.cells #[.int .i64 (rd n 0), .int .i64 (rd n 1), .int .i64 (rd n 2)] 34)) := ⟨(World.cell?_alloc_past _ _ _ (World.block_lt_of_cell? _ _ y0)).trans y0, (World.cell?_alloc_past _ _ _ (World.block_lt_of_cell? _ _ x0)).trans x0, (World.cell?_alloc_past _ _ _ (World.block_lt_of_cell? _ _ x1)).trans x1, (World.cell?_alloc_past _ _ _ (World.block_lt_of_cell? _ _ x2)).trans x2⟩
          have HB3 := Aside0.mk (below_drew HB2.out)
          replace HD1 : Aside0 (w2.drew.heap[Bo]? = _) := HD1
          replace HD2 : Aside0 (w2.drew.heap[Bx]? = _) := HD2
          replace HD3 : Aside0 (w2.drew.heap[Bz]? = _) := HD3
          replace HDT : Aside0 (TabW w2.drew) := HDT
          replace HRa : Aside0 (Kd.R k34 34 w2.drew B _ _ _) := HRa
          replace HBw : Aside0 (B ≤ w2.drew.heap.size) := HBw
          replace HW2 : Aside0 (w.heap.size ≤ w2.drew.heap.size) := HW2
          clear x0 x1 x2 y0 HR2 HB2
          generalize w2.drew = w3 at HD1 HD2 HD3 HDT HRa HBw HW2 HB3 hHeld hHeld2 ⊢
          refine pure_ (i := 1) (N := (some 28)) (v := ?_) (a' := ?_) #[false, true, false, false, false, false, false, false, false, false, false, false, false, false] rfl rfl (by kernel_rfl) (fun _ _ _ h => h) (Or.inl ⟨by rfl, ?_⟩) ?_ ?_
          rotate_left
          · intro w'
            go_simp
            with_reducible rfl
          rotate_left
          · simp only [Act.put, List.setIfInBounds_toArray, List.set_cons_zero, List.set_cons_succ, i64_w, i32_w]
            rfl
          refine pure_ (i := 2) (N := (some 29)) (v := ?_) (a' := ?_) #[false, true, true, false, false, false, false, false, false, false, false, false, false, false] rfl rfl (by kernel_rfl) (fun _ _ _ h => h) (Or.inl ⟨by rfl, ?_⟩) ?_ ?_
          rotate_left
          · intro w'
            go_simp
            with_reducible rfl
          rotate_left
          · simp only [Act.put, List.setIfInBounds_toArray, List.set_cons_zero, List.set_cons_succ, i64_w, i32_w]
            rfl
          refine pure_ (i := 4) (N := (some 31)) (v := ?_) (a' := ?_) #[false, true, true, false, true, false, false, false, false, false, false, false, false, false] rfl rfl (by kernel_rfl) (fun _ _ _ h => h) (Or.inl ⟨by rfl, ?_⟩) ?_ ?_
          rotate_left
          · intro w'
            go_simp
            with_reducible rfl
          rotate_left
          · simp only [Act.put, List.setIfInBounds_toArray, List.set_cons_zero, List.set_cons_succ, i64_w, i32_w]
            rfl
          refine pure_ (i := 5) (N := (some 32)) (v := ?_) (a' := ?_) #[false, true, true, false, true, true, false, false, false, false, false, false, false, false] rfl rfl (by kernel_rfl) (fun _ _ _ h => h) (Or.inl ⟨by rfl, ?_⟩) ?_ ?_
          rotate_left
          · intro w'
            go_simp
            with_reducible rfl
          rotate_left
          · simp only [Act.put, List.setIfInBounds_toArray, List.set_cons_zero, List.set_cons_succ, i64_w, i32_w]
            rfl
          refine pure_ (i := 7) (N := (some 34)) (v := ?_) (a' := ?_) #[false, true, true, false, true, true, false, true, false, false, false, false, false, false] rfl rfl (by kernel_rfl) (fun _ _ _ h => h) (Or.inl ⟨by rfl, ?_⟩) ?_ ?_
          rotate_left
          · intro w'
            go_simp
            with_reducible rfl
          rotate_left
          · simp only [Act.put, List.setIfInBounds_toArray, List.set_cons_zero, List.set_cons_succ, i64_w, i32_w]
            rfl
          refine pure_ (i := 8) (N := (some 35)) (v := ?_) (a' := ?_) #[false, true, true, false, true, true, false, true, true, false, false, false, false, false] rfl rfl (by kernel_rfl) (fun _ _ _ h => h) (Or.inl ⟨by rfl, ?_⟩) ?_ ?_
          rotate_left
          · intro w'
            go_simp
            with_reducible rfl
          rotate_left
          · simp only [Act.put, List.setIfInBounds_toArray, List.set_cons_zero, List.set_cons_succ, i64_w, i32_w]
            rfl
          refine take_ (i := 0) (N := (some 27)) (v := ?_) (a' := ?_) #[true, true, true, false, true, true, false, true, true, false, false, false, false, false] rfl rfl (by kernel_rfl) (fun _ _ _ h => h) (Or.inl ⟨by rfl, ?_⟩) hHeld ?_ ?_
          rotate_left
          · rintro w' ⟨s0, s1, s2, s3⟩
            go_simp
            with_reducible rfl
          rotate_left
          · simp only [Act.put, List.setIfInBounds_toArray, List.set_cons_zero, List.set_cons_succ, i64_w, i32_w]
            rfl
          refine take_ (i := 3) (N := (some 30)) (v := ?_) (a' := ?_) #[true, true, true, true, true, true, false, true, true, false, false, false, false, false] rfl rfl (by kernel_rfl) (fun _ _ _ h => h) (Or.inl ⟨by rfl, ?_⟩) hHeld ?_ ?_
          rotate_left
          · rintro w' ⟨s0, s1, s2, s3⟩
            go_simp
            with_reducible rfl
          rotate_left
          · simp only [Act.put, List.setIfInBounds_toArray, List.set_cons_zero, List.set_cons_succ, i64_w, i32_w]
            rfl
          refine take_ (i := 6) (N := (some 33)) (v := ?_) (a' := ?_) #[true, true, true, true, true, true, true, true, true, false, false, false, false, false] rfl rfl (by kernel_rfl) (fun _ _ _ h => h) (Or.inl ⟨by rfl, ?_⟩) hHeld ?_ ?_
          rotate_left
          · rintro w' ⟨s0, s1, s2, s3⟩
            go_simp
            with_reducible rfl
          rotate_left
          · simp only [Act.put, List.setIfInBounds_toArray, List.set_cons_zero, List.set_cons_succ, i64_w, i32_w]
            rfl
          refine take_ (i := 9) (N := (some 36)) (v := ?_) (a' := ?_) #[true, true, true, true, true, true, true, true, true, true, false, false, false, false] rfl rfl (by kernel_rfl) (fun _ _ _ h => h) (Or.inl ⟨by rfl, ?_⟩) hHeld ?_ ?_
          rotate_left
          · rintro w' ⟨s0, s1, s2, s3⟩
            go_simp
            with_reducible rfl
          rotate_left
          · simp only [Act.put, List.setIfInBounds_toArray, List.set_cons_zero, List.set_cons_succ, i64_w, i32_w]
            rfl
          refine pure_ (i := 10) (N := (some 37)) (v := ?_) (a' := ?_) #[true, true, true, true, true, true, true, true, true, true, true, false, false, false] rfl rfl (by kernel_rfl) (fun _ _ _ h => h) (Or.inl ⟨by rfl, ?_⟩) ?_ ?_
          rotate_left
          · intro w'
            go_simp
            with_reducible rfl
          rotate_left
          · simp only [Act.put, List.setIfInBounds_toArray, List.set_cons_zero, List.set_cons_succ, i64_w, i32_w]
            rfl
          refine one_ (i := 11) (N := (some 38)) #[true, true, true, true, true, true, true, true, true, true, true, true, false, false] rfl rfl (by kernel_rfl) (by decide) (fun K hK => ?_)
          refine value_ (w1 := w3.alloc (.cells #[.int .i64 (rd n 0), .int .i64 (rd n 1), .int .i64 (rd n 2)] 34)) (v := .slice (some ⟨w3.heap.size, 0, none⟩) 1 1) (by rfl) rfl ?_ ?_
          · go_simp
          refine hK.out _ _ hHeld2 (fun hHeld => ?_)
          clear hK K
          refine last_ (i := 12) (N := (some 39)) #[true, true, true, true, true, true, true, true, true, true, true, true, true, false] rfl rfl (by kernel_rfl) (by decide) (fun K hK => ?_)
          refine Kd.R_append_step k34 (w0 := w3) (W := w3) B rfl (.tmp 27) (.tmp 38) 23 34 (.agg #[.int .i64 0, .int .i64 0, .int .i64 0]) 24 rfl Tryz.underlying23 (by kernel_rfl) rfl (by decide) (by decide) _ st ⟨rd n 0, rd n 1, rd n 2⟩ _ (fun k => ok k ∨ w.heap.size ≤ k) (fun _ => False) rfl rfl (k34_mkM _ _ _ _) (fun _ h => h.elim) (fun k hk => .inr (Nat.le_trans HW2.out hk)) HRa.out (Below.refl _ _) HBw.out (by have := HS2.out; omega) ?_
          intro v1 w1 hR1 hb1 hg1 hat1
          obtain ⟨A3, c3, rfl⟩ := Kd.R_slice hR1
          have g1 := blk_grown HD1.out hg1 (Kd.R_ne HRa.out HD1.out (by decide))
          have z1 : w1.cell? ⟨Bo, 0, none⟩ = some (.slice Ao2 st.length co2) := by rw [blk_cell g1]; rfl
          have z2 : w1.frozen? ⟨Bo, 0, none⟩ = false := blk_frozen g1 0
          have HR1 := Aside0.mk hR1
          have HB1 := Aside0.mk hb1
          have HG1 := Aside0.mk hg1
          have HY1 := Aside0.mk g1
          clear hR1 hb1 hg1 hat1 g1
          refine hK.out _ _ ?_
          clear hK K
          refine last_ (i := 13) (N := none) #[true, true, true, true, true, true, true, true, true, true, true, true, true, true] rfl rfl (by kernel_rfl) (by decide) (fun K hK => ?_)
          refine skip_ (w1 := ?_) (by rfl) rfl ?_ ?_
          rotate_left
          · go_simp
            rfl
          refine hK.out _ _ ?_
          clear hK K
          refine done_ (by kernel_rfl) ?_
          try go_wp2
          go_ret
          exact samp_end hB2 hBo hB ⟨o1, o2, o3, o4, o5⟩ HB3.out HD1.out HD2.out HD3.out HDT.out HRa.out HG1.out HB1.out (by have h := HR1.out; rwa [List.length_append, List.length_singleton] at h)
      · rw [if_neg hBn] at hF1
        cases hF1
    · have HF2 := Aside0.mk (show some (st, e1) = some (st', e) from by have h := HF.out; rw [if_neg he] at h; exact h)
      have he1 : (e1 == 0) = false := beq_eq_false_iff_ne.mpr he
      clear HF he
      have h' := Option.some.inj HF2.out
      simp only [Prod.mk.injEq] at h'
      obtain ⟨rfl, rfl⟩ := h'
      clear HF2
      cases b1 <;> cases b2 <;> simp only [Bool.and_true, Bool.and_false, Bool.true_and, reduceCtorEq] at q3
      all_goals
        go_enter Tryz.func22, Tryz.ntmps22
        go_wp2_with (go_at_call 23; refine (data_numbers.calls k _ _ l _ _ [xy, xy, z] n _ _ (Kd.C_alloc HC.out _) Hc.out HL.out (Nat.le_refl _) (tab_below HT.out (below_alloc (Below.refl _ _) _)) HN.out).mono ?_; rintro e w2 ⟨v2, rfl, hR2, hb2⟩; obtain ⟨A2, c2, rfl⟩ := Kd.R_slice hR2; have HB2 := Aside0.mk hb2; clear hb2 hR2)
        go_ret
        exact ⟨rfl, samp_on (samp_keeps xy z Bo Bx Bz B) HI.out HB2.out, Spare.below ((below_alloc (Below.refl _ _) _).trans (HB2.out.mono (by simp))) hB⟩
end Go.Proofs.YtknekneicecgiaaGreatDoor.M
namespace Go.Proofs.YtknekneicecgiaaGreatDoor.M
open Go.RowKit Go.Lib Go.Proofs.YtknekneicecgiaaGreatDoorW.PrintWords Go.Proofs.YtknekneicecgiaaGreatDoorW.PrintLast Go.Proofs.YtknekneicecgiaaGreatDoor.MB
set_option linter.unusedVariables false
set_option linter.unusedSimpArgs false
def data_Samples.f (k : Nat) (s : ByteArray) (xy z : Int) : Option (List S34 × Int × Int) :=
  (data_each.f (sampF k xy z) s []).bind fun t => some (if t.2.2 = 0 then (t.1, 0, 0) else ([], t.2.1, t.2.2))
set_option maxHeartbeats 4000000 in
set_option maxRecDepth 100000 in
theorem data_Samples.calls (k : Nat) (s : ByteArray) (xy z : Int) (r1 : List S34) (r2 r3 : Int) (w : World) (HT0 : TabW w) (h : data_Samples.f k s xy z = some (r1, r2, r3)) :
    Calls Tryz.prog 9 #[.string s, .int .i64 xy, .int .i64 z] w fun e w' => ∃ v0_ : Value, e = .returned (.tuple #[v0_, .int .i64 r2, .int .i64 r3]) ∧ Kd.R k34 34 w' w.heap.size (fun _ => True) v0_ r1 ∧ Below w.heap.size w w' := by
  obtain ⟨⟨st, line, e⟩, h1, h2⟩ := Option.bind_eq_some_iff.mp h
  have h2 : (if e = 0 then (st, 0, 0) else ([], line, e)) = (r1, r2, r3) := Option.some.inj h2
  have hb := below_alloc (below_alloc (below_alloc (Below.refl w.heap.size w) (.cells #[.int .i64 xy] 3)) (.cells #[.int .i64 z] 3)) (.cells #[.slice none 0 0] 23)
  have hTB := tab_below HT0 hb
  have hI : SampInv xy z (w.heap.size + 2) w.heap.size (w.heap.size + 1) w.heap.size (fun k => k = w.heap.size ∨ k = w.heap.size + 1 ∨ k = w.heap.size + 2 ∨ k = 2 ∨ k = 0) [] (((w.alloc (.cells #[.int .i64 xy] 3)).alloc (.cells #[.int .i64 z] 3)).alloc (.cells #[.slice none 0 0] 23)) := by
    refine ⟨.slice none 0 0, ?_, ?_, ?_, ⟨by simp, by simp, by simp, by simp, by simp⟩, hTB, Kd.R_nil _ _ _ _ _⟩
    · have := heap_alloc_new ((w.alloc (.cells #[.int .i64 xy] 3)).alloc (.cells #[.int .i64 z] 3)) (.cells #[.slice none 0 0] 23)
      simpa using this
    · exact (heap_alloc_old _ _ (by simp; omega)).trans ((heap_alloc_old _ _ (by simp)).trans (heap_alloc_new w _))
    · have := heap_alloc_new (w.alloc (.cells #[.int .i64 xy] 3)) (.cells #[.int .i64 z] 3)
      exact (heap_alloc_old _ _ (by simp)).trans (by simpa using this)
  have HI := Aside0.mk hI
  have HT := Aside0.mk HT0
  have HTB := Aside0.mk hTB
  have HBb := Aside0.mk hb
  have H1 := Aside0.mk h1
  clear h h1 hI HT0 hTB hb
  have hmf : ∀ (fn : Fn) (first cap : Array Value) (w : World), (Instr.makeFunc fn first cap).run Tryz.prog w = .ok (.func fn first cap) w := fun _ _ _ _ => rfl
  by_cases he : e = 0
  · rw [if_pos he] at h2
    subst he
    simp only [Prod.mk.injEq] at h2
    obtain ⟨rfl, rfl, rfl⟩ := h2
    go_enter Tryz.func9, Tryz.ntmps9
    go_wp2_with (go_at_call 21; refine (data_each.calls 22 #[] _ (enters_of Tryz.func22 (by kernel_rfl) rfl) _ _ (samp_keeps _ _ _ _ _ _) _ (samp_steps k xy z _ _ _ w.heap.size HT.out.2.1 (by omega)) _ _ _ _ _ _ _ (by simp; omega) HTB.out HI.out H1.out).mono ?_; rintro e2 w' ⟨rfl, hI2, hS2⟩; obtain ⟨v2, d1, d2, d3, d4, dT, dR⟩ := hI2; obtain ⟨A2, c2, rfl⟩ := Kd.R_slice dR; have y0 : w'.cell? ⟨w.heap.size + 2, 0, none⟩ = some (.slice A2 r1.length c2) := (by rw [blk_cell d1]; rfl); have HR2 := Aside0.mk dR; have HS2 := Aside0.mk hS2; clear d1 d2 d3 d4 dT dR hS2)
    go_ret3
    exact ⟨_, rfl, Kd.R_mono HR2.out (fun _ _ => trivial), HBb.out.trans HS2.out.1⟩
  · rw [if_neg he] at h2
    simp only [Prod.mk.injEq] at h2
    obtain ⟨rfl, rfl, rfl⟩ := h2
    have he1 : (e != 0) = true := bne_iff_ne.mpr he
    clear he
    go_enter Tryz.func9, Tryz.ntmps9
    go_wp2_with (go_at_call 21; refine (data_each.calls 22 #[] _ (enters_of Tryz.func22 (by kernel_rfl) rfl) _ _ (samp_keeps _ _ _ _ _ _) _ (samp_steps k xy z _ _ _ w.heap.size HT.out.2.1 (by omega)) _ _ _ _ _ _ _ (by simp; omega) HTB.out HI.out H1.out).mono ?_; rintro e2 w' ⟨rfl, hI2, hS2⟩; have HS2 := Aside0.mk hS2; clear hS2 hI2)
    go_ret3
    exact ⟨_, rfl, Kd.R_nil _ _ _ _ _, HBb.out.trans HS2.out.1⟩
end Go.Proofs.YtknekneicecgiaaGreatDoor.M
