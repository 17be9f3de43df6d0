/- data.Faults: what its closure does with a line (as HC, HS: turned by a program). Texts of numbers, as deci.Text writes them; they are read as they were. Words and lines of texts that are printed: they say what they said. Any text's faults, line by line (as JD, JL: turned by a program). -/
import Derived.Test.YtknekneicecgiaaGreatDoorX9
import Derived.Test.YtknekneicecgiaaGreatDoorX5
import Derived.Test.YtknekneicecgiaaGreatDoorX6
import Derived.Test.YtknekneicecgiaaGreatDoorE5
import Derived.Test.YtknekneicecgiaaGreatDoorX7
namespace Go.Proofs.YtknekneicecgiaaGreatDoor.M
open Go.RowKit Go.Lib Go.Proofs.YtknekneicecgiaaGreatDoorW.PrintWords Go.Proofs.YtknekneicecgiaaGreatDoorW.PrintLast Go.Proofs.YtknekneicecgiaaGreatDoor.MB
set_option linter.unusedVariables false
set_option linter.unusedSimpArgs false
def faulF (k : Nat) (xy : Int) (out : List S52) (l : List ByteArray) : Option (List S52 × Int) :=
  if l.length = 4 ∧ out.length = 1000 then some (out, 5)
  else (data_numbers.f k l [xy, xy, xy, xy]).bind fun n => if n.2 = 0 then (if 3 < n.1.length ∧ out.length ≤ 1000000 then some (out ++ [⟨⟨rd n.1 0, rd n.1 1⟩, ⟨rd n.1 2, rd n.1 3⟩⟩], 0) else none) else some (out, n.2)
def FaulInv (xy : Int) (Bo Bx B : Nat) (ok : Nat → Prop) (out : List S52) (w : World) : Prop :=
  ∃ v, w.heap[Bo]? = some (.cells #[v] 37 (0, 0)) ∧ w.heap[Bx]? = some (.cells #[.int .i64 xy] 3 (0, 0)) ∧ (ok Bo ∧ ok Bx ∧ ok 2 ∧ ok 0) ∧ TabW w ∧ Kd.R k52 52 w B ok v out
theorem faul_keeps (xy : Int) (Bo Bx B : Nat) : Keeps (FaulInv xy Bo Bx B) where
  mono := by
    rintro ok ok' st w ⟨v, h1, h2, ⟨o1, o2, o4, o5⟩, hT, hR⟩ h
    exact ⟨v, h1, h2, ⟨h _ o1, h _ o2, h _ o4, h _ o5⟩, hT, Kd.R_mono hR h⟩
  bound := by
    rintro ok st w ⟨v, h1, h2, ⟨o1, o2, o4, o5⟩, hT, hR⟩
    exact ⟨v, h1, h2, ⟨⟨o1, blk_lt h1⟩, ⟨o2, blk_lt h2⟩, ⟨o4, hT.2.1⟩, ⟨o5, Nat.lt_of_le_of_lt (Nat.zero_le _) hT.2.1⟩⟩, hT, Kd.R_mono (Kd.R_bound hR) (fun k hk => ⟨hk.1, hk.2.2.1⟩)⟩
  step := by
    rintro ok st w w1 ⟨v, h1, h2, ⟨o1, o2, o4, o5⟩, hT, hR⟩ hs h
    exact ⟨v, (h _ o1 (blk_lt h1)).trans h1, (h _ o2 (blk_lt h2)).trans h2, ⟨o1, o2, o4, o5⟩, tab_move hT hs (h _ o4 hT.2.1) (h _ o5 (Nat.lt_of_le_of_lt (Nat.zero_le _) hT.2.1)), Kd.R_step hR h⟩
theorem faul_end {xy : Int} {Bo Bx B : Nat} {ok : Nat → Prop} {st : List S52} {p : S52} {w w3 w1 : World} {o : Obj} {v v1 : Value} (hB2 : 2 < B) (hBo : B ≤ Bo) (hB : B ≤ w.heap.size) (hok : ok Bo ∧ ok Bx ∧ ok 2 ∧ ok 0) (hb3 : Below (w.alloc o).heap.size (w.alloc o) w3)
    (h1 : w3.heap[Bo]? = some (.cells #[v] 37 (0, 0))) (h2 : w3.heap[Bx]? = some (.cells #[.int .i64 xy] 3 (0, 0))) (hT : TabW w3)
    (hR : Kd.R k52 52 w3 B (fun k => ok k ∨ w.heap.size ≤ k) v st) (hg : w3.grownBy w1 v.ownBlock) (hb1 : Below B w3 w1) (hR1 : Kd.R k52 52 w1 B (fun k => ok k ∨ w.heap.size ≤ k) v1 (st ++ [p])) :
    Ending.returned (Value.int .i64 0) = .returned (.int .i64 0) ∧ FaulInv xy Bo Bx B (fun k => ok k ∨ w.heap.size ≤ k) (st ++ [p]) (w1.setCell ⟨Bo, 0, none⟩ v1) ∧ Spare ok B w (w1.setCell ⟨Bo, 0, none⟩ v1) := by
  have g1 := blk_grown h1 hg (Kd.R_ne hR h1 (by decide))
  have g2 := blk_grown h2 hg (Kd.R_ne hR h2 (by decide))
  have n2 : Bx ≠ Bo := blk_ne h2 h1 (by decide)
  have hs : (w1.setCell ⟨Bo, 0, none⟩ v1).heap.size = w1.heap.size := by simp
  have hfar : ∀ k, k ≠ Bo → (w1.setCell ⟨Bo, 0, none⟩ v1).heap[k]? = w1.heap[k]? := fun k hk => Below.heap_setCell w1 ⟨Bo, 0, none⟩ v1 k hk
  have a1 := below_alloc (Below.refl w.heap.size w) o
  have a2 := a1.trans (hb3.mono a1.size)
  have z3 := a2.size
  have z1 := hg.size
  refine ⟨rfl, ⟨v1, ?_, ?_, ⟨.inl hok.1, .inl hok.2.1, .inl hok.2.2.1, .inl hok.2.2.2⟩, ?_, Kd.R_set hR1 g1 (fun q hq => by
    simp only [List.mem_cons, List.not_mem_nil, or_false] at hq
    rcases hq with rfl | hq
    · decide
    · have : k52.E = [] := rfl
      rw [this] at hq
      cases hq) 0 v1⟩, ?_, by rw [hs]; omega, fun k hk hn => ?_⟩
  · have := blk_set g1 0 v1
    exact this
  · exact (hfar _ n2).trans g2
  · refine tab_move hT (by rw [hs]; exact z1) ((hfar _ (by omega)).trans (hb1.block _ hB2)) ((hfar _ (by omega)).trans (hb1.block _ (by omega)))
  · exact (a2.mono hB).trans (hb1.trans ((Below.refl B w1).setCell hBo v1))
  · refine (hfar _ (fun h => hn (by rw [h]; exact hok.1))).trans ((hg.block k (by omega) (fun h => ?_)).trans (a2.block k hk))
    rcases hR.1 k h.symm with h | h
    · exact hn h
    · omega
set_option maxHeartbeats 4000000 in
set_option maxRecDepth 100000 in
theorem faul_steps (k : Nat) (xy : Int) (Bo Bx B : Nat) (hB2 : 2 < B) (hBo : B ≤ Bo) : Steps Tryz.prog 26 #[] #[.pointer (some ⟨Bo, 0, none⟩), .pointer (some ⟨Bx, 0, none⟩)] (faulF k xy) (FaulInv xy Bo Bx B) B := by
  intro ok st st' l e v w hB hI hR hne hf
  have HI := Aside0.mk hI
  obtain ⟨vo, h1, h2, ⟨o1, o2, o4, o5⟩, hT, hRo⟩ := hI
  obtain ⟨A, c, rfl, hc, hC⟩ := Kd.R_reads hR
  obtain ⟨Ao, co, rfl, hco, hCo⟩ := Kd.R_reads hRo
  show Calls Tryz.prog 26 #[.slice A l.length c, .pointer (some ⟨Bo, 0, none⟩), .pointer (some ⟨Bx, 0, none⟩)] w _
  have c1 : w.cell? ⟨Bo, 0, none⟩ = some (.slice Ao st.length co) := by rw [blk_cell h1]; rfl
  have c2 : w.cell? ⟨Bx, 0, none⟩ = some (.int .i64 xy) := by rw [blk_cell h2]; rfl
  have f1 : w.frozen? ⟨Bo, 0, none⟩ = false := blk_frozen h1 0
  have H1 := Aside0.mk h1
  have H2 := Aside0.mk h2
  have HT := Aside0.mk hT
  have HRo := Aside0.mk hRo
  have HC := Aside0.mk hC
  have HCo := Aside0.mk hCo
  have HR := Aside0.mk hR
  have Hc := Aside0.mk hc
  unfold faulF at hf
  clear h1 h2 hT hRo hC hCo hR hc hco hne
  by_cases hA : l.length = 4 ∧ st.length = 1000
  · rw [if_pos hA] at hf
    have h' := Option.some.inj hf
    simp only [Prod.mk.injEq] at h'
    obtain ⟨rfl, rfl⟩ := h'
    obtain ⟨hl, hs⟩ := hA
    have q1 : ((l.length : Int) == 4) = true := by rw [hl]; rfl
    have q2 : ((st.length : Int) == 1000) = true := by rw [hs]; rfl
    clear hf hl hs
    go_enter Tryz.func26, Tryz.ntmps26
    go_wp2
    go_ret
    exact ⟨rfl, (faul_keeps xy Bo Bx B).mono HI.out (fun k hk => .inl hk), Spare.refl _ _ _⟩
  · rw [if_neg hA] at hf
    obtain ⟨⟨n, e1⟩, hn, hf⟩ := Option.bind_eq_some_iff.mp hf
    have HN := Aside0.mk hn
    have HF := Aside0.mk hf
    clear hn hf
    have HL := Aside0.mk (lit_C w [xy, xy, xy, xy] (by simp))
    have q1 : ∃ b1 b2 : Bool, ((l.length : Int) == 4) = b1 ∧ ((st.length : Int) == 1000) = b2 ∧ (b1 && b2) = false := by
      refine ⟨_, _, rfl, rfl, ?_⟩
      by_cases hl : l.length = 4
      · have hs : st.length ≠ 1000 := fun h => hA ⟨hl, h⟩
        have : ((st.length : Int) == 1000) = false := beq_eq_false_iff_ne.mpr (by omega)
        rw [this, Bool.and_false]
      · have : ((l.length : Int) == 4) = false := beq_eq_false_iff_ne.mpr (by omega)
        rw [this, Bool.false_and]
    clear hA
    obtain ⟨b1, b2, q1, q2, q3⟩ := q1
    by_cases he : e1 = 0
    · subst he
      have hF1 := HF.out
      rw [if_pos rfl] at hF1
      by_cases hBn : 3 < n.length ∧ st.length ≤ 1000000
      · rw [if_pos hBn] at hF1
        have h' := Option.some.inj hF1
        simp only [Prod.mk.injEq] at h'
        obtain ⟨rfl, rfl⟩ := h'
        obtain ⟨hn2, hs2⟩ := hBn
        have HN2 := Aside0.mk hn2
        have HS2 := Aside0.mk hs2
        have p0 : (0 : Int) < (n.length : Int) := by omega
        have p0n : 0 < n.length := by omega
        have p1 : (1 : Int) < (n.length : Int) := by omega
        have p2 : (2 : Int) < (n.length : Int) := by omega
        have p3 : (3 : Int) < (n.length : Int) := by omega
        clear HF hF1 hn2 hs2
        cases b1 <;> cases b2 <;> simp only [Bool.and_true, Bool.and_false, Bool.true_and, reduceCtorEq] at q3
        all_goals
          go_enter Tryz.func26, Tryz.ntmps26
          go_wp2_with (go_at_call 23; refine (data_numbers.calls k _ _ l _ _ [xy, xy, xy, xy] n _ _ (Kd.C_alloc HC.out _) Hc.out HL.out (Nat.le_refl _) (tab_below HT.out (below_alloc (Below.refl _ _) _)) HN.out).mono ?_; rintro e w2 ⟨v2, rfl, hR2, hb2⟩; obtain ⟨A2, c2, rfl⟩ := Kd.R_slice hR2; have HB2 := Aside0.mk hb2; have HR2 := Aside0.mk hR2; clear hb2 hR2)
          have hI2 := samp_two (faul_keeps xy Bo Bx B) HI.out HB2.out
          obtain ⟨vo2, d1, d2, d4, dT, dR⟩ := hI2
          obtain ⟨Ao2, co2, rfl⟩ := Kd.R_slice dR
          obtain ⟨bn, on, rfl, hcn⟩ := C_cells (Kd.R_reads' HR2.out).2.2 (by have := HN2.out; omega)
          have x0 : w2.cell? ⟨bn, on, none⟩ = some (.int .i64 (rd n 0)) := hcn 0 _ (rd_get n 0 (by have := HN2.out; omega))
          have x1 : w2.cell? ⟨bn, on + 1, none⟩ = some (.int .i64 (rd n 1)) := hcn 1 _ (rd_get n 1 (by have := HN2.out; omega))
          have x2 : w2.cell? ⟨bn, on + 2, none⟩ = some (.int .i64 (rd n 2)) := hcn 2 _ (rd_get n 2 (by have := HN2.out; omega))
          have x3 : w2.cell? ⟨bn, on + 3, none⟩ = some (.int .i64 (rd n 3)) := hcn 3 _ (rd_get n 3 (by have := HN2.out; omega))
          have y0 : w2.cell? ⟨Bo, 0, none⟩ = some (.slice Ao2 st.length co2) := by rw [blk_cell d1]; rfl
          have hsz := (below_alloc (Below.refl w.heap.size w) (.cells (nums .i64 [xy, xy, xy, xy]).toArray 3)).size
          have hsz2 := HB2.out.size
          have hBw : B ≤ w2.heap.size := by omega
          have HRa := Aside0.mk (Kd.R_mono (ok' := fun k => ok k ∨ w.heap.size ≤ k) dR (fun k hk => .inl hk.1))
          have HD1 := Aside0.mk d1
          have HD2 := Aside0.mk d2
          have HDT := Aside0.mk dT
          have HD4 := Aside0.mk d4
          have HBw := Aside0.mk hBw
          have HW2 := Aside0.mk (show w.heap.size ≤ w2.heap.size by omega)
          clear d1 d2 d4 dT dR hcn hsz hsz2 hBw
          refine start_ (n := 19) (S := fun w' => w'.cell? ⟨Bo, 0, none⟩ = some (.slice Ao2 st.length co2) ∧ w'.cell? ⟨bn, on, none⟩ = some (.int .i64 (rd n 0)) ∧ w'.cell? ⟨bn, on + 1, none⟩ = some (.int .i64 (rd n 1)) ∧ w'.cell? ⟨bn, on + 2, none⟩ = some (.int .i64 (rd n 2)) ∧ w'.cell? ⟨bn, on + 3, none⟩ = some (.int .i64 (rd n 3))) (ds := [17, 18]) #[false, false, false, false, false, false, false, false, false, false, false, false, false, false, false, false, false, false, false] (by kernel_rfl) rfl rfl ⟨y0, x0, x1, x2, x3⟩ (fun hHeld => ?_)
          have hHeld2 : (fun w' : World => w'.cell? ⟨Bo, 0, none⟩ = some (.slice Ao2 st.length co2) ∧ w'.cell? ⟨bn, on, none⟩ = some (.int .i64 (rd n 0)) ∧ w'.cell? ⟨bn, on + 1, none⟩ = some (.int .i64 (rd n 1)) ∧ w'.cell? ⟨bn, on + 2, none⟩ = some (.int .i64 (rd n 2)) ∧ w'.cell? ⟨bn, on + 3, none⟩ = some (.int .i64 (rd n 3))) (w2.drew.alloc (.cells #[.int .i64 (rd n 0), .int .i64 (rd n 1), .int .i64 (rd n 2), .int .i64 (rd n 3)] 52)) := ⟨(World.cell?_alloc_past _ _ _ (World.block_lt_of_cell? _ _ y0)).trans y0, (World.cell?_alloc_past _ _ _ (World.block_lt_of_cell? _ _ x0)).trans x0, (World.cell?_alloc_past _ _ _ (World.block_lt_of_cell? _ _ x1)).trans x1, (World.cell?_alloc_past _ _ _ (World.block_lt_of_cell? _ _ x2)).trans x2, (World.cell?_alloc_past _ _ _ (World.block_lt_of_cell? _ _ x3)).trans x3⟩
          have HB3 := Aside0.mk (below_drew HB2.out)
          replace HD1 : Aside0 (w2.drew.heap[Bo]? = _) := HD1
          replace HD2 : Aside0 (w2.drew.heap[Bx]? = _) := HD2
          replace HDT : Aside0 (TabW w2.drew) := HDT
          replace HRa : Aside0 (Kd.R k52 52 w2.drew B _ _ _) := HRa
          replace HBw : Aside0 (B ≤ w2.drew.heap.size) := HBw
          replace HW2 : Aside0 (w.heap.size ≤ w2.drew.heap.size) := HW2
          clear x0 x1 x2 x3 y0 HR2 HB2
          generalize w2.drew = w3 at HD1 HD2 HDT HRa HBw HW2 HB3 hHeld hHeld2 ⊢
          refine pure_ (i := 1) (N := (some 28)) (v := ?_) (a' := ?_) #[false, true, false, false, false, false, false, false, false, false, false, false, false, false, false, false, false, false, false] rfl rfl (by kernel_rfl) (fun _ _ _ h => h) (Or.inl ⟨by rfl, ?_⟩) ?_ ?_
          rotate_left
          · intro w'
            go_simp
            with_reducible rfl
          rotate_left
          · simp only [Act.put, List.setIfInBounds_toArray, List.set_cons_zero, List.set_cons_succ, i64_w, i32_w]
            rfl
          refine pure_ (i := 2) (N := (some 29)) (v := ?_) (a' := ?_) #[false, true, true, false, false, false, false, false, false, false, false, false, false, false, false, false, false, false, false] rfl rfl (by kernel_rfl) (fun _ _ _ h => h) (Or.inl ⟨by rfl, ?_⟩) ?_ ?_
          rotate_left
          · intro w'
            go_simp
            with_reducible rfl
          rotate_left
          · simp only [Act.put, List.setIfInBounds_toArray, List.set_cons_zero, List.set_cons_succ, i64_w, i32_w]
            rfl
          refine pure_ (i := 4) (N := (some 31)) (v := ?_) (a' := ?_) #[false, true, true, false, true, false, false, false, false, false, false, false, false, false, false, false, false, false, false] rfl rfl (by kernel_rfl) (fun _ _ _ h => h) (Or.inl ⟨by rfl, ?_⟩) ?_ ?_
          rotate_left
          · intro w'
            go_simp
            with_reducible rfl
          rotate_left
          · simp only [Act.put, List.setIfInBounds_toArray, List.set_cons_zero, List.set_cons_succ, i64_w, i32_w]
            rfl
          refine pure_ (i := 5) (N := (some 32)) (v := ?_) (a' := ?_) #[false, true, true, false, true, true, false, false, false, false, false, false, false, false, false, false, false, false, false] rfl rfl (by kernel_rfl) (fun _ _ _ h => h) (Or.inl ⟨by rfl, ?_⟩) ?_ ?_
          rotate_left
          · intro w'
            go_simp
            with_reducible rfl
          rotate_left
          · simp only [Act.put, List.setIfInBounds_toArray, List.set_cons_zero, List.set_cons_succ, i64_w, i32_w]
            rfl
          refine pure_ (i := 8) (N := (some 35)) (v := ?_) (a' := ?_) #[false, true, true, false, true, true, false, false, true, false, false, false, false, false, false, false, false, false, false] rfl rfl (by kernel_rfl) (fun _ _ _ h => h) (Or.inl ⟨by rfl, ?_⟩) ?_ ?_
          rotate_left
          · intro w'
            go_simp
            with_reducible rfl
          rotate_left
          · simp only [Act.put, List.setIfInBounds_toArray, List.set_cons_zero, List.set_cons_succ, i64_w, i32_w]
            rfl
          refine pure_ (i := 9) (N := (some 36)) (v := ?_) (a' := ?_) #[false, true, true, false, true, true, false, false, true, true, false, false, false, false, false, false, false, false, false] rfl rfl (by kernel_rfl) (fun _ _ _ h => h) (Or.inl ⟨by rfl, ?_⟩) ?_ ?_
          rotate_left
          · intro w'
            go_simp
            with_reducible rfl
          rotate_left
          · simp only [Act.put, List.setIfInBounds_toArray, List.set_cons_zero, List.set_cons_succ, i64_w, i32_w]
            rfl
          refine pure_ (i := 11) (N := (some 38)) (v := ?_) (a' := ?_) #[false, true, true, false, true, true, false, false, true, true, false, true, false, false, false, false, false, false, false] rfl rfl (by kernel_rfl) (fun _ _ _ h => h) (Or.inl ⟨by rfl, ?_⟩) ?_ ?_
          rotate_left
          · intro w'
            go_simp
            with_reducible rfl
          rotate_left
          · simp only [Act.put, List.setIfInBounds_toArray, List.set_cons_zero, List.set_cons_succ, i64_w, i32_w]
            rfl
          refine pure_ (i := 12) (N := (some 39)) (v := ?_) (a' := ?_) #[false, true, true, false, true, true, false, false, true, true, false, true, true, false, false, false, false, false, false] rfl rfl (by kernel_rfl) (fun _ _ _ h => h) (Or.inl ⟨by rfl, ?_⟩) ?_ ?_
          rotate_left
          · intro w'
            go_simp
            with_reducible rfl
          rotate_left
          · simp only [Act.put, List.setIfInBounds_toArray, List.set_cons_zero, List.set_cons_succ, i64_w, i32_w]
            rfl
          refine take_ (i := 0) (N := (some 27)) (v := ?_) (a' := ?_) #[true, true, true, false, true, true, false, false, true, true, false, true, true, false, false, false, false, false, false] rfl rfl (by kernel_rfl) (fun _ _ _ h => h) (Or.inl ⟨by rfl, ?_⟩) hHeld ?_ ?_
          rotate_left
          · rintro w' ⟨s0, s1, s2, s3, s4⟩
            go_simp
            with_reducible rfl
          rotate_left
          · simp only [Act.put, List.setIfInBounds_toArray, List.set_cons_zero, List.set_cons_succ, i64_w, i32_w]
            rfl
          refine take_ (i := 3) (N := (some 30)) (v := ?_) (a' := ?_) #[true, true, true, true, true, true, false, false, true, true, false, true, true, false, false, false, false, false, false] rfl rfl (by kernel_rfl) (fun _ _ _ h => h) (Or.inl ⟨by rfl, ?_⟩) hHeld ?_ ?_
          rotate_left
          · rintro w' ⟨s0, s1, s2, s3, s4⟩
            go_simp
            with_reducible rfl
          rotate_left
          · simp only [Act.put, List.setIfInBounds_toArray, List.set_cons_zero, List.set_cons_succ, i64_w, i32_w]
            rfl
          refine take_ (i := 6) (N := (some 33)) (v := ?_) (a' := ?_) #[true, true, true, true, true, true, true, false, true, true, false, true, true, false, false, false, false, false, false] rfl rfl (by kernel_rfl) (fun _ _ _ h => h) (Or.inl ⟨by rfl, ?_⟩) hHeld ?_ ?_
          rotate_left
          · rintro w' ⟨s0, s1, s2, s3, s4⟩
            go_simp
            with_reducible rfl
          rotate_left
          · simp only [Act.put, List.setIfInBounds_toArray, List.set_cons_zero, List.set_cons_succ, i64_w, i32_w]
            rfl
          refine take_ (i := 10) (N := (some 37)) (v := ?_) (a' := ?_) #[true, true, true, true, true, true, true, false, true, true, true, true, true, false, false, false, false, false, false] rfl rfl (by kernel_rfl) (fun _ _ _ h => h) (Or.inl ⟨by rfl, ?_⟩) hHeld ?_ ?_
          rotate_left
          · rintro w' ⟨s0, s1, s2, s3, s4⟩
            go_simp
            with_reducible rfl
          rotate_left
          · simp only [Act.put, List.setIfInBounds_toArray, List.set_cons_zero, List.set_cons_succ, i64_w, i32_w]
            rfl
          refine take_ (i := 13) (N := (some 40)) (v := ?_) (a' := ?_) #[true, true, true, true, true, true, true, false, true, true, true, true, true, true, false, false, false, false, false] rfl rfl (by kernel_rfl) (fun _ _ _ h => h) (Or.inl ⟨by rfl, ?_⟩) hHeld ?_ ?_
          rotate_left
          · rintro w' ⟨s0, s1, s2, s3, s4⟩
            go_simp
            with_reducible rfl
          rotate_left
          · simp only [Act.put, List.setIfInBounds_toArray, List.set_cons_zero, List.set_cons_succ, i64_w, i32_w]
            rfl
          refine pure_ (i := 7) (N := (some 34)) (v := ?_) (a' := ?_) #[true, true, true, true, true, true, true, true, true, true, true, true, true, true, false, false, false, false, false] rfl rfl (by kernel_rfl) (fun _ _ _ h => h) (Or.inl ⟨by rfl, ?_⟩) ?_ ?_
          rotate_left
          · intro w'
            go_simp
            with_reducible rfl
          rotate_left
          · simp only [Act.put, List.setIfInBounds_toArray, List.set_cons_zero, List.set_cons_succ, i64_w, i32_w]
            rfl
          refine pure_ (i := 14) (N := (some 41)) (v := ?_) (a' := ?_) #[true, true, true, true, true, true, true, true, true, true, true, true, true, true, true, false, false, false, false] rfl rfl (by kernel_rfl) (fun _ _ _ h => h) (Or.inl ⟨by rfl, ?_⟩) ?_ ?_
          rotate_left
          · intro w'
            go_simp
            with_reducible rfl
          rotate_left
          · simp only [Act.put, List.setIfInBounds_toArray, List.set_cons_zero, List.set_cons_succ, i64_w, i32_w]
            rfl
          refine pure_ (i := 15) (N := (some 42)) (v := ?_) (a' := ?_) #[true, true, true, true, true, true, true, true, true, true, true, true, true, true, true, true, false, false, false] rfl rfl (by kernel_rfl) (fun _ _ _ h => h) (Or.inl ⟨by rfl, ?_⟩) ?_ ?_
          rotate_left
          · intro w'
            go_simp
            with_reducible rfl
          rotate_left
          · simp only [Act.put, List.setIfInBounds_toArray, List.set_cons_zero, List.set_cons_succ, i64_w, i32_w]
            rfl
          refine one_ (i := 16) (N := (some 43)) #[true, true, true, true, true, true, true, true, true, true, true, true, true, true, true, true, true, false, false] rfl rfl (by kernel_rfl) (by decide) (fun K hK => ?_)
          refine value_ (w1 := w3.alloc (.cells #[.int .i64 (rd n 0), .int .i64 (rd n 1), .int .i64 (rd n 2), .int .i64 (rd n 3)] 52)) (v := .slice (some ⟨w3.heap.size, 0, none⟩) 1 1) (by rfl) rfl ?_ ?_
          · go_simp
          refine hK.out _ _ hHeld2 (fun hHeld => ?_)
          clear hK K
          refine last_ (i := 17) (N := (some 44)) #[true, true, true, true, true, true, true, true, true, true, true, true, true, true, true, true, true, true, false] rfl rfl (by kernel_rfl) (by decide) (fun K hK => ?_)
          refine Kd.R_append_step k52 (w0 := w3) (W := w3) B rfl (.tmp 27) (.tmp 43) 37 52 (.agg #[.int .i64 0, .int .i64 0, .int .i64 0, .int .i64 0]) 32 rfl Tryz.underlying37 (by kernel_rfl) rfl (by decide) (by decide) _ st ⟨⟨rd n 0, rd n 1⟩, ⟨rd n 2, rd n 3⟩⟩ _ (fun k => ok k ∨ w.heap.size ≤ k) (fun _ => False) rfl rfl (k52_mkM _ _ _ _) (fun _ h => h.elim) (fun k hk => .inr (Nat.le_trans HW2.out hk)) HRa.out (Below.refl _ _) HBw.out (by have := HS2.out; omega) ?_
          intro v1 w1 hR1 hb1 hg1 hat1
          obtain ⟨A3, c3, rfl⟩ := Kd.R_slice hR1
          have g1 := blk_grown HD1.out hg1 (Kd.R_ne HRa.out HD1.out (by decide))
          have z1 : w1.cell? ⟨Bo, 0, none⟩ = some (.slice Ao2 st.length co2) := by rw [blk_cell g1]; rfl
          have z2 : w1.frozen? ⟨Bo, 0, none⟩ = false := blk_frozen g1 0
          have HR1 := Aside0.mk hR1
          have HB1 := Aside0.mk hb1
          have HG1 := Aside0.mk hg1
          have HY1 := Aside0.mk g1
          clear hR1 hb1 hg1 hat1 g1
          refine hK.out _ _ ?_
          clear hK K
          refine last_ (i := 18) (N := none) #[true, true, true, true, true, true, true, true, true, true, true, true, true, true, true, true, true, true, true] rfl rfl (by kernel_rfl) (by decide) (fun K hK => ?_)
          refine skip_ (w1 := ?_) (by rfl) rfl ?_ ?_
          rotate_left
          · go_simp
            rfl
          refine hK.out _ _ ?_
          clear hK K
          refine done_ (by kernel_rfl) ?_
          try go_wp2
          go_ret
          exact faul_end hB2 hBo hB ⟨o1, o2, o4, o5⟩ HB3.out HD1.out HD2.out HDT.out HRa.out HG1.out HB1.out (by have h := HR1.out; rwa [List.length_append, List.length_singleton] at h)
      · rw [if_neg hBn] at hF1
        cases hF1
    · have HF2 := Aside0.mk (show some (st, e1) = some (st', e) from by have h := HF.out; rw [if_neg he] at h; exact h)
      have he1 : (e1 == 0) = false := beq_eq_false_iff_ne.mpr he
      clear HF he
      have h' := Option.some.inj HF2.out
      simp only [Prod.mk.injEq] at h'
      obtain ⟨rfl, rfl⟩ := h'
      clear HF2
      cases b1 <;> cases b2 <;> simp only [Bool.and_true, Bool.and_false, Bool.true_and, reduceCtorEq] at q3
      all_goals
        go_enter Tryz.func26, Tryz.ntmps26
        go_wp2_with (go_at_call 23; refine (data_numbers.calls k _ _ l _ _ [xy, xy, xy, xy] n _ _ (Kd.C_alloc HC.out _) Hc.out HL.out (Nat.le_refl _) (tab_below HT.out (below_alloc (Below.refl _ _) _)) HN.out).mono ?_; rintro e w2 ⟨v2, rfl, hR2, hb2⟩; obtain ⟨A2, c2, rfl⟩ := Kd.R_slice hR2; have HB2 := Aside0.mk hb2; clear hb2 hR2)
        go_ret
        exact ⟨rfl, samp_on (faul_keeps xy Bo Bx B) HI.out HB2.out, Spare.below ((below_alloc (Below.refl _ _) _).trans (HB2.out.mono (by simp))) hB⟩
def data_Faults.f (k : Nat) (s : ByteArray) (xy : Int) : Option (List S52 × Int × Int) :=
  (data_each.f (faulF k xy) s []).bind fun t => some (if t.2.2 = 0 then (t.1, 0, 0) else ([], t.2.1, t.2.2))
set_option maxHeartbeats 4000000 in
set_option maxRecDepth 100000 in
theorem data_Faults.calls (k : Nat) (s : ByteArray) (xy : Int) (r1 : List S52) (r2 r3 : Int) (w : World) (HT0 : TabW w) (h : data_Faults.f k s xy = some (r1, r2, r3)) :
    Calls Tryz.prog 12 #[.string s, .int .i64 xy] w fun e w' => ∃ v0_ : Value, e = .returned (.tuple #[v0_, .int .i64 r2, .int .i64 r3]) ∧ Kd.R k52 52 w' w.heap.size (fun _ => True) v0_ r1 ∧ Below w.heap.size w w' := by
  obtain ⟨⟨st, line, e⟩, h1, h2⟩ := Option.bind_eq_some_iff.mp h
  have h2 : (if e = 0 then (st, 0, 0) else ([], line, e)) = (r1, r2, r3) := Option.some.inj h2
  have hb := below_alloc (below_alloc (Below.refl w.heap.size w) (.cells #[.int .i64 xy] 3)) (.cells #[.slice none 0 0] 37)
  have hTB := tab_below HT0 hb
  have hI : FaulInv xy (w.heap.size + 1) w.heap.size w.heap.size (fun k => k = w.heap.size ∨ k = w.heap.size + 1 ∨ k = 2 ∨ k = 0) [] ((w.alloc (.cells #[.int .i64 xy] 3)).alloc (.cells #[.slice none 0 0] 37)) := by
    refine ⟨.slice none 0 0, ?_, ?_, ⟨by simp, by simp, by simp, by simp⟩, hTB, Kd.R_nil _ _ _ _ _⟩
    · have := heap_alloc_new (w.alloc (.cells #[.int .i64 xy] 3)) (.cells #[.slice none 0 0] 37)
      simpa using this
    · exact (heap_alloc_old _ _ (by simp)).trans (heap_alloc_new w _)
  have HI := Aside0.mk hI
  have HT := Aside0.mk HT0
  have HTB := Aside0.mk hTB
  have HBb := Aside0.mk hb
  have H1 := Aside0.mk h1
  clear h h1 hI HT0 hTB hb
  have hmf : ∀ (fn : Fn) (first cap : Array Value) (w : World), (Instr.makeFunc fn first cap).run Tryz.prog w = .ok (.func fn first cap) w := fun _ _ _ _ => rfl
  by_cases he : e = 0
  · rw [if_pos he] at h2
    subst he
    simp only [Prod.mk.injEq] at h2
    obtain ⟨rfl, rfl, rfl⟩ := h2
    go_enter Tryz.func12, Tryz.ntmps12
    go_wp2_with (go_at_call 21; refine (data_each.calls 26 #[] _ (enters_of Tryz.func26 (by kernel_rfl) rfl) _ _ (faul_keeps _ _ _ _) _ (faul_steps k xy _ _ w.heap.size HT.out.2.1 (by omega)) _ _ _ _ _ _ _ (by simp; omega) HTB.out HI.out H1.out).mono ?_; rintro e2 w' ⟨rfl, hI2, hS2⟩; obtain ⟨v2, d1, d2, d4, dT, dR⟩ := hI2; obtain ⟨A2, c2, rfl⟩ := Kd.R_slice dR; have y0 : w'.cell? ⟨w.heap.size + 1, 0, none⟩ = some (.slice A2 r1.length c2) := (by rw [blk_cell d1]; rfl); have HR2 := Aside0.mk dR; have HS2 := Aside0.mk hS2; clear d1 d2 d4 dT dR hS2)
    go_ret3
    exact ⟨_, rfl, Kd.R_mono HR2.out (fun _ _ => trivial), HBb.out.trans HS2.out.1⟩
  · rw [if_neg he] at h2
    simp only [Prod.mk.injEq] at h2
    obtain ⟨rfl, rfl, rfl⟩ := h2
    have he1 : (e != 0) = true := bne_iff_ne.mpr he
    clear he
    go_enter Tryz.func12, Tryz.ntmps12
    go_wp2_with (go_at_call 21; refine (data_each.calls 26 #[] _ (enters_of Tryz.func26 (by kernel_rfl) rfl) _ _ (faul_keeps _ _ _ _) _ (faul_steps k xy _ _ w.heap.size HT.out.2.1 (by omega)) _ _ _ _ _ _ _ (by simp; omega) HTB.out HI.out H1.out).mono ?_; rintro e2 w' ⟨rfl, hI2, hS2⟩; have HS2 := Aside0.mk hS2; clear hS2 hI2)
    go_ret3
    exact ⟨_, rfl, Kd.R_nil _ _ _ _ _, HBb.out.trans HS2.out.1⟩
end Go.Proofs.YtknekneicecgiaaGreatDoor.M
namespace Go.Proofs.YtknekneicecgiaaGreatDoor.Mg
open Go.RowKit Go.Proofs.YtknekneicecgiaaGreatDoorW.PrintWords Go.Proofs.YtknekneicecgiaaGreatDoorW.PrintMore Go.Proofs.YtknekneicecgiaaGreatDoor.MB Go.Proofs.YtknekneicecgiaaGreatDoor.M
set_option linter.unusedVariables false
set_option linter.unusedSimpArgs false
theorem cutP_snoc : ∀ w p : List UInt8, allD w = true → cutP (w ++ 46 :: p) = (w, p, true)
  | [], p, _ => rfl
  | c :: w, p, h => by
    have hc := allD_mem h List.mem_cons_self
    have hw : allD w = true := by
      simp only [allD, List.all_cons, Bool.and_eq_true] at h
      exact h.2
    have h46 : c ≠ 46 := fun e => by rw [e] at hc; exact absurd hc.1 (by decide)
    show (if c = 46 then _ else _) = _
    rw [if_neg h46]
    show (c :: (cutP (w ++ 46 :: p)).1, (cutP (w ++ 46 :: p)).2) = _
    rw [cutP_snoc w p hw]
theorem cutP_all : ∀ w : List UInt8, allD w = true → cutP w = (w, [], false)
  | [], _ => rfl
  | c :: w, h => by
    have hc := allD_mem h List.mem_cons_self
    have hw : allD w = true := by
      simp only [allD, List.all_cons, Bool.and_eq_true] at h
      exact h.2
    have h46 : c ≠ 46 := fun e => by rw [e] at hc; exact absurd hc.1 (by decide)
    show (if c = 46 then _ else _) = _
    rw [if_neg h46, cutP_all w hw]
theorem strip_dig {c : UInt8} {t : List UInt8} (h : isDg c = true) : strip (c :: t) = (false, c :: t) := by
  have hc : 48 ≤ c.toNat ∧ c.toNat ≤ 57 := by simpa [isDg] using h
  have h1 : c ≠ 45 := fun e => by rw [e] at hc; exact absurd hc.1 (by decide)
  have h2 : c ≠ 43 := fun e => by rw [e] at hc; exact absurd hc.1 (by decide)
  show (if c = 45 then _ else if c = 43 then _ else _) = _
  rw [if_neg h1, if_neg h2]
theorem padT_head (n K : Nat) : ∃ c t, padT n K = c :: t ∧ isDg c = true := by
  obtain ⟨h1, _, h3⟩ := padT_spec n K
  cases hp : padT n K with
  | nil => rw [hp] at h3; simp at h3
  | cons c t =>
    rw [hp] at h1
    exact ⟨c, t, rfl, List.all_eq_true.1 h1 c List.mem_cons_self⟩
theorem fixT_head (n K : Nat) : ∃ c t, fixT n K = c :: t ∧ isDg c = true := by
  obtain ⟨c, t, hp, hc⟩ := padT_head n K
  obtain ⟨_, _, h3⟩ := padT_spec n K
  unfold fixT
  by_cases hK : 0 < K
  · rw [if_pos hK]
    obtain ⟨e, he⟩ : ∃ e, (padT n K).length - K = e + 1 := ⟨(padT n K).length - K - 1, by omega⟩
    rw [he, hp]
    exact ⟨c, t.take e ++ [46] ++ (c :: t).drop (e + 1), rfl, hc⟩
  · rw [if_neg hK]
    exact ⟨c, t, hp, hc⟩
/-- So many units' text is read as they were. -/
theorem spec_back (m : Bool) (N K : Nat) : spec2 m K (cutP (fixT N K)).1 (cutP (fixT N K)).2.1 (cutP (fixT N K)).2.2 = if N > 2147483648 then (0, 4) else (nv m N, 0) := by
  obtain ⟨h1, h2, h3⟩ := padT_spec N K
  unfold fixT
  by_cases hK : 0 < K
  · rw [if_pos hK, List.append_assoc, List.singleton_append]
    have hw : allD ((padT N K).take ((padT N K).length - K)) = true := List.all_eq_true.2 fun x hx => List.all_eq_true.1 h1 x (List.mem_of_mem_take hx)
    have hp : allD ((padT N K).drop ((padT N K).length - K)) = true := List.all_eq_true.2 fun x hx => List.all_eq_true.1 h1 x (List.mem_of_mem_drop hx)
    have hwl : ((padT N K).take ((padT N K).length - K)).length = (padT N K).length - K := by rw [List.length_take]; omega
    have hpl : ((padT N K).drop ((padT N K).length - K)).length = K := by rw [List.length_drop]; omega
    have hap := List.take_append_drop ((padT N K).length - K) (padT N K)
    rw [cutP_snoc _ _ hw]
    dsimp only
    generalize (padT N K).take ((padT N K).length - K) = w at *
    generalize (padT N K).drop ((padT N K).length - K) = p at *
    have hw0 : w ≠ [] := fun e => by rw [e] at hwl; simp at hwl; omega
    have hp0 : p ≠ [] := fun e => by rw [e] at hpl; simp at hpl; omega
    unfold spec2
    rw [hw, hp, decide_eq_true hw0, decide_eq_true hp0, if_neg (show ¬ ((true && true) = false) from by decide), if_neg (show ¬ (true = true ∧ (true && true) = false) from by rintro ⟨_, h⟩; cases h), List.drop_of_length_le (by omega), List.take_of_length_le (by omega), if_neg (show ¬ (allZ [] = false) from by decide), hap, h2, hpl, Nat.sub_self, Nat.pow_zero, Nat.mul_one]
  · obtain rfl : K = 0 := by omega
    have hp0 : padT N 0 ≠ [] := fun e => by rw [e] at h3; simp at h3
    rw [if_neg hK, cutP_all _ h1]
    dsimp only
    unfold spec2
    rw [h1, decide_eq_true hp0, if_neg (show ¬ ((true && true) = false) from by decide), if_neg (show ¬ (false = true ∧ (allD [] && decide (([] : List UInt8) ≠ [])) = false) from by rintro ⟨h, _⟩; cases h), List.drop_nil, List.take_nil, List.append_nil, if_neg (show ¬ (allZ [] = false) from by decide), h2]
    rw [show 10 ^ (0 - ([] : List UInt8).length) = 1 from rfl, Nat.mul_one]
theorem fixT_len {N K c : Nat} (h : N < 10 ^ c) (hK : K ≤ 9) : (padT N K).length ≤ c + 11 ∧ (fixT N K).length ≤ c + 12 := by
  have h1 := txt_len h
  have h2 : (padT N K).length ≤ c + 11 := by
    unfold padT
    split
    · rw [List.length_append, Lib.repeatL_length]
      simp
      omega
    · omega
  refine ⟨h2, ?_⟩
  unfold fixT
  split
  · simp; omega
  · omega
theorem fixZ_len {n : Int} {K : Nat} (h0 : -9223372036854775808 ≤ n) (h1 : n ≤ 9223372036854775807) (hK : K ≤ 9) : (fixZ n K).length ≤ 60 := by
  have e36 : 10 ^ (18 * 2) = 1000000000000000000000000000000000000 := by decide
  have hl : n.natAbs < 10 ^ (18 * 2) := by omega
  obtain ⟨l1, l2⟩ := fixT_len hl hK
  unfold fixZ
  split
  · simp; omega
  · omega
/-- deci.Text. -/
theorem Text_f {n a1 : Int} {k K : Nat} (h0 : -9223372036854775808 ≤ n) (h1 : n ≤ 9223372036854775807) (hK : mn (mx a1 0) 9 = (K : Int)) (hK9 : K ≤ 9) (hk : 24000 ≤ k) : deci_Text.f k n a1 = some ⟨(fixZ n K).toArray⟩ := by
  have e36 : 10 ^ (18 * 2) = 1000000000000000000000000000000000000 := by decide
  have hl : n.natAbs < 10 ^ (18 * 2) := by omega
  have hB1 : n.natAbs < B ^ 1 := by unfold B; omega
  have hB : n.natAbs < B ^ 60 := pow_le hB1 (by omega)
  have hz : HZ (zb n) (zl n) n := HZ.z hB1 (by omega)
  have hF : deci_Fixed.f k (zb n) (zl n) a1 = some ⟨(fixZ n K).toArray⟩ := Fixed_z hz hK hK9 (by omega) hl hB (by omega)
  have hO : num_Of.f k n = some (zb n, zl n) := Of_z h0 h1 (by omega)
  unfold deci_Text.f
  rw [hO, Option.bind_some]
  dsimp only
  rw [hF, Option.bind_some]
/-- It is read as it was. -/
theorem ParseT {n a1 : Int} {k K : Nat} (h0 : -2147483648 ≤ n) (h1 : n ≤ 2147483648) (hK : mn (mx a1 0) 9 = (K : Int)) (hK9 : K ≤ 9) (hk : 60000 ≤ k) : deci_Parse.f k ⟨(fixZ n K).toArray⟩ a1 = some (n, 0) := by
  have hfl := fixZ_len (n := n) (K := K) (by omega) (by omega) hK9
  have hs : strip (fixZ n K) = (zb n, fixT n.natAbs K) := by
    unfold fixZ zb
    by_cases hn : n < 0
    · rw [if_pos hn, decide_eq_true hn]
      rfl
    · obtain ⟨c, t, hc1, hc2⟩ := fixT_head n.natAbs K
      rw [if_neg hn, decide_eq_false hn, hc1]
      exact strip_dig hc2
  have := Parse_f (s := ⟨(fixZ n K).toArray⟩) (a1 := a1) (k := k) (by rw [size_mk]; omega) hk
  have hda : (⟨(fixZ n K).toArray⟩ : ByteArray).data.toList = fixZ n K := by simp
  rw [hda, hs, hK, Int.toNat_natCast] at this
  dsimp only at this
  rw [spec_back, nv_zb, if_neg (by omega)] at this
  exact this
/-- A text's bytes are digits, a sign, a point. -/
theorem fixZ_mem {n : Int} {K : Nat} {c : UInt8} (h : c ∈ fixZ n K) : (48 ≤ c.toNat ∧ c.toNat ≤ 57) ∨ c = 45 ∨ c = 46 := by
  obtain ⟨h1, _, _⟩ := padT_spec n.natAbs K
  have hd : ∀ x ∈ padT n.natAbs K, 48 ≤ x.toNat ∧ x.toNat ≤ 57 := fun x hx => allD_mem h1 hx
  have hf : ∀ x ∈ fixT n.natAbs K, (48 ≤ x.toNat ∧ x.toNat ≤ 57) ∨ x = 46 := fun x hx => by
    unfold fixT at hx
    split at hx
    · rcases List.mem_append.1 hx with hx | hx
      · rcases List.mem_append.1 hx with hx | hx
        · exact .inl (hd x (List.mem_of_mem_take hx))
        · exact .inr (List.mem_singleton.1 hx)
      · exact .inl (hd x (List.mem_of_mem_drop hx))
    · exact .inl (hd x hx)
  unfold fixZ at h
  split at h
  · rcases List.mem_cons.1 h with h | h
    · exact .inr (.inl h)
    · rcases hf c h with h | h
      · exact .inl h
      · exact .inr (.inr h)
  · rcases hf c h with h | h
    · exact .inl h
    · exact .inr (.inr h)
end Go.Proofs.YtknekneicecgiaaGreatDoor.Mg
namespace Go.Proofs.YtknekneicecgiaaGreatDoor.Mg
open Go.RowKit Go.Proofs.YtknekneicecgiaaGreatDoorW.PrintWords Go.Proofs.YtknekneicecgiaaGreatDoorW.PrintMore Go.Proofs.YtknekneicecgiaaGreatDoor.MB Go.Proofs.YtknekneicecgiaaGreatDoor.M
set_option linter.unusedVariables false
set_option linter.unusedSimpArgs false
/-! ### words -/
def wf (st : List ByteArray × Bool) (l : List UInt8) : List ByteArray × Bool := l.foldl wstep st
theorem wf_app (st : List ByteArray × Bool) (a b : List UInt8) : wf st (a ++ b) = wf (wf st a) b := by simp [wf]
theorem wf_blank (W : List ByteArray) : ∀ (l : List UInt8) (b : Bool), (∀ c ∈ l, isBlank c = true) → (wf (W, b) l).1 = W ∧ (wf (W, b) l).2 = (b && l.isEmpty)
  | [], b, _ => ⟨rfl, by simp [wf]⟩
  | c :: l, b, h => by
    have hc := h c List.mem_cons_self
    have h1 : wf (W, b) (c :: l) = wf (W, false) l := by
      show List.foldl wstep (wstep (W, b) c) l = _
      rw [wstep, if_pos hc]
      rfl
    rw [h1]
    have ih := wf_blank W l false (fun x hx => h x (List.mem_cons_of_mem _ hx))
    exact ⟨ih.1, by rw [ih.2]; simp⟩
theorem wf_blank' (W : List ByteArray) (l : List UInt8) (h : ∀ c ∈ l, isBlank c = true) : wf (W, false) l = (W, false) := by
  have := wf_blank W l false h
  exact Prod.ext this.1 (by rw [this.2]; rfl)
theorem wf_blank1 (W : List ByteArray) (l : List UInt8) (h : ∀ c ∈ l, isBlank c = true) (hl : l ≠ []) : wf (W, true) l = (W, false) := by
  have := wf_blank W l true h
  refine Prod.ext this.1 ?_
  rw [this.2]
  cases l with
  | nil => exact absurd rfl hl
  | cons c l => rfl
theorem ba_snoc (x : ByteArray) (c : UInt8) (l : List UInt8) : x ++ (⟨#[c]⟩ : ByteArray) ++ (⟨l.toArray⟩ : ByteArray) = x ++ (⟨(c :: l).toArray⟩ : ByteArray) := by
  apply ba_ext'
  simp only [ByteArray.data_append, Array.toList_append]
  simp
theorem wf_more (W : List ByteArray) : ∀ (l : List UInt8) (x : ByteArray), (∀ c ∈ l, isBlank c = false) → wf (W ++ [x], true) l = (W ++ [x ++ (⟨l.toArray⟩ : ByteArray)], true)
  | [], x, _ => by
    have : x ++ (⟨([] : List UInt8).toArray⟩ : ByteArray) = x := by
      apply ba_ext'
      simp only [ByteArray.data_append, Array.toList_append]
      simp
    rw [this]
    rfl
  | c :: l, x, h => by
    have hc := h c List.mem_cons_self
    have h1 : wf (W ++ [x], true) (c :: l) = wf (W ++ [x ++ (⟨#[c]⟩ : ByteArray)], true) l := by
      show List.foldl wstep (wstep (W ++ [x], true) c) l = _
      rw [wstep, if_neg (by rw [hc]; decide), if_pos rfl, addTo_snoc]
      rfl
    rw [h1, wf_more W l _ (fun y hy => h y (List.mem_cons_of_mem _ hy)), ba_snoc]
theorem wf_word (W : List ByteArray) (l : List UInt8) (h : ∀ c ∈ l, isBlank c = false) (hl : l ≠ []) : wf (W, false) l = (W ++ [(⟨l.toArray⟩ : ByteArray)], true) := by
  cases l with
  | nil => exact absurd rfl hl
  | cons c l =>
    have hc := h c List.mem_cons_self
    have h1 : wf (W, false) (c :: l) = wf (W ++ [(⟨#[]⟩ : ByteArray) ++ (⟨#[c]⟩ : ByteArray)], true) l := by
      show List.foldl wstep (wstep (W, false) c) l = _
      rw [wstep, if_neg (by rw [hc]; decide), if_neg (by simp), addTo_snoc]
      rfl
    rw [h1, wf_more W l _ (fun y hy => h y (List.mem_cons_of_mem _ hy)), ba_snoc]
    congr 3
theorem fixZ_ne (n : Int) (K : Nat) : fixZ n K ≠ [] := by
  unfold fixZ
  obtain ⟨c, t, hc1, hc2⟩ := fixT_head n.natAbs K
  rw [hc1]
  split <;> simp
theorem fixZ_blank {n : Int} {K : Nat} : ∀ c ∈ fixZ n K, isBlank c = false := by
  intro c hc
  have h := fixZ_mem hc
  unfold isBlank
  have h32 : c ≠ 32 := fun e => by subst e; rcases h with h | h | h <;> revert h <;> decide
  have h9 : c ≠ 9 := fun e => by subst e; rcases h with h | h | h <;> revert h <;> decide
  have h13 : c ≠ 13 := fun e => by subst e; rcases h with h | h | h <;> revert h <;> decide
  simp [h32, h9, h13]
theorem fixZ_no2 {n : Int} {K : Nat} {d : UInt8} (hd : d = 10 ∨ d = 35) : d ∉ fixZ n K := fun h => by
  have := fixZ_mem h
  rcases hd with rfl | rfl <;> rcases this with h | h | h <;> revert h <;> decide
/-- A line of three numbers, blanks about them. -/
theorem three_words {a b c d : List UInt8} {x y z : Int} {K L M : Nat} (ha : ∀ q ∈ a, isBlank q = true) (hb : ∀ q ∈ b, isBlank q = true) (hc : ∀ q ∈ c, isBlank q = true) (hd : ∀ q ∈ d, isBlank q = true) (hb0 : b ≠ []) (hc0 : c ≠ []) :
    lw (a ++ fixZ x K ++ b ++ fixZ y L ++ c ++ fixZ z M ++ d) = [(⟨(fixZ x K).toArray⟩ : ByteArray), ⟨(fixZ y L).toArray⟩, ⟨(fixZ z M).toArray⟩] := by
  have hw : (wordsL (a ++ fixZ x K ++ b ++ fixZ y L ++ c ++ fixZ z M ++ d)).1 = [(⟨(fixZ x K).toArray⟩ : ByteArray), ⟨(fixZ y L).toArray⟩, ⟨(fixZ z M).toArray⟩] := by
    show (wf ([], false) _).1 = _
    rw [wf_app, wf_app, wf_app, wf_app, wf_app, wf_app, wf_blank' _ _ ha, wf_word _ _ fixZ_blank (fixZ_ne _ _), wf_blank1 _ _ hb hb0, wf_word _ _ fixZ_blank (fixZ_ne _ _), wf_blank1 _ _ hc hc0, wf_word _ _ fixZ_blank (fixZ_ne _ _)]
    exact (wf_blank _ d true hd).1
  unfold lw
  rw [hw, if_neg]
  intro h
  have hm : (35 : UInt8) ∈ fixZ x K := by
    have h2 : (fixZ x K).head? = some 35 := by simpa using h
    exact List.mem_of_mem_head? h2
  exact fixZ_no2 (.inr rfl) hm
/-! ### lines -/
theorem cutL_line : ∀ (a r : List UInt8), (10 : UInt8) ∉ a → cutL (a ++ 10 :: r) = a :: cutL r
  | [], r, _ => by
    show cutL (10 :: r) = _
    rw [cutL, if_pos rfl]
  | c :: a, r, h => by
    have ih := cutL_line a r (fun e => h (List.mem_cons_of_mem _ e))
    have hc : c ≠ 10 := fun e => h (by rw [e]; exact List.mem_cons_self)
    show cutL (c :: (a ++ 10 :: r)) = _
    rw [cutL, if_neg hc, ih]
/-- What has been written: its lines, and the samples that they say. -/
def Told (xy z : Int) (T : List UInt8) (smps : List S34) : Prop :=
  ∃ Ls : List (List UInt8), (∀ r, cutL (T ++ r) = Ls ++ cutL r) ∧ ∀ (i : Nat) (out : List S34) (rest : List (List ByteArray)), runP xy z (Ls.map lw ++ rest) i out = runP xy z rest (i + Ls.length) (out ++ smps)
theorem told_nil (xy z : Int) : Told xy z [] [] := ⟨[], fun _ => rfl, fun i out rest => by simp⟩
theorem told_line {xy z : Int} {T a : List UInt8} {smps : List S34} {n : List Int} (h : Told xy z T smps) (ha : (10 : UInt8) ∉ a) (hl : lw a ≠ []) (hn : nums2 (lw a) [xy, xy, z] = (n, 0)) : Told xy z (T ++ a ++ [10]) (smps ++ [smp n]) := by
  obtain ⟨Ls, h1, h2⟩ := h
  refine ⟨Ls ++ [a], fun r => ?_, fun i out rest => ?_⟩
  · rw [List.append_assoc, List.append_assoc, h1, show a ++ ([10] ++ r) = a ++ 10 :: r from rfl, cutL_line a r ha]
    simp
  · rw [List.map_append, List.append_assoc, h2]
    simp only [List.map_cons, List.map_nil, List.cons_append, List.nil_append, runP, List.length_append, List.length_cons, List.length_nil]
    rw [if_neg hl, hn]
    dsimp only
    rw [if_pos rfl, Nat.add_assoc, List.append_assoc]
theorem told_all {xy z : Int} {T : List UInt8} {smps : List S34} (h : Told xy z T smps) : ∃ n, (cutL T).length = n + 1 ∧ runP xy z ((cutL T).map lw) 0 [] = (smps, 0, 0) := by
  obtain ⟨Ls, h1, h2⟩ := h
  have hc := h1 []
  rw [List.append_nil] at hc
  refine ⟨Ls.length, by rw [hc]; simp [cutL], ?_⟩
  rw [hc, List.map_append, h2]
  simp [cutL, runP, lw, wordsL]
theorem pvT {n a : Int} {K : Nat} (h0 : -2147483648 ≤ n) (h1 : n ≤ 2147483648) (hK : mn (mx a 0) 9 = (K : Int)) (hK9 : K ≤ 9) : pv ⟨(fixZ n K).toArray⟩ a = (n, 0) := by
  have h := ParseT (k := 60000) h0 h1 hK hK9 (Nat.le_refl _)
  rw [Parse_all (Nat.le_refl _)] at h
  exact Option.some.inj h
theorem numsT {x y z a b : Int} {K L : Nat} (hx : -2147483648 ≤ x ∧ x ≤ 2147483648) (hy : -2147483648 ≤ y ∧ y ≤ 2147483648) (hz : -2147483648 ≤ z ∧ z ≤ 2147483648) (hK : mn (mx a 0) 9 = (K : Int)) (hK9 : K ≤ 9) (hL : mn (mx b 0) 9 = (L : Int)) (hL9 : L ≤ 9) :
    nums2 [(⟨(fixZ x K).toArray⟩ : ByteArray), ⟨(fixZ y K).toArray⟩, ⟨(fixZ z L).toArray⟩] [a, a, b] = ([x, y, z], 0) := by
  unfold nums2
  rw [if_pos (by simp)]
  simp only [List.zip_cons_cons, List.zip_nil_right, numsP]
  rw [pvT hx.1 hx.2 hK hK9, pvT hy.1 hy.2 hK hK9, pvT hz.1 hz.2 hL hL9]
  simp
theorem szl (l : List UInt8) : (⟨l.toArray⟩ : ByteArray).size = l.length := rfl
theorem ba_app (a b : List UInt8) : (⟨a.toArray⟩ : ByteArray) ++ (⟨b.toArray⟩ : ByteArray) = (⟨(a ++ b).toArray⟩ : ByteArray) := by
  apply ba_ext'
  simp only [ByteArray.data_append, Array.toList_append]
theorem cut_mk (l : List UInt8) : (⟨l.toArray⟩ : ByteArray).data.toList = l := rfl
end Go.Proofs.YtknekneicecgiaaGreatDoor.Mg
namespace Go.Proofs.YtknekneicecgiaaGreatDoor.Mg
open Go.RowKit Go.Proofs.YtknekneicecgiaaGreatDoorW.PrintWords Go.Proofs.YtknekneicecgiaaGreatDoorW.PrintMore Go.Proofs.YtknekneicecgiaaGreatDoor.MB Go.Proofs.YtknekneicecgiaaGreatDoor.M
set_option linter.unusedVariables false
set_option linter.unusedSimpArgs false
def flt (n : List Int) : S52 := ⟨⟨rd n 0, rd n 1⟩, ⟨rd n 2, rd n 3⟩⟩
def runF (xy : Int) : List (List ByteArray) → Nat → List S52 → List S52 × Int × Int
  | [], _, out => (out, 0, 0)
  | w :: r, i, out => if w = [] then runF xy r (i + 1) out else if (nums2 w [xy, xy, xy, xy]).2 = 0 then runF xy r (i + 1) (out ++ [flt (nums2 w [xy, xy, xy, xy]).1]) else (out, ((i + 1 : Nat) : Int), (nums2 w [xy, xy, xy, xy]).2)
theorem faul_f {xy : Int} {out : List S52} {l : List ByteArray} {k : Nat} (ho : out.length < 1000) (hk : 60200 ≤ k) :
    faulF k xy out l = some (if (nums2 l [xy, xy, xy, xy]).2 = 0 then (out ++ [flt (nums2 l [xy, xy, xy, xy]).1], 0) else (out, (nums2 l [xy, xy, xy, xy]).2)) := by
  unfold faulF
  rw [if_neg (by omega), numbers_f (by simp) hk, Option.bind_some]
  by_cases h : (nums2 l [xy, xy, xy, xy]).2 = 0
  · have hl := nums2_len h
    rw [if_pos h, if_pos h, if_pos ⟨by rw [hl]; simp, by omega⟩]
    rfl
  · rw [if_neg h, if_neg h]
theorem eachf_f {xy : Int} {k : Nat} (hk : 60200 ≤ k) : ∀ (ps : List (List UInt8)) (i : Nat) (out : List S52), out.length + ps.length < 1000 → (∀ p ∈ ps, p.length ≤ 1000000) →
    eachL (faulF k xy) (ps.map fun p => (⟨p.toArray⟩ : ByteArray)) (i : Int) out = some (runF xy (ps.map lw) i out)
  | [], i, out, _, _ => rfl
  | p :: ps, i, out, ho, hp => by
    have hpl := hp p List.mem_cons_self
    have hps : ∀ q ∈ ps, q.length ≤ 1000000 := fun q hq => hp q (List.mem_cons_of_mem _ hq)
    have ho' : out.length + ps.length < 1000 := by simp at ho; omega
    have hw : data_Words.f (⟨p.toArray⟩ : ByteArray) = some (wordsL p).1 := by
      unfold data_Words.f
      have : (⟨p.toArray⟩ : ByteArray).size = p.length := rfl
      rw [if_pos (by omega), fields_words]
    have hi : (i : Int) + 1 = ((i + 1 : Nat) : Int) := by omega
    simp only [List.map_cons, eachL]
    rw [hw, Option.bind_some, hi]
    have ih := fun (o : List S52) (h : o.length + ps.length < 1000) => eachf_f (xy := xy) hk ps (i + 1) o h hps
    by_cases h0 : (wordsL p).1 = []
    · have hlw : lw p = [] := by unfold lw; rw [h0]; rfl
      rw [if_pos (by rw [h0]; rfl), ih _ ho', hlw]
      simp [runF]
    · rw [if_neg (fun h => h0 (List.eq_nil_of_length_eq_zero h))]
      by_cases hpre : ((wordsL p).1.headD ⟨#[]⟩).data.toList.head? = some 35
      · have hlw : lw p = [] := by unfold lw; rw [if_pos hpre]
        rw [if_pos ((prefix_iff _).2 hpre), ih _ ho', hlw]
        simp [runF]
      · have hlw : lw p = (wordsL p).1 := by unfold lw; rw [if_neg hpre]
        rw [if_neg (fun h => hpre ((prefix_iff _).1 h)), faul_f (by simp at ho; omega) hk, Option.bind_some, hlw]
        simp only [runF]
        rw [if_neg h0]
        by_cases hn : (nums2 (wordsL p).1 [xy, xy, xy, xy]).2 = 0
        · rw [if_pos hn, if_pos hn, if_pos rfl, ih _ (by simp at ho ⊢; omega)]
        · rw [if_neg hn, if_neg hn, if_neg hn]
theorem Faults_g {s : ByteArray} {xy : Int} {k : Nat} (hs : s.size ≤ 99999) (hl : (cutL s.data.toList).length < 1000) (hk : 60200 ≤ k) :
    data_Faults.f k s xy = some (let t := runF xy ((cutL s.data.toList).map lw) 0 []; if t.2.2 = 0 then (t.1, 0, 0) else ([], t.2.1, t.2.2)) := by
  unfold data_Faults.f data_each.f
  rw [if_neg (by omega), linesOf_cut]
  have h := eachf_f (xy := xy) hk (cutL s.data.toList) 0 [] (by simp; omega) (fun p hp => by have := cutL_size _ p hp; rw [data_length] at this; omega)
  rw [show (0 : Int) = ((0 : Nat) : Int) from rfl, h, Option.bind_some]
/-- What has been written: its lines, and the samples that they say. -/
def ToldF (xy : Int) (T : List UInt8) (smps : List S52) : Prop :=
  ∃ Ls : List (List UInt8), (∀ r, cutL (T ++ r) = Ls ++ cutL r) ∧ ∀ (i : Nat) (out : List S52) (rest : List (List ByteArray)), runF xy (Ls.map lw ++ rest) i out = runF xy rest (i + Ls.length) (out ++ smps)
theorem toldf_nil (xy : Int) : ToldF xy [] [] := ⟨[], fun _ => rfl, fun i out rest => by simp⟩
theorem toldf_line {xy : Int} {T a : List UInt8} {smps : List S52} {n : List Int} (h : ToldF xy T smps) (ha : (10 : UInt8) ∉ a) (hl : lw a ≠ []) (hn : nums2 (lw a) [xy, xy, xy, xy] = (n, 0)) : ToldF xy (T ++ a ++ [10]) (smps ++ [flt n]) := by
  obtain ⟨Ls, h1, h2⟩ := h
  refine ⟨Ls ++ [a], fun r => ?_, fun i out rest => ?_⟩
  · rw [List.append_assoc, List.append_assoc, h1, show a ++ ([10] ++ r) = a ++ 10 :: r from rfl, cutL_line a r ha]
    simp
  · rw [List.map_append, List.append_assoc, h2]
    simp only [List.map_cons, List.map_nil, List.cons_append, List.nil_append, runF, List.length_append, List.length_cons, List.length_nil]
    rw [if_neg hl, hn]
    dsimp only
    rw [if_pos rfl, Nat.add_assoc, List.append_assoc]
theorem toldf_all {xy : Int} {T : List UInt8} {smps : List S52} (h : ToldF xy T smps) : ∃ n, (cutL T).length = n + 1 ∧ runF xy ((cutL T).map lw) 0 [] = (smps, 0, 0) := by
  obtain ⟨Ls, h1, h2⟩ := h
  have hc := h1 []
  rw [List.append_nil] at hc
  refine ⟨Ls.length, by rw [hc]; simp [cutL], ?_⟩
  rw [hc, List.map_append, h2]
  simp [cutL, runF, lw, wordsL]
/-- A line of four numbers, blanks between them. -/
theorem four_words {x y z v : Int} {K : Nat} :
    lw (fixZ x K ++ [32] ++ fixZ y K ++ [32] ++ fixZ z K ++ [32] ++ fixZ v K) = [(⟨(fixZ x K).toArray⟩ : ByteArray), ⟨(fixZ y K).toArray⟩, ⟨(fixZ z K).toArray⟩, ⟨(fixZ v K).toArray⟩] := by
  have hb : ∀ q ∈ ([32] : List UInt8), isBlank q = true := by decide
  have hw : (wordsL (fixZ x K ++ [32] ++ fixZ y K ++ [32] ++ fixZ z K ++ [32] ++ fixZ v K)).1 = [(⟨(fixZ x K).toArray⟩ : ByteArray), ⟨(fixZ y K).toArray⟩, ⟨(fixZ z K).toArray⟩, ⟨(fixZ v K).toArray⟩] := by
    show (wf ([], false) _).1 = _
    rw [wf_app, wf_app, wf_app, wf_app, wf_app, wf_app, wf_word _ _ fixZ_blank (fixZ_ne _ _), wf_blank1 _ _ hb (by decide), wf_word _ _ fixZ_blank (fixZ_ne _ _), wf_blank1 _ _ hb (by decide), wf_word _ _ fixZ_blank (fixZ_ne _ _), wf_blank1 _ _ hb (by decide), wf_word _ _ fixZ_blank (fixZ_ne _ _)]
    rfl
  unfold lw
  rw [hw, if_neg]
  intro h
  have hm : (35 : UInt8) ∈ fixZ x K := by
    have h2 : (fixZ x K).head? = some 35 := by simpa using h
    exact List.mem_of_mem_head? h2
  exact fixZ_no2 (.inr rfl) hm
theorem numsF {x y z v a : Int} {K : Nat} (hx : -2147483648 ≤ x ∧ x ≤ 2147483648) (hy : -2147483648 ≤ y ∧ y ≤ 2147483648) (hz : -2147483648 ≤ z ∧ z ≤ 2147483648) (hv : -2147483648 ≤ v ∧ v ≤ 2147483648) (hK : mn (mx a 0) 9 = (K : Int)) (hK9 : K ≤ 9) :
    nums2 [(⟨(fixZ x K).toArray⟩ : ByteArray), ⟨(fixZ y K).toArray⟩, ⟨(fixZ z K).toArray⟩, ⟨(fixZ v K).toArray⟩] [a, a, a, a] = ([x, y, z, v], 0) := by
  unfold nums2
  rw [if_pos (by simp)]
  simp only [List.zip_cons_cons, List.zip_nil_right, numsP]
  rw [pvT hx.1 hx.2 hK hK9, pvT hy.1 hy.2 hK hK9, pvT hz.1 hz.2 hK hK9, pvT hv.1 hv.2 hK hK9]
  simp
end Go.Proofs.YtknekneicecgiaaGreatDoor.Mg
