/- The copy into a row of the call's own, and one round of mag.Div's loop, as words for its print. -/
import Derived.Test.YtfkpbdapinpkdaaDoorMD
import Derived.Test.YtfkpbdapinpkdaaDoorA4
import Derived.Laws.IdiomCopy
namespace Go.Proofs.YtfkpbdapinpkdaaDoor.MD
open Go.RowKit Go.Proofs.YtfkpbdapinpkdaaDoorW.PrintWords Go.Proofs.YtfkpbdapinpkdaaDoorW.PrintLast Go.Proofs.YtfkpbdapinpkdaaDoorW.PrintMore Go.Proofs.YtfkpbdapinpkdaaDoor.MB Go.Proofs.YtfkpbdapinpkdaaDoor.M
set_option linter.unusedVariables false
set_option linter.unusedSimpArgs false

theorem setCells_row {base : Nat} {ok : Nat → Prop} {g cap n : Nat} : ∀ (ts us : List Int) (o : Nat) (w : World), o + ts.length ≤ us.length → Kd.R (Kd.int .u64) 22 w base ok (.slice (some ⟨g, 0, none⟩) n cap) us →
    Kd.R (Kd.int .u64) 22 (w.setCells g o (nums .u64 ts)) base ok (.slice (some ⟨g, 0, none⟩) n cap) (us.take o ++ ts ++ us.drop (o + ts.length)) ∧ w.grownBy (w.setCells g o (nums .u64 ts)) (some g)
  | [], us, o, w, _, h => by
    refine ⟨?_, grown_self _ _⟩
    have e : us.take o ++ [] ++ us.drop (o + ([] : List Int).length) = us := by simp
    rw [e]
    exact h
  | t :: ts, us, o, w, hl, h => by
    obtain ⟨h1, h2⟩ := put_at h o t
    obtain ⟨h3, h4⟩ := setCells_row ts (us.set o t) (o + 1) _ (by simp at hl ⊢; omega) h1
    have e : (us.set o t).take (o + 1) ++ ts ++ (us.set o t).drop (o + 1 + ts.length) = us.take o ++ (t :: ts) ++ us.drop (o + (t :: ts).length) := by
      have ho : o < us.length := by simp at hl; omega
      rw [List.take_succ_eq_append_getElem (by simpa using ho), List.take_set_of_le (Nat.le_refl _), List.getElem_set_self, List.drop_set_of_lt (by omega)]
      simp [Nat.add_assoc, Nat.add_comm 1]
    rw [e] at h3
    exact ⟨h3, grown_grown h2 h4⟩

/-- 'copy(dst, src)' onto the head of a row of the call's own, which is long enough. -/
theorem copy_own {ops : Array Oper} {rest : List Oper} {o : Oper} {a : Act} {Q : Exit → Act → World → Prop} {W : World} (hgd : o.guard = none) (d s : Operand) (ho : o.op = .call { callee := .builtin .copy, args := #[d, s], argTypes := #[25, 25] })
    {N : Option Tmp} (hN : o.dst = N) (vd : Value) (us : List Int) (hd : a.eval d = vd) (A2 : Option Addr) (c2 : Nat) (ts : List Int) (hs : a.eval s = .slice A2 ts.length c2) {base : Nat} {ok : Nat → Prop}
    (hR : Kd.R (Kd.int .u64) 22 W base ok vd us) (hC : Kd.C (Kd.int .u64) W A2 ts.length ts) (hle : ts.length ≤ us.length)
    (h : ∀ w', Kd.R (Kd.int .u64) 22 w' base ok vd (ts ++ us.drop ts.length) → W.grownBy w' vd.ownBlock → wpList Tryd.prog ops Q rest (a.put N (goInt ts.length)) w') : wpList Tryd.prog ops Q (o :: rest) a W := by
  subst hN
  refine wpList_plain hgd fun K hK => ?_
  obtain ⟨i0, hi, hz0, hz1, hz2⟩ := info_parts info22
  have hsz : (Tryd.prog.info? 22).map (·.size) = some 1 := by rw [hi]; simp [hz1]
  by_cases h0 : ts.length = 0
  · obtain rfl : ts = [] := List.eq_nil_of_length_eq_zero h0
    obtain ⟨A, c, rfl⟩ := Kd.R_slice hR
    have hrun := run_copy_none (P := Tryd.prog) W 25 25 o.type 22 A A2 us.length c 0 c2 Tryd.underlying25 hsz (by simp)
    have hk := h W (by simpa using hR) ⟨rfl, rfl, rfl, Nat.le_refl _, fun _ _ _ => rfl⟩
    unfold Oper.wp
    simp only [List.length_nil] at hs
    simp [execOp, ho, resolve, invoke, builtin, hd, hs, hrun, Result.andThen]
    exact hK _ _ (by simpa using hk)
  · obtain ⟨g, cap, e, hb, hlt, cells, hcells⟩ := Kd.R_form hR (by omega)
    subst e
    obtain ⟨ad, hA, _⟩ := Kd.at_int hC 0 (by omega) (by omega)
    subst hA
    have hsrc : ∀ j v, (nums .u64 ts)[j]? = some v → W.cell? (ad.add j) = some v := by
      intro j v hj
      have hjl : j < ts.length := by
        have := (List.getElem?_eq_some_iff.1 hj).1
        simpa [nums] using this
      obtain ⟨ad', e', hc⟩ := Kd.at_int hC (j : Int) (by omega) (by omega)
      obtain rfl : ad = ad' := by injection e'
      rw [Int.toNat_natCast] at hc
      rw [hc, ← hj]
      simp [nums, rd, List.getD_eq_getElem?_getD, hjl]
    have hrun := run_copy_cells (P := Tryd.prog) W 25 25 o.type 22 g 0 us.length cap ad ts.length c2 (nums .u64 ts) Tryd.underlying25 hsz (by simp only [nums, List.length_map]; exact (Nat.min_eq_left hle).symm) hsrc
      (fun j hj => by rw [Nat.zero_add, (cell_at hR j (by simp [nums] at hj; omega)).1]; rfl) (fun j hj => by rw [Nat.zero_add]; exact (cell_at hR j (by simp [nums] at hj; omega)).2)
      (fun v hv => by simp [nums] at hv; obtain ⟨x, _, rfl⟩ := hv; rfl)
    obtain ⟨h1, h2⟩ := setCells_row ts us 0 W (by omega) hR
    have hk := h _ (by simpa using h1) h2
    unfold Oper.wp
    simp [execOp, ho, resolve, invoke, builtin, hd, hs, hrun, Result.andThen]
    exact hK _ _ (by simpa [nums] using hk)

/-- The window of a row, read. -/
theorem C_win {w : World} {base : Nat} {ok : Nat → Prop} {g n cap j m : Nat} {us top : List Int} (h : Kd.R (Kd.int .u64) 22 w base ok (.slice (some ⟨g, 0, none⟩) n cap) us) (ht : top = (us.take (j + m)).drop j) (hl : j + m ≤ us.length) :
    Kd.C (Kd.int .u64) w (some ⟨g, j, none⟩) top.length top := by
  obtain ⟨hn, hc, hC⟩ := Kd.R_reads' h
  by_cases hm : m = 0
  · subst hm
    have e : top = [] := by rw [ht]; simp
    subst e
    exact Kd.C_of_reads (d := (0 : Int)) (h1 := fun _ => rfl) ⟨rfl, by simp, fun h0 => absurd h0 (by simp)⟩
  · have := Kd.C_mid (c := cap) (lo := j) (hi := j + m) hC (by omega) hl (by omega)
    rw [if_neg (by omega), ← ht, show Option.map (fun x : Addr => x.add (j * (Kd.int .u64).sz)) (some ⟨g, 0, none⟩) = some ⟨g, j, none⟩ from by
      show some (Addr.add ⟨g, 0, none⟩ (j * 1)) = _
      rw [Nat.mul_one, add_plain]] at this
    exact this
theorem V_len {w : World} {b b' : Nat} {ok : Nat → Prop} {A : Option Addr} {n c : Nat} {xs : List Int} (h : Kd.V (Kd.int .u64) 22 w b ok (.slice A n c) xs) : Kd.V (Kd.int .u64) 22 w b' ok (.slice A xs.length c) xs := by
  have e := (Kd.V_at h).1
  subst e
  exact h
/-- What the copy leaves. -/
def mag_put.f (us ts : List Int) : Option (List Int) := if ts.length ≤ us.length then some (ts ++ us.drop ts.length) else none
theorem mag_put.le {us ts r : List Int} (h : mag_put.f us ts = some r) : ts.length ≤ us.length ∧ r = ts ++ us.drop ts.length := by
  unfold mag_put.f at h
  split at h
  · exact ⟨‹_›, (Option.some.inj h).symm⟩
  · cases h

/-- Are these words? -/
def wordsB (l : List Int) : Bool := l.all fun x => decide (0 ≤ x ∧ x ≤ 18446744073709551615)
theorem wordsB_mem {l : List Int} (h : wordsB l = true) : ∀ x ∈ l, 0 ≤ x ∧ x ≤ 18446744073709551615 := by
  intro x hx
  have := List.all_eq_true.1 h x hx
  simpa using this

/-- One round of the long division: a word is guessed, so many times the divisor is taken, and given back where that was too much. -/
def mag_round.f (k : Nat) (u q v : List Int) (j n : Int) : Option (List Int × List Int) :=
  if (0 ≤ j ∧ j < q.length ∧ j.toNat + (v.length + 1) ≤ u.length ∧ n = v.length ∧ u.length ≤ 17592186044416 ∧ q.length ≤ 17592186044416) ∧ wordsB v = true ∧ wordsB u = true then
    (mag_guess.f k ((u.take (j.toNat + (v.length + 1))).drop j.toNat) v).bind fun g =>
      if (0 ≤ g ∧ g ≤ 18446744073709551615) ∧ wordsB (takeF g v u j.toNat).1 = true then
        if 0 < (takeF g v u j.toNat).2 then some (giveF v (takeF g v u j.toNat).1 j.toNat, (q.set j.toNat g).set j.toNat (IntKind.u64.wrap (g - 1)))
        else some ((takeF g v u j.toNat).1, q.set j.toNat g)
      else none
  else none
theorem mag_round.mono : ∀ u q v j n k, LeO (mag_round.f k u q v j n) (mag_round.f (k + 1) u q v j n) := by
  intro u q v j n k
  unfold mag_round.f
  refine LeO.ite (LeO.bind (mag_guess.mono _ _ _) (fun _ => LeO.refl _)) (LeO.refl _)
theorem mag_round.parts {k : Nat} {u q v : List Int} {j n : Int} {u' q' : List Int} (h : mag_round.f k u q v j n = some (u', q')) :
    ∃ jn : Nat, j = jn ∧ jn < q.length ∧ jn + (v.length + 1) ≤ u.length ∧ u.length ≤ 17592186044416 ∧ q.length ≤ 17592186044416 ∧ Aside0 (n = v.length) ∧ Aside0 (∀ x ∈ v, 0 ≤ x ∧ x ≤ 18446744073709551615) ∧
      ∃ g, Aside0 (mag_guess.f k ((u.take (jn + (v.length + 1))).drop jn) v = some g) ∧ Aside0 (0 ≤ g ∧ g ≤ 18446744073709551615) ∧ Aside0 (∀ x ∈ (takeF g v u jn).1, 0 ≤ x ∧ x ≤ 18446744073709551615) ∧
        ((decide (0 < (takeF g v u jn).2) = true ∧ Aside0 (u' = giveF v (takeF g v u jn).1 jn ∧ q' = (q.set jn g).set jn (IntKind.u64.wrap (g - 1)))) ∨ (decide (0 < (takeF g v u jn).2) = false ∧ Aside0 (u' = (takeF g v u jn).1 ∧ q' = q.set jn g))) := by
  unfold mag_round.f at h
  split at h
  · rename_i h1
    obtain ⟨⟨h1, h2, h3, h4, h5, h6⟩, h7, h8⟩ := h1
    obtain ⟨jn, rfl⟩ := Int.eq_ofNat_of_zero_le h1
    rw [Int.toNat_natCast] at h h3
    obtain ⟨g, hg, h⟩ := Option.bind_eq_some_iff.1 h
    refine ⟨jn, rfl, by omega, h3, h5, h6, ⟨h4⟩, ⟨wordsB_mem h7⟩, g, ⟨hg⟩, ?_⟩
    split at h
    · rename_i h9
      refine ⟨⟨h9.1⟩, ⟨wordsB_mem h9.2⟩, ?_⟩
      split at h
      · rename_i h10
        simp only [Option.some.injEq, Prod.mk.injEq] at h
        exact .inl ⟨decide_eq_true h10, ⟨h.1.symm, h.2.symm⟩⟩
      · rename_i h10
        simp only [Option.some.injEq, Prod.mk.injEq] at h
        exact .inr ⟨decide_eq_false h10, ⟨h.1.symm, h.2.symm⟩⟩
    · cases h
  · cases h
end Go.Proofs.YtfkpbdapinpkdaaDoor.MD
