/- The statement's own units, byte by byte, come to what the parts of the text come to; DeciParses answers true. -/
import Derived.Test.YtpdgjhaimfpacaaDoorDP
import Derived.Test.YtpdgjhaimfpacaaDoorDF
import Derived.Test.YtpdgjhaimfpacaaDoorA7
import Derived.Test.YtpdgjhaimfpacaaDoorKParses
import Derived.OpenShut
namespace Go.Proofs.YtpdgjhaimfpacaaDoor.Mg
open Go.RowKit Go.Proofs.YtpdgjhaimfpacaaDoorW.PrintWords Go.Proofs.YtpdgjhaimfpacaaDoorW.PrintMore Go.Proofs.YtpdgjhaimfpacaaDoor.MB Go.Proofs.YtpdgjhaimfpacaaDoor.M
set_option linter.unusedVariables false
set_option linter.unusedSimpArgs false

/-- A number, but no more than this. -/
def cap (x : Nat) : Nat := min x 1099511627776
theorem cap_le (x : Nat) : cap x ≤ 1099511627776 := Nat.min_le_right _ _
theorem cap_ten (x : Nat) : mn (wrap64 (10 * ((cap x : Nat) : Int))) 1099511627776 = ((cap (x * 10) : Nat) : Int) := by
  have h := cap_le x
  rw [w64 (by omega) (by omega)]
  unfold mn
  unfold cap at *
  split <;> omega
theorem cap_digit (x : Nat) {c : UInt8} (h0 : 48 ≤ c.toNat) (h1 : c.toNat ≤ 57) : mn (wrap64 (wrap64 (10 * ((cap x : Nat) : Int)) + (((c.toNat : Nat) : Int) - 48) % 256)) 1099511627776 = ((cap (10 * x + (c.toNat - 48)) : Nat) : Int) := by
  have h := cap_le x
  rw [w64 (x := 10 * ((cap x : Nat) : Int)) (by omega) (by omega), w64 (by omega) (by omega)]
  unfold mn
  unfold cap at *
  split <;> omega
theorem cap_far (x : Nat) : ((cap x : Nat) : Int) > 2147483648 ↔ x > 2147483648 := by unfold cap; omega
theorem cap_near {x : Nat} (h : ¬ x > 2147483648) : cap x = x := by unfold cap; omega
theorem units_l1 (m : Bool) (K : Nat) (hK : K ≤ 9) (lost : Bool) : ∀ (e j k V : Nat), K - j = e → j ≤ 1000 → e < k →
    isohyetlaw04_units.l1 k (K : Int) m ((cap V : Nat) : Int) lost (j : Int) = some (if lost = true then (0, 3) else if V * 10 ^ e > 2147483648 then (0, 4) else (nv m (V * 10 ^ e), 0))
  | 0, j, k, V, he, hj, hk => by
    obtain ⟨k, rfl⟩ : ∃ d, k = d + 1 := ⟨k - 1, by omega⟩
    simp only [isohyetlaw04_units.l1]
    rw [if_neg (by omega), Nat.pow_zero, Nat.mul_one]
    cases lost with
    | true => rw [if_pos rfl, if_pos rfl]
    | false =>
      rw [if_neg (show ¬ (false = true) from by decide), if_neg (show ¬ (false = true) from by decide)]
      by_cases hf : V > 2147483648
      · rw [if_pos ((cap_far V).2 hf), if_pos hf]
      · rw [if_neg (fun h => hf ((cap_far V).1 h)), if_neg hf, cap_near hf]
        cases m with
        | true => rw [if_pos rfl, w64 (by omega) (by omega), nv_true]
        | false => rw [if_neg (by decide), nv_false]
  | e + 1, j, k, V, he, hj, hk => by
    obtain ⟨k, rfl⟩ : ∃ d, k = d + 1 := ⟨k - 1, by omega⟩
    simp only [isohyetlaw04_units.l1]
    rw [if_pos (by omega), cap_ten, w64 (x := (j : Int) + 1) (by omega) (by omega)]
    have ih := units_l1 m K hK lost e (j + 1) k (V * 10) (by omega) (by omega) (by omega)
    rw [Nat.mul_assoc, ← Nat.pow_succ'] at ih
    exact ih
theorem u8_eq {c d : UInt8} (h : ((c.toNat : Nat) : Int) = ((d.toNat : Nat) : Int)) : c = d := UInt8.toNat_inj.1 (by omega)
theorem allZ_snoc (l : List UInt8) (c : UInt8) : allZ (l ++ [c]) = (allZ l && c == 48) := by simp [allZ]
theorem units_p2 (s : ByteArray) (hs : s.size ≤ 400) (m : Bool) (K : Nat) (hK : K ≤ 9) (w : List UInt8) (hw : allD w = true) (hw0 : w ≠ []) (hwl : w.length ≤ 400) : ∀ (d i k : Nat) (p : List UInt8), i + d = s.size → p.length ≤ i → 3 * d + 50 ≤ k → allD p = true →
    isohyetlaw04_units.l0 k s (K : Int) (i : Int) m ((cap (dvl (w ++ p.take K)) : Nat) : Int) (p.length : Int) (w.length : Int) (!allZ (p.drop K)) = some (spec2 m K w (p ++ s.data.toList.drop i) true)
  | 0, i, k, p, hi, hpi, hk, hp => by
    obtain ⟨k, rfl⟩ : ∃ d, k = d + 2 := ⟨k - 2, by omega⟩
    have hl := size_len s
    have hw1 : w.length ≠ 0 := fun h => hw0 (List.eq_nil_of_length_eq_zero h)
    simp only [isohyetlaw04_units.l0]
    rw [if_neg (by omega), if_neg (by omega), show s.data.toList.drop i = [] from List.drop_of_length_le (by omega), List.append_nil]
    simp only [isohyetlaw04_units.j5]
    unfold spec2
    rw [hw, decide_eq_true hw0, if_neg (show ¬ ((true && true) = false) from by decide)]
    by_cases hp0 : p = []
    · subst hp0
      rw [if_pos (by rfl), if_pos ⟨rfl, rfl⟩]
    · have hp1 : p.length ≠ 0 := fun h => hp0 (List.eq_nil_of_length_eq_zero h)
      have hb : ((p.length : Int) == 0) = false := beq_eq_false_iff_ne.2 (by omega)
      have hmx : mx (p.length : Int) 0 = (p.length : Int) := by unfold mx; rw [if_neg (by omega)]
      rw [hb, if_neg (by decide), hmx, units_l1 m K hK _ (K - p.length) p.length k _ rfl (by omega) (by omega), hp, decide_eq_true hp0, if_neg (show ¬ (true = true ∧ (true && true) = false) from by rintro ⟨_, h⟩; cases h)]
      cases allZ (p.drop K) <;> rfl
  | d + 1, i, k, p, hi, hpi, hk, hp => by
    obtain ⟨k, rfl⟩ : ∃ d, k = d + 3 := ⟨k - 3, by omega⟩
    have hl := size_len s
    have ih := fun (c : UInt8) (hc : isDg c = true) => units_p2 s hs m K hK w hw hw0 hwl d (i + 1) k (p ++ [c]) (by omega) (by simp; omega) (by omega) (by rw [allD_append, hp]; simp [allD, hc])
    rw [drop_getD _ i (by omega)]
    have hbt := bt_cast s i (by omega)
    generalize s.data.toList.getD i 0 = c at *
    have hj3 : isohyetlaw04_units.l0 (k + 3) s (K : Int) (i : Int) m ((cap (dvl (w ++ p.take K)) : Nat) : Int) (p.length : Int) (w.length : Int) (!allZ (p.drop K)) = isohyetlaw04_units.j3 (k + 2) s (K : Int) (i : Int) m ((cap (dvl (w ++ p.take K)) : Nat) : Int) (p.length : Int) (w.length : Int) (!allZ (p.drop K)) ((c.toNat : Nat) : Int) false := by
      simp only [isohyetlaw04_units.l0]
      rw [if_pos (by omega), if_pos (by omega), hbt]
      split
      · rw [if_neg (by omega)]
      · rfl
    have bad : isDg c = false → spec2 m K w (p ++ c :: s.data.toList.drop (i + 1)) true = (0, 1) := fun hc => by
      unfold spec2
      rw [hw, decide_eq_true hw0, if_neg (by decide), if_pos ⟨rfl, by rw [allD_append]; simp [allD, hc]⟩]
    rw [hj3]
    simp only [isohyetlaw04_units.j3]
    rw [if_neg (by decide)]
    by_cases h1 : ((c.toNat : Nat) : Int) < 48
    · rw [if_pos h1, bad (decide_eq_false (by omega))]
      simp only [isohyetlaw04_units.j4]
      rw [if_pos trivial]
    · rw [if_neg h1]
      by_cases h2 : ((c.toNat : Nat) : Int) > 57
      · rw [decide_eq_true h2, bad (decide_eq_false (by omega))]
        simp only [isohyetlaw04_units.j4]
        rw [if_pos trivial]
      · have ih := ih c (decide_eq_true (by omega))
        rw [decide_eq_false h2]
        simp only [isohyetlaw04_units.j4]
        rw [if_neg (by decide), if_neg (by omega), w64 (x := (i : Int) + 1) (by omega) (by omega), w64 (x := (p.length : Int) + 1) (by omega) (by omega)]
        rw [List.append_assoc, List.singleton_append, List.length_append, List.length_singleton] at ih
        by_cases hlt : (p.length : Int) < (K : Int)
        · rw [if_pos hlt, cap_digit _ (by omega) (by omega)]
          rw [List.take_of_length_le (by simp; omega), List.drop_of_length_le (by simp; omega), ← List.append_assoc, dvl_snoc] at ih
          rw [List.take_of_length_le (by omega), List.drop_of_length_le (by omega)]
          exact ih
        · rw [if_neg hlt]
          rw [List.take_append_of_le_length (by omega), List.drop_append_of_le_length (by omega), allZ_snoc] at ih
          cases hz : allZ (p.drop K) with
          | true =>
            rw [hz, Bool.true_and] at ih
            have e : (((c.toNat : Nat) : Int) != 48) = !(c == 48) := by
              by_cases hc : c = 48
              · subst hc; rfl
              · have : ((c.toNat : Nat) : Int) ≠ 48 := fun h => hc (u8_eq (d := 48) (by rw [h]; rfl))
                rw [bne_iff_ne.2 this]
                simp [hc]
            rw [if_neg (by decide), e]
            exact ih
          | false =>
            rw [hz, Bool.false_and] at ih
            rw [if_pos (by decide)]
            exact ih
theorem units_p1 (s : ByteArray) (hs : s.size ≤ 400) (m : Bool) (K : Nat) (hK : K ≤ 9) : ∀ (d i k : Nat) (w : List UInt8), i + d = s.size → w.length ≤ i → 3 * d + 60 ≤ k → allD w = true →
    isohyetlaw04_units.l0 k s (K : Int) (i : Int) m ((cap (dvl w) : Nat) : Int) (-1) (w.length : Int) false = some (spec2 m K (w ++ (cutP (s.data.toList.drop i)).1) (cutP (s.data.toList.drop i)).2.1 (cutP (s.data.toList.drop i)).2.2)
  | 0, i, k, w, hi, hwi, hk, hw => by
    obtain ⟨k, rfl⟩ : ∃ d, k = d + 2 := ⟨k - 2, by omega⟩
    have hl := size_len s
    rw [show s.data.toList.drop i = [] from List.drop_of_length_le (by omega)]
    show _ = some (spec2 m K (w ++ []) [] false)
    rw [List.append_nil]
    simp only [isohyetlaw04_units.l0]
    rw [if_neg (by omega)]
    simp only [isohyetlaw04_units.j5]
    unfold spec2
    by_cases hw0 : w = []
    · subst hw0
      rw [if_pos (show ((([] : List UInt8).length : Nat) : Int) = 0 from rfl), if_pos trivial, if_pos (show (allD [] && decide (([] : List UInt8) ≠ [])) = false from rfl)]
    · have hw1 : w.length ≠ 0 := fun h => hw0 (List.eq_nil_of_length_eq_zero h)
      have hb : ((-1 : Int) == 0) = false := rfl
      have hmx : mx (-1) 0 = ((0 : Nat) : Int) := rfl
      rw [if_neg (by omega), hb, if_neg (by decide), hmx, units_l1 m K hK false (K - 0) 0 k _ rfl (by omega) (by omega), hw, decide_eq_true hw0, if_neg (show ¬ (false = true) from by decide), if_neg (show ¬ ((true && true) = false) from by decide), if_neg (show ¬ (false = true ∧ (allD [] && decide (([] : List UInt8) ≠ [])) = false) from by rintro ⟨h, _⟩; cases h)]
      rw [List.drop_nil, List.take_nil, List.append_nil, if_neg (show ¬ (allZ [] = false) from by decide)]
      rfl
  | d + 1, i, k, w, hi, hwi, hk, hw => by
    obtain ⟨k, rfl⟩ : ∃ d, k = d + 3 := ⟨k - 3, by omega⟩
    have hl := size_len s
    have ih := fun (c : UInt8) (hc : isDg c = true) => units_p1 s hs m K hK d (i + 1) k (w ++ [c]) (by omega) (by simp; omega) (by omega) (by rw [allD_append, hw]; simp [allD, hc])
    have p2 := fun (h : w ≠ []) => units_p2 s hs m K hK w hw h (by omega) d (i + 1) (k + 1) [] (by omega) (by simp) (by omega) rfl
    rw [drop_getD _ i (by omega)]
    have hbt := bt_cast s i (by omega)
    generalize s.data.toList.getD i 0 = c at *
    generalize s.data.toList.drop (i + 1) = r at *
    by_cases h46 : c = 46
    · subst h46
      show _ = some (spec2 m K (w ++ []) r true)
      rw [List.append_nil]
      simp only [isohyetlaw04_units.l0]
      rw [if_pos (by omega), if_pos (by omega), hbt, if_pos (by rfl), if_pos (by omega)]
      simp only [isohyetlaw04_units.j3]
      by_cases hw0 : w = []
      · subst hw0
        rw [if_neg (by decide), if_pos (by decide)]
        simp only [isohyetlaw04_units.j4]
        rw [if_pos trivial]
        rfl
      · have hw1 : w.length ≠ 0 := fun h => hw0 (List.eq_nil_of_length_eq_zero h)
        have hp : (w.length : Int) > 0 := by omega
        have := p2 hw0
        rw [List.take_nil, List.append_nil, List.nil_append, List.drop_nil, show ((i + 1 : Nat) : Int) = (i : Int) + 1 from by omega] at this
        rw [decide_eq_true hp, if_pos rfl, w64 (x := (i : Int) + 1) (by omega) (by omega)]
        exact this
    · have hcp : cutP (c :: r) = (c :: (cutP r).1, (cutP r).2) := by
        show (if c = 46 then _ else _) = _
        rw [if_neg h46]
      rw [hcp]
      have hj3 : isohyetlaw04_units.l0 (k + 3) s (K : Int) (i : Int) m ((cap (dvl w) : Nat) : Int) (-1) (w.length : Int) false = isohyetlaw04_units.j3 (k + 2) s (K : Int) (i : Int) m ((cap (dvl w) : Nat) : Int) (-1) (w.length : Int) false ((c.toNat : Nat) : Int) false := by
        have hne : ¬ ((c.toNat : Nat) : Int) = 46 := fun h => h46 (u8_eq (d := 46) (by rw [h]; rfl))
        simp only [isohyetlaw04_units.l0]
        rw [if_pos (by omega), if_pos (by omega), hbt, if_neg hne]
      have bad : isDg c = false → spec2 m K (w ++ c :: (cutP r).1) (cutP r).2.1 (cutP r).2.2 = (0, 1) := fun hc => by
        unfold spec2
        rw [if_pos (by rw [allD_append]; simp [allD, hc])]
      rw [hj3]
      simp only [isohyetlaw04_units.j3]
      rw [if_neg (by decide)]
      by_cases h1 : ((c.toNat : Nat) : Int) < 48
      · rw [if_pos h1]
        simp only [isohyetlaw04_units.j4]
        rw [if_pos trivial, bad (decide_eq_false (by omega))]
      · rw [if_neg h1]
        by_cases h2 : ((c.toNat : Nat) : Int) > 57
        · rw [decide_eq_true h2]
          simp only [isohyetlaw04_units.j4]
          rw [if_pos trivial, bad (decide_eq_false (by omega))]
        · have ih := ih c (decide_eq_true (by omega))
          rw [List.append_assoc, List.singleton_append, List.length_append, List.length_singleton, dvl_snoc] at ih
          rw [decide_eq_false h2]
          simp only [isohyetlaw04_units.j4]
          rw [if_neg (by decide), if_pos (by omega), cap_digit _ (by omega) (by omega), w64 (x := (i : Int) + 1) (by omega) (by omega), w64 (x := (w.length : Int) + 1) (by omega) (by omega)]
          exact ih
theorem units_f {s : ByteArray} {K k : Nat} (hs : s.size ≤ 400) (hK : K ≤ 9) (hk : 2000 ≤ k) :
    isohyetlaw04_units.f k s (K : Int) = some (spec2 (strip s.data.toList).1 K (cutP (strip s.data.toList).2).1 (cutP (strip s.data.toList).2).2.1 (cutP (strip s.data.toList).2).2.2) := by
  obtain ⟨k, rfl⟩ : ∃ d, k = d + 2 := ⟨k - 2, by omega⟩
  have hl := size_len s
  unfold isohyetlaw04_units.f
  rw [if_neg (by omega)]
  by_cases h0 : s.size = 0
  · have hnil : s.data.toList = [] := List.eq_nil_of_length_eq_zero (by omega)
    have p1 := units_p1 s hs false K hK 0 0 k [] (by omega) (by simp) (by omega) rfl
    rw [hnil] at p1 ⊢
    rw [if_neg (by omega)]
    simp only [isohyetlaw04_units.j0, isohyetlaw04_units.j1]
    rw [if_neg (by decide)]
    exact p1
  · have hbt := bt_cast s 0 (by omega)
    have p0 := units_p1 s hs false K hK s.size 0 k [] (by omega) (by simp) (by omega) rfl
    have p1 := fun m => units_p1 s hs m K hK (s.size - 1) 1 k [] (by omega) (by simp) (by omega) rfl
    rw [List.drop_zero] at p0
    have hd := drop_getD s.data.toList 0 (by omega)
    rw [List.drop_zero] at hd
    rw [if_pos (by omega), if_pos (by omega), show ((0 : Nat) : Int) = 0 from rfl] at *
    rw [hbt]
    generalize s.data.toList.getD 0 0 = c at *
    have es : strip s.data.toList = if c = 45 then (true, s.data.toList.drop 1) else if c = 43 then (false, s.data.toList.drop 1) else (false, s.data.toList) := by
      rw [hd]
      rfl
    by_cases h45 : c = 45
    · subst h45
      rw [es, if_pos rfl, if_pos (by rfl)]
      simp only [isohyetlaw04_units.j0, isohyetlaw04_units.j1]
      rw [if_pos trivial, if_pos (by omega), hbt]
      exact p1 true
    · have hne : ¬ ((c.toNat : Nat) : Int) = 45 := fun h => h45 (u8_eq (d := 45) (by rw [h]; rfl))
      rw [es, if_neg h45, if_neg hne]
      by_cases h43 : c = 43
      · subst h43
        rw [if_pos rfl]
        simp only [isohyetlaw04_units.j0, isohyetlaw04_units.j1]
        rw [if_pos (by decide), if_pos (by omega), hbt]
        exact p1 false
      · have hne2 : ¬ ((c.toNat : Nat) : Int) = 43 := fun h => h43 (u8_eq (d := 43) (by rw [h]; rfl))
        have hb : (((c.toNat : Nat) : Int) == 43) = false := beq_eq_false_iff_ne.2 hne2
        rw [if_neg h43, hb]
        simp only [isohyetlaw04_units.j0, isohyetlaw04_units.j1]
        rw [if_neg (by decide)]
        exact p0
theorem DeciParses_f {s : ByteArray} {a1 : Int} {k : Nat} (hk : 70000 ≤ k) : isohyetlaw04_DeciParses.f k s a1 = some true := by
  obtain ⟨K, hK, hK9⟩ : ∃ K : Nat, mn (mx a1 0) 9 = (K : Int) ∧ K ≤ 9 := by
    refine ⟨(mn (mx a1 0) 9).toNat, ?_, ?_⟩ <;> unfold mn mx <;> split <;> split <;> omega
  unfold isohyetlaw04_DeciParses.f
  rw [fit_z (by omega), Option.bind_some, if_pos rfl]
  by_cases h1000 : (s.size : Int) > 1000
  · rw [if_pos h1000]
  · rw [if_neg h1000]
    by_cases h400 : s.size ≤ 400
    · have hP := Parse_f (s := s) (a1 := a1) (k := k) h400 (by omega)
      rw [hK, Int.toNat_natCast] at hP
      rw [hP, Option.bind_some, hK, units_f h400 hK9 (by omega), Option.bind_some]
      rw [if_pos rfl, beq_self_eq_true]
    · have hP : deci_Parse.f k s a1 = some (0, 2) := by
        unfold deci_Parse.f deci_scaled.f
        rw [Option.bind_some, if_pos (by omega)]
      have hU : ∀ K : Int, isohyetlaw04_units.f k s K = some (0, 2) := fun K => by
        unfold isohyetlaw04_units.f
        rw [if_pos (by omega)]
      rw [hP, Option.bind_some, hU, Option.bind_some]
      rfl
end Go.Proofs.YtpdgjhaimfpacaaDoor.Mg
namespace Go.Proofs.YtpdgjhaimfpacaaDoor.Pure
open Go.Proofs.YtpdgjhaimfpacaaDoor.M
theorem DeciParses : ∀ (a0 : ByteArray) (a1 : Int), a0.size ≤ 140737488351232 → (Lit.int .i64 a1).wf = true → ∃ k, isohyetlaw04_DeciParses.f k a0 a1 = some true := fun _ _ _ _ => ⟨70000, Mg.DeciParses_f (Nat.le_refl _)⟩
end Go.Proofs.YtpdgjhaimfpacaaDoor.Pure
