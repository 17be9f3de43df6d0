/- Texts of numbers, as deci.Text writes them; they are read as they were. -/
import Derived.Test.YtknekneicecgiaaGreatDoorX5
import Derived.Test.YtknekneicecgiaaGreatDoorX6
import Derived.Test.YtknekneicecgiaaGreatDoorE5
import Derived.Test.YtknekneicecgiaaGreatDoorX7
namespace Go.Proofs.YtknekneicecgiaaGreatDoor.Mg
open Go.RowKit Go.Proofs.YtknekneicecgiaaGreatDoorW.PrintWords Go.Proofs.YtknekneicecgiaaGreatDoorW.PrintMore Go.Proofs.YtknekneicecgiaaGreatDoor.MB Go.Proofs.YtknekneicecgiaaGreatDoor.M
set_option linter.unusedVariables false
set_option linter.unusedSimpArgs false
theorem cutP_snoc : ∀ w p : List UInt8, allD w = true → cutP (w ++ 46 :: p) = (w, p, true)
  | [], p, _ => rfl
  | c :: w, p, h => by
    have hc := allD_mem h List.mem_cons_self
    have hw : allD w = true := by
      simp only [allD, List.all_cons, Bool.and_eq_true] at h
      exact h.2
    have h46 : c ≠ 46 := fun e => by rw [e] at hc; exact absurd hc.1 (by decide)
    show (if c = 46 then _ else _) = _
    rw [if_neg h46]
    show (c :: (cutP (w ++ 46 :: p)).1, (cutP (w ++ 46 :: p)).2) = _
    rw [cutP_snoc w p hw]
theorem cutP_all : ∀ w : List UInt8, allD w = true → cutP w = (w, [], false)
  | [], _ => rfl
  | c :: w, h => by
    have hc := allD_mem h List.mem_cons_self
    have hw : allD w = true := by
      simp only [allD, List.all_cons, Bool.and_eq_true] at h
      exact h.2
    have h46 : c ≠ 46 := fun e => by rw [e] at hc; exact absurd hc.1 (by decide)
    show (if c = 46 then _ else _) = _
    rw [if_neg h46, cutP_all w hw]
theorem strip_dig {c : UInt8} {t : List UInt8} (h : isDg c = true) : strip (c :: t) = (false, c :: t) := by
  have hc : 48 ≤ c.toNat ∧ c.toNat ≤ 57 := by simpa [isDg] using h
  have h1 : c ≠ 45 := fun e => by rw [e] at hc; exact absurd hc.1 (by decide)
  have h2 : c ≠ 43 := fun e => by rw [e] at hc; exact absurd hc.1 (by decide)
  show (if c = 45 then _ else if c = 43 then _ else _) = _
  rw [if_neg h1, if_neg h2]
theorem padT_head (n K : Nat) : ∃ c t, padT n K = c :: t ∧ isDg c = true := by
  obtain ⟨h1, _, h3⟩ := padT_spec n K
  cases hp : padT n K with
  | nil => rw [hp] at h3; simp at h3
  | cons c t =>
    rw [hp] at h1
    exact ⟨c, t, rfl, List.all_eq_true.1 h1 c List.mem_cons_self⟩
theorem fixT_head (n K : Nat) : ∃ c t, fixT n K = c :: t ∧ isDg c = true := by
  obtain ⟨c, t, hp, hc⟩ := padT_head n K
  obtain ⟨_, _, h3⟩ := padT_spec n K
  unfold fixT
  by_cases hK : 0 < K
  · rw [if_pos hK]
    obtain ⟨e, he⟩ : ∃ e, (padT n K).length - K = e + 1 := ⟨(padT n K).length - K - 1, by omega⟩
    rw [he, hp]
    exact ⟨c, t.take e ++ [46] ++ (c :: t).drop (e + 1), rfl, hc⟩
  · rw [if_neg hK]
    exact ⟨c, t, hp, hc⟩
/-- So many units' text is read as they were. -/
theorem spec_back (m : Bool) (N K : Nat) : spec2 m K (cutP (fixT N K)).1 (cutP (fixT N K)).2.1 (cutP (fixT N K)).2.2 = if N > 2147483648 then (0, 4) else (nv m N, 0) := by
  obtain ⟨h1, h2, h3⟩ := padT_spec N K
  unfold fixT
  by_cases hK : 0 < K
  · rw [if_pos hK, List.append_assoc, List.singleton_append]
    have hw : allD ((padT N K).take ((padT N K).length - K)) = true := List.all_eq_true.2 fun x hx => List.all_eq_true.1 h1 x (List.mem_of_mem_take hx)
    have hp : allD ((padT N K).drop ((padT N K).length - K)) = true := List.all_eq_true.2 fun x hx => List.all_eq_true.1 h1 x (List.mem_of_mem_drop hx)
    have hwl : ((padT N K).take ((padT N K).length - K)).length = (padT N K).length - K := by rw [List.length_take]; omega
    have hpl : ((padT N K).drop ((padT N K).length - K)).length = K := by rw [List.length_drop]; omega
    have hap := List.take_append_drop ((padT N K).length - K) (padT N K)
    rw [cutP_snoc _ _ hw]
    dsimp only
    generalize (padT N K).take ((padT N K).length - K) = w at *
    generalize (padT N K).drop ((padT N K).length - K) = p at *
    have hw0 : w ≠ [] := fun e => by rw [e] at hwl; simp at hwl; omega
    have hp0 : p ≠ [] := fun e => by rw [e] at hpl; simp at hpl; omega
    unfold spec2
    rw [hw, hp, decide_eq_true hw0, decide_eq_true hp0, if_neg (show ¬ ((true && true) = false) from by decide), if_neg (show ¬ (true = true ∧ (true && true) = false) from by rintro ⟨_, h⟩; cases h), List.drop_of_length_le (by omega), List.take_of_length_le (by omega), if_neg (show ¬ (allZ [] = false) from by decide), hap, h2, hpl, Nat.sub_self, Nat.pow_zero, Nat.mul_one]
  · obtain rfl : K = 0 := by omega
    have hp0 : padT N 0 ≠ [] := fun e => by rw [e] at h3; simp at h3
    rw [if_neg hK, cutP_all _ h1]
    dsimp only
    unfold spec2
    rw [h1, decide_eq_true hp0, if_neg (show ¬ ((true && true) = false) from by decide), if_neg (show ¬ (false = true ∧ (allD [] && decide (([] : List UInt8) ≠ [])) = false) from by rintro ⟨h, _⟩; cases h), List.drop_nil, List.take_nil, List.append_nil, if_neg (show ¬ (allZ [] = false) from by decide), h2]
    rw [show 10 ^ (0 - ([] : List UInt8).length) = 1 from rfl, Nat.mul_one]
theorem fixT_len {N K c : Nat} (h : N < 10 ^ c) (hK : K ≤ 9) : (padT N K).length ≤ c + 11 ∧ (fixT N K).length ≤ c + 12 := by
  have h1 := txt_len h
  have h2 : (padT N K).length ≤ c + 11 := by
    unfold padT
    split
    · rw [List.length_append, Lib.repeatL_length]
      simp
      omega
    · omega
  refine ⟨h2, ?_⟩
  unfold fixT
  split
  · simp; omega
  · omega
theorem fixZ_len {n : Int} {K : Nat} (h0 : -9223372036854775808 ≤ n) (h1 : n ≤ 9223372036854775807) (hK : K ≤ 9) : (fixZ n K).length ≤ 60 := by
  have e36 : 10 ^ (18 * 2) = 1000000000000000000000000000000000000 := by decide
  have hl : n.natAbs < 10 ^ (18 * 2) := by omega
  obtain ⟨l1, l2⟩ := fixT_len hl hK
  unfold fixZ
  split
  · simp; omega
  · omega
/-- deci.Text. -/
theorem Text_f {n a1 : Int} {k K : Nat} (h0 : -9223372036854775808 ≤ n) (h1 : n ≤ 9223372036854775807) (hK : mn (mx a1 0) 9 = (K : Int)) (hK9 : K ≤ 9) (hk : 24000 ≤ k) : deci_Text.f k n a1 = some ⟨(fixZ n K).toArray⟩ := by
  have e36 : 10 ^ (18 * 2) = 1000000000000000000000000000000000000 := by decide
  have hl : n.natAbs < 10 ^ (18 * 2) := by omega
  have hB1 : n.natAbs < B ^ 1 := by unfold B; omega
  have hB : n.natAbs < B ^ 60 := pow_le hB1 (by omega)
  have hz : HZ (zb n) (zl n) n := HZ.z hB1 (by omega)
  have hF : deci_Fixed.f k (zb n) (zl n) a1 = some ⟨(fixZ n K).toArray⟩ := Fixed_z hz hK hK9 (by omega) hl hB (by omega)
  have hO : num_Of.f k n = some (zb n, zl n) := Of_z h0 h1 (by omega)
  unfold deci_Text.f
  rw [hO, Option.bind_some]
  dsimp only
  rw [hF, Option.bind_some]
/-- It is read as it was. -/
theorem ParseT {n a1 : Int} {k K : Nat} (h0 : -2147483648 ≤ n) (h1 : n ≤ 2147483648) (hK : mn (mx a1 0) 9 = (K : Int)) (hK9 : K ≤ 9) (hk : 60000 ≤ k) : deci_Parse.f k ⟨(fixZ n K).toArray⟩ a1 = some (n, 0) := by
  have hfl := fixZ_len (n := n) (K := K) (by omega) (by omega) hK9
  have hs : strip (fixZ n K) = (zb n, fixT n.natAbs K) := by
    unfold fixZ zb
    by_cases hn : n < 0
    · rw [if_pos hn, decide_eq_true hn]
      rfl
    · obtain ⟨c, t, hc1, hc2⟩ := fixT_head n.natAbs K
      rw [if_neg hn, decide_eq_false hn, hc1]
      exact strip_dig hc2
  have := Parse_f (s := ⟨(fixZ n K).toArray⟩) (a1 := a1) (k := k) (by rw [size_mk]; omega) hk
  have hda : (⟨(fixZ n K).toArray⟩ : ByteArray).data.toList = fixZ n K := by simp
  rw [hda, hs, hK, Int.toNat_natCast] at this
  dsimp only at this
  rw [spec_back, nv_zb, if_neg (by omega)] at this
  exact this
/-- A text's bytes are digits, a sign, a point. -/
theorem fixZ_mem {n : Int} {K : Nat} {c : UInt8} (h : c ∈ fixZ n K) : (48 ≤ c.toNat ∧ c.toNat ≤ 57) ∨ c = 45 ∨ c = 46 := by
  obtain ⟨h1, _, _⟩ := padT_spec n.natAbs K
  have hd : ∀ x ∈ padT n.natAbs K, 48 ≤ x.toNat ∧ x.toNat ≤ 57 := fun x hx => allD_mem h1 hx
  have hf : ∀ x ∈ fixT n.natAbs K, (48 ≤ x.toNat ∧ x.toNat ≤ 57) ∨ x = 46 := fun x hx => by
    unfold fixT at hx
    split at hx
    · rcases List.mem_append.1 hx with hx | hx
      · rcases List.mem_append.1 hx with hx | hx
        · exact .inl (hd x (List.mem_of_mem_take hx))
        · exact .inr (List.mem_singleton.1 hx)
      · exact .inl (hd x (List.mem_of_mem_drop hx))
    · exact .inl (hd x hx)
  unfold fixZ at h
  split at h
  · rcases List.mem_cons.1 h with h | h
    · exact .inr (.inl h)
    · rcases hf c h with h | h
      · exact .inl h
      · exact .inr (.inr h)
  · rcases hf c h with h | h
    · exact .inl h
    · exact .inr (.inr h)
theorem fixZ_no {n : Int} {K : Nat} {c : UInt8} (hc : c = 44 ∨ c = 58) : c ∉ fixZ n K := fun h => by
  have := fixZ_mem h
  rcases hc with rfl | rfl
  · rcases this with h | h | h
    · exact absurd h.1 (by decide)
    · exact absurd h (by decide)
    · exact absurd h (by decide)
  · rcases this with h | h | h
    · exact absurd h.2 (by decide)
    · exact absurd h (by decide)
    · exact absurd h (by decide)
end Go.Proofs.YtknekneicecgiaaGreatDoor.Mg
