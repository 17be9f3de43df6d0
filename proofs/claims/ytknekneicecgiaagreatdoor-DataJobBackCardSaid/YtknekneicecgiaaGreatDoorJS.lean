/- Texts of numbers, as deci.Text writes them; they are read as they were. Levels' texts: printed, and read as they were. -/
import Derived.Test.YtknekneicecgiaaGreatDoorX5
import Derived.Test.YtknekneicecgiaaGreatDoorX6
import Derived.Test.YtknekneicecgiaaGreatDoorE5
import Derived.Test.YtknekneicecgiaaGreatDoorX7
import Derived.Test.YtknekneicecgiaaGreatDoorE12
import Derived.Test.YtknekneicecgiaaGreatDoorE13
namespace Go.Proofs.YtknekneicecgiaaGreatDoor.Mg
open Go.RowKit Go.Proofs.YtknekneicecgiaaGreatDoorW.PrintWords Go.Proofs.YtknekneicecgiaaGreatDoorW.PrintMore Go.Proofs.YtknekneicecgiaaGreatDoor.MB Go.Proofs.YtknekneicecgiaaGreatDoor.M
set_option linter.unusedVariables false
set_option linter.unusedSimpArgs false
theorem cutP_snoc : ∀ w p : List UInt8, allD w = true → cutP (w ++ 46 :: p) = (w, p, true)
  | [], p, _ => rfl
  | c :: w, p, h => by
    have hc := allD_mem h List.mem_cons_self
    have hw : allD w = true := by
      simp only [allD, List.all_cons, Bool.and_eq_true] at h
      exact h.2
    have h46 : c ≠ 46 := fun e => by rw [e] at hc; exact absurd hc.1 (by decide)
    show (if c = 46 then _ else _) = _
    rw [if_neg h46]
    show (c :: (cutP (w ++ 46 :: p)).1, (cutP (w ++ 46 :: p)).2) = _
    rw [cutP_snoc w p hw]
theorem cutP_all : ∀ w : List UInt8, allD w = true → cutP w = (w, [], false)
  | [], _ => rfl
  | c :: w, h => by
    have hc := allD_mem h List.mem_cons_self
    have hw : allD w = true := by
      simp only [allD, List.all_cons, Bool.and_eq_true] at h
      exact h.2
    have h46 : c ≠ 46 := fun e => by rw [e] at hc; exact absurd hc.1 (by decide)
    show (if c = 46 then _ else _) = _
    rw [if_neg h46, cutP_all w hw]
theorem strip_dig {c : UInt8} {t : List UInt8} (h : isDg c = true) : strip (c :: t) = (false, c :: t) := by
  have hc : 48 ≤ c.toNat ∧ c.toNat ≤ 57 := by simpa [isDg] using h
  have h1 : c ≠ 45 := fun e => by rw [e] at hc; exact absurd hc.1 (by decide)
  have h2 : c ≠ 43 := fun e => by rw [e] at hc; exact absurd hc.1 (by decide)
  show (if c = 45 then _ else if c = 43 then _ else _) = _
  rw [if_neg h1, if_neg h2]
theorem padT_head (n K : Nat) : ∃ c t, padT n K = c :: t ∧ isDg c = true := by
  obtain ⟨h1, _, h3⟩ := padT_spec n K
  cases hp : padT n K with
  | nil => rw [hp] at h3; simp at h3
  | cons c t =>
    rw [hp] at h1
    exact ⟨c, t, rfl, List.all_eq_true.1 h1 c List.mem_cons_self⟩
theorem fixT_head (n K : Nat) : ∃ c t, fixT n K = c :: t ∧ isDg c = true := by
  obtain ⟨c, t, hp, hc⟩ := padT_head n K
  obtain ⟨_, _, h3⟩ := padT_spec n K
  unfold fixT
  by_cases hK : 0 < K
  · rw [if_pos hK]
    obtain ⟨e, he⟩ : ∃ e, (padT n K).length - K = e + 1 := ⟨(padT n K).length - K - 1, by omega⟩
    rw [he, hp]
    exact ⟨c, t.take e ++ [46] ++ (c :: t).drop (e + 1), rfl, hc⟩
  · rw [if_neg hK]
    exact ⟨c, t, hp, hc⟩
/-- So many units' text is read as they were. -/
theorem spec_back (m : Bool) (N K : Nat) : spec2 m K (cutP (fixT N K)).1 (cutP (fixT N K)).2.1 (cutP (fixT N K)).2.2 = if N > 2147483648 then (0, 4) else (nv m N, 0) := by
  obtain ⟨h1, h2, h3⟩ := padT_spec N K
  unfold fixT
  by_cases hK : 0 < K
  · rw [if_pos hK, List.append_assoc, List.singleton_append]
    have hw : allD ((padT N K).take ((padT N K).length - K)) = true := List.all_eq_true.2 fun x hx => List.all_eq_true.1 h1 x (List.mem_of_mem_take hx)
    have hp : allD ((padT N K).drop ((padT N K).length - K)) = true := List.all_eq_true.2 fun x hx => List.all_eq_true.1 h1 x (List.mem_of_mem_drop hx)
    have hwl : ((padT N K).take ((padT N K).length - K)).length = (padT N K).length - K := by rw [List.length_take]; omega
    have hpl : ((padT N K).drop ((padT N K).length - K)).length = K := by rw [List.length_drop]; omega
    have hap := List.take_append_drop ((padT N K).length - K) (padT N K)
    rw [cutP_snoc _ _ hw]
    dsimp only
    generalize (padT N K).take ((padT N K).length - K) = w at *
    generalize (padT N K).drop ((padT N K).length - K) = p at *
    have hw0 : w ≠ [] := fun e => by rw [e] at hwl; simp at hwl; omega
    have hp0 : p ≠ [] := fun e => by rw [e] at hpl; simp at hpl; omega
    unfold spec2
    rw [hw, hp, decide_eq_true hw0, decide_eq_true hp0, if_neg (show ¬ ((true && true) = false) from by decide), if_neg (show ¬ (true = true ∧ (true && true) = false) from by rintro ⟨_, h⟩; cases h), List.drop_of_length_le (by omega), List.take_of_length_le (by omega), if_neg (show ¬ (allZ [] = false) from by decide), hap, h2, hpl, Nat.sub_self, Nat.pow_zero, Nat.mul_one]
  · obtain rfl : K = 0 := by omega
    have hp0 : padT N 0 ≠ [] := fun e => by rw [e] at h3; simp at h3
    rw [if_neg hK, cutP_all _ h1]
    dsimp only
    unfold spec2
    rw [h1, decide_eq_true hp0, if_neg (show ¬ ((true && true) = false) from by decide), if_neg (show ¬ (false = true ∧ (allD [] && decide (([] : List UInt8) ≠ [])) = false) from by rintro ⟨h, _⟩; cases h), List.drop_nil, List.take_nil, List.append_nil, if_neg (show ¬ (allZ [] = false) from by decide), h2]
    rw [show 10 ^ (0 - ([] : List UInt8).length) = 1 from rfl, Nat.mul_one]
theorem fixT_len {N K c : Nat} (h : N < 10 ^ c) (hK : K ≤ 9) : (padT N K).length ≤ c + 11 ∧ (fixT N K).length ≤ c + 12 := by
  have h1 := txt_len h
  have h2 : (padT N K).length ≤ c + 11 := by
    unfold padT
    split
    · rw [List.length_append, Lib.repeatL_length]
      simp
      omega
    · omega
  refine ⟨h2, ?_⟩
  unfold fixT
  split
  · simp; omega
  · omega
theorem fixZ_len {n : Int} {K : Nat} (h0 : -9223372036854775808 ≤ n) (h1 : n ≤ 9223372036854775807) (hK : K ≤ 9) : (fixZ n K).length ≤ 60 := by
  have e36 : 10 ^ (18 * 2) = 1000000000000000000000000000000000000 := by decide
  have hl : n.natAbs < 10 ^ (18 * 2) := by omega
  obtain ⟨l1, l2⟩ := fixT_len hl hK
  unfold fixZ
  split
  · simp; omega
  · omega
/-- deci.Text. -/
theorem Text_f {n a1 : Int} {k K : Nat} (h0 : -9223372036854775808 ≤ n) (h1 : n ≤ 9223372036854775807) (hK : mn (mx a1 0) 9 = (K : Int)) (hK9 : K ≤ 9) (hk : 24000 ≤ k) : deci_Text.f k n a1 = some ⟨(fixZ n K).toArray⟩ := by
  have e36 : 10 ^ (18 * 2) = 1000000000000000000000000000000000000 := by decide
  have hl : n.natAbs < 10 ^ (18 * 2) := by omega
  have hB1 : n.natAbs < B ^ 1 := by unfold B; omega
  have hB : n.natAbs < B ^ 60 := pow_le hB1 (by omega)
  have hz : HZ (zb n) (zl n) n := HZ.z hB1 (by omega)
  have hF : deci_Fixed.f k (zb n) (zl n) a1 = some ⟨(fixZ n K).toArray⟩ := Fixed_z hz hK hK9 (by omega) hl hB (by omega)
  have hO : num_Of.f k n = some (zb n, zl n) := Of_z h0 h1 (by omega)
  unfold deci_Text.f
  rw [hO, Option.bind_some]
  dsimp only
  rw [hF, Option.bind_some]
/-- It is read as it was. -/
theorem ParseT {n a1 : Int} {k K : Nat} (h0 : -2147483648 ≤ n) (h1 : n ≤ 2147483648) (hK : mn (mx a1 0) 9 = (K : Int)) (hK9 : K ≤ 9) (hk : 60000 ≤ k) : deci_Parse.f k ⟨(fixZ n K).toArray⟩ a1 = some (n, 0) := by
  have hfl := fixZ_len (n := n) (K := K) (by omega) (by omega) hK9
  have hs : strip (fixZ n K) = (zb n, fixT n.natAbs K) := by
    unfold fixZ zb
    by_cases hn : n < 0
    · rw [if_pos hn, decide_eq_true hn]
      rfl
    · obtain ⟨c, t, hc1, hc2⟩ := fixT_head n.natAbs K
      rw [if_neg hn, decide_eq_false hn, hc1]
      exact strip_dig hc2
  have := Parse_f (s := ⟨(fixZ n K).toArray⟩) (a1 := a1) (k := k) (by rw [size_mk]; omega) hk
  have hda : (⟨(fixZ n K).toArray⟩ : ByteArray).data.toList = fixZ n K := by simp
  rw [hda, hs, hK, Int.toNat_natCast] at this
  dsimp only at this
  rw [spec_back, nv_zb, if_neg (by omega)] at this
  exact this
/-- A text's bytes are digits, a sign, a point. -/
theorem fixZ_mem {n : Int} {K : Nat} {c : UInt8} (h : c ∈ fixZ n K) : (48 ≤ c.toNat ∧ c.toNat ≤ 57) ∨ c = 45 ∨ c = 46 := by
  obtain ⟨h1, _, _⟩ := padT_spec n.natAbs K
  have hd : ∀ x ∈ padT n.natAbs K, 48 ≤ x.toNat ∧ x.toNat ≤ 57 := fun x hx => allD_mem h1 hx
  have hf : ∀ x ∈ fixT n.natAbs K, (48 ≤ x.toNat ∧ x.toNat ≤ 57) ∨ x = 46 := fun x hx => by
    unfold fixT at hx
    split at hx
    · rcases List.mem_append.1 hx with hx | hx
      · rcases List.mem_append.1 hx with hx | hx
        · exact .inl (hd x (List.mem_of_mem_take hx))
        · exact .inr (List.mem_singleton.1 hx)
      · exact .inl (hd x (List.mem_of_mem_drop hx))
    · exact .inl (hd x hx)
  unfold fixZ at h
  split at h
  · rcases List.mem_cons.1 h with h | h
    · exact .inr (.inl h)
    · rcases hf c h with h | h
      · exact .inl h
      · exact .inr (.inr h)
  · rcases hf c h with h | h
    · exact .inl h
    · exact .inr (.inr h)
theorem fixZ_no {n : Int} {K : Nat} {c : UInt8} (hc : c = 44 ∨ c = 58) : c ∉ fixZ n K := fun h => by
  have := fixZ_mem h
  rcases hc with rfl | rfl
  · rcases this with h | h | h
    · exact absurd h.1 (by decide)
    · exact absurd h (by decide)
    · exact absurd h (by decide)
  · rcases this with h | h | h
    · exact absurd h.2 (by decide)
    · exact absurd h (by decide)
    · exact absurd h (by decide)
end Go.Proofs.YtknekneicecgiaaGreatDoor.Mg
namespace Go.Proofs.YtknekneicecgiaaGreatDoor.Lv
open Go.RowKit Go.Proofs.YtknekneicecgiaaGreatDoorW.PrintWords Go.Proofs.YtknekneicecgiaaGreatDoorW.PrintMore Go.Proofs.YtknekneicecgiaaGreatDoor.MB Go.Proofs.YtknekneicecgiaaGreatDoor.M Go.Proofs.YtknekneicecgiaaGreatDoor.Mg
set_option linter.unusedVariables false
set_option linter.unusedSimpArgs false
theorem jn_snoc (c : UInt8) (q : List UInt8) : ∀ ps, ps ≠ [] → jn c (ps ++ [q]) = jn c ps ++ c :: q
  | [], h => absurd rfl h
  | [p], _ => rfl
  | p :: p2 :: r, _ => by
    have ih := jn_snoc c q (p2 :: r) (by simp)
    show jn c (p :: ((p2 :: r) ++ [q])) = _
    rw [jn_cons c p _ (by simp), ih, jn_cons c p _ (by simp)]
    simp
theorem join_jn (c : UInt8) : ∀ ps, Lib.join ps [c] = jn c ps
  | [] => rfl
  | [p] => Lib.join_one p [c]
  | p :: q :: r => by
    have ih := join_jn c (q :: r)
    rw [Lib.join_cons] at ih ⊢
    rw [jn_cons c p _ (by simp), ← ih]
    simp [Lib.joinTail]
theorem jn_len (c : UInt8) (L : Nat) : ∀ ps : List (List UInt8), (∀ p ∈ ps, p.length ≤ L) → (jn c ps).length ≤ ps.length * (L + 1)
  | [], _ => by simp [jn]
  | [p], h => by
    have := h p List.mem_cons_self
    show p.length ≤ 1 * (L + 1)
    omega
  | p :: q :: r, h => by
    have ih := jn_len c L (q :: r) (fun x hx => h x (List.mem_cons_of_mem _ hx))
    have := h p List.mem_cons_self
    rw [jn_cons c p _ (by simp), List.length_append, List.length_cons, show (p :: q :: r).length = (q :: r).length + 1 from rfl, Nat.succ_mul]
    omega
theorem jn_mem (c : UInt8) {x : UInt8} : ∀ ps : List (List UInt8), x ∈ jn c ps → x = c ∨ ∃ p ∈ ps, x ∈ p
  | [], h => by cases h
  | [p], h => .inr ⟨p, List.mem_cons_self, h⟩
  | p :: q :: r, h => by
    rw [jn_cons c p _ (by simp)] at h
    rcases List.mem_append.1 h with h | h
    · exact .inr ⟨p, List.mem_cons_self, h⟩
    · rcases List.mem_cons.1 h with h | h
      · exact .inl h
      · rcases jn_mem c (q :: r) h with h | ⟨y, hy, h⟩
        · exact .inl h
        · exact .inr ⟨y, List.mem_cons_of_mem _ hy, h⟩
theorem Split_f {c : UInt8} {ps : List (List UInt8)} (h0 : ps ≠ []) (hp : ∀ p ∈ ps, c ∉ p) (hl : (jn c ps).length < 4294967281) : strings_Split.f ⟨(jn c ps).toArray⟩ ⟨#[c]⟩ = some (ps.map (fun p => (⟨p.toArray⟩ : ByteArray))) := by
  unfold strings_Split.f
  rw [if_pos ⟨by rw [size_mk]; exact hl, Nat.le_refl _⟩, split_jn c ps _ h0 hp (by simp)]
/-- The texts of numbers. -/
def txs (K : Nat) (zs : List Int) : List (List UInt8) := zs.map (fixZ · K)
theorem txs_len (K : Nat) (zs : List Int) : (txs K zs).length = zs.length := List.length_map _
theorem txs_no {K : Nat} {zs : List Int} {c : UInt8} (hc : c = 44 ∨ c = 58) : ∀ p ∈ txs K zs, c ∉ p := fun p hp => by
  obtain ⟨z, _, rfl⟩ := List.mem_map.1 hp
  exact fixZ_no hc
theorem txs_size {K : Nat} {zs : List Int} (hK : K ≤ 9) (hr : ∀ z ∈ zs, -9223372036854775808 ≤ z ∧ z ≤ 9223372036854775807) : ∀ p ∈ txs K zs, p.length ≤ 60 := fun p hp => by
  obtain ⟨z, hz, rfl⟩ := List.mem_map.1 hp
  exact fixZ_len (hr z hz).1 (hr z hz).2 hK
theorem take_snoc {α : Type} (zs : List α) (i : Nat) (h : i < zs.length) : zs.take i ++ [zs[i]] = zs.take (i + 1) := (List.take_succ_eq_append_getElem h).symm
theorem wi1 {i : Nat} (h : i ≤ 100000) : wrap64 ((i : Int) + 1) = ((i + 1 : Nat) : Int) := by
  rw [w64 (by omega) (by omega)]
  omega
theorem num_l0 {a1 : Int} {K : Nat} (zs : List Int) (hr : ∀ z ∈ zs, -2147483648 ≤ z ∧ z ≤ 2147483648) (hK : mn (mx a1 0) 9 = (K : Int)) (hK9 : K ≤ 9) (hl : zs.length ≤ 1000) : ∀ (d i k : Nat), i + d = zs.length → d + 60002 ≤ k →
    level_numbers.l0 k a1 (zs.take i) ((txs K zs).map (fun p => (⟨p.toArray⟩ : ByteArray))) (zs.length : Int) (i : Int) = some (zs, 0)
  | 0, i, k, hi, hk => by
    obtain ⟨k, rfl⟩ : ∃ n, k = n + 1 := ⟨k - 1, by omega⟩
    simp only [level_numbers.l0]
    rw [if_neg (by omega), List.take_of_length_le (by omega)]
  | d + 1, i, k, hi, hk => by
    obtain ⟨k, rfl⟩ : ∃ n, k = n + 1 := ⟨k - 1, by omega⟩
    have hlt : i < zs.length := by omega
    have ih := num_l0 zs hr hK hK9 hl d (i + 1) k (by omega) (by omega)
    have hz := hr zs[i] (List.getElem_mem hlt)
    have hrd : rdOf ByteArray.empty ((txs K zs).map (fun p => (⟨p.toArray⟩ : ByteArray))) (i : Int) = ⟨(fixZ zs[i] K).toArray⟩ := by
      unfold rdOf txs
      rw [Int.toNat_natCast]
      simp [List.getD, hlt]
    simp only [level_numbers.l0]
    rw [if_pos (by omega), if_pos (by omega), if_pos (by rw [List.length_map, txs_len]; omega), hrd, ParseT hz.1 hz.2 hK hK9 (by omega), Option.bind_some]
    dsimp only
    rw [if_pos rfl, if_pos (by rw [List.length_take]; omega), take_snoc zs i hlt, wi1 (by omega)]
    exact ih
theorem numbers_f {a1 : Int} {K k : Nat} (zs : List Int) (hr : ∀ z ∈ zs, -2147483648 ≤ z ∧ z ≤ 2147483648) (hK : mn (mx a1 0) 9 = (K : Int)) (hK9 : K ≤ 9) (hl : zs.length ≤ 1000) (hk : 62000 ≤ k) :
    level_numbers.f k ((txs K zs).map (fun p => (⟨p.toArray⟩ : ByteArray))) a1 = some (zs, 0) := by
  unfold level_numbers.f
  rw [List.length_map, txs_len]
  exact num_l0 zs hr hK hK9 hl zs.length 0 k (by omega) (by omega)
/-- Rising numbers are sorted, and none falls out. -/
theorem compact_inc (zs : List Int) (h : zs.Pairwise (· < ·)) : Lib.compact zs = zs := by
  have hk : ∀ j ∈ List.range zs.length, Lib.keeps zs.toArray j = true := fun j hj => by
    have hj := List.mem_range.1 hj
    unfold Lib.keeps
    rw [decide_eq_true_iff]
    by_cases h0 : j = 0
    · exact .inl h0
    · right
      have := List.pairwise_iff_getElem.1 h (j - 1) j (by omega) hj (by omega)
      rw [getElem!_pos _ _ (by simpa using hj), getElem!_pos _ _ (by simp; omega)]
      simp only [List.getElem_toArray]
      omega
  unfold Lib.compact Lib.compactUpTo
  rw [List.filter_eq_self.2 hk]
  apply List.ext_getElem?
  intro j
  by_cases hj : j < zs.length
  · simp [hj]
  · simp [hj]
theorem list_f {a1 : Int} {K k : Nat} (zs : List Int) (h0 : zs ≠ []) (hi : zs.Pairwise (· < ·)) (hr : ∀ z ∈ zs, -2147483648 ≤ z ∧ z ≤ 2147483648) (hK : mn (mx a1 0) 9 = (K : Int)) (hK9 : K ≤ 9) (hl : zs.length ≤ 200) (hk : 62000 ≤ k) :
    level_list.f k ⟨(jn 44 (txs K zs)).toArray⟩ a1 = some (zs, 0) := by
  have hjl := jn_len 44 60 (txs K zs) (txs_size hK9 (fun z hz => ⟨by have := hr z hz; omega, by have := hr z hz; omega⟩))
  rw [txs_len] at hjl
  have hln : 0 < zs.length := List.length_pos_iff.2 h0
  have hs : slices_Sort.f zs = some zs := by
    unfold slices_Sort.f
    rw [if_pos ⟨hln, by omega⟩, List.mergeSort_of_pairwise (hi.imp (fun h => decide_eq_true (Int.le_of_lt h)))]
  have hc : slices_Compact.f zs = some zs := by
    unfold slices_Compact.f
    rw [if_pos (by omega), compact_inc zs hi]
  unfold level_list.f
  rw [Split_f (by intro e; exact h0 (List.map_eq_nil_iff.1 e)) (txs_no (.inl rfl)) (by omega), Option.bind_some, numbers_f zs hr hK hK9 (by omega) hk, Option.bind_some]
  dsimp only
  rw [if_pos rfl, hs, Option.bind_some, hc, Option.bind_some, if_neg (by omega)]
/-- Levels that are told one by one. -/
theorem Parse_list {a1 : Int} {K k : Nat} (zs : List Int) (h0 : zs ≠ []) (hi : zs.Pairwise (· < ·)) (hr : ∀ z ∈ zs, -2147483648 ≤ z ∧ z ≤ 2147483648) (hK : mn (mx a1 0) 9 = (K : Int)) (hK9 : K ≤ 9) (hl : zs.length ≤ 200) (hk : 62000 ≤ k) :
    level_Parse.f k ⟨(jn 44 (txs K zs)).toArray⟩ a1 = some (zs, 0) := by
  have hjl := jn_len 44 60 (txs K zs) (txs_size hK9 (fun z hz => ⟨by have := hr z hz; omega, by have := hr z hz; omega⟩))
  rw [txs_len] at hjl
  have hno : ∀ p ∈ [jn 44 (txs K zs)], (58 : UInt8) ∉ p := fun p hp hm => by
    rw [List.mem_singleton.1 hp] at hm
    rcases jn_mem 44 (txs K zs) hm with h | ⟨y, hy, h⟩
    · exact absurd h (by decide)
    · exact txs_no (.inr rfl) y hy h
  have hsp := Split_f (c := 58) (ps := [jn 44 (txs K zs)]) (by simp) hno (by show (jn 44 (txs K zs)).length < _; omega)
  have hsp : strings_Split.f ⟨(jn 44 (txs K zs)).toArray⟩ ⟨#[58]⟩ = some [⟨(jn 44 (txs K zs)).toArray⟩] := hsp
  unfold level_Parse.f
  rw [size_mk, if_neg (by omega), hsp, Option.bind_some, if_pos (by simp), list_f zs h0 hi hr hK hK9 hl hk, Option.bind_some]
/-- Their text. -/
theorem print_l0 {a1 : Int} {K : Nat} (zs : List Int) (hr : ∀ z ∈ zs, -9223372036854775808 ≤ z ∧ z ≤ 9223372036854775807) (hK : mn (mx a1 0) 9 = (K : Int)) (hK9 : K ≤ 9) (hl : zs.length ≤ 1000) : ∀ (d i k : Nat), i + d = zs.length → d + 24002 ≤ k →
    level_Print.l0 k a1 (((txs K zs).map (fun p => (⟨p.toArray⟩ : ByteArray))).take i) zs (zs.length : Int) (i : Int) = some ⟨(jn 44 (txs K zs)).toArray⟩
  | 0, i, k, hi, hk => by
    obtain ⟨k, rfl⟩ : ∃ n, k = n + 1 := ⟨k - 1, by omega⟩
    have hjl := jn_len 44 60 (txs K zs) (txs_size hK9 hr)
    rw [txs_len] at hjl
    have hm : ((txs K zs).map (fun p => (⟨p.toArray⟩ : ByteArray))).map (·.data.toList) = txs K zs := by
      rw [List.map_map]
      exact List.map_id'' (fun p => by simp) _
    have h44 : (⟨#[44]⟩ : ByteArray).data.toList = [44] := rfl
    simp only [level_Print.l0]
    rw [if_neg (by omega), List.take_of_length_le (by rw [List.length_map, txs_len]; omega)]
    unfold strings_Join.f
    rw [hm, h44, join_jn, if_pos ⟨by rw [List.length_map, txs_len]; omega, by omega⟩, Option.bind_some]
  | d + 1, i, k, hi, hk => by
    obtain ⟨k, rfl⟩ : ∃ n, k = n + 1 := ⟨k - 1, by omega⟩
    have hlt : i < zs.length := by omega
    have ih := print_l0 zs hr hK hK9 hl d (i + 1) k (by omega) (by omega)
    have hz := hr zs[i] (List.getElem_mem hlt)
    have hrd : rd zs (i : Int) = zs[i] := by
      show zs.getD (i : Int).toNat 0 = _
      rw [Int.toNat_natCast]
      simp [List.getD, hlt]
    have hts : ((txs K zs).map (fun p => (⟨p.toArray⟩ : ByteArray))).take i ++ [(⟨(fixZ zs[i] K).toArray⟩ : ByteArray)] = ((txs K zs).map (fun p => (⟨p.toArray⟩ : ByteArray))).take (i + 1) := by
      rw [← take_snoc _ i (by rw [List.length_map, txs_len]; exact hlt)]
      simp [txs]
    simp only [level_Print.l0]
    rw [if_pos (by omega), if_pos (by omega), if_pos (by omega), hrd, Text_f hz.1 hz.2 hK hK9 (by omega), Option.bind_some, if_pos (by rw [List.length_take]; omega), hts, wi1 (by omega)]
    exact ih
theorem Print_f {a1 : Int} {K k : Nat} (zs : List Int) (hr : ∀ z ∈ zs, -9223372036854775808 ≤ z ∧ z ≤ 9223372036854775807) (hK : mn (mx a1 0) 9 = (K : Int)) (hK9 : K ≤ 9) (hl : zs.length ≤ 1000) (hk : 26000 ≤ k) :
    level_Print.f k zs a1 = some ⟨(jn 44 (txs K zs)).toArray⟩ := by
  unfold level_Print.f
  have := print_l0 zs hr hK hK9 hl zs.length 0 k (by omega) (by omega)
  exact this
end Go.Proofs.YtknekneicecgiaaGreatDoor.Lv
