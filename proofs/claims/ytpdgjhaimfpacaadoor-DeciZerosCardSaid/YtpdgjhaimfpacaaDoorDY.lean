/- The statement's own text, digit by digit, is deci.Text's; it is read as it was: DeciTexts answers true. -/
import Derived.Test.YtpdgjhaimfpacaaDoorX5
import Derived.Test.YtpdgjhaimfpacaaDoorDF
import Derived.Test.YtpdgjhaimfpacaaDoorA8
import Derived.Test.YtpdgjhaimfpacaaDoorKTexts
import Derived.OpenShut
namespace Go.Proofs.YtpdgjhaimfpacaaDoor.Mg
open Go.RowKit Go.Proofs.YtpdgjhaimfpacaaDoorW.PrintWords Go.Proofs.YtpdgjhaimfpacaaDoorW.PrintMore Go.Proofs.YtpdgjhaimfpacaaDoor.MB Go.Proofs.YtpdgjhaimfpacaaDoor.M
set_option linter.unusedVariables false
set_option linter.unusedSimpArgs false

/-- The lowest so many digits. -/
def lowD (n : Nat) : Nat → List UInt8
  | 0 => []
  | k + 1 => dch (n / 10 ^ k) :: lowD n k
theorem lowD_len (n : Nat) : ∀ k, (lowD n k).length = k
  | 0 => rfl
  | k + 1 => by simp [lowD, lowD_len n k]
theorem lowD_spec (n : Nat) : ∀ k, allD (lowD n k) = true ∧ dvl (lowD n k) = n % 10 ^ k
  | 0 => ⟨rfl, by rw [Nat.pow_zero, Nat.mod_one]; rfl⟩
  | k + 1 => by
    obtain ⟨h1, h2⟩ := lowD_spec n k
    have h3 := dvl_append [dch (n / 10 ^ k)] (lowD n k)
    have h4 : dvl [dch (n / 10 ^ k)] = n / 10 ^ k % 10 := by
      show 10 * 0 + ((dch (n / 10 ^ k)).toNat - 48) = _
      rw [dch_toNat]
      omega
    rw [h4, h2, lowD_len] at h3
    refine ⟨?_, ?_⟩
    · show allD ([dch (n / 10 ^ k)] ++ lowD n k) = true
      rw [allD_append, h1]
      simp [allD, dch_isDg]
    · show dvl ([dch (n / 10 ^ k)] ++ lowD n k) = _
      rw [h3, Nat.pow_succ, Nat.mod_mul, Nat.mul_comm]
      omega
theorem digits_inj : ∀ (n : Nat) (a b : List UInt8), a.length = n → b.length = n → allD a = true → allD b = true → dvl a = dvl b → a = b := by
  intro n
  induction n with
  | zero =>
    intro a b ha hb _ _ _
    rw [List.eq_nil_of_length_eq_zero ha, List.eq_nil_of_length_eq_zero hb]
  | succ n ih =>
    intro a b ha hb hda hdb hv
    rcases snoc_cases a with rfl | ⟨a', c, rfl⟩
    · simp at ha
    · rcases snoc_cases b with rfl | ⟨b', d, rfl⟩
      · simp at hb
      · rw [allD_append, Bool.and_eq_true] at hda hdb
        have hc := allD_mem hda.2 (List.mem_singleton.2 rfl)
        have hd := allD_mem hdb.2 (List.mem_singleton.2 rfl)
        rw [dvl_snoc, dvl_snoc] at hv
        have h1 := ih a' b' (by simpa using ha) (by simpa using hb) hda.1 hdb.1 (by omega)
        have h2 : c = d := UInt8.toNat_inj.1 (by omega)
        rw [h1, h2]
theorem dec_ge : ∀ (n : Nat), n ≠ 0 → 10 ^ ((dec n).length - 1) ≤ n := by
  intro n
  induction n using Nat.strongRecOn with
  | _ n ih =>
    intro h
    rw [dec_pos h, List.length_append, List.length_singleton, Nat.add_sub_cancel]
    by_cases h1 : n / 10 = 0
    · rw [h1, dec_zero]
      simp
      omega
    · have h2 := ih (n / 10) (by omega) h1
      have hl : (dec (n / 10)).length ≠ 0 := fun e => h1 (dec_nil.1 (List.eq_nil_of_length_eq_zero e))
      obtain ⟨L, hL⟩ : ∃ L, (dec (n / 10)).length = L + 1 := ⟨(dec (n / 10)).length - 1, by omega⟩
      rw [hL, Nat.add_sub_cancel] at h2
      rw [hL, Nat.pow_succ]
      omega
/-- The loop goes on just as long as digits, or places, are left. -/
theorem pad_more {n K i : Nat} (h : i < (padT n K).length) : n / 10 ^ i ≠ 0 ∨ i ≤ K := by
  by_cases hi : i ≤ K
  · exact .inr hi
  · left
    have hle : ¬ (txt n).length ≤ K := by
      intro hle
      unfold padT at h
      rw [if_pos hle, List.length_append, Lib.repeatL_length] at h
      simp at h
      omega
    unfold padT at h
    rw [if_neg hle] at h
    unfold txt at h
    by_cases h0 : n = 0
    · rw [if_pos h0] at h
      simp at h
      omega
    · rw [if_neg h0] at h
      have h1 := dec_ge n h0
      have h2 : 10 ^ i ≤ 10 ^ ((dec n).length - 1) := Nat.pow_le_pow_right (by decide) (by omega)
      have h3 := Nat.div_pos (Nat.le_trans h2 h1) (Nat.pow_pos (by decide))
      omega
theorem pad_low (n K : Nat) : padT n K = lowD n (padT n K).length := by
  obtain ⟨h1, h2, h3⟩ := padT_spec n K
  obtain ⟨l1, l2⟩ := lowD_spec n (padT n K).length
  have hlt := dvl_lt h1
  rw [h2] at hlt
  exact digits_inj _ _ _ rfl (lowD_len _ _) h1 l1 (by rw [h2, l2, Nat.mod_eq_of_lt hlt])
/-- So many digits, with the point among them. -/
def ptD (n K i : Nat) : List UInt8 := if 0 < K ∧ K < i then (lowD n i).take (i - K) ++ [46] ++ (lowD n i).drop (i - K) else lowD n i
theorem low_drop (n : Nat) : ∀ (d k : Nat), (lowD n (d + k)).drop d = lowD n k
  | 0, k => by simp
  | d + 1, k => by
    rw [show d + 1 + k = (d + k) + 1 from by omega]
    show (lowD n (d + k)).drop d = _
    exact low_drop n d k
theorem ptD_step (n K i : Nat) : ptD n K (i + 1) = dch (n / 10 ^ i) :: (if i = K ∧ 0 < K then 46 :: ptD n K i else ptD n K i) := by
  unfold ptD
  by_cases h1 : 0 < K ∧ K < i
  · obtain ⟨hK, hi⟩ := h1
    obtain ⟨e, he⟩ : ∃ e, i - K = e := ⟨_, rfl⟩
    rw [if_pos ⟨hK, by omega⟩, if_neg (by omega), if_pos ⟨hK, hi⟩, show i + 1 - K = (i - K) + 1 from by omega]
    rfl
  · rw [if_neg h1]
    by_cases h2 : i = K ∧ 0 < K
    · obtain ⟨rfl, hK⟩ := h2
      rw [if_pos ⟨hK, by omega⟩, if_pos ⟨rfl, hK⟩, show i + 1 - i = 1 from by omega]
      rfl
    · rw [if_neg h2, if_neg (by omega)]
      rfl
theorem nv_tmod (neg : Bool) (M : Nat) : Int.tmod (nv neg M) 10 = nv neg (M % 10) := by
  cases neg with
  | true =>
    rw [nv_true, nv_true, Int.neg_tmod, Int.tmod_eq_emod_of_nonneg (by omega)]
    omega
  | false =>
    rw [nv_false, nv_false, Int.tmod_eq_emod_of_nonneg (by omega)]
    omega
theorem nv_tdiv (neg : Bool) (M : Nat) : Int.tdiv (nv neg M) 10 = nv neg (M / 10) := by
  cases neg with
  | true =>
    rw [nv_true, nv_true, Int.neg_tdiv, Int.tdiv_eq_ediv_of_nonneg (by omega)]
    omega
  | false =>
    rw [nv_false, nv_false, Int.tdiv_eq_ediv_of_nonneg (by omega)]
    omega
theorem ba_mk {s : ByteArray} {l : List UInt8} (h : s.data.toList = l) : s = ⟨l.toArray⟩ := ba_ext (by rw [h])
theorem wq {M : Nat} (neg : Bool) (h : M ≤ 9223372036854775808) : wrap64 (nv neg (M / 10)) = nv neg (M / 10) := by
  have := nv_abs neg (M / 10)
  exact w64 (by omega) (by omega)
theorem wdig (M : Nat) : (wrap64 (48 + ((M % 10 : Nat) : Int))) % 256 = ((48 + M % 10 : Nat) : Int) := by
  rw [w64 (by omega) (by omega)]
  omega
theorem wi {i : Nat} (h : i ≤ 1000) : wrap64 ((i : Int) + 1) = ((i + 1 : Nat) : Int) := by
  rw [w64 (by omega) (by omega)]
  omega
theorem wneg (M : Nat) : wrap64 (-(-((M % 10 : Nat) : Int))) = ((M % 10 : Nat) : Int) := by
  rw [w64 (by omega) (by omega)]
  omega
theorem text_l0 (N K : Nat) (hN : N ≤ 9223372036854775808) (hK : K ≤ 9) (neg mi : Bool) (hlen : (padT N K).length ≤ 100) : ∀ (d i k : Nat), i + d = (padT N K).length → 2 * d + 5 ≤ k →
    isohyetlaw04_text.l0 k (nv neg (N / 10 ^ i)) (K : Int) mi ⟨(ptD N K i).toArray⟩ (i : Int) = some ⟨(if mi = true then 45 :: fixT N K else fixT N K).toArray⟩
  | 0, i, k, hi, hk => by
    obtain ⟨k, rfl⟩ : ∃ n, k = n + 2 := ⟨k - 2, by omega⟩
    obtain ⟨p1, p2, p3⟩ := padT_spec N K
    have hlt := dvl_lt p1
    rw [p2] at hlt
    obtain rfl : i = (padT N K).length := by omega
    have e0 : nv neg (N / 10 ^ (padT N K).length) = 0 := by rw [Nat.div_eq_of_lt hlt]; cases neg <;> rfl
    have hfix : ptD N K (padT N K).length = fixT N K := by
      unfold ptD fixT
      rw [← pad_low]
      by_cases hK0 : 0 < K
      · rw [if_pos ⟨hK0, p3⟩, if_pos hK0]
      · rw [if_neg (fun h => hK0 h.1), if_neg hK0]
    have hfl : (fixT N K).length ≤ 200 := by
      unfold fixT
      split
      · simp; omega
      · omega
    rw [hfix]
    simp only [isohyetlaw04_text.l0]
    rw [if_pos e0, decide_eq_false (show ¬ (((padT N K).length : Int) ≤ (K : Int)) from by omega)]
    simp only [isohyetlaw04_text.j1]
    rw [if_neg (by decide)]
    cases mi with
    | true =>
      rw [if_pos rfl, if_pos rfl, size_mk, if_pos (by omega)]
      rfl
    | false => rw [if_neg (by decide), if_neg (by decide)]
  | d + 1, i, k, hi, hk => by
    obtain ⟨k, rfl⟩ : ∃ n, k = n + 2 := ⟨k - 2, by omega⟩
    have ih := text_l0 N K hN hK neg mi hlen d (i + 1) k (by omega) (by omega)
    have hmore := pad_more (n := N) (K := K) (i := i) (by omega)
    have hj : isohyetlaw04_text.l0 (k + 2) (nv neg (N / 10 ^ i)) (K : Int) mi ⟨(ptD N K i).toArray⟩ (i : Int) = isohyetlaw04_text.j1 (k + 1) (nv neg (N / 10 ^ i)) (K : Int) mi ⟨(ptD N K i).toArray⟩ (i : Int) true := by
      simp only [isohyetlaw04_text.l0]
      by_cases h0 : nv neg (N / 10 ^ i) = 0
      · have : N / 10 ^ i = 0 := by
          have := nv_abs neg (N / 10 ^ i)
          rw [h0] at this
          omega
        rw [if_pos h0, decide_eq_true (show (i : Int) ≤ (K : Int) from by omega)]
      · rw [if_neg h0]
    have hpl : (ptD N K i).length ≤ i + 1 := by
      have := lowD_len N i
      unfold ptD
      split
      · simp; omega
      · omega
    have hMN : N / 10 ^ i ≤ N := Nat.div_le_self _ _
    have hdd : N / 10 ^ (i + 1) = N / 10 ^ i / 10 := by rw [Nat.pow_succ, Nat.div_div_eq_div_mul]
    have hst := ptD_step N K i
    rw [hst, hdd] at ih
    rw [hj]
    generalize N / 10 ^ i = M at *
    have hs1 := strOf_one (n := 48 + M % 10) (by omega)
    have hdc : UInt8.ofNat (48 + M % 10) = dch M := rfl
    rw [hdc] at hs1
    have hsz : (strOfNums [((48 + M % 10 : Nat) : Int)]).size = 1 := by rw [← size_len, hs1]; rfl
    have hcons : ∀ l : List UInt8, strOfNums [((48 + M % 10 : Nat) : Int)] ++ (⟨l.toArray⟩ : ByteArray) = ⟨(dch M :: l).toArray⟩ := fun l => by
      apply ba_mk
      rw [ByteArray.data_append, Array.toList_append, hs1]
      simp
    have hpt : ∀ l : List UInt8, (⟨#[46]⟩ : ByteArray) ++ (⟨l.toArray⟩ : ByteArray) = ⟨(46 :: l).toArray⟩ := fun l => by
      apply ba_mk
      rw [ByteArray.data_append, Array.toList_append]
      simp
    have fin : ∀ v : Int, v = ((M % 10 : Nat) : Int) →
        (if (i : Int) = (K : Int) then (if (K : Int) > 0 then (if 1 + (⟨(ptD N K i).toArray⟩ : ByteArray).size ≤ 9223372036854775807 then ((some (([(wrap64 (48 + v)) % 256] : List Int) : List Int)).bind fun y => (if (strOfNums y).size + ((⟨#[46]⟩ : ByteArray) ++ (⟨(ptD N K i).toArray⟩ : ByteArray)).size ≤ 9223372036854775807 then (isohyetlaw04_text.l0 k (wrap64 (nv neg (M / 10))) (K : Int) mi ((strOfNums y) ++ ((⟨#[46]⟩ : ByteArray) ++ (⟨(ptD N K i).toArray⟩ : ByteArray))) (wrap64 ((i : Int) + 1))) else (none))) else (none)) else ((some (([(wrap64 (48 + v)) % 256] : List Int) : List Int)).bind fun y => (if (strOfNums y).size + (⟨(ptD N K i).toArray⟩ : ByteArray).size ≤ 9223372036854775807 then (isohyetlaw04_text.l0 k (wrap64 (nv neg (M / 10))) (K : Int) mi ((strOfNums y) ++ (⟨(ptD N K i).toArray⟩ : ByteArray)) (wrap64 ((i : Int) + 1))) else (none)))) else ((some (([(wrap64 (48 + v)) % 256] : List Int) : List Int)).bind fun y => (if (strOfNums y).size + (⟨(ptD N K i).toArray⟩ : ByteArray).size ≤ 9223372036854775807 then (isohyetlaw04_text.l0 k (wrap64 (nv neg (M / 10))) (K : Int) mi ((strOfNums y) ++ (⟨(ptD N K i).toArray⟩ : ByteArray)) (wrap64 ((i : Int) + 1))) else (none)))) = some ⟨(if mi = true then 45 :: fixT N K else fixT N K).toArray⟩ := by
      intro v hv
      subst hv
      rw [wdig, Option.bind_some, Option.bind_some, wq neg (by omega), wi (by omega), hpt, hcons, hcons, hsz, size_mk, size_mk]
      clear hcons hpt hs1 hsz
      by_cases h1 : (i : Int) = (K : Int)
      · rw [if_pos h1]
        by_cases h2 : (K : Int) > 0
        · rw [if_pos (by omega)] at ih
          rw [if_pos h2, if_pos (by omega), if_pos (by simp; omega)]
          exact ih
        · rw [if_neg (by omega)] at ih
          rw [if_neg h2, if_pos (by omega)]
          exact ih
      · rw [if_neg (by omega)] at ih
        rw [if_neg h1, if_pos (by omega)]
        exact ih
    simp only [isohyetlaw04_text.j1]
    rw [if_pos trivial, nv_tmod, nv_tdiv]
    by_cases hneg : nv neg (M % 10) < 0
    · rw [if_pos hneg]
      refine fin _ ?_
      cases neg with
      | true => rw [nv_true, wneg]
      | false => rw [nv_false] at hneg; omega
    · rw [if_neg hneg]
      refine fin _ ?_
      cases neg with
      | true => rw [nv_true] at hneg ⊢; omega
      | false => rw [nv_false]
theorem cutP_snoc : ∀ w p : List UInt8, allD w = true → cutP (w ++ 46 :: p) = (w, p, true)
  | [], p, _ => rfl
  | c :: w, p, h => by
    have hc := allD_mem h List.mem_cons_self
    have hw : allD w = true := by
      simp only [allD, List.all_cons, Bool.and_eq_true] at h
      exact h.2
    have h46 : c ≠ 46 := fun e => by rw [e] at hc; exact absurd hc.1 (by decide)
    show (if c = 46 then _ else _) = _
    rw [if_neg h46]
    show (c :: (cutP (w ++ 46 :: p)).1, (cutP (w ++ 46 :: p)).2) = _
    rw [cutP_snoc w p hw]
theorem cutP_all : ∀ w : List UInt8, allD w = true → cutP w = (w, [], false)
  | [], _ => rfl
  | c :: w, h => by
    have hc := allD_mem h List.mem_cons_self
    have hw : allD w = true := by
      simp only [allD, List.all_cons, Bool.and_eq_true] at h
      exact h.2
    have h46 : c ≠ 46 := fun e => by rw [e] at hc; exact absurd hc.1 (by decide)
    show (if c = 46 then _ else _) = _
    rw [if_neg h46, cutP_all w hw]
theorem strip_dig {c : UInt8} {t : List UInt8} (h : isDg c = true) : strip (c :: t) = (false, c :: t) := by
  have hc : 48 ≤ c.toNat ∧ c.toNat ≤ 57 := by simpa [isDg] using h
  have h1 : c ≠ 45 := fun e => by rw [e] at hc; exact absurd hc.1 (by decide)
  have h2 : c ≠ 43 := fun e => by rw [e] at hc; exact absurd hc.1 (by decide)
  show (if c = 45 then _ else if c = 43 then _ else _) = _
  rw [if_neg h1, if_neg h2]
theorem padT_head (n K : Nat) : ∃ c t, padT n K = c :: t ∧ isDg c = true := by
  obtain ⟨h1, _, h3⟩ := padT_spec n K
  cases hp : padT n K with
  | nil => rw [hp] at h3; simp at h3
  | cons c t =>
    rw [hp] at h1
    exact ⟨c, t, rfl, List.all_eq_true.1 h1 c List.mem_cons_self⟩
theorem fixT_head (n K : Nat) : ∃ c t, fixT n K = c :: t ∧ isDg c = true := by
  obtain ⟨c, t, hp, hc⟩ := padT_head n K
  obtain ⟨_, _, h3⟩ := padT_spec n K
  unfold fixT
  by_cases hK : 0 < K
  · rw [if_pos hK]
    obtain ⟨e, he⟩ : ∃ e, (padT n K).length - K = e + 1 := ⟨(padT n K).length - K - 1, by omega⟩
    rw [he, hp]
    exact ⟨c, t.take e ++ [46] ++ (c :: t).drop (e + 1), rfl, hc⟩
  · rw [if_neg hK]
    exact ⟨c, t, hp, hc⟩
/-- So many units' text is read as they were. -/
theorem spec_back (m : Bool) (N K : Nat) : spec2 m K (cutP (fixT N K)).1 (cutP (fixT N K)).2.1 (cutP (fixT N K)).2.2 = if N > 2147483648 then (0, 4) else (nv m N, 0) := by
  obtain ⟨h1, h2, h3⟩ := padT_spec N K
  unfold fixT
  by_cases hK : 0 < K
  · rw [if_pos hK, List.append_assoc, List.singleton_append]
    have hw : allD ((padT N K).take ((padT N K).length - K)) = true := List.all_eq_true.2 fun x hx => List.all_eq_true.1 h1 x (List.mem_of_mem_take hx)
    have hp : allD ((padT N K).drop ((padT N K).length - K)) = true := List.all_eq_true.2 fun x hx => List.all_eq_true.1 h1 x (List.mem_of_mem_drop hx)
    have hwl : ((padT N K).take ((padT N K).length - K)).length = (padT N K).length - K := by rw [List.length_take]; omega
    have hpl : ((padT N K).drop ((padT N K).length - K)).length = K := by rw [List.length_drop]; omega
    have hap := List.take_append_drop ((padT N K).length - K) (padT N K)
    rw [cutP_snoc _ _ hw]
    dsimp only
    generalize (padT N K).take ((padT N K).length - K) = w at *
    generalize (padT N K).drop ((padT N K).length - K) = p at *
    have hw0 : w ≠ [] := fun e => by rw [e] at hwl; simp at hwl; omega
    have hp0 : p ≠ [] := fun e => by rw [e] at hpl; simp at hpl; omega
    unfold spec2
    rw [hw, hp, decide_eq_true hw0, decide_eq_true hp0, if_neg (show ¬ ((true && true) = false) from by decide), if_neg (show ¬ (true = true ∧ (true && true) = false) from by rintro ⟨_, h⟩; cases h), List.drop_of_length_le (by omega), List.take_of_length_le (by omega), if_neg (show ¬ (allZ [] = false) from by decide), hap, h2, hpl, Nat.sub_self, Nat.pow_zero, Nat.mul_one]
  · obtain rfl : K = 0 := by omega
    have hp0 : padT N 0 ≠ [] := fun e => by rw [e] at h3; simp at h3
    rw [if_neg hK, cutP_all _ h1]
    dsimp only
    unfold spec2
    rw [h1, decide_eq_true hp0, if_neg (show ¬ ((true && true) = false) from by decide), if_neg (show ¬ (false = true ∧ (allD [] && decide (([] : List UInt8) ≠ [])) = false) from by rintro ⟨h, _⟩; cases h), List.drop_nil, List.take_nil, List.append_nil, if_neg (show ¬ (allZ [] = false) from by decide), h2]
    rw [show 10 ^ (0 - ([] : List UInt8).length) = 1 from rfl, Nat.mul_one]
theorem fixT_len {N K c : Nat} (h : N < 10 ^ c) (hK : K ≤ 9) : (padT N K).length ≤ c + 11 ∧ (fixT N K).length ≤ c + 12 := by
  have h1 := txt_len h
  have h2 : (padT N K).length ≤ c + 11 := by
    unfold padT
    split
    · rw [List.length_append, Lib.repeatL_length]
      simp
      omega
    · omega
  refine ⟨h2, ?_⟩
  unfold fixT
  split
  · simp; omega
  · omega
theorem DeciTexts_f {n a1 : Int} {k : Nat} (h0 : -9223372036854775808 ≤ n) (h1 : n ≤ 9223372036854775807) (hk : 70001 ≤ k) : isohyetlaw04_DeciTexts.f k n a1 = some true := by
  obtain ⟨K, hK, hK9⟩ : ∃ K : Nat, mn (mx a1 0) 9 = (K : Int) ∧ K ≤ 9 := by
    refine ⟨(mn (mx a1 0) 9).toNat, ?_, ?_⟩ <;> unfold mn mx <;> split <;> split <;> omega
  have e36 : 10 ^ (18 * 2) = 1000000000000000000000000000000000000 := by decide
  have hl : n.natAbs < 10 ^ (18 * 2) := by omega
  have hB1 : n.natAbs < B ^ 1 := by unfold B; omega
  have hB : n.natAbs < B ^ 60 := pow_le hB1 (by omega)
  have hz : HZ (zb n) (zl n) n := HZ.z hB1 (by omega)
  obtain ⟨l1, l2⟩ := fixT_len hl hK9
  have hF : deci_Fixed.f k (zb n) (zl n) a1 = some ⟨(fixZ n K).toArray⟩ := Fixed_z hz hK hK9 (by omega) hl hB (by omega)
  have hO : num_Of.f k n = some (zb n, zl n) := Of_z h0 h1 (by omega)
  have hnv : nv (zb n) n.natAbs = n := nv_zb n
  have hT : isohyetlaw04_text.f k n (K : Int) = some ⟨(fixZ n K).toArray⟩ := by
    have := text_l0 n.natAbs K (by omega) hK9 (zb n) (zb n) (by omega) (padT n.natAbs K).length 0 k (by omega) (by omega)
    rw [Nat.pow_zero, Nat.div_one, hnv] at this
    have hp0 : ptD n.natAbs K 0 = [] := by unfold ptD; rw [if_neg (by omega)]; rfl
    rw [hp0] at this
    unfold isohyetlaw04_text.f
    have e : (if zb n = true then 45 :: fixT n.natAbs K else fixT n.natAbs K) = fixZ n K := by
      unfold fixZ zb
      by_cases hn : n < 0
      · rw [if_pos (decide_eq_true hn), if_pos hn]
      · rw [if_neg (by rw [decide_eq_false hn]; decide), if_neg hn]
    rw [e] at this
    exact this
  have hx : deci_Text.f k n a1 = some ⟨(fixZ n K).toArray⟩ := by
    unfold deci_Text.f
    rw [hO, Option.bind_some]
    dsimp only
    rw [hF, Option.bind_some]
  have hfl : (fixZ n K).length ≤ 60 := by
    unfold fixZ
    split
    · simp; omega
    · omega
  have hP : ∀ k, 60000 ≤ k → deci_Parse.f k ⟨(fixZ n K).toArray⟩ a1 = some (if n.natAbs > 2147483648 then (0, 4) else (n, 0)) := fun k hk => by
    have hs : strip (fixZ n K) = (zb n, fixT n.natAbs K) := by
      unfold fixZ zb
      by_cases hn : n < 0
      · rw [if_pos hn, decide_eq_true hn]
        rfl
      · obtain ⟨c, t, hc1, hc2⟩ := fixT_head n.natAbs K
        rw [if_neg hn, decide_eq_false hn, hc1]
        exact strip_dig hc2
    have := Parse_f (s := ⟨(fixZ n K).toArray⟩) (a1 := a1) (k := k) (by rw [size_mk]; omega) hk
    have hda : (⟨(fixZ n K).toArray⟩ : ByteArray).data.toList = fixZ n K := by simp
    rw [hda, hs, hK, Int.toNat_natCast] at this
    dsimp only at this
    rw [spec_back, hnv] at this
    exact this
  unfold isohyetlaw04_DeciTexts.f
  rw [fit_z (by omega), Option.bind_some, if_pos rfl, hx, Option.bind_some, hK, hT, Option.bind_some, if_pos rfl, hO, Option.bind_some]
  dsimp only
  rw [hF, Option.bind_some, bne_self_eq_false]
  obtain ⟨k, rfl⟩ : ∃ j, k = j + 1 := ⟨k - 1, by omega⟩
  simp only [isohyetlaw04_DeciTexts.j0]
  rw [if_neg (by decide), hP k (by omega), Option.bind_some]
  by_cases hf : n.natAbs > 2147483648
  · rw [if_pos hf]
    dsimp only
    by_cases hp : n > 2147483648
    · rw [if_pos hp, if_pos rfl]
      rfl
    · rw [if_neg hp, if_pos (by omega), if_pos rfl]
      rfl
  · rw [if_neg hf]
    dsimp only
    rw [if_neg (by omega), if_neg (by omega), if_pos rfl, beq_self_eq_true]
end Go.Proofs.YtpdgjhaimfpacaaDoor.Mg
namespace Go.Proofs.YtpdgjhaimfpacaaDoor.Pure
open Go.Proofs.YtpdgjhaimfpacaaDoor.M
theorem DeciTexts : ∀ (a0 a1 : Int), (Lit.int .i64 a0).wf = true → (Lit.int .i64 a1).wf = true → ∃ k, isohyetlaw04_DeciTexts.f k a0 a1 = some true := fun _ _ w _ => by
  have hb := Go.bounds_i64 w
  exact ⟨70001, Mg.DeciTexts_f (by omega) (by omega) (Nat.le_refl _)⟩
end Go.Proofs.YtpdgjhaimfpacaaDoor.Pure
