/- DeciZeros answers true, over bytes: noughts ahead, and at the end behind the point, and a plus, change nothing. -/
import Derived.Test.YtpdgjhaimfpacaaDoorDY
import Derived.Test.YtpdgjhaimfpacaaDoorKZeros
namespace Go.Proofs.YtpdgjhaimfpacaaDoor.Mg
open Go.RowKit Go.Proofs.YtpdgjhaimfpacaaDoorW.PrintWords Go.Proofs.YtpdgjhaimfpacaaDoorW.PrintMore Go.Proofs.YtpdgjhaimfpacaaDoor.MB Go.Proofs.YtpdgjhaimfpacaaDoor.M
set_option linter.unusedVariables false
set_option linter.unusedSimpArgs false

def zs (n : Nat) : List UInt8 := Lib.repeatL [48] n
theorem zs_len (n : Nat) : (zs n).length = n := by unfold zs; rw [Lib.repeatL_length]; simp
theorem zs_cons (n : Nat) (l : List UInt8) : zs (n + 1) ++ l = 48 :: (zs n ++ l) := rfl
theorem zs_snoc (n : Nat) : zs n ++ [48] = zs (n + 1) := by
  have := Lib.repeatL_add [48] n 1
  unfold zs
  rw [this]
  rfl
theorem zs_allZ (n : Nat) : allZ (zs n) = true := by
  induction n with
  | zero => rfl
  | succ n ih =>
    show allZ (48 :: zs n) = true
    simp only [allZ, List.all_cons, Bool.and_eq_true]
    exact ⟨rfl, ih⟩
theorem zs_allD (n : Nat) : allD (zs n) = true := (zeros_val [] n).2
theorem ba_app (a b : List UInt8) : (⟨a.toArray⟩ : ByteArray) ++ (⟨b.toArray⟩ : ByteArray) = ⟨(a ++ b).toArray⟩ := by
  apply ba_mk
  rw [ByteArray.data_append, Array.toList_append]
/-- What the text with its noughts comes to. -/
theorem spec_zeros (m : Bool) (N K z0 z1 : Nat) (hN : N ≤ 2147483648) :
    let t := zs z0 ++ fixT N K ++ (if K = 0 ∧ 0 < z1 then [46] else []) ++ zs z1
    spec2 m K (cutP t).1 (cutP t).2.1 (cutP t).2.2 = (nv m N, 0) := by
  intro t
  obtain ⟨h1, h2, h3⟩ := padT_spec N K
  by_cases hK : 0 < K
  · have hw : allD ((padT N K).take ((padT N K).length - K)) = true := List.all_eq_true.2 fun x hx => List.all_eq_true.1 h1 x (List.mem_of_mem_take hx)
    have hp : allD ((padT N K).drop ((padT N K).length - K)) = true := List.all_eq_true.2 fun x hx => List.all_eq_true.1 h1 x (List.mem_of_mem_drop hx)
    have hwl : ((padT N K).take ((padT N K).length - K)).length = (padT N K).length - K := by rw [List.length_take]; omega
    have hpl : ((padT N K).drop ((padT N K).length - K)).length = K := by rw [List.length_drop]; omega
    have hap := List.take_append_drop ((padT N K).length - K) (padT N K)
    have ht : t = (zs z0 ++ (padT N K).take ((padT N K).length - K)) ++ 46 :: ((padT N K).drop ((padT N K).length - K) ++ zs z1) := by
      show zs z0 ++ fixT N K ++ _ ++ zs z1 = _
      unfold fixT
      rw [if_pos hK, if_neg (by omega)]
      simp
    rw [ht, cutP_snoc _ _ (by rw [allD_append, zs_allD, hw]; rfl)]
    dsimp only
    generalize (padT N K).take ((padT N K).length - K) = w at *
    generalize (padT N K).drop ((padT N K).length - K) = p at *
    obtain ⟨z1a, z2a⟩ := zeros_front z0 (w ++ p) (by rw [allD_append, hw, hp]; rfl)
    have hw0 : zs z0 ++ w ≠ [] := fun e => by
      have h5 := hwl
      rw [(List.append_eq_nil_iff.1 e).2] at h5
      simp at h5
      omega
    have hp0 : p ++ zs z1 ≠ [] := fun e => by
      have h5 := hpl
      rw [(List.append_eq_nil_iff.1 e).1] at h5
      simp at h5
      omega
    have hdr : (p ++ zs z1).drop K = zs z1 := by rw [← hpl, List.drop_left]
    have htk : (p ++ zs z1).take K = p := by rw [← hpl, List.take_left]
    have hpw : K - (p ++ zs z1).length = 0 := by rw [List.length_append]; omega
    have hdv : dvl (zs z0 ++ w ++ p) = N := by
      rw [List.append_assoc]
      show dvl (Lib.repeatL [48] z0 ++ (w ++ p)) = N
      rw [z2a, hap, h2]
    unfold spec2
    rw [allD_append, allD_append, zs_allD, zs_allD, hw, hp, decide_eq_true hw0, decide_eq_true hp0, if_neg (show ¬ ((true && true && true) = false) from by decide), if_neg (show ¬ (true = true ∧ (true && true && true) = false) from by rintro ⟨_, h⟩; cases h), hdr, zs_allZ, if_neg (show ¬ (true = false) from by decide), htk, hdv, hpw, Nat.pow_zero, Nat.mul_one, if_neg (by omega)]
  · obtain rfl : K = 0 := by omega
    have hf : fixT N 0 = padT N 0 := by unfold fixT; rw [if_neg hK]
    obtain ⟨z1a, z2a⟩ := zeros_front z0 (padT N 0) h1
    have hw : allD (zs z0 ++ padT N 0) = true := z1a
    have hdv : dvl (zs z0 ++ padT N 0) = N := by
      show dvl (Lib.repeatL [48] z0 ++ padT N 0) = N
      rw [z2a, h2]
    have hw0 : zs z0 ++ padT N 0 ≠ [] := fun e => by
      have h5 := h3
      rw [(List.append_eq_nil_iff.1 e).2] at h5
      simp at h5
    by_cases hz : 0 < z1
    · have ht : t = (zs z0 ++ padT N 0) ++ 46 :: zs z1 := by
        show zs z0 ++ fixT N 0 ++ _ ++ zs z1 = _
        rw [if_pos ⟨rfl, hz⟩, hf]
        simp
      have hp0 : zs z1 ≠ [] := fun e => by
        have := zs_len z1
        rw [e] at this
        simp at this
        omega
      rw [ht, cutP_snoc _ _ hw]
      dsimp only
      unfold spec2
      rw [hw, zs_allD, decide_eq_true hw0, decide_eq_true hp0, if_neg (show ¬ ((true && true) = false) from by decide), if_neg (show ¬ (true = true ∧ (true && true) = false) from by rintro ⟨_, h⟩; cases h), List.drop_zero, zs_allZ, if_neg (show ¬ (true = false) from by decide), List.take_zero, List.append_nil, hdv, Nat.zero_sub, Nat.pow_zero, Nat.mul_one, if_neg (by omega)]
    · obtain rfl : z1 = 0 := by omega
      have ht : t = zs z0 ++ padT N 0 := by
        show zs z0 ++ fixT N 0 ++ _ ++ zs 0 = _
        rw [if_neg (by omega), hf]
        show zs z0 ++ padT N 0 ++ [] ++ [] = _
        simp
      rw [ht, cutP_all _ hw]
      dsimp only
      unfold spec2
      rw [hw, decide_eq_true hw0, if_neg (show ¬ ((true && true) = false) from by decide), if_neg (show ¬ (false = true ∧ (allD [] && decide (([] : List UInt8) ≠ [])) = false) from by rintro ⟨h, _⟩; cases h), List.drop_nil, if_neg (show ¬ (allZ [] = false) from by decide), List.take_nil, List.append_nil, hdv]
      rw [show 10 ^ (0 - ([] : List UInt8).length) = 1 from rfl, Nat.mul_one, if_neg (by omega)]
theorem text_f {n : Int} {k K : Nat} (h0 : -9223372036854775808 ≤ n) (h1 : n ≤ 9223372036854775807) (hK9 : K ≤ 9) (hk : 3000 ≤ k) : isohyetlaw04_text.f k n (K : Int) = some ⟨(fixZ n K).toArray⟩ := by
  have e36 : 10 ^ (18 * 2) = 1000000000000000000000000000000000000 := by decide
  have hl : n.natAbs < 10 ^ (18 * 2) := by omega
  obtain ⟨l1, l2⟩ := fixT_len hl hK9
  have hnv : nv (zb n) n.natAbs = n := nv_zb n
  have := text_l0 n.natAbs K (by omega) hK9 (zb n) (zb n) (by omega) (padT n.natAbs K).length 0 k (by omega) (by omega)
  rw [Nat.pow_zero, Nat.div_one, hnv] at this
  have hp0 : ptD n.natAbs K 0 = [] := by unfold ptD; rw [if_neg (by omega)]; rfl
  rw [hp0] at this
  unfold isohyetlaw04_text.f
  have e : (if zb n = true then 45 :: fixT n.natAbs K else fixT n.natAbs K) = fixZ n K := by
    unfold fixZ zb
    by_cases hn : n < 0
    · rw [if_pos (decide_eq_true hn), if_pos hn]
    · rw [if_neg (by rw [decide_eq_false hn]; decide), if_neg hn]
  rw [e] at this
  exact this
theorem up256 {i : Nat} (h : i ≤ 100) : ((i : Int) + 1) % 256 = ((i + 1 : Nat) : Int) := by omega
theorem b48 : (⟨#[48]⟩ : ByteArray) = ⟨([48] : List UInt8).toArray⟩ := rfl
theorem b46 : (⟨#[46]⟩ : ByteArray) = ⟨([46] : List UInt8).toArray⟩ := rfl
theorem z_l1 (x0 : Int) (K z1 : Nat) (c : UInt8) : ∀ (d i k : Nat) (t : List UInt8), i + d = z1 → z1 ≤ 29 → t.length + d ≤ 300 → d + 60002 ≤ k →
    (∀ k, 60000 ≤ k → deci_Parse.f k ⟨(c :: (t ++ zs d)).toArray⟩ (K : Int) = some (x0, 0)) →
    isohyetlaw04_DeciZeros.l1 k x0 (K : Int) ⟨t.toArray⟩ ⟨([c] : List UInt8).toArray⟩ (z1 : Int) (i : Int) = some true
  | 0, i, k, t, hi, hz, ht, hk, hP => by
    obtain ⟨k, rfl⟩ : ∃ n, k = n + 1 := ⟨k - 1, by omega⟩
    have h := hP k (by omega)
    rw [show t ++ zs 0 = t from List.append_nil t] at h
    simp only [isohyetlaw04_DeciZeros.l1]
    rw [if_neg (by omega), size_mk, size_mk, if_pos (by simp; omega), ba_app, List.singleton_append, h, Option.bind_some]
    dsimp only
    rw [if_pos rfl, beq_self_eq_true]
  | d + 1, i, k, t, hi, hz, ht, hk, hP => by
    obtain ⟨k, rfl⟩ : ∃ n, k = n + 1 := ⟨k - 1, by omega⟩
    have ih := z_l1 x0 K z1 c d (i + 1) k (t ++ [48]) (by omega) hz (by simp; omega) (by omega) (fun k hk => by
      have := hP k hk
      rw [show t ++ [48] ++ zs d = t ++ zs (d + 1) from by rw [List.append_assoc]; rfl]
      exact this)
    simp only [isohyetlaw04_DeciZeros.l1]
    rw [if_pos (by omega), size_mk, if_pos (by omega), b48, ba_app, up256 (by omega)]
    exact ih
theorem z_l0 (x0 : Int) (K z0 : Nat) (s : ByteArray) (a b : Int) (R : Option Bool) (q : Bool) (hq : (if K = 0 then decide (Int.tmod b 30 > 0) else false) = q) : ∀ (d i k : Nat) (t : List UInt8), i + d = z0 → z0 ≤ 29 → t.length + d ≤ 300 → d + 60100 ≤ k →
    (∀ k, 60099 ≤ k → isohyetlaw04_DeciZeros.j2 k x0 (K : Int) ⟨(zs d ++ t).toArray⟩ s q a b = R) →
    isohyetlaw04_DeciZeros.l0 k x0 (K : Int) ⟨t.toArray⟩ s (z0 : Int) (i : Int) a b = R
  | 0, i, k, t, hi, hz, ht, hk, hP => by
    obtain ⟨k, rfl⟩ : ∃ n, k = n + 1 := ⟨k - 1, by omega⟩
    have h := hP k (by omega)
    rw [show zs 0 ++ t = t from List.nil_append t] at h
    simp only [isohyetlaw04_DeciZeros.l0]
    rw [if_neg (by omega)]
    by_cases hK : K = 0
    · rw [if_pos hK] at hq
      rw [if_pos (by omega), hq]
      exact h
    · rw [if_neg hK] at hq
      rw [if_neg (by omega)]
      subst hq
      exact h
  | d + 1, i, k, t, hi, hz, ht, hk, hP => by
    obtain ⟨k, rfl⟩ : ∃ n, k = n + 1 := ⟨k - 1, by omega⟩
    have ih := z_l0 x0 K z0 s a b R q hq d (i + 1) k ([48] ++ t) (by omega) hz (by simp; omega) (by omega) (fun k hk => by
      have := hP k hk
      rw [show zs d ++ ([48] ++ t) = zs (d + 1) ++ t from by rw [← List.append_assoc, zs_snoc]]
      exact this)
    simp only [isohyetlaw04_DeciZeros.l0]
    rw [if_pos (by omega), size_mk, if_pos (by omega), b48, ba_app, up256 (by omega)]
    exact ih
theorem mnmx {K : Nat} (h : K ≤ 9) : mn (mx (K : Int) 0) 9 = (K : Int) := by unfold mn mx; split <;> split <;> omega
theorem tm30 {a : Int} (h0 : 0 ≤ a) : ∃ z : Nat, Int.tmod a 30 = (z : Int) ∧ z ≤ 29 := ⟨(Int.tmod a 30).toNat, by rw [Int.tmod_eq_emod_of_nonneg h0]; omega, by rw [Int.tmod_eq_emod_of_nonneg h0]; omega⟩
theorem z_main {x0 a b : Int} {N K k : Nat} (m : Bool) (c : UInt8) (hc : ∀ t, strip (c :: t) = (m, t)) (hx : nv m N = x0) (hN : N ≤ 2147483648) (hK9 : K ≤ 9) (ha : 0 ≤ a) (hb : 0 ≤ b) (hk : 70000 ≤ k) :
    isohyetlaw04_DeciZeros.j0 k x0 (K : Int) ⟨(fixT N K).toArray⟩ ⟨([c] : List UInt8).toArray⟩ a b = some true := by
  obtain ⟨z0, e0, hz0⟩ := tm30 ha
  obtain ⟨z1, e1, hz1⟩ := tm30 hb
  have e12 : 10 ^ 12 = 1000000000000 := by decide
  obtain ⟨l1, l2⟩ := fixT_len (c := 12) (show N < 10 ^ 12 by omega) hK9
  obtain ⟨k, rfl⟩ : ∃ n, k = n + 1 := ⟨k - 1, by omega⟩
  simp only [isohyetlaw04_DeciZeros.j0]
  rw [e0]
  refine z_l0 x0 K z0 _ a b _ (decide (K = 0 ∧ 0 < z1)) ?_ z0 0 k (fixT N K) (by omega) hz0 (by omega) (by omega) (fun k hk => ?_)
  · rw [e1]
    by_cases hK : K = 0
    · rw [if_pos hK]
      by_cases h : 0 < z1
      · rw [decide_eq_true (show (z1 : Int) > 0 from by omega), decide_eq_true ⟨hK, h⟩]
      · rw [decide_eq_false (show ¬ ((z1 : Int) > 0) from by omega), decide_eq_false (fun e => h e.2)]
    · rw [if_neg hK, decide_eq_false (fun e => hK e.1)]
  · obtain ⟨k, rfl⟩ : ∃ n, k = n + 1 := ⟨k - 1, by omega⟩
    have main : ∀ p : List UInt8, p = (if K = 0 ∧ 0 < z1 then [46] else []) → isohyetlaw04_DeciZeros.j3 k x0 (K : Int) ⟨(zs z0 ++ fixT N K ++ p).toArray⟩ ⟨([c] : List UInt8).toArray⟩ a b = some true := by
      intro p hp
      obtain ⟨k, rfl⟩ : ∃ n, k = n + 1 := ⟨k - 1, by omega⟩
      have hpl : p.length ≤ 1 := by rw [hp]; split <;> simp
      have hzl := zs_len z0
      have hzl1 := zs_len z1
      simp only [isohyetlaw04_DeciZeros.j3]
      rw [e1]
      refine z_l1 x0 K z1 c z1 0 k _ (by omega) hz1 (by rw [List.length_append, List.length_append]; omega) (by omega) (fun k hk => ?_)
      have hsz : (⟨(c :: (zs z0 ++ fixT N K ++ p ++ zs z1)).toArray⟩ : ByteArray).size ≤ 400 := by
        rw [size_mk, List.length_cons, List.length_append, List.length_append, List.length_append]
        omega
      have h := Parse_f (a1 := (K : Int)) (k := k) hsz hk
      have hda : (⟨(c :: (zs z0 ++ fixT N K ++ p ++ zs z1)).toArray⟩ : ByteArray).data.toList = c :: (zs z0 ++ fixT N K ++ p ++ zs z1) := by simp
      rw [hda, hc, mnmx hK9, Int.toNat_natCast] at h
      dsimp only at h
      have hs := spec_zeros m N K z0 z1 hN
      dsimp only at hs
      rw [← hp] at hs
      rw [hs, hx] at h
      exact h
    have hzl := zs_len z0
    simp only [isohyetlaw04_DeciZeros.j2]
    by_cases h : K = 0 ∧ 0 < z1
    · rw [if_pos (decide_eq_true h), size_mk, if_pos (by rw [List.length_append]; omega), b46, ba_app]
      exact main [46] (by rw [if_pos h])
    · rw [if_neg (by rw [decide_eq_false h]; decide)]
      have := main [] (by rw [if_neg h])
      rw [List.append_nil] at this
      exact this
theorem DeciZeros_f {a0 a1 a b : Int} {k : Nat} (ha : 0 ≤ a) (hb : 0 ≤ b) (hk : 70001 ≤ k) : isohyetlaw04_DeciZeros.f k a0 a1 a b = some true := by
  obtain ⟨K, hK, hK9⟩ : ∃ K : Nat, mn (mx a1 0) 9 = (K : Int) ∧ K ≤ 9 := by
    refine ⟨(mn (mx a1 0) 9).toNat, ?_, ?_⟩ <;> unfold mn mx <;> split <;> split <;> omega
  obtain ⟨n, hn, hn0, hn1⟩ : ∃ n : Int, mn (mx a0 (-2147483648)) 2147483648 = n ∧ -2147483648 ≤ n ∧ n ≤ 2147483648 := by
    refine ⟨_, rfl, ?_, ?_⟩ <;> unfold mn mx <;> split <;> split <;> omega
  have hnv : nv (zb n) n.natAbs = n := nv_zb n
  unfold isohyetlaw04_DeciZeros.f
  rw [fit_z (by omega), Option.bind_some, if_pos rfl, hK, hn, text_f (by omega) (by omega) hK9 (by omega), Option.bind_some]
  by_cases h : n < 0
  · have hz : fixZ n K = 45 :: fixT n.natAbs K := by unfold fixZ; rw [if_pos h]
    have hzb : zb n = true := decide_eq_true h
    rw [hzb] at hnv
    have ex : (⟨(45 :: fixT n.natAbs K).toArray⟩ : ByteArray).extract 1 (45 :: fixT n.natAbs K).length = ⟨(fixT n.natAbs K).toArray⟩ := by
      apply ba_mk
      have := Lib.extract_to_end (⟨(45 :: fixT n.natAbs K).toArray⟩ : ByteArray) 1
      rw [size_mk] at this
      rw [this]
      rfl
    rw [if_pos h, hz, size_mk, if_pos (by simp; omega), ex]
    exact z_main true 45 (fun _ => rfl) hnv (by omega) hK9 ha hb (by omega)
  · have hz : fixZ n K = fixT n.natAbs K := by unfold fixZ; rw [if_neg h]
    have hzb : zb n = false := decide_eq_false h
    rw [hzb] at hnv
    rw [if_neg h, hz]
    exact z_main false 43 (fun _ => rfl) hnv (by omega) hK9 ha hb (by omega)
end Go.Proofs.YtpdgjhaimfpacaaDoor.Mg
namespace Go.Proofs.YtpdgjhaimfpacaaDoor.Pure
open Go.Proofs.YtpdgjhaimfpacaaDoor.M
theorem DeciZeros : ∀ (a0 a1 a b : Int), (Lit.int .i64 a0).wf = true → (Lit.int .i64 a1).wf = true → (Lit.int .u8 a).wf = true → (Lit.int .u8 b).wf = true → ∃ k, isohyetlaw04_DeciZeros.f k a0 a1 a b = some true := fun _ _ _ _ _ _ wa wb => by
  have ha := Go.bounds_u8 wa
  have hb := Go.bounds_u8 wb
  exact ⟨70001, Mg.DeciZeros_f ha.1 hb.1 (Nat.le_refl _)⟩
end Go.Proofs.YtpdgjhaimfpacaaDoor.Pure
