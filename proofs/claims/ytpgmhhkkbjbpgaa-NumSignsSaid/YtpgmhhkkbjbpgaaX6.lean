/- mag.Div, mag.Gcd over lists: what they come to as numbers. mag.Div over lists: quotient and rest. -/
import Derived.Test.YtpgmhhkkbjbpgaaX5
import Derived.Test.YtpgmhhkkbjbpgaaX2
import Derived.Test.YtpgmhhkkbjbpgaaA5
namespace Go.Proofs.Ytpgmhhkkbjbpgaa.Mg
open Go.RowKit Go.Proofs.YtpgmhhkkbjbpgaaW.PrintWords Go.Proofs.YtpgmhhkkbjbpgaaW.PrintMore Go.Proofs.Ytpgmhhkkbjbpgaa.MB Go.Proofs.Ytpgmhhkkbjbpgaa.M Go.Proofs.Ytpgmhhkkbjbpgaa.MD
set_option linter.unusedVariables false
set_option linter.unusedSimpArgs false

theorem win_val (u : List Int) (j N : Nat) (h : j ≤ N) (hN : N ≤ u.length) : val (u.take N) = val (u.take j) + B ^ j * val ((u.take N).drop j) := by
  have e := val_take_drop (u.take N) j (by rw [List.length_take]; omega)
  rw [List.take_take, Nat.min_eq_left h] at e
  exact e
theorem win_drop (u : List Int) (j N : Nat) (h : j ≤ N) (hN : N ≤ u.length) : val (u.drop j) = val ((u.take N).drop j) + B ^ (N - j) * val (u.drop N) := by
  have e := val_take_drop (u.drop j) (N - j) (by rw [List.length_drop]; omega)
  rw [List.take_drop, List.drop_drop, show j + (N - j) = N from by omega] at e
  exact e
theorem cancel_take (P X T T' Z W bo : Nat) (hP : 0 < P) (h : (X + P * T') + P * Z = (X + P * T) + P * W * bo) : T' + Z = T + W * bo := by
  apply Nat.eq_of_mul_eq_mul_left hP
  grind
theorem cancel_give (P X T T' V W o : Nat) (hP : 0 < P) (h : (X + P * T') + P * W * o = (X + P * T) + P * V) : T' + W * o = T + V := by
  apply Nat.eq_of_mul_eq_mul_left hP
  grind
theorem round_no {T T' g V D R Z : Nat} (hT : Z + R = T) (hZ : Z = D * V) (hR : R < V) (h : T' + g * V = T) (h0 : D ≤ g) (h1 : g ≤ D + 1) : g = D ∧ T' = R := by
  rcases Nat.lt_or_ge D g with hc | hc
  · obtain rfl : g = D + 1 := by omega
    rw [Nat.succ_mul] at h
    omega
  · obtain rfl : g = D := by omega
    exact ⟨rfl, by omega⟩
theorem round_yes {T T' T2 g V D R Z W o : Nat} (hT : Z + R = T) (hZ : Z = D * V) (hR : R < V) (h : T' + g * V = T + W) (hT' : T' < W) (h0 : D ≤ g) (h1 : g ≤ D + 1) (h2 : T2 + W * o = T' + V) (ho : o ≤ 1) (hT2 : T2 < W) (hVW : V < W) : g = D + 1 ∧ T2 = R := by
  rcases Nat.lt_or_ge D g with hc | hc
  · obtain rfl : g = D + 1 := by omega
    rw [Nat.succ_mul] at h
    rcases Nat.lt_or_ge o 1 with hq | hq
    · obtain rfl : o = 0 := by omega
      omega
    · obtain rfl : o = 1 := by omega
      omega
  · obtain rfl : g = D := by omega
    omega
theorem wordsB_ok {l : List Int} (h : Ok l) : wordsB l = true := by
  unfold wordsB
  rw [List.all_eq_true]
  intro x hx
  have := h x hx
  simp only [decide_eq_true_eq]
  omega

/-- One round of the long division. -/
theorem round_f {k : Nat} {u q v : List Int} {j m : Nat} (hu : Ok u) (hv : Ok v) (hvl : v.length = m + 2) (hm : m ≤ LEN) (hnorm : 9223372036854775808 ≤ v.getD (m + 1) 0) (hul : u.length ≤ 17592186044416) (hql : q.length = u.length - (m + 2)) (hj : j < q.length)
    (hinv : val (u.drop (j + 1)) < val v) (hk : 30 ≤ k) :
    ∃ u', mag_round.f k u q v (j : Int) (v.length : Int) = some (u', q.set j ((val (u.drop j) / val v : Nat) : Int)) ∧ Ok u' ∧ u'.length = u.length ∧ u'.take j = u.take j ∧ val (u'.drop j) = val (u.drop j) % val v := by
  have hV0 : 0 < val v := by omega
  have hVlt := val_lt hv
  rw [hvl] at hVlt
  have hN : j + (m + 3) ≤ u.length := by omega
  have hz : val (u.drop (j + (m + 3))) = 0 := by
    have e := win_drop u (j + 1) (j + (m + 3)) (by omega) hN
    rw [show j + (m + 3) - (j + 1) = m + 2 from by omega] at e
    rcases Nat.eq_zero_or_pos (val (u.drop (j + (m + 3)))) with h | h
    · exact h
    · exfalso
      have := Nat.mul_le_mul_left (B ^ (m + 2)) h
      rw [Nat.mul_one] at this
      omega
  have hwin := win_drop u j (j + (m + 3)) (by omega) hN
  rw [hz, Nat.mul_zero, Nat.add_zero] at hwin
  have hlt : val (u.drop j) < val v * B := by
    have h1 := val_drop_cons u j (by omega)
    have h2 := hu.getD j
    have h3 : B * (val (u.drop (j + 1)) + 1) ≤ B * val v := Nat.mul_le_mul_left _ hinv
    rw [Nat.mul_comm (val v)]
    rw [Nat.mul_succ] at h3
    have h4 : (u.getD j 0).toNat < B := by unfold B; omega
    omega
  have htl : ((u.take (j + (m + 3))).drop j).length = m + 3 := by rw [List.length_drop, List.length_take]; omega
  have htok : Ok ((u.take (j + (m + 3))).drop j) := (hu.take _).drop _
  obtain ⟨g, hg, hg0, hg1, hgB⟩ := guess_f (k := k) htok hv hvl htl hm hnorm (by rw [← hwin]; exact hlt) hk
  rw [← hwin] at hg0 hg1
  have hdm := Nat.div_add_mod (val (u.drop j)) (val v)
  have hR := Nat.mod_lt (val (u.drop j)) hV0
  have hgb : (g : Int) < 18446744073709551616 := by unfold B at hgB; omega
  obtain ⟨t1, t2, t3, t4, t5, t6⟩ := takeF_val (g : Int) ⟨by omega, hgb⟩ v u j hv hu (by omega)
  rw [hvl, show j + (m + 2) + 1 = j + (m + 3) from by omega] at t1 t2
  rw [Int.toNat_natCast, win_val _ j (j + (m + 3)) (by omega) hN, win_val _ j (j + (m + 3)) (by omega) (by omega), t6, Nat.pow_add, ← hwin] at t1
  have t7 := cancel_take _ _ _ _ _ _ _ (Nat.pow_pos B_pos) t1
  have hW : B ^ (m + 2) ≤ B ^ (m + 3) := Nat.pow_le_pow_right B_pos (by omega)
  unfold mag_round.f
  rw [if_pos ⟨⟨by omega, by omega, by rw [Int.toNat_natCast]; omega, rfl, by omega, by omega⟩, wordsB_ok hv, wordsB_ok hu⟩, Int.toNat_natCast, hvl, show j + (m + 2 + 1) = j + (m + 3) from by omega, hg, Option.bind_some, if_pos ⟨⟨by omega, by omega⟩, wordsB_ok t3⟩]
  by_cases hbo : 0 < (takeF (g : Int) v u j).2
  · have e1 : (takeF (g : Int) v u j).2.toNat = 1 := by omega
    rw [e1, Nat.mul_one] at t7
    have hT' := val_lt ((t3.take (j + (m + 3))).drop j)
    rw [List.length_drop, List.length_take, show min (j + (m + 3)) (takeF (g : Int) v u j).1.length - j = m + 3 from by omega] at hT'
    obtain ⟨o, o1, o2, o3, o4, o5, o6⟩ := giveF_val v (takeF (g : Int) v u j).1 j hv t3 (by omega)
    rw [hvl, show j + (m + 2) + 1 = j + (m + 3) from by omega] at o2 o3
    rw [win_val _ j (j + (m + 3)) (by omega) (by omega), win_val _ j (j + (m + 3)) (by omega) (by omega), o6, Nat.pow_add] at o2
    have o7 := cancel_give _ _ _ _ _ _ _ (Nat.pow_pos B_pos) o2
    have hT2 := val_lt ((o4.take (j + (m + 3))).drop j)
    rw [List.length_drop, List.length_take, show min (j + (m + 3)) (giveF v (takeF (g : Int) v u j).1 j).length - j = m + 3 from by omega] at hT2
    obtain ⟨r1, r2⟩ := round_yes hdm (Nat.mul_comm _ _) hR t7 hT' hg0 hg1 o7 o1 hT2 (by omega)
    rw [if_pos hbo]
    refine ⟨_, ?_, o4, by omega, by rw [o6, t6], ?_⟩
    · have e9 : (g : Int) - 1 = ((val (u.drop j) / val v : Nat) : Int) := by rw [r1, Int.natCast_succ]; exact Int.add_sub_cancel _ _
      have e8 : 0 ≤ (g : Int) - 1 := by rw [e9]; exact Int.natCast_nonneg _
      rw [List.set_set, wu64 e8 (by omega), e9]
    · rw [win_drop _ j (j + (m + 3)) (by omega) (by omega), o3, t2, hz, Nat.mul_zero, Nat.add_zero]
      exact r2
  · have e1 : (takeF (g : Int) v u j).2.toNat = 0 := by omega
    rw [e1, Nat.mul_zero, Nat.add_zero] at t7
    obtain ⟨r1, r2⟩ := round_no hdm (Nat.mul_comm _ _) hR t7 hg0 hg1
    rw [if_neg hbo]
    refine ⟨_, ?_, t3, t4, t6, ?_⟩
    · rw [r1]
    · rw [win_drop _ j (j + (m + 3)) (by omega) (by omega), t2, hz, Nat.mul_zero, Nat.add_zero]
      exact r2

theorem loop_step {A Vu Xj Tj V P D S C : Nat} (h1 : Vu = Xj + P * Tj) (h2 : V * D + S = Tj) (hA : Vu + V * (P * B * C) = A) : (Xj + P * S) + V * (P * (D + B * C)) = A := by
  subst h1 h2
  generalize B = b at *
  grind
theorem Div_l0 {v : List Int} {m L A : Nat} {x8 : Int} (hv : Ok v) (hvl : v.length = m + 2) (hm : m + 2 ≤ LEN) (hnorm : 9223372036854775808 ≤ v.getD (m + 1) 0) (hL : L ≤ LEN + 1) : ∀ (J k : Nat) (u q : List Int), Ok u → Ok q → u.length = L → q.length = L - (m + 2) → m + 2 ≤ L → J ≤ q.length →
    val (u.drop J) < val v → J + 2 * L + 400 ≤ k → val u + val v * (B ^ J * val (q.drop J)) = A → mag_Div.l0 k x8 v u (v.length : Int) q ((J : Int) - 1) = some (ofNat (A / val v), ofNat (A % val v / 2 ^ clampN x8))
  | 0, k, u, q, hu, hq, hul, hql, hmL, hJ, hinv, hk, hA => by
    obtain ⟨k, rfl⟩ : ∃ n, k = n + 1 := ⟨k - 1, by omega⟩
    have hL' := hL
    unfold LEN at hL
    rw [List.drop_zero] at hinv
    rw [List.drop_zero, Nat.pow_zero, Nat.one_mul] at hA
    have hz : val (u.take (m + 2)) = val u := by
      have e := val_take_drop u (m + 2) (by omega)
      have hVlt := val_lt hv
      rw [hvl] at hVlt
      rcases Nat.eq_zero_or_pos (val (u.drop (m + 2))) with h | h
      · rw [h, Nat.mul_zero, Nat.add_zero] at e
        exact e.symm
      · exfalso
        have := Nat.mul_le_mul_left (B ^ (m + 2)) h
        rw [Nat.mul_one] at this
        omega
    obtain ⟨e1, e2⟩ := divmod_unique (n := A) (y := val v) (q := val q) (r := val u) hinv (by omega)
    simp only [mag_Div.l0]
    rw [if_neg (by omega), right_f (by omega) (by omega) hq, Option.bind_some, if_pos (by omega), if_pos (by omega), Int.toNat_natCast, hvl, right_f (by rw [List.length_take]; omega) (by rw [List.length_take]; omega) (hu.take _), Option.bind_some, hz]
    have h5 := length_ofNat_val (hu.take (m + 2))
    rw [hz, List.length_take, Nat.min_eq_left (by omega)] at h5
    rw [Down_f (Ok_ofNat _) (by omega) (by omega), Option.bind_some, val_ofNat, e1, e2]
  | J + 1, k, u, q, hu, hq, hul, hql, hmL, hJ, hinv, hk, hA => by
    obtain ⟨k, rfl⟩ : ∃ n, k = n + 1 := ⟨k - 1, by omega⟩
    have hL' := hL
    unfold LEN at hL
    have hV0 : 0 < val v := by omega
    obtain ⟨u', r1, r2, r3, r4, r5⟩ := round_f (k := k) (u := u) (q := q) (v := v) (j := J) hu hv hvl (by omega) hnorm (by omega) (by rw [hul]; exact hql) (by omega) hinv (by omega)
    have hR := Nat.mod_lt (val (u.drop J)) hV0
    have hdm := Nat.div_add_mod (val (u.drop J)) (val v)
    have hDB : val (u.drop J) / val v < B := by
      rw [Nat.div_lt_iff_lt_mul hV0, Nat.mul_comm]
      have h1 := val_drop_cons u J (by omega)
      have h2 := hu.getD J
      have h3 : B * (val (u.drop (J + 1)) + 1) ≤ B * val v := Nat.mul_le_mul_left _ hinv
      rw [Nat.mul_succ] at h3
      have h4 : (u.getD J 0).toNat < B := by unfold B; omega
      rw [Nat.mul_comm (val v)]
      omega
    simp only [mag_Div.l0]
    rw [show ((J + 1 : Nat) : Int) - 1 = (J : Int) from by omega, if_pos (by omega), r1, Option.bind_some]
    dsimp only
    rw [w64 (by omega) (by omega)]
    obtain ⟨D, hD⟩ : ∃ D, val (u.drop J) / val v = D := ⟨_, rfl⟩
    rw [hD] at hDB hdm ⊢
    refine Div_l0 hv hvl hm hnorm hL' J k u' (q.set J (D : Int)) r2 (hq.set _ ⟨by omega, by unfold B at hDB; omega⟩) (by omega) (by rw [List.length_set]; exact hql) hmL (by rw [List.length_set]; omega) (by rw [r5]; exact hR) (by omega) ?_
    have e1 := val_take_drop u' J (by omega)
    have e2 := val_take_drop u J (by omega)
    have e3 := val_drop_cons (q.set J (D : Int)) J (by rw [List.length_set]; omega)
    rw [show (q.set J (D : Int)).drop (J + 1) = q.drop (J + 1) from List.drop_set_of_lt (by omega)] at e3
    have e4 : (q.set J (D : Int)).getD J 0 = (D : Int) := by simp [List.getD_eq_getElem?_getD, show J < q.length from by omega]
    rw [e4, Int.toNat_natCast] at e3
    rw [e1, e3, r4, r5]
    rw [Nat.pow_succ] at hA
    exact loop_step e2 hdm hA

theorem val_replicate_put (ts : List Int) (n : Nat) (h : ts.length ≤ n) : val (ts ++ (List.replicate n (0 : Int)).drop ts.length) = val ts := by
  rw [val_append, List.drop_replicate, val_replicate, Nat.mul_zero, Nat.add_zero]
end Go.Proofs.Ytpgmhhkkbjbpgaa.Mg
namespace Go.Proofs.Ytpgmhhkkbjbpgaa.Mg
open Go.RowKit Go.Proofs.YtpgmhhkkbjbpgaaW.PrintWords Go.Proofs.YtpgmhhkkbjbpgaaW.PrintMore Go.Proofs.Ytpgmhhkkbjbpgaa.MB Go.Proofs.Ytpgmhhkkbjbpgaa.M Go.Proofs.Ytpgmhhkkbjbpgaa.MD
set_option linter.unusedVariables false
set_option linter.unusedSimpArgs false

theorem B_pow (n : Nat) : B ^ n = 2 ^ (64 * n) := by rw [B_two, ← Nat.pow_mul]
theorem pow_lt_of {a b : Nat} (h : 2 ^ a < 2 ^ b) : a < b := (Nat.pow_lt_pow_iff_right (by decide)).1 h
theorem shifted {b L : Nat} (hb : b ≠ 0) (hL : (ofNat b).length = L + 1) : bitsN b ≤ 64 * (L + 1) ∧ 64 * (L + 1) - bitsN b < 64 ∧ 64 * L < bitsN b := by
  have h1 := lt_pow_length_ofNat b
  rw [hL, B_pow] at h1
  have h2 := pow_length_ofNat_le hb
  rw [hL, Nat.add_sub_cancel, B_pow] at h2
  have h3 := bitsN_le h1
  have h4 : 64 * L < bitsN b := pow_lt_of (Nat.lt_of_le_of_lt h2 (bitsN_lt b))
  omega
theorem shifted_val {b L K : Nat} (hb : b ≠ 0) (hL : (ofNat b).length = L + 1) (hK : K = 64 * (L + 1) - bitsN b) : 9223372036854775808 * B ^ L ≤ b * 2 ^ K ∧ b * 2 ^ K < B ^ (L + 1) := by
  obtain ⟨h1, h2, h3⟩ := shifted hb hL
  have e : 9223372036854775808 * B ^ L = 2 ^ (bitsN b - 1) * 2 ^ K := by
    rw [B_pow, show (9223372036854775808 : Nat) = 2 ^ 63 from by decide, ← Nat.pow_add, ← Nat.pow_add]
    congr 1
    omega
  have e2 : B ^ (L + 1) = 2 ^ bitsN b * 2 ^ K := by
    rw [B_pow, ← Nat.pow_add]
    congr 1
    omega
  rw [e, e2]
  exact ⟨Nat.mul_le_mul_right _ (bitsN_ge hb), Nat.mul_lt_mul_of_pos_right (bitsN_lt b) (Nat.pow_pos (by decide))⟩
theorem shifted_len {V L : Nat} (h1 : 9223372036854775808 * B ^ L ≤ V) (h2 : V < B ^ (L + 1)) : (ofNat V).length = L + 1 ∧ 9223372036854775808 ≤ (ofNat V).getD L 0 := by
  have hP : 0 < B ^ L := Nat.pow_pos B_pos
  have h3 := length_ofNat_le h2
  have h4 : L + 1 ≤ (ofNat V).length := by
    rcases Nat.lt_or_ge (ofNat V).length (L + 1) with h | h
    · exfalso
      have h5 := lt_pow_length_ofNat V
      have h6 : B ^ (ofNat V).length ≤ B ^ L := Nat.pow_le_pow_right B_pos (by omega)
      omega
    · exact h
  have h5 : (ofNat V).length = L + 1 := by omega
  refine ⟨h5, ?_⟩
  have h6 := val_take_succ (ofNat V) L
  rw [List.take_of_length_le (by omega), val_ofNat] at h6
  have h7 := val_lt ((Ok_ofNat V).take L)
  rw [List.length_take, h5, Nat.min_eq_left (by omega)] at h7
  have h8 := (Ok_ofNat V).getD L
  rcases Nat.lt_or_ge ((ofNat V).getD L 0).toNat 9223372036854775808 with h | h
  · exfalso
    have h9 : (((ofNat V).getD L 0).toNat + 1) * B ^ L ≤ 9223372036854775808 * B ^ L := Nat.mul_le_mul_right _ h
    rw [Nat.succ_mul, Nat.mul_comm _ (B ^ L)] at h9
    omega
  · omega

theorem Div_alen {a K : Nat} (hK : K < 64) : a * 2 ^ K < B ^ (ofNat a).length * 9223372036854775808 := by
  have h1 : 2 ^ K ≤ 2 ^ 63 := Nat.pow_le_pow_right (by decide) (by omega)
  rw [show (9223372036854775808 : Nat) = 2 ^ 63 from by decide]
  exact Nat.mul_lt_mul_of_lt_of_le (lt_pow_length_ofNat a) h1 (Nat.pow_pos (show 0 < 2 by decide))
theorem Div_hlen {a K : Nat} (hK : K < 64) : (ofNat (a * 2 ^ K)).length ≤ (ofNat a).length + 1 := by
  refine length_ofNat_le (Nat.lt_of_lt_of_le (Div_alen hK) ?_)
  rw [Nat.pow_succ]
  exact Nat.mul_le_mul_left _ (by decide)
theorem Div_vlen {b L K : Nat} (hb : b ≠ 0) (hL : (ofNat b).length = L + 2) (hK : K = 64 * (L + 2) - bitsN b) : (ofNat (b * 2 ^ K)).length = L + 2 ∧ 9223372036854775808 ≤ (ofNat (b * 2 ^ K)).getD (L + 1) 0 := by
  obtain ⟨s4, s5⟩ := shifted_val (L := L + 1) hb hL hK
  exact shifted_len s4 s5
theorem Div_hinv {a b L K J : Nat} (hb : b ≠ 0) (hL : (ofNat b).length = L + 2) (hK : K = 64 * (L + 2) - bitsN b) (hJ : J + (L + 1) = (ofNat a).length) (us : List Int) (hus : val us = a * 2 ^ K) (hlen : J ≤ us.length) : val (us.drop J) < b * 2 ^ K := by
  obtain ⟨s4, s5⟩ := shifted_val (L := L + 1) hb hL hK
  obtain ⟨s1, s2, s3⟩ := shifted (L := L + 1) hb hL
  have hA := Div_alen (a := a) (K := K) (by rw [hK]; exact s2)
  have e1 := val_take_drop us J hlen
  have e3 : B ^ J * (9223372036854775808 * B ^ (L + 1)) ≤ B ^ J * (b * 2 ^ K) := Nat.mul_le_mul_left _ s4
  have e4 : B ^ (ofNat a).length * 9223372036854775808 = B ^ J * (9223372036854775808 * B ^ (L + 1)) := by
    rw [← hJ, Nat.pow_add, Nat.mul_assoc, Nat.mul_comm (B ^ (L + 1))]
  refine Nat.lt_of_mul_lt_mul_left (a := B ^ J) ?_
  have e5 : B ^ J * val (us.drop J) ≤ val us := by rw [e1]; exact Nat.le_add_left _ _
  rw [hus] at e5
  exact Nat.lt_of_le_of_lt e5 (Nat.lt_of_lt_of_le hA (by rw [e4]; exact e3))

theorem wr_K {n L K m : Nat} (hn : n = L + 2) (hL : L + 2 ≤ 1099511627776) (h1 : m ≤ 64 * (L + 2)) (hK : K = 64 * (L + 2) - m) : wrap64 ((wrap64 (64 * (n : Int))) - (m : Int)) = ((K : Nat) : Int) := by
  subst hn
  rw [w64 (x := 64 * ((L + 2 : Nat) : Int)) (by omega) (by omega), w64 (by omega) (by omega)]
  omega
theorem wr_succ {n : Nat} (h : n ≤ 1099511627776) : wrap64 ((n : Int) + 1) = ((n + 1 : Nat) : Int) := by rw [w64 (by omega) (by omega)]; omega
theorem wr_sub {n m : Nat} (h : n ≤ 1099511627777) (hm : m ≤ n) : wrap64 ((n : Int) - (m : Int)) = ((n - m : Nat) : Int) := by rw [w64 (by omega) (by omega)]; omega
theorem wr_pred {n : Nat} (h : n ≤ 1099511627777) : wrap64 ((n : Int) - 1) = (n : Int) - 1 := w64 (by omega) (by omega)

theorem Div_long {a b k : Nat} (hb : b ≠ 0) (hab : b ≤ a) {L : Nat} (hL : (ofNat b).length = L + 2) (hla : (ofNat a).length ≤ LEN) (hk : 4 * (ofNat a).length + 800 ≤ k) : mag_Div.j0 k (ofNat a) (ofNat b) false = some (ofNat (a / b), ofNat (a % b)) := by
  obtain ⟨k, rfl⟩ : ∃ n, k = n + 1 := ⟨k - 1, by omega⟩
  have hLa : (ofNat b).length ≤ (ofNat a).length := by
    rcases Nat.lt_or_ge (ofNat a).length (ofNat b).length with h | h
    · have := ofNat_length_lt h
      omega
    · exact h
  have hlaU := hla
  unfold LEN at hlaU
  obtain ⟨s1, s2, s3⟩ := shifted (L := L + 1) hb hL
  obtain ⟨K, hK⟩ : ∃ K, K = 64 * (L + 2) - bitsN b := ⟨_, rfl⟩
  have hK64 : K < 64 := by omega
  obtain ⟨s6, s7⟩ := Div_vlen hb hL hK
  have hcl : clampN ((K : Nat) : Int) = K := by unfold clampN; omega
  have hlenA := Div_hlen (a := a) hK64
  have hput : mag_put.f (List.replicate ((ofNat a).length + 1) (0 : Int)) (ofNat (a * 2 ^ K)) = some (ofNat (a * 2 ^ K) ++ (List.replicate ((ofNat a).length + 1) (0 : Int)).drop (ofNat (a * 2 ^ K)).length) := by
    unfold mag_put.f
    rw [if_pos (by rw [List.length_replicate]; exact hlenA)]
  have c1 : (ofNat b).length ≤ LEN := by omega
  have c2 : (ofNat b).length < k := by omega
  have c3 : 2 * (ofNat b).length + 300 ≤ k := by omega
  have c4 : 2 * (ofNat a).length + 300 ≤ k := by omega
  have c5 : (ofNat a).length + 1 ≤ 35184372088832 := by omega
  have c6 : (ofNat a).length + 1 - (L + 2) ≤ 35184372088832 := by omega
  have c7 : ¬ (((L + 2 : Nat) : Int) = 1) := by omega
  have z0 : ∀ n : Nat, (0 : Int) ≤ (n : Int) := fun n => Int.natCast_nonneg n
  have hlus : (ofNat (a * 2 ^ K) ++ (List.replicate ((ofNat a).length + 1) (0 : Int)).drop (ofNat (a * 2 ^ K)).length).length = (ofNat a).length + 1 := by
    rw [List.length_append, List.length_drop, List.length_replicate]; omega
  have d1 : L + 2 ≤ LEN := by omega
  have d2 : (ofNat a).length + 1 ≤ LEN + 1 := by omega
  have d3 : L + 2 ≤ (ofNat a).length + 1 := by omega
  have d4 : (ofNat a).length + 1 - (L + 2) + 2 * ((ofNat a).length + 1) + 400 ≤ k := by omega
  have d5 : (ofNat a).length + 1 - (L + 2) ≤ (ofNat a).length + 1 := by omega
  have d6 : (ofNat a).length + 1 - (L + 2) + (L + 1) = (ofNat a).length := by omega
  have hus := val_replicate_put _ _ hlenA
  rw [val_ofNat] at hus
  have hinv := Div_hinv (a := a) (J := (ofNat a).length + 1 - (L + 2)) hb hL hK d6 _ hus (by rw [hlus]; exact d5)
  have eK := wr_K hL (by omega) s1 hK
  have eLa := wr_succ hlaU
  have eq := wr_sub (n := (ofNat a).length + 1) (m := L + 2) (by clear eK eLa; omega) d3
  have eq2 := wr_pred (n := (ofNat a).length + 1 - (L + 2)) (by clear eK eLa eq; omega)
  have hl0 := Div_l0 (v := ofNat (b * 2 ^ K)) (m := L) (L := (ofNat a).length + 1) (A := a * 2 ^ K) (x8 := ((K : Nat) : Int)) (Ok_ofNat _) s6 d1 s7 d2 ((ofNat a).length + 1 - (L + 2)) k
    (ofNat (a * 2 ^ K) ++ (List.replicate ((ofNat a).length + 1) (0 : Int)).drop (ofNat (a * 2 ^ K)).length) (List.replicate ((ofNat a).length + 1 - (L + 2)) (0 : Int))
    ((Ok_ofNat _).append ((Ok.replicate _).drop _)) (Ok.replicate _) hlus (by rw [List.length_replicate]) d3 (by rw [List.length_replicate]; exact Nat.le_refl _)
    (by rw [val_ofNat]; exact hinv) d4 (by rw [hus, List.drop_replicate, val_replicate, Nat.mul_zero, Nat.mul_zero, Nat.add_zero])
  simp only [mag_Div.j0]
  rw [if_neg (by decide), if_neg (by rw [hL]; exact c7), Len_f (Ok_ofNat b) c1 c2, Option.bind_some, val_ofNat]
  simp only [eK, eLa]
  rw [Up_f (Ok_ofNat b) c1 c3, Option.bind_some, val_ofNat, hcl, if_pos (z0 _), Int.toNat_natCast ((ofNat a).length + 1), if_pos c5, Option.bind_some, Up_f (Ok_ofNat a) hla c4, Option.bind_some, val_ofNat, hcl, hput, Option.bind_some, List.length_replicate, s6]
  simp only [eq]
  rw [if_pos (z0 _), Int.toNat_natCast ((ofNat a).length + 1 - (L + 2)), if_pos c6, Option.bind_some, List.length_replicate]
  simp only [eq2]
  rw [s6] at hl0
  rw [hl0, val_ofNat, hcl, Nat.mul_div_mul_right _ _ (Nat.pow_pos (by decide)), Nat.mul_mod_mul_right, Nat.mul_div_cancel _ (Nat.pow_pos (by decide))]

theorem Div_f {a b : List Int} {k : Nat} (ha : Ok a) (hb : Ok b) (hla : a.length ≤ LEN) (hlb : b.length ≤ LEN) (hk : 4 * (a.length + b.length) + 800 ≤ k) : mag_Div.f k a b = some (ofNat (val a / val b), ofNat (val a % val b)) := by
  have h1 := length_ofNat_val ha
  have h2 := length_ofNat_val hb
  have hlaU := hla
  have hlbU := hlb
  unfold LEN at hlaU hlbU
  have small : ∀ x, mag_Div.j0 k (ofNat (val a)) x true = some (ofNat 0, ofNat (val a)) := by
    intro x
    obtain ⟨k, rfl⟩ : ∃ n, k = n + 1 := ⟨k - 1, by omega⟩
    simp only [mag_Div.j0]
    rw [if_pos trivial, if_pos (by simp only [List.length_nil]; omega), List.nil_append, ofNat_zero]
  unfold mag_Div.f
  rw [right_f (by omega) (by omega) ha, Option.bind_some, right_f (by omega) (by omega) hb, Option.bind_some]
  by_cases hb0 : val b = 0
  · rw [hb0, ofNat_zero, List.length_nil, if_pos (by omega), small, Nat.div_zero, Nat.mod_zero]
  · have hl0 : (ofNat (val b)).length ≠ 0 := fun h => hb0 (ofNat_eq_nil.1 (List.eq_nil_of_length_eq_zero h))
    rw [if_neg (by omega), Cmp_f (Ok_ofNat _) (Ok_ofNat _) (by omega) (by omega) (by omega), Option.bind_some, val_ofNat, val_ofNat]
    by_cases hlt : val a < val b
    · have e : decide (cmpN (val a) (val b) < 0) = true := by unfold cmpN; rw [if_pos hlt]; decide
      rw [e, small, Nat.div_eq_of_lt hlt, Nat.mod_eq_of_lt hlt]
    · have e : decide (cmpN (val a) (val b) < 0) = false := by
        unfold cmpN
        rw [if_neg hlt]
        split <;> decide
      rw [e]
      by_cases hl1 : (ofNat (val b)).length = 1
      · obtain ⟨k, rfl⟩ : ∃ n, k = n + 1 := ⟨k - 1, by omega⟩
        have hbB := lt_pow_length_ofNat (val b)
        rw [hl1, Nat.pow_one] at hbB
        have hbB' : val b < 18446744073709551616 := hbB
        have e3 : rd (ofNat (val b)) 0 = ((val b : Nat) : Int) := by rw [ofNat_small hb0 hbB]; rfl
        simp only [mag_Div.j0]
        rw [if_neg (by decide), hl1, if_pos (by omega), if_pos (by omega), e3, word_f (Ok_ofNat _) (by omega) (by omega) hbB' (by omega), Option.bind_some]
        dsimp only
        rw [val_ofNat, Of_f (Int.natCast_nonneg _) (by have := Nat.mod_lt (val a) (show 0 < val b by omega); generalize val a % val b = r at *; omega) (by omega), Option.bind_some, Int.toNat_natCast]
      · obtain ⟨L, hL⟩ : ∃ L, (ofNat (val b)).length = L + 2 := ⟨(ofNat (val b)).length - 2, by omega⟩
        exact Div_long hb0 (by omega) hL (by omega) (by omega)
end Go.Proofs.Ytpgmhhkkbjbpgaa.Mg
