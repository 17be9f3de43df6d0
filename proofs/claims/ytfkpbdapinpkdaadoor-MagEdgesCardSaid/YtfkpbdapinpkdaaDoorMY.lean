/- mag.Div, mag.Gcd over lists: what they come to as numbers. -/
import Derived.Test.YtfkpbdapinpkdaaDoorMX
import Derived.Test.YtfkpbdapinpkdaaDoorMXb
import Derived.Test.YtfkpbdapinpkdaaDoorMR
import Derived.Test.YtfkpbdapinpkdaaDoorMS
import Derived.Test.YtfkpbdapinpkdaaDoorA5
namespace Go.Proofs.YtfkpbdapinpkdaaDoor.Mg
open Go.RowKit Go.Proofs.YtfkpbdapinpkdaaDoorW.PrintWords Go.Proofs.YtfkpbdapinpkdaaDoorW.PrintMore Go.Proofs.YtfkpbdapinpkdaaDoor.MB Go.Proofs.YtfkpbdapinpkdaaDoor.M Go.Proofs.YtfkpbdapinpkdaaDoor.MD
set_option linter.unusedVariables false
set_option linter.unusedSimpArgs false

theorem win_val (u : List Int) (j N : Nat) (h : j ≤ N) (hN : N ≤ u.length) : val (u.take N) = val (u.take j) + B ^ j * val ((u.take N).drop j) := by
  have e := val_take_drop (u.take N) j (by rw [List.length_take]; omega)
  rw [List.take_take, Nat.min_eq_left h] at e
  exact e
theorem win_drop (u : List Int) (j N : Nat) (h : j ≤ N) (hN : N ≤ u.length) : val (u.drop j) = val ((u.take N).drop j) + B ^ (N - j) * val (u.drop N) := by
  have e := val_take_drop (u.drop j) (N - j) (by rw [List.length_drop]; omega)
  rw [List.take_drop, List.drop_drop, show j + (N - j) = N from by omega] at e
  exact e
theorem cancel_take (P X T T' Z W bo : Nat) (hP : 0 < P) (h : (X + P * T') + P * Z = (X + P * T) + P * W * bo) : T' + Z = T + W * bo := by
  apply Nat.eq_of_mul_eq_mul_left hP
  grind
theorem cancel_give (P X T T' V W o : Nat) (hP : 0 < P) (h : (X + P * T') + P * W * o = (X + P * T) + P * V) : T' + W * o = T + V := by
  apply Nat.eq_of_mul_eq_mul_left hP
  grind
theorem round_no {T T' g V D R Z : Nat} (hT : Z + R = T) (hZ : Z = D * V) (hR : R < V) (h : T' + g * V = T) (h0 : D ≤ g) (h1 : g ≤ D + 1) : g = D ∧ T' = R := by
  rcases Nat.lt_or_ge D g with hc | hc
  · obtain rfl : g = D + 1 := by omega
    rw [Nat.succ_mul] at h
    omega
  · obtain rfl : g = D := by omega
    exact ⟨rfl, by omega⟩
theorem round_yes {T T' T2 g V D R Z W o : Nat} (hT : Z + R = T) (hZ : Z = D * V) (hR : R < V) (h : T' + g * V = T + W) (hT' : T' < W) (h0 : D ≤ g) (h1 : g ≤ D + 1) (h2 : T2 + W * o = T' + V) (ho : o ≤ 1) (hT2 : T2 < W) (hVW : V < W) : g = D + 1 ∧ T2 = R := by
  rcases Nat.lt_or_ge D g with hc | hc
  · obtain rfl : g = D + 1 := by omega
    rw [Nat.succ_mul] at h
    rcases Nat.lt_or_ge o 1 with hq | hq
    · obtain rfl : o = 0 := by omega
      omega
    · obtain rfl : o = 1 := by omega
      omega
  · obtain rfl : g = D := by omega
    omega
theorem wordsB_ok {l : List Int} (h : Ok l) : wordsB l = true := by
  unfold wordsB
  rw [List.all_eq_true]
  intro x hx
  have := h x hx
  simp only [decide_eq_true_eq]
  omega

/-- One round of the long division. -/
theorem round_f {k : Nat} {u q v : List Int} {j m : Nat} (hu : Ok u) (hv : Ok v) (hvl : v.length = m + 2) (hm : m ≤ LEN) (hnorm : 9223372036854775808 ≤ v.getD (m + 1) 0) (hul : u.length ≤ 17592186044416) (hql : q.length = u.length - (m + 2)) (hj : j < q.length)
    (hinv : val (u.drop (j + 1)) < val v) (hk : 30 ≤ k) :
    ∃ u', mag_round.f k u q v (j : Int) (v.length : Int) = some (u', q.set j ((val (u.drop j) / val v : Nat) : Int)) ∧ Ok u' ∧ u'.length = u.length ∧ u'.take j = u.take j ∧ val (u'.drop j) = val (u.drop j) % val v := by
  have hV0 : 0 < val v := by omega
  have hVlt := val_lt hv
  rw [hvl] at hVlt
  have hN : j + (m + 3) ≤ u.length := by omega
  have hz : val (u.drop (j + (m + 3))) = 0 := by
    have e := win_drop u (j + 1) (j + (m + 3)) (by omega) hN
    rw [show j + (m + 3) - (j + 1) = m + 2 from by omega] at e
    rcases Nat.eq_zero_or_pos (val (u.drop (j + (m + 3)))) with h | h
    · exact h
    · exfalso
      have := Nat.mul_le_mul_left (B ^ (m + 2)) h
      rw [Nat.mul_one] at this
      omega
  have hwin := win_drop u j (j + (m + 3)) (by omega) hN
  rw [hz, Nat.mul_zero, Nat.add_zero] at hwin
  have hlt : val (u.drop j) < val v * B := by
    have h1 := val_drop_cons u j (by omega)
    have h2 := hu.getD j
    have h3 : B * (val (u.drop (j + 1)) + 1) ≤ B * val v := Nat.mul_le_mul_left _ hinv
    rw [Nat.mul_comm (val v)]
    rw [Nat.mul_succ] at h3
    have h4 : (u.getD j 0).toNat < B := by unfold B; omega
    omega
  have htl : ((u.take (j + (m + 3))).drop j).length = m + 3 := by rw [List.length_drop, List.length_take]; omega
  have htok : Ok ((u.take (j + (m + 3))).drop j) := (hu.take _).drop _
  obtain ⟨g, hg, hg0, hg1, hgB⟩ := guess_f (k := k) htok hv hvl htl hm hnorm (by rw [← hwin]; exact hlt) hk
  rw [← hwin] at hg0 hg1
  have hdm := Nat.div_add_mod (val (u.drop j)) (val v)
  have hR := Nat.mod_lt (val (u.drop j)) hV0
  have hgb : (g : Int) < 18446744073709551616 := by unfold B at hgB; omega
  obtain ⟨t1, t2, t3, t4, t5, t6⟩ := takeF_val (g : Int) ⟨by omega, hgb⟩ v u j hv hu (by omega)
  rw [hvl, show j + (m + 2) + 1 = j + (m + 3) from by omega] at t1 t2
  rw [Int.toNat_natCast, win_val _ j (j + (m + 3)) (by omega) hN, win_val _ j (j + (m + 3)) (by omega) (by omega), t6, Nat.pow_add, ← hwin] at t1
  have t7 := cancel_take _ _ _ _ _ _ _ (Nat.pow_pos B_pos) t1
  have hW : B ^ (m + 2) ≤ B ^ (m + 3) := Nat.pow_le_pow_right B_pos (by omega)
  unfold mag_round.f
  rw [if_pos ⟨⟨by omega, by omega, by rw [Int.toNat_natCast]; omega, rfl, by omega, by omega⟩, wordsB_ok hv, wordsB_ok hu⟩, Int.toNat_natCast, hvl, show j + (m + 2 + 1) = j + (m + 3) from by omega, hg, Option.bind_some, if_pos ⟨⟨by omega, by omega⟩, wordsB_ok t3⟩]
  by_cases hbo : 0 < (takeF (g : Int) v u j).2
  · have e1 : (takeF (g : Int) v u j).2.toNat = 1 := by omega
    rw [e1, Nat.mul_one] at t7
    have hT' := val_lt ((t3.take (j + (m + 3))).drop j)
    rw [List.length_drop, List.length_take, show min (j + (m + 3)) (takeF (g : Int) v u j).1.length - j = m + 3 from by omega] at hT'
    obtain ⟨o, o1, o2, o3, o4, o5, o6⟩ := giveF_val v (takeF (g : Int) v u j).1 j hv t3 (by omega)
    rw [hvl, show j + (m + 2) + 1 = j + (m + 3) from by omega] at o2 o3
    rw [win_val _ j (j + (m + 3)) (by omega) (by omega), win_val _ j (j + (m + 3)) (by omega) (by omega), o6, Nat.pow_add] at o2
    have o7 := cancel_give _ _ _ _ _ _ _ (Nat.pow_pos B_pos) o2
    have hT2 := val_lt ((o4.take (j + (m + 3))).drop j)
    rw [List.length_drop, List.length_take, show min (j + (m + 3)) (giveF v (takeF (g : Int) v u j).1 j).length - j = m + 3 from by omega] at hT2
    obtain ⟨r1, r2⟩ := round_yes hdm (Nat.mul_comm _ _) hR t7 hT' hg0 hg1 o7 o1 hT2 (by omega)
    rw [if_pos hbo]
    refine ⟨_, ?_, o4, by omega, by rw [o6, t6], ?_⟩
    · have e9 : (g : Int) - 1 = ((val (u.drop j) / val v : Nat) : Int) := by rw [r1, Int.natCast_succ]; exact Int.add_sub_cancel _ _
      have e8 : 0 ≤ (g : Int) - 1 := by rw [e9]; exact Int.natCast_nonneg _
      rw [List.set_set, wu64 e8 (by omega), e9]
    · rw [win_drop _ j (j + (m + 3)) (by omega) (by omega), o3, t2, hz, Nat.mul_zero, Nat.add_zero]
      exact r2
  · have e1 : (takeF (g : Int) v u j).2.toNat = 0 := by omega
    rw [e1, Nat.mul_zero, Nat.add_zero] at t7
    obtain ⟨r1, r2⟩ := round_no hdm (Nat.mul_comm _ _) hR t7 hg0 hg1
    rw [if_neg hbo]
    refine ⟨_, ?_, t3, t4, t6, ?_⟩
    · rw [r1]
    · rw [win_drop _ j (j + (m + 3)) (by omega) (by omega), t2, hz, Nat.mul_zero, Nat.add_zero]
      exact r2

theorem loop_step {A Vu Xj Tj V P D S C : Nat} (h1 : Vu = Xj + P * Tj) (h2 : V * D + S = Tj) (hA : Vu + V * (P * B * C) = A) : (Xj + P * S) + V * (P * (D + B * C)) = A := by
  subst h1 h2
  generalize B = b at *
  grind
theorem Div_l0 {v : List Int} {m L A : Nat} {x8 : Int} (hv : Ok v) (hvl : v.length = m + 2) (hm : m + 2 ≤ LEN) (hnorm : 9223372036854775808 ≤ v.getD (m + 1) 0) (hL : L ≤ LEN + 1) : ∀ (J k : Nat) (u q : List Int), Ok u → Ok q → u.length = L → q.length = L - (m + 2) → m + 2 ≤ L → J ≤ q.length →
    val (u.drop J) < val v → J + 2 * L + 400 ≤ k → val u + val v * (B ^ J * val (q.drop J)) = A → mag_Div.l0 k x8 v u (v.length : Int) q ((J : Int) - 1) = some (ofNat (A / val v), ofNat (A % val v / 2 ^ clampN x8))
  | 0, k, u, q, hu, hq, hul, hql, hmL, hJ, hinv, hk, hA => by
    obtain ⟨k, rfl⟩ : ∃ n, k = n + 1 := ⟨k - 1, by omega⟩
    have hL' := hL
    unfold LEN at hL
    rw [List.drop_zero] at hinv
    rw [List.drop_zero, Nat.pow_zero, Nat.one_mul] at hA
    have hz : val (u.take (m + 2)) = val u := by
      have e := val_take_drop u (m + 2) (by omega)
      have hVlt := val_lt hv
      rw [hvl] at hVlt
      rcases Nat.eq_zero_or_pos (val (u.drop (m + 2))) with h | h
      · rw [h, Nat.mul_zero, Nat.add_zero] at e
        exact e.symm
      · exfalso
        have := Nat.mul_le_mul_left (B ^ (m + 2)) h
        rw [Nat.mul_one] at this
        omega
    obtain ⟨e1, e2⟩ := divmod_unique (n := A) (y := val v) (q := val q) (r := val u) hinv (by omega)
    simp only [mag_Div.l0]
    rw [if_neg (by omega), right_f (by omega) (by omega) hq, Option.bind_some, if_pos (by omega), if_pos (by omega), Int.toNat_natCast, hvl, right_f (by rw [List.length_take]; omega) (by rw [List.length_take]; omega) (hu.take _), Option.bind_some, hz]
    have h5 := length_ofNat_val (hu.take (m + 2))
    rw [hz, List.length_take, Nat.min_eq_left (by omega)] at h5
    rw [Down_f (Ok_ofNat _) (by omega) (by omega), Option.bind_some, val_ofNat, e1, e2]
  | J + 1, k, u, q, hu, hq, hul, hql, hmL, hJ, hinv, hk, hA => by
    obtain ⟨k, rfl⟩ : ∃ n, k = n + 1 := ⟨k - 1, by omega⟩
    have hL' := hL
    unfold LEN at hL
    have hV0 : 0 < val v := by omega
    obtain ⟨u', r1, r2, r3, r4, r5⟩ := round_f (k := k) (u := u) (q := q) (v := v) (j := J) hu hv hvl (by omega) hnorm (by omega) (by rw [hul]; exact hql) (by omega) hinv (by omega)
    have hR := Nat.mod_lt (val (u.drop J)) hV0
    have hdm := Nat.div_add_mod (val (u.drop J)) (val v)
    have hDB : val (u.drop J) / val v < B := by
      rw [Nat.div_lt_iff_lt_mul hV0, Nat.mul_comm]
      have h1 := val_drop_cons u J (by omega)
      have h2 := hu.getD J
      have h3 : B * (val (u.drop (J + 1)) + 1) ≤ B * val v := Nat.mul_le_mul_left _ hinv
      rw [Nat.mul_succ] at h3
      have h4 : (u.getD J 0).toNat < B := by unfold B; omega
      rw [Nat.mul_comm (val v)]
      omega
    simp only [mag_Div.l0]
    rw [show ((J + 1 : Nat) : Int) - 1 = (J : Int) from by omega, if_pos (by omega), r1, Option.bind_some]
    dsimp only
    rw [w64 (by omega) (by omega)]
    obtain ⟨D, hD⟩ : ∃ D, val (u.drop J) / val v = D := ⟨_, rfl⟩
    rw [hD] at hDB hdm ⊢
    refine Div_l0 hv hvl hm hnorm hL' J k u' (q.set J (D : Int)) r2 (hq.set _ ⟨by omega, by unfold B at hDB; omega⟩) (by omega) (by rw [List.length_set]; exact hql) hmL (by rw [List.length_set]; omega) (by rw [r5]; exact hR) (by omega) ?_
    have e1 := val_take_drop u' J (by omega)
    have e2 := val_take_drop u J (by omega)
    have e3 := val_drop_cons (q.set J (D : Int)) J (by rw [List.length_set]; omega)
    rw [show (q.set J (D : Int)).drop (J + 1) = q.drop (J + 1) from List.drop_set_of_lt (by omega)] at e3
    have e4 : (q.set J (D : Int)).getD J 0 = (D : Int) := by simp [List.getD_eq_getElem?_getD, show J < q.length from by omega]
    rw [e4, Int.toNat_natCast] at e3
    rw [e1, e3, r4, r5]
    rw [Nat.pow_succ] at hA
    exact loop_step e2 hdm hA

theorem val_replicate_put (ts : List Int) (n : Nat) (h : ts.length ≤ n) : val (ts ++ (List.replicate n (0 : Int)).drop ts.length) = val ts := by
  rw [val_append, List.drop_replicate, val_replicate, Nat.mul_zero, Nat.add_zero]
end Go.Proofs.YtfkpbdapinpkdaaDoor.Mg
