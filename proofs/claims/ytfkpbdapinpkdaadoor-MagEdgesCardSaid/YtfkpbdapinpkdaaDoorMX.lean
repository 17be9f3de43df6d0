/- mag.guess over lists; what the rounds of 'take' and 'give' leave. -/
import Derived.Test.YtfkpbdapinpkdaaDoorMW
import Derived.Test.YtfkpbdapinpkdaaDoorME
namespace Go.Proofs.YtfkpbdapinpkdaaDoor.Mg
open Go.RowKit Go.Proofs.YtfkpbdapinpkdaaDoorW.PrintWords Go.Proofs.YtfkpbdapinpkdaaDoorW.PrintMore Go.Proofs.YtfkpbdapinpkdaaDoor.MB Go.Proofs.YtfkpbdapinpkdaaDoor.M Go.Proofs.YtfkpbdapinpkdaaDoor.MD
set_option linter.unusedVariables false
set_option linter.unusedSimpArgs false

theorem quot_le {V T v1 v2 vr u2 ur U2 P : Nat} (hV : V = (v1 * B + v2) * P + vr) (hT : T = (U2 * B + u2) * P + ur) (hu2 : u2 < B) (hur : ur < P) (hv1 : 0 < v1) : T / V ≤ U2 / v1 := by
  rw [Nat.le_div_iff_mul_le hv1]
  apply Nat.le_of_lt_succ
  rcases Nat.lt_or_ge (T / V * v1) (U2 + 1) with h | h
  · exact h
  · exfalso
    have h1 := Nat.div_mul_le_self T V
    have h2 : (U2 + 1) * (B * P) ≤ T / V * v1 * (B * P) := Nat.mul_le_mul_right _ h
    have h3' : ∀ t, t * ((v1 * B + v2) * P + vr) = t * v1 * (B * P) + t * (v2 * P + vr) := by intro t; grind
    have h3 := h3' (T / V)
    rw [← hV] at h3
    have h4 : (U2 * B + u2) * P + ur < (U2 + 1) * (B * P) := by
      have : (u2 + 1) * P ≤ B * P := Nat.mul_le_mul_right _ hu2
      have e : (U2 + 1) * (B * P) = U2 * B * P + B * P := by grind
      have e2 : (U2 * B + u2) * P = U2 * B * P + u2 * P := by grind
      rw [Nat.succ_mul] at this
      omega
    omega

theorem guess_f {top v : List Int} {k n : Nat} (ht : Ok top) (hv : Ok v) (hvl : v.length = n + 2) (htl : top.length = n + 3) (hn : n ≤ LEN) (hnorm : 9223372036854775808 ≤ v.getD (n + 1) 0) (hlt : val top < val v * B) (hk : 30 ≤ k) :
    ∃ g : Nat, mag_guess.f k top v = some (g : Int) ∧ val top / val v ≤ g ∧ g ≤ val top / val v + 1 ∧ g < B := by
  have hn' := hn
  unfold LEN at hn
  have hw1 := hv.getD (n + 1)
  have hw2 := hv.getD n
  have hx0 := ht.getD (n + 2)
  have hx1 := ht.getD (n + 1)
  have hx2 := ht.getD n
  obtain ⟨v1, e1⟩ : ∃ x : Nat, v.getD (n + 1) 0 = (x : Int) := ⟨(v.getD (n + 1) 0).toNat, by omega⟩
  obtain ⟨v2, e2⟩ : ∃ x : Nat, v.getD n 0 = (x : Int) := ⟨(v.getD n 0).toNat, by omega⟩
  obtain ⟨u0, f0⟩ : ∃ x : Nat, top.getD (n + 2) 0 = (x : Int) := ⟨(top.getD (n + 2) 0).toNat, by omega⟩
  obtain ⟨u1, f1⟩ : ∃ x : Nat, top.getD (n + 1) 0 = (x : Int) := ⟨(top.getD (n + 1) 0).toNat, by omega⟩
  obtain ⟨u2, f2⟩ : ∃ x : Nat, top.getD n 0 = (x : Int) := ⟨(top.getD n 0).toNat, by omega⟩
  rw [e1] at hw1 hnorm
  rw [e2] at hw2
  rw [f0] at hx0
  rw [f1] at hx1
  rw [f2] at hx2
  have hV : val v = (v1 * B + v2) * B ^ n + val (v.take n) := by
    rw [val_take_drop v n (by omega), val_drop_cons v n (by omega), val_drop_cons v (n + 1) (by omega), List.drop_of_length_le (by omega), e1, e2]
    simp only [val, Int.toNat_natCast]
    grind
  have hT : val top = ((u0 * B + u1) * B + u2) * B ^ n + val (top.take n) := by
    rw [val_take_drop top n (by omega), val_drop_cons top n (by omega), val_drop_cons top (n + 1) (by omega), val_drop_cons top (n + 2) (by omega), List.drop_of_length_le (by omega), f0, f1, f2]
    simp only [val, Int.toNat_natCast]
    grind
  have hvr := val_lt (hv.take n)
  rw [List.length_take, Nat.min_eq_left (by omega)] at hvr
  have hur := val_lt (ht.take n)
  rw [List.length_take, Nat.min_eq_left (by omega)] at hur
  have hP : 0 < B ^ n := Nat.pow_pos B_pos
  have i1 : wrap64 ((v.length : Int) - 1) = ((n + 1 : Nat) : Int) := by rw [w64 (by omega) (by omega)]; omega
  have i0 : ((v.length : Nat) : Int) = ((n + 2 : Nat) : Int) := by omega
  have hVpos : 0 < val v := by
    have : 0 < (v1 * B + v2) * B ^ n := Nat.mul_pos (Nat.add_pos_left (Nat.mul_pos (by omega) B_pos) _) hP
    omega
  have hq1 : val top / val v < B := by
    rw [Nat.div_lt_iff_lt_mul hVpos, Nat.mul_comm]
    exact hlt
  have hq2 := quot_le hV hT (by unfold B; omega) hur (by omega)
  have key := guess_l0 top v ht hv n hvl htl hn' e1 e2 f2 hV hvr hT hur (by omega) hP
  unfold mag_guess.f
  rw [i1, if_pos (by omega), if_pos (by omega), if_pos (by omega), if_pos (by omega), if_pos (by omega)]
  have r0 : rd top ((v.length : Nat) : Int) = (u0 : Int) := by rw [i0, rd_cast, f0]
  rw [r0, rd_cast v (n + 1), e1, rd_cast top (n + 1), f1]
  obtain ⟨k, rfl⟩ : ∃ m, k = m + 1 := ⟨k - 1, by omega⟩
  by_cases hc : (u0 : Int) < (v1 : Int)
  · rw [if_pos hc, Div64_f (h := u0) (l := u1) (y := v1) (by omega) (by omega) (by omega) (by omega), Option.bind_some]
    dsimp only
    simp only [mag_guess.j0]
    have h1 := Nat.div_add_mod (u0 * B + u1) v1
    have h2 : (u0 * B + u1) % v1 < v1 := Nat.mod_lt _ (by omega)
    have h3 : (u0 * B + u1) / v1 < B := by
      rw [Nat.div_lt_iff_lt_mul (by omega)]
      have : (u0 + 1) * B ≤ v1 * B := Nat.mul_le_mul_right _ (by omega)
      rw [Nat.succ_mul] at this
      rw [Nat.mul_comm B]
      unfold B at this ⊢
      omega
    exact key 2 k _ _ (by unfold B at h2 ⊢; omega) (by omega) (by unfold B at h2 ⊢; omega) hq2 h3 (by rw [Nat.mul_comm]; exact h1)
  · rw [if_neg hc]
    have hu0 : u0 = v1 := by
      apply Nat.le_antisymm _ (by omega)
      apply Nat.le_of_lt_succ
      rcases Nat.lt_or_ge u0 (v1 + 1) with h | h
      · exact h
      · exfalso
        have h1 : (v1 + 1) * (B * B * B ^ n) ≤ u0 * (B * B * B ^ n) := Nat.mul_le_mul_right _ h
        have h2 : u0 * (B * B * B ^ n) ≤ val top := by
          rw [hT]
          have e : ((u0 * B + u1) * B + u2) * B ^ n = u0 * (B * B * B ^ n) + (u1 * B + u2) * B ^ n := by
            generalize B ^ n = P
            grind
          rw [e]
          omega
        have h3 : val v * B < (v1 + 1) * (B * B * B ^ n) := by
          have h4 : val v < (v1 * B + v2 + 1) * B ^ n := by rw [hV, Nat.succ_mul]; omega
          have h5 : (v1 * B + v2 + 1) * B ^ n ≤ ((v1 + 1) * B) * B ^ n := Nat.mul_le_mul_right _ (by rw [Nat.succ_mul]; unfold B; omega)
          have h6 : val v * B < (v1 + 1) * B * B ^ n * B := Nat.mul_lt_mul_of_pos_right (by omega) B_pos
          have e : (v1 + 1) * B * B ^ n * B = (v1 + 1) * (B * B * B ^ n) := by
            generalize B ^ n = P
            grind
          omega
        omega
    simp only [mag_guess.j0]
    have hs := addS_addC (u1 : Int) (v1 : Int) 0
    have b1 := addC_ok (x := (u1 : Int)) (y := (v1 : Int)) (c := 0) hx1.2 hw1.2 (by omega)
    have b2 := addS_ok (u1 : Int) (v1 : Int) 0
    simp only [Int.toNat_natCast, Int.toNat_zero, Nat.add_zero] at hs
    have hqe : 18446744073709551615 * v1 + (u1 + v1) = u0 * B + u1 := by rw [hu0]; unfold B; omega
    have hle : val top / val v ≤ 18446744073709551615 := by unfold B at hq1; omega
    by_cases hc0 : addC (u1 : Int) (v1 : Int) 0 = 0
    · rw [hc0] at hs ⊢
      have es : addS (u1 : Int) (v1 : Int) 0 = ((u1 + v1 : Nat) : Int) := by
        simp only [Int.toNat_zero, Nat.mul_zero, Nat.add_zero] at hs
        omega
      rw [es]
      have hlt2 : u1 + v1 < B := by rw [es] at b2; unfold B; omega
      exact key 2 k 18446744073709551615 (u1 + v1) (by unfold B; omega) (by omega) hlt2 hle (by unfold B; omega) hqe
    · have hc1 : addC (u1 : Int) (v1 : Int) 0 = 1 := by omega
      obtain ⟨k, rfl⟩ : ∃ m, k = m + 1 := ⟨k - 1, by omega⟩
      simp only [mag_guess.l0]
      rw [if_neg (by omega)]
      rw [hc1] at hs
      refine ⟨18446744073709551615, rfl, hle, ?_, by unfold B; omega⟩
      refine guess_up (R := u1 + v1) hV hvr hT (by omega) hqe (by unfold B; omega) ?_ hP
      have h1 : 18446744073709551615 * v2 ≤ B * v2 := Nat.mul_le_mul_right _ (by unfold B; omega)
      have h2 : B * v2 ≤ B * (u1 + v1) := Nat.mul_le_mul_left _ (by unfold B at hs; omega)
      omega

end Go.Proofs.YtfkpbdapinpkdaaDoor.Mg
