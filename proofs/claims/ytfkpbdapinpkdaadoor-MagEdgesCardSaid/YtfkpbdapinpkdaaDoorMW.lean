/- What mag.guess comes to: a word of a quotient, or one more than it. -/
import Derived.Test.YtfkpbdapinpkdaaDoorMU
import Derived.Test.YtfkpbdapinpkdaaDoorA4
namespace Go.Proofs.YtfkpbdapinpkdaaDoor.Mg
open Go.RowKit Go.Proofs.YtfkpbdapinpkdaaDoorW.PrintWords Go.Proofs.YtfkpbdapinpkdaaDoorW.PrintMore Go.Proofs.YtfkpbdapinpkdaaDoor.MB Go.Proofs.YtfkpbdapinpkdaaDoor.M
set_option linter.unusedVariables false
set_option linter.unusedSimpArgs false

/-- A quotient's word that passes the look at two words is at most one too great. -/
theorem guess_up {V T v1 v2 vr u2 ur U2 P q R : Nat} (hV : V = (v1 * B + v2) * P + vr) (hvr : vr < P) (hT : T = (U2 * B + u2) * P + ur) (hv1 : 0 < v1) (hR : q * v1 + R = U2) (hq : q ≤ B) (hle : q * v2 ≤ B * R + u2) (hP : 0 < P) : q ≤ T / V + 1 := by
  have hVpos : 0 < V := by
    have : 0 < (v1 * B + v2) * P := Nat.mul_pos (Nat.add_pos_left (Nat.mul_pos hv1 B_pos) _) hP
    omega
  apply Nat.sub_le_iff_le_add.1
  rw [Nat.le_div_iff_mul_le hVpos]
  rcases Nat.eq_zero_or_pos q with h0 | h0
  · subst h0; simp
  · obtain ⟨p, rfl⟩ : ∃ p, q = p + 1 := ⟨q - 1, by omega⟩
    rw [Nat.add_sub_cancel]
    have h1 : (p + 1) * V ≤ ((p + 1) * v1 * B + (p + 1) * v2) * P + (p + 1) * P := by
      have : (p + 1) * vr ≤ (p + 1) * P := Nat.mul_le_mul_left _ (by omega)
      rw [hV]
      have e : (p + 1) * ((v1 * B + v2) * P + vr) = ((p + 1) * v1 * B + (p + 1) * v2) * P + (p + 1) * vr := by grind
      omega
    have h2 : ((p + 1) * v1 * B + (p + 1) * v2) * P ≤ ((p + 1) * v1 * B + (B * R + u2)) * P := Nat.mul_le_mul_right _ (by omega)
    have h3 : ((p + 1) * v1 * B + (B * R + u2)) * P = (U2 * B + u2) * P := by rw [← hR]; grind
    have h4 : (p + 1) * P ≤ B * P := Nat.mul_le_mul_right _ hq
    have h5 : B * P ≤ V := by
      rw [hV]
      have : B * P ≤ (v1 * B + v2) * P := Nat.mul_le_mul_right _ (by have := Nat.mul_le_mul_right B hv1; omega)
      omega
    rw [Nat.succ_mul] at h1
    omega
/-- One that does not pass is too great. -/
theorem guess_down {V T v1 v2 vr u2 ur U2 P q R : Nat} (hV : V = (v1 * B + v2) * P + vr) (hT : T = (U2 * B + u2) * P + ur) (hur : ur < P) (hR : q * v1 + R = U2) (hlt : B * R + u2 < q * v2) (hVpos : 0 < V) : T / V < q := by
  rw [Nat.div_lt_iff_lt_mul hVpos, hT, hV]
  have h1 : ((U2 * B + u2) + 1) * P ≤ (q * v1 * B + q * v2) * P := Nat.mul_le_mul_right _ (by
    rw [← hR]
    have : (q * v1 + R) * B = q * v1 * B + B * R := by grind
    omega)
  have h2 : q * ((v1 * B + v2) * P + vr) = (q * v1 * B + q * v2) * P + q * vr := by grind
  rw [h2]
  rw [Nat.succ_mul] at h1
  omega

theorem guess_l0 (top v : List Int) (ht : Ok top) (hv : Ok v) (n : Nat) (hvl : v.length = n + 2) (htl : top.length = n + 3) (hn : n ≤ LEN) {V T v1 v2 vr u2 ur U2 P : Nat}
    (e1 : v.getD (n + 1) 0 = (v1 : Int)) (e2 : v.getD n 0 = (v2 : Int)) (e3 : top.getD n 0 = (u2 : Int)) (hV : V = (v1 * B + v2) * P + vr) (hvr : vr < P) (hT : T = (U2 * B + u2) * P + ur) (hur : ur < P) (hv1 : 9223372036854775808 ≤ v1) (hP : 0 < P) :
    ∀ (d k q R : Nat), B ≤ R + d * v1 → d < k → R < B → T / V ≤ q → q < B → q * v1 + R = U2 → ∃ g : Nat, mag_guess.l0 k top v ((v.length : Nat) : Int) (q : Int) (R : Int) 0 = some (g : Int) ∧ T / V ≤ g ∧ g ≤ T / V + 1 ∧ g < B := by
  unfold LEN at hn
  intro d
  induction d with
  | zero =>
    intro k q R hd hk hR
    omega
  | succ d ih =>
    intro k q R hd hk hR hq hqb hqR
    obtain ⟨k, rfl⟩ : ∃ m, k = m + 1 := ⟨k - 1, by omega⟩
    have hw1 := hv.getD (n + 1)
    have hw2 := hv.getD n
    have hw3 := ht.getD n
    rw [e1] at hw1
    rw [e2] at hw2
    rw [e3] at hw3
    have hVpos : 0 < V := by
      have : 0 < (v1 * B + v2) * P := Nat.mul_pos (Nat.add_pos_left (Nat.mul_pos (by omega) B_pos) _) hP
      omega
    unfold B at hqb hR
    obtain ⟨h, l, hm, hhl, hlw⟩ := mul64_f (x := (q : Int)) (y := (v2 : Int)) ⟨by omega, by omega⟩ hw2
    rw [Int.toNat_natCast, Int.toNat_natCast] at hhl
    have i2 : wrap64 ((v.length : Int) - 2) = (n : Int) := by rw [w64 (by omega) (by omega)]; omega
    have i1 : wrap64 ((v.length : Int) - 1) = ((n + 1 : Nat) : Int) := by rw [w64 (by omega) (by omega)]; omega
    simp only [mag_guess.l0]
    rw [if_pos (by trivial), i2, i1, if_pos (by omega), if_pos (by omega), rd_cast v n, rd_cast top n, rd_cast v (n + 1), e1, e2, e3, hm, Option.bind_some]
    dsimp only
    have pass : q * v2 ≤ B * R + u2 → T / V ≤ q ∧ q ≤ T / V + 1 ∧ q < B := fun hle => ⟨hq, guess_up hV hvr hT (by omega) hqR (by unfold B; omega) hle hP, by unfold B; omega⟩
    have fail : B * R + u2 < q * v2 → ∃ g : Nat, mag_guess.l0 k top v ((v.length : Nat) : Int) (IntKind.u64.wrap ((q : Int) - 1)) (addS (R : Int) (v1 : Int) 0) (addC (R : Int) (v1 : Int) 0) = some (g : Int) ∧ T / V ≤ g ∧ g ≤ T / V + 1 ∧ g < B := by
      intro hlt
      have hgt := guess_down hV hT hur hqR hlt hVpos
      have hqpos : 0 < q := Nat.lt_of_le_of_lt (Nat.zero_le _) hgt
      obtain ⟨p, rfl⟩ : ∃ p, q = p + 1 := ⟨q - 1, by omega⟩
      rw [Nat.succ_mul] at hqR
      rw [wu64 (x := ((p + 1 : Nat) : Int) - 1) (by omega) (by omega), show (((p + 1 : Nat) : Int) - 1) = (p : Int) from by omega]
      have hs := addS_addC (R : Int) (v1 : Int) 0
      have b1 := addC_ok (x := (R : Int)) (y := (v1 : Int)) (c := 0) (by omega) hw1.2 (by omega)
      have b2 := addS_ok (R : Int) (v1 : Int) 0
      simp only [Int.toNat_natCast, Int.toNat_zero, Nat.add_zero] at hs
      unfold B at hs
      by_cases hc : addC (R : Int) (v1 : Int) 0 = 0
      · rw [hc]
        rw [hc] at hs
        have es : addS (R : Int) (v1 : Int) 0 = ((R + v1 : Nat) : Int) := by
          simp only [Int.toNat_zero, Nat.mul_zero, Nat.add_zero] at hs
          omega
        rw [es]
        have hlt2 : R + v1 < B := by rw [es] at b2; unfold B; omega
        refine ih k p (R + v1) ?_ (by omega) hlt2 (by omega) (by unfold B; omega) (by omega)
        rw [Nat.succ_mul] at hd
        omega
      · have hc1 : addC (R : Int) (v1 : Int) 0 = 1 := by omega
        obtain ⟨k, rfl⟩ : ∃ m, k = m + 1 := ⟨k - 1, by omega⟩
        simp only [mag_guess.l0]
        rw [if_neg (by omega)]
        rw [hc1] at hs
        refine ⟨p, rfl, by omega, ?_, by unfold B; omega⟩
        refine guess_up (R := R + v1) hV hvr hT (by omega) (by omega) (by unfold B; omega) ?_ hP
        have h1 : p * v2 ≤ B * v2 := Nat.mul_le_mul_right _ (by unfold B; omega)
        have h2 : B * v2 ≤ B * (R + v1) := Nat.mul_le_mul_left _ (by omega)
        omega
    unfold B at pass fail
    by_cases hc1 : (h : Int) < (R : Int)
    · rw [if_pos hc1]
      have := pass (by omega)
      exact ⟨q, rfl, this.1, this.2.1, this.2.2⟩
    · rw [if_neg hc1]
      by_cases hc2 : (h : Int) = (R : Int)
      · rw [if_pos hc2, if_pos (by omega)]
        by_cases hc3 : (l : Int) ≤ (u2 : Int)
        · rw [if_pos hc3]
          have := pass (by
            have : h = R := by omega
            rw [← hhl, this]
            omega)
          exact ⟨q, rfl, this.1, this.2.1, this.2.2⟩
        · rw [if_neg hc3, if_pos (by omega), if_pos (by omega)]
          have hR2 : h = R := by omega
          exact fail (by rw [← hhl, hR2]; omega)
      · rw [if_neg hc2, if_pos (by omega), if_pos (by omega)]
        exact fail (by rw [← hhl]; omega)
end Go.Proofs.YtfkpbdapinpkdaaDoor.Mg
