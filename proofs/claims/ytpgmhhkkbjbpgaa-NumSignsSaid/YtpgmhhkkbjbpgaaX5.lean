/- What mag.guess comes to: a word of a quotient, or one more than it. mag.guess over lists; what the rounds of 'take' and 'give' leave. What the rounds of 'take' and 'give' leave. -/
import Derived.Test.YtpgmhhkkbjbpgaaX3
import Derived.Test.YtpgmhhkkbjbpgaaA4
import Derived.Test.YtpgmhhkkbjbpgaaX4
namespace Go.Proofs.Ytpgmhhkkbjbpgaa.Mg
open Go.RowKit Go.Proofs.YtpgmhhkkbjbpgaaW.PrintWords Go.Proofs.YtpgmhhkkbjbpgaaW.PrintMore Go.Proofs.Ytpgmhhkkbjbpgaa.MB Go.Proofs.Ytpgmhhkkbjbpgaa.M
set_option linter.unusedVariables false
set_option linter.unusedSimpArgs false

/-- A quotient's word that passes the look at two words is at most one too great. -/
theorem guess_up {V T v1 v2 vr u2 ur U2 P q R : Nat} (hV : V = (v1 * B + v2) * P + vr) (hvr : vr < P) (hT : T = (U2 * B + u2) * P + ur) (hv1 : 0 < v1) (hR : q * v1 + R = U2) (hq : q ≤ B) (hle : q * v2 ≤ B * R + u2) (hP : 0 < P) : q ≤ T / V + 1 := by
  have hVpos : 0 < V := by
    have : 0 < (v1 * B + v2) * P := Nat.mul_pos (Nat.add_pos_left (Nat.mul_pos hv1 B_pos) _) hP
    omega
  apply Nat.sub_le_iff_le_add.1
  rw [Nat.le_div_iff_mul_le hVpos]
  rcases Nat.eq_zero_or_pos q with h0 | h0
  · subst h0; simp
  · obtain ⟨p, rfl⟩ : ∃ p, q = p + 1 := ⟨q - 1, by omega⟩
    rw [Nat.add_sub_cancel]
    have h1 : (p + 1) * V ≤ ((p + 1) * v1 * B + (p + 1) * v2) * P + (p + 1) * P := by
      have : (p + 1) * vr ≤ (p + 1) * P := Nat.mul_le_mul_left _ (by omega)
      rw [hV]
      have e : (p + 1) * ((v1 * B + v2) * P + vr) = ((p + 1) * v1 * B + (p + 1) * v2) * P + (p + 1) * vr := by grind
      omega
    have h2 : ((p + 1) * v1 * B + (p + 1) * v2) * P ≤ ((p + 1) * v1 * B + (B * R + u2)) * P := Nat.mul_le_mul_right _ (by omega)
    have h3 : ((p + 1) * v1 * B + (B * R + u2)) * P = (U2 * B + u2) * P := by rw [← hR]; grind
    have h4 : (p + 1) * P ≤ B * P := Nat.mul_le_mul_right _ hq
    have h5 : B * P ≤ V := by
      rw [hV]
      have : B * P ≤ (v1 * B + v2) * P := Nat.mul_le_mul_right _ (by have := Nat.mul_le_mul_right B hv1; omega)
      omega
    rw [Nat.succ_mul] at h1
    omega
/-- One that does not pass is too great. -/
theorem guess_down {V T v1 v2 vr u2 ur U2 P q R : Nat} (hV : V = (v1 * B + v2) * P + vr) (hT : T = (U2 * B + u2) * P + ur) (hur : ur < P) (hR : q * v1 + R = U2) (hlt : B * R + u2 < q * v2) (hVpos : 0 < V) : T / V < q := by
  rw [Nat.div_lt_iff_lt_mul hVpos, hT, hV]
  have h1 : ((U2 * B + u2) + 1) * P ≤ (q * v1 * B + q * v2) * P := Nat.mul_le_mul_right _ (by
    rw [← hR]
    have : (q * v1 + R) * B = q * v1 * B + B * R := by grind
    omega)
  have h2 : q * ((v1 * B + v2) * P + vr) = (q * v1 * B + q * v2) * P + q * vr := by grind
  rw [h2]
  rw [Nat.succ_mul] at h1
  omega

theorem guess_l0 (top v : List Int) (ht : Ok top) (hv : Ok v) (n : Nat) (hvl : v.length = n + 2) (htl : top.length = n + 3) (hn : n ≤ LEN) {V T v1 v2 vr u2 ur U2 P : Nat}
    (e1 : v.getD (n + 1) 0 = (v1 : Int)) (e2 : v.getD n 0 = (v2 : Int)) (e3 : top.getD n 0 = (u2 : Int)) (hV : V = (v1 * B + v2) * P + vr) (hvr : vr < P) (hT : T = (U2 * B + u2) * P + ur) (hur : ur < P) (hv1 : 9223372036854775808 ≤ v1) (hP : 0 < P) :
    ∀ (d k q R : Nat), B ≤ R + d * v1 → d < k → R < B → T / V ≤ q → q < B → q * v1 + R = U2 → ∃ g : Nat, mag_guess.l0 k top v ((v.length : Nat) : Int) (q : Int) (R : Int) 0 = some (g : Int) ∧ T / V ≤ g ∧ g ≤ T / V + 1 ∧ g < B := by
  unfold LEN at hn
  intro d
  induction d with
  | zero =>
    intro k q R hd hk hR
    omega
  | succ d ih =>
    intro k q R hd hk hR hq hqb hqR
    obtain ⟨k, rfl⟩ : ∃ m, k = m + 1 := ⟨k - 1, by omega⟩
    have hw1 := hv.getD (n + 1)
    have hw2 := hv.getD n
    have hw3 := ht.getD n
    rw [e1] at hw1
    rw [e2] at hw2
    rw [e3] at hw3
    have hVpos : 0 < V := by
      have : 0 < (v1 * B + v2) * P := Nat.mul_pos (Nat.add_pos_left (Nat.mul_pos (by omega) B_pos) _) hP
      omega
    unfold B at hqb hR
    obtain ⟨h, l, hm, hhl, hlw⟩ := mul64_f (x := (q : Int)) (y := (v2 : Int)) ⟨by omega, by omega⟩ hw2
    rw [Int.toNat_natCast, Int.toNat_natCast] at hhl
    have i2 : wrap64 ((v.length : Int) - 2) = (n : Int) := by rw [w64 (by omega) (by omega)]; omega
    have i1 : wrap64 ((v.length : Int) - 1) = ((n + 1 : Nat) : Int) := by rw [w64 (by omega) (by omega)]; omega
    simp only [mag_guess.l0]
    rw [if_pos (by trivial), i2, i1, if_pos (by omega), if_pos (by omega), rd_cast v n, rd_cast top n, rd_cast v (n + 1), e1, e2, e3, hm, Option.bind_some]
    dsimp only
    have pass : q * v2 ≤ B * R + u2 → T / V ≤ q ∧ q ≤ T / V + 1 ∧ q < B := fun hle => ⟨hq, guess_up hV hvr hT (by omega) hqR (by unfold B; omega) hle hP, by unfold B; omega⟩
    have fail : B * R + u2 < q * v2 → ∃ g : Nat, mag_guess.l0 k top v ((v.length : Nat) : Int) (IntKind.u64.wrap ((q : Int) - 1)) (addS (R : Int) (v1 : Int) 0) (addC (R : Int) (v1 : Int) 0) = some (g : Int) ∧ T / V ≤ g ∧ g ≤ T / V + 1 ∧ g < B := by
      intro hlt
      have hgt := guess_down hV hT hur hqR hlt hVpos
      have hqpos : 0 < q := Nat.lt_of_le_of_lt (Nat.zero_le _) hgt
      obtain ⟨p, rfl⟩ : ∃ p, q = p + 1 := ⟨q - 1, by omega⟩
      rw [Nat.succ_mul] at hqR
      rw [wu64 (x := ((p + 1 : Nat) : Int) - 1) (by omega) (by omega), show (((p + 1 : Nat) : Int) - 1) = (p : Int) from by omega]
      have hs := addS_addC (R : Int) (v1 : Int) 0
      have b1 := addC_ok (x := (R : Int)) (y := (v1 : Int)) (c := 0) (by omega) hw1.2 (by omega)
      have b2 := addS_ok (R : Int) (v1 : Int) 0
      simp only [Int.toNat_natCast, Int.toNat_zero, Nat.add_zero] at hs
      unfold B at hs
      by_cases hc : addC (R : Int) (v1 : Int) 0 = 0
      · rw [hc]
        rw [hc] at hs
        have es : addS (R : Int) (v1 : Int) 0 = ((R + v1 : Nat) : Int) := by
          simp only [Int.toNat_zero, Nat.mul_zero, Nat.add_zero] at hs
          omega
        rw [es]
        have hlt2 : R + v1 < B := by rw [es] at b2; unfold B; omega
        refine ih k p (R + v1) ?_ (by omega) hlt2 (by omega) (by unfold B; omega) (by omega)
        rw [Nat.succ_mul] at hd
        omega
      · have hc1 : addC (R : Int) (v1 : Int) 0 = 1 := by omega
        obtain ⟨k, rfl⟩ : ∃ m, k = m + 1 := ⟨k - 1, by omega⟩
        simp only [mag_guess.l0]
        rw [if_neg (by omega)]
        rw [hc1] at hs
        refine ⟨p, rfl, by omega, ?_, by unfold B; omega⟩
        refine guess_up (R := R + v1) hV hvr hT (by omega) (by omega) (by unfold B; omega) ?_ hP
        have h1 : p * v2 ≤ B * v2 := Nat.mul_le_mul_right _ (by unfold B; omega)
        have h2 : B * v2 ≤ B * (R + v1) := Nat.mul_le_mul_left _ (by omega)
        omega
    unfold B at pass fail
    by_cases hc1 : (h : Int) < (R : Int)
    · rw [if_pos hc1]
      have := pass (by omega)
      exact ⟨q, rfl, this.1, this.2.1, this.2.2⟩
    · rw [if_neg hc1]
      by_cases hc2 : (h : Int) = (R : Int)
      · rw [if_pos hc2, if_pos (by omega)]
        by_cases hc3 : (l : Int) ≤ (u2 : Int)
        · rw [if_pos hc3]
          have := pass (by
            have : h = R := by omega
            rw [← hhl, this]
            omega)
          exact ⟨q, rfl, this.1, this.2.1, this.2.2⟩
        · rw [if_neg hc3, if_pos (by omega), if_pos (by omega)]
          have hR2 : h = R := by omega
          exact fail (by rw [← hhl, hR2]; omega)
      · rw [if_neg hc2, if_pos (by omega), if_pos (by omega)]
        exact fail (by rw [← hhl]; omega)
end Go.Proofs.Ytpgmhhkkbjbpgaa.Mg
namespace Go.Proofs.Ytpgmhhkkbjbpgaa.Mg
open Go.RowKit Go.Proofs.YtpgmhhkkbjbpgaaW.PrintWords Go.Proofs.YtpgmhhkkbjbpgaaW.PrintMore Go.Proofs.Ytpgmhhkkbjbpgaa.MB Go.Proofs.Ytpgmhhkkbjbpgaa.M Go.Proofs.Ytpgmhhkkbjbpgaa.MD
set_option linter.unusedVariables false
set_option linter.unusedSimpArgs false

theorem quot_le {V T v1 v2 vr u2 ur U2 P : Nat} (hV : V = (v1 * B + v2) * P + vr) (hT : T = (U2 * B + u2) * P + ur) (hu2 : u2 < B) (hur : ur < P) (hv1 : 0 < v1) : T / V ≤ U2 / v1 := by
  rw [Nat.le_div_iff_mul_le hv1]
  apply Nat.le_of_lt_succ
  rcases Nat.lt_or_ge (T / V * v1) (U2 + 1) with h | h
  · exact h
  · exfalso
    have h1 := Nat.div_mul_le_self T V
    have h2 : (U2 + 1) * (B * P) ≤ T / V * v1 * (B * P) := Nat.mul_le_mul_right _ h
    have h3' : ∀ t, t * ((v1 * B + v2) * P + vr) = t * v1 * (B * P) + t * (v2 * P + vr) := by intro t; grind
    have h3 := h3' (T / V)
    rw [← hV] at h3
    have h4 : (U2 * B + u2) * P + ur < (U2 + 1) * (B * P) := by
      have : (u2 + 1) * P ≤ B * P := Nat.mul_le_mul_right _ hu2
      have e : (U2 + 1) * (B * P) = U2 * B * P + B * P := by grind
      have e2 : (U2 * B + u2) * P = U2 * B * P + u2 * P := by grind
      rw [Nat.succ_mul] at this
      omega
    omega

theorem guess_f {top v : List Int} {k n : Nat} (ht : Ok top) (hv : Ok v) (hvl : v.length = n + 2) (htl : top.length = n + 3) (hn : n ≤ LEN) (hnorm : 9223372036854775808 ≤ v.getD (n + 1) 0) (hlt : val top < val v * B) (hk : 30 ≤ k) :
    ∃ g : Nat, mag_guess.f k top v = some (g : Int) ∧ val top / val v ≤ g ∧ g ≤ val top / val v + 1 ∧ g < B := by
  have hn' := hn
  unfold LEN at hn
  have hw1 := hv.getD (n + 1)
  have hw2 := hv.getD n
  have hx0 := ht.getD (n + 2)
  have hx1 := ht.getD (n + 1)
  have hx2 := ht.getD n
  obtain ⟨v1, e1⟩ : ∃ x : Nat, v.getD (n + 1) 0 = (x : Int) := ⟨(v.getD (n + 1) 0).toNat, by omega⟩
  obtain ⟨v2, e2⟩ : ∃ x : Nat, v.getD n 0 = (x : Int) := ⟨(v.getD n 0).toNat, by omega⟩
  obtain ⟨u0, f0⟩ : ∃ x : Nat, top.getD (n + 2) 0 = (x : Int) := ⟨(top.getD (n + 2) 0).toNat, by omega⟩
  obtain ⟨u1, f1⟩ : ∃ x : Nat, top.getD (n + 1) 0 = (x : Int) := ⟨(top.getD (n + 1) 0).toNat, by omega⟩
  obtain ⟨u2, f2⟩ : ∃ x : Nat, top.getD n 0 = (x : Int) := ⟨(top.getD n 0).toNat, by omega⟩
  rw [e1] at hw1 hnorm
  rw [e2] at hw2
  rw [f0] at hx0
  rw [f1] at hx1
  rw [f2] at hx2
  have hV : val v = (v1 * B + v2) * B ^ n + val (v.take n) := by
    rw [val_take_drop v n (by omega), val_drop_cons v n (by omega), val_drop_cons v (n + 1) (by omega), List.drop_of_length_le (by omega), e1, e2]
    simp only [val, Int.toNat_natCast]
    grind
  have hT : val top = ((u0 * B + u1) * B + u2) * B ^ n + val (top.take n) := by
    rw [val_take_drop top n (by omega), val_drop_cons top n (by omega), val_drop_cons top (n + 1) (by omega), val_drop_cons top (n + 2) (by omega), List.drop_of_length_le (by omega), f0, f1, f2]
    simp only [val, Int.toNat_natCast]
    grind
  have hvr := val_lt (hv.take n)
  rw [List.length_take, Nat.min_eq_left (by omega)] at hvr
  have hur := val_lt (ht.take n)
  rw [List.length_take, Nat.min_eq_left (by omega)] at hur
  have hP : 0 < B ^ n := Nat.pow_pos B_pos
  have i1 : wrap64 ((v.length : Int) - 1) = ((n + 1 : Nat) : Int) := by rw [w64 (by omega) (by omega)]; omega
  have i0 : ((v.length : Nat) : Int) = ((n + 2 : Nat) : Int) := by omega
  have hVpos : 0 < val v := by
    have : 0 < (v1 * B + v2) * B ^ n := Nat.mul_pos (Nat.add_pos_left (Nat.mul_pos (by omega) B_pos) _) hP
    omega
  have hq1 : val top / val v < B := by
    rw [Nat.div_lt_iff_lt_mul hVpos, Nat.mul_comm]
    exact hlt
  have hq2 := quot_le hV hT (by unfold B; omega) hur (by omega)
  have key := guess_l0 top v ht hv n hvl htl hn' e1 e2 f2 hV hvr hT hur (by omega) hP
  unfold mag_guess.f
  rw [i1, if_pos (by omega), if_pos (by omega), if_pos (by omega), if_pos (by omega), if_pos (by omega)]
  have r0 : rd top ((v.length : Nat) : Int) = (u0 : Int) := by rw [i0, rd_cast, f0]
  rw [r0, rd_cast v (n + 1), e1, rd_cast top (n + 1), f1]
  obtain ⟨k, rfl⟩ : ∃ m, k = m + 1 := ⟨k - 1, by omega⟩
  by_cases hc : (u0 : Int) < (v1 : Int)
  · rw [if_pos hc, Div64_f (h := u0) (l := u1) (y := v1) (by omega) (by omega) (by omega) (by omega), Option.bind_some]
    dsimp only
    simp only [mag_guess.j0]
    have h1 := Nat.div_add_mod (u0 * B + u1) v1
    have h2 : (u0 * B + u1) % v1 < v1 := Nat.mod_lt _ (by omega)
    have h3 : (u0 * B + u1) / v1 < B := by
      rw [Nat.div_lt_iff_lt_mul (by omega)]
      have : (u0 + 1) * B ≤ v1 * B := Nat.mul_le_mul_right _ (by omega)
      rw [Nat.succ_mul] at this
      rw [Nat.mul_comm B]
      unfold B at this ⊢
      omega
    exact key 2 k _ _ (by unfold B at h2 ⊢; omega) (by omega) (by unfold B at h2 ⊢; omega) hq2 h3 (by rw [Nat.mul_comm]; exact h1)
  · rw [if_neg hc]
    have hu0 : u0 = v1 := by
      apply Nat.le_antisymm _ (by omega)
      apply Nat.le_of_lt_succ
      rcases Nat.lt_or_ge u0 (v1 + 1) with h | h
      · exact h
      · exfalso
        have h1 : (v1 + 1) * (B * B * B ^ n) ≤ u0 * (B * B * B ^ n) := Nat.mul_le_mul_right _ h
        have h2 : u0 * (B * B * B ^ n) ≤ val top := by
          rw [hT]
          have e : ((u0 * B + u1) * B + u2) * B ^ n = u0 * (B * B * B ^ n) + (u1 * B + u2) * B ^ n := by
            generalize B ^ n = P
            grind
          rw [e]
          omega
        have h3 : val v * B < (v1 + 1) * (B * B * B ^ n) := by
          have h4 : val v < (v1 * B + v2 + 1) * B ^ n := by rw [hV, Nat.succ_mul]; omega
          have h5 : (v1 * B + v2 + 1) * B ^ n ≤ ((v1 + 1) * B) * B ^ n := Nat.mul_le_mul_right _ (by rw [Nat.succ_mul]; unfold B; omega)
          have h6 : val v * B < (v1 + 1) * B * B ^ n * B := Nat.mul_lt_mul_of_pos_right (by omega) B_pos
          have e : (v1 + 1) * B * B ^ n * B = (v1 + 1) * (B * B * B ^ n) := by
            generalize B ^ n = P
            grind
          omega
        omega
    simp only [mag_guess.j0]
    have hs := addS_addC (u1 : Int) (v1 : Int) 0
    have b1 := addC_ok (x := (u1 : Int)) (y := (v1 : Int)) (c := 0) hx1.2 hw1.2 (by omega)
    have b2 := addS_ok (u1 : Int) (v1 : Int) 0
    simp only [Int.toNat_natCast, Int.toNat_zero, Nat.add_zero] at hs
    have hqe : 18446744073709551615 * v1 + (u1 + v1) = u0 * B + u1 := by rw [hu0]; unfold B; omega
    have hle : val top / val v ≤ 18446744073709551615 := by unfold B at hq1; omega
    by_cases hc0 : addC (u1 : Int) (v1 : Int) 0 = 0
    · rw [hc0] at hs ⊢
      have es : addS (u1 : Int) (v1 : Int) 0 = ((u1 + v1 : Nat) : Int) := by
        simp only [Int.toNat_zero, Nat.mul_zero, Nat.add_zero] at hs
        omega
      rw [es]
      have hlt2 : u1 + v1 < B := by rw [es] at b2; unfold B; omega
      exact key 2 k 18446744073709551615 (u1 + v1) (by unfold B; omega) (by omega) hlt2 hle (by unfold B; omega) hqe
    · have hc1 : addC (u1 : Int) (v1 : Int) 0 = 1 := by omega
      obtain ⟨k, rfl⟩ : ∃ m, k = m + 1 := ⟨k - 1, by omega⟩
      simp only [mag_guess.l0]
      rw [if_neg (by omega)]
      rw [hc1] at hs
      refine ⟨18446744073709551615, rfl, hle, ?_, by unfold B; omega⟩
      refine guess_up (R := u1 + v1) hV hvr hT (by omega) hqe (by unfold B; omega) ?_ hP
      have h1 : 18446744073709551615 * v2 ≤ B * v2 := Nat.mul_le_mul_right _ (by unfold B; omega)
      have h2 : B * v2 ≤ B * (u1 + v1) := Nat.mul_le_mul_left _ (by unfold B at hs; omega)
      omega

end Go.Proofs.Ytpgmhhkkbjbpgaa.Mg
namespace Go.Proofs.Ytpgmhhkkbjbpgaa.Mg
open Go.RowKit Go.Proofs.YtpgmhhkkbjbpgaaW.PrintWords Go.Proofs.YtpgmhhkkbjbpgaaW.PrintMore Go.Proofs.Ytpgmhhkkbjbpgaa.MB Go.Proofs.Ytpgmhhkkbjbpgaa.M Go.Proofs.Ytpgmhhkkbjbpgaa.MD
set_option linter.unusedVariables false
set_option linter.unusedSimpArgs false

/-! ### take, give -/
theorem hilo {x y : Int} (hx : 0 ≤ x ∧ x < 18446744073709551616) (hy : 0 ≤ y ∧ y < 18446744073709551616) : ∃ h l : Nat, hiW x y = (h : Int) ∧ loW x y = (l : Int) ∧ 18446744073709551616 * h + l = x.toNat * y.toNat ∧ l < 18446744073709551616 :=
  ⟨_, _, rfl, rfl, Nat.div_add_mod _ _, Nat.mod_lt _ (by decide)⟩
theorem val_take_set (l : List Int) (p m : Nat) (y : Int) (h : p < l.length) (hm : p < m) : val ((l.set p y).take m) + B ^ p * (l.getD p 0).toNat = val (l.take m) + B ^ p * y.toNat := by
  have := val_set_add (l.take m) p y (by rw [List.length_take]; omega)
  rw [← List.take_set] at this
  have e : (l.take m).getD p 0 = l.getD p 0 := by
    simp [List.getD_eq_getElem?_getD, List.getElem?_take, hm]
  rw [e] at this
  exact this
/-- One word of 'take': what is taken, and what is carried. -/
theorem take_word {q x c b y : Int} (hq : 0 ≤ q ∧ q < 18446744073709551616) (hx : 0 ≤ x ∧ x < 18446744073709551616) (hc : 0 ≤ c ∧ c < 18446744073709551616) (hb : 0 ≤ b ∧ b ≤ 1) (hy : 0 ≤ y ∧ y < 18446744073709551616) :
    ∃ c1 : Int, IntKind.u64.wrap (hiW q x + addC (loW q x) c 0) = c1 ∧ (0 ≤ c1 ∧ c1 < 18446744073709551616) ∧
      (subS y (addS (loW q x) c 0) b).toNat + q.toNat * x.toNat + c.toNat + b.toNat = y.toNat + B * (c1.toNat + (subC y (addS (loW q x) c 0) b).toNat) := by
  obtain ⟨h, l, e1, e2, hhl, hl⟩ := hilo hq hx
  have hh : h ≤ 18446744073709551614 := mul_high (x := q.toNat) (y := x.toNat) (by omega) (by omega) (by omega)
  rw [e1, e2, ← hhl]
  have a1 := addS_addC (l : Int) c 0
  have b1 := addC_ok (x := (l : Int)) (y := c) (c := 0) (by omega) hc.2 (by omega)
  have b2 := addS_ok (l : Int) c 0
  have a2 := subS_subC (x := y) (y := addS (l : Int) c 0) (c := b) hy.2 b2.2 hb.2
  have b3 := subC_ok y (addS (l : Int) c 0) b
  have b4 := subS_ok y (addS (l : Int) c 0) b
  refine ⟨(h : Int) + addC (l : Int) c 0, wu64 (by omega) (by omega), by omega, ?_⟩
  generalize subS y (addS (l : Int) c 0) b = s at *
  generalize subC y (addS (l : Int) c 0) b = s2 at *
  generalize addC (l : Int) c 0 = s3 at *
  generalize addS (l : Int) c 0 = s4 at *
  unfold B at a1 a2 ⊢
  omega
theorem take_val_step (Pp Pm s q x c b y C1 V X0 X1 X2 E : Nat) (h1 : s + q * x + c + b = y + B * C1) (h2 : X2 + Pp * B * (q * V) + Pp * B * C1 = X1 + E) (h3 : X1 + Pp * y = X0 + Pp * s) : X2 + Pp * (q * (x + B * V)) + Pp * (c + b) = X0 + E := by
  generalize B = D at *
  have e : Pp * (s + q * x + c + b) = Pp * (y + D * C1) := by rw [h1]
  grind
theorem takeL_val (q : Int) (hq : 0 ≤ q ∧ q < 18446744073709551616) : ∀ (v us : List Int) (p : Nat) (c b : Int), Ok v → Ok us → p + v.length ≤ us.length → (0 ≤ c ∧ c < 18446744073709551616) → (0 ≤ b ∧ b ≤ 1) →
    val ((takeL q v us p c b).1.take (p + v.length)) + B ^ p * (q.toNat * val v) + B ^ p * (c.toNat + b.toNat) = val (us.take (p + v.length)) + B ^ (p + v.length) * ((takeL q v us p c b).2.1.toNat + (takeL q v us p c b).2.2.toNat) ∧
      (takeL q v us p c b).1.drop (p + v.length) = us.drop (p + v.length) ∧ Ok (takeL q v us p c b).1 ∧ (0 ≤ (takeL q v us p c b).2.1 ∧ (takeL q v us p c b).2.1 < 18446744073709551616) ∧ (0 ≤ (takeL q v us p c b).2.2 ∧ (takeL q v us p c b).2.2 ≤ 1)
  | [], us, p, c, b, _, ho, hl, hc, hb => by
    simp only [takeL, List.length_nil, Nat.add_zero, val, Nat.mul_zero]
    exact ⟨trivial, trivial, ho, hc, hb⟩
  | x :: v, us, p, c, b, hv, ho, hl, hc, hb => by
    simp only [List.length_cons] at hl
    have hy := ho.getD p
    obtain ⟨c1, e1, hc1, hw⟩ := take_word hq hv.head hc hb hy
    simp only [takeL]
    rw [e1]
    have b3 := subC_ok (us.getD p 0) (addS (loW q x) c 0) b
    have b4 := subS_ok (us.getD p 0) (addS (loW q x) c 0) b
    obtain ⟨h1, h2, h3, h4, h5⟩ := takeL_val q hq v (us.set p (subS (us.getD p 0) (addS (loW q x) c 0) b)) (p + 1) c1 (subC (us.getD p 0) (addS (loW q x) c 0) b) hv.tail (ho.set _ b4) (by simp; omega) hc1 b3
    rw [List.length_cons, show p + (v.length + 1) = p + 1 + v.length from by omega]
    refine ⟨?_, ?_, h3, h4, h5⟩
    · have h6 := val_take_set us p (p + 1 + v.length) (subS (us.getD p 0) (addS (loW q x) c 0) b) (by omega) (by omega)
      rw [Nat.pow_succ] at h1
      simp only [val]
      exact take_val_step (B ^ p) 0 _ _ _ _ _ _ _ _ _ _ _ _ hw h1 h6
    · rw [h2, List.drop_set_of_lt (by omega)]
theorem take_fin (Pp Pn s c b y bo X0 X1 X2 qV : Nat) (h1 : X1 + Pp * qV + Pp * 0 = X0 + Pn * (c + b)) (h2 : s + c + b = y + B * bo) : (X1 + Pn * s) + Pp * qV = (X0 + Pn * y) + Pn * B * bo := by
  generalize B = D at *
  have e : Pn * (s + c + b) = Pn * (y + D * bo) := by rw [h2]
  grind
theorem takeL_pre (q : Int) : ∀ (v us : List Int) (p : Nat) (c b : Int), (takeL q v us p c b).1.take p = us.take p
  | [], us, p, c, b => rfl
  | x :: v, us, p, c, b => by
    simp only [takeL]
    have e := congrArg (List.take p) (takeL_pre q v (us.set p (subS (us.getD p 0) (addS (loW q x) c 0) b)) (p + 1) (IntKind.u64.wrap (hiW q x + addC (loW q x) c 0)) (subC (us.getD p 0) (addS (loW q x) c 0) b))
    rw [List.take_take, List.take_take, Nat.min_eq_left (by omega), List.take_set_of_le (Nat.le_refl _)] at e
    exact e
theorem getD_of_drop {a b : List Int} {n : Nat} (h : a.drop n = b.drop n) : a.getD n 0 = b.getD n 0 := by
  have := congrArg (fun l : List Int => l.getD 0 0) h
  simpa [List.getD_eq_getElem?_getD] using this
theorem drop_of_drop {a b : List Int} {n : Nat} (h : a.drop n = b.drop n) : a.drop (n + 1) = b.drop (n + 1) := by
  have := congrArg (List.drop 1) h
  simpa [List.drop_drop] using this
/-- The last word of 'take'. -/
theorem take_last (us us1 : List Int) (c b : Int) (p n qV : Nat) (hl : n < us.length) (hlen : us1.length = us.length) (ho : Ok us1) (hc : 0 ≤ c ∧ c < 18446744073709551616) (hb : 0 ≤ b ∧ b ≤ 1) (hp : p ≤ n)
    (h1 : val (us1.take n) + B ^ p * qV = val (us.take n) + B ^ n * (c.toNat + b.toNat)) (h2 : us1.drop n = us.drop n) (h3 : us1.take p = us.take p) :
    val ((us1.set n (subS (us1.getD n 0) c b)).take (n + 1)) + B ^ p * qV = val (us.take (n + 1)) + B ^ (n + 1) * (subC (us1.getD n 0) c b).toNat ∧
      (us1.set n (subS (us1.getD n 0) c b)).drop (n + 1) = us.drop (n + 1) ∧ Ok (us1.set n (subS (us1.getD n 0) c b)) ∧ (us1.set n (subS (us1.getD n 0) c b)).length = us.length ∧ (0 ≤ subC (us1.getD n 0) c b ∧ subC (us1.getD n 0) c b ≤ 1) ∧ (us1.set n (subS (us1.getD n 0) c b)).take p = us.take p := by
  have hy := ho.getD n
  have b3 := subC_ok (us1.getD n 0) c b
  have b4 := subS_ok (us1.getD n 0) c b
  have a2 := subS_subC (x := us1.getD n 0) (y := c) (c := b) hy.2 hc.2 hb.2
  refine ⟨?_, ?_, ho.set _ b4, by rw [List.length_set]; exact hlen, b3, ?_⟩
  · rw [val_set_take_succ _ _ _ (by omega), val_take_succ us, ← getD_of_drop h2, Nat.pow_succ]
    exact take_fin _ _ _ _ _ _ _ _ _ 0 _ (by rw [Nat.mul_zero, Nat.add_zero]; exact h1) a2
  · rw [List.drop_set_of_lt (by omega)]
    exact drop_of_drop h2
  · rw [List.take_set_of_le (by omega)]
    exact h3
/-- 'take', whole. -/
theorem takeF_val (q : Int) (hq : 0 ≤ q ∧ q < 18446744073709551616) (v us : List Int) (p : Nat) (hv : Ok v) (ho : Ok us) (hl : p + v.length + 1 ≤ us.length) :
    val ((takeF q v us p).1.take (p + v.length + 1)) + B ^ p * (q.toNat * val v) = val (us.take (p + v.length + 1)) + B ^ (p + v.length + 1) * (takeF q v us p).2.toNat ∧
      (takeF q v us p).1.drop (p + v.length + 1) = us.drop (p + v.length + 1) ∧ Ok (takeF q v us p).1 ∧ (takeF q v us p).1.length = us.length ∧ (0 ≤ (takeF q v us p).2 ∧ (takeF q v us p).2 ≤ 1) ∧ (takeF q v us p).1.take p = us.take p := by
  obtain ⟨h1, h2, h3, h4, h5⟩ := takeL_val q hq v us p 0 0 hv ho (by omega) ⟨by omega, by omega⟩ ⟨by omega, by omega⟩
  rw [Int.toNat_zero, Nat.add_zero, Nat.mul_zero, Nat.add_zero] at h1
  exact take_last us _ _ _ p (p + v.length) _ (by omega) (takeL_length q v us p 0 0) h3 h4 h5 (by omega) h1 h2 (takeL_pre q v us p 0 0)

theorem give_val_step (Pp s x c y C1 V X0 X1 X2 E : Nat) (h1 : s + B * C1 = y + x + c) (h2 : X2 + E = X1 + Pp * B * V + Pp * B * C1) (h3 : X1 + Pp * y = X0 + Pp * s) : X2 + E = X0 + Pp * (x + B * V) + Pp * c := by
  generalize B = D at *
  have e : Pp * (s + D * C1) = Pp * (y + x + c) := by rw [h1]
  grind
theorem giveL_val : ∀ (v us : List Int) (p : Nat) (c : Int), Ok v → Ok us → p + v.length ≤ us.length → (0 ≤ c ∧ c ≤ 1) →
    val ((giveL v us p c).1.take (p + v.length)) + B ^ (p + v.length) * (giveL v us p c).2.toNat = val (us.take (p + v.length)) + B ^ p * val v + B ^ p * c.toNat ∧
      (giveL v us p c).1.drop (p + v.length) = us.drop (p + v.length) ∧ Ok (giveL v us p c).1 ∧ (0 ≤ (giveL v us p c).2 ∧ (giveL v us p c).2 ≤ 1) ∧ (giveL v us p c).1.take p = us.take p
  | [], us, p, c, _, ho, hl, hc => by
    simp only [giveL, List.length_nil, Nat.add_zero, val, Nat.mul_zero]
    exact ⟨trivial, trivial, ho, hc, trivial⟩
  | x :: v, us, p, c, hv, ho, hl, hc => by
    simp only [List.length_cons] at hl
    have hy := ho.getD p
    have hw := addS_addC (us.getD p 0) x c
    have b3 := addC_ok hy.2 hv.head.2 hc.2
    have b4 := addS_ok (us.getD p 0) x c
    simp only [giveL]
    obtain ⟨h1, h2, h3, h4, h5⟩ := giveL_val v (us.set p (addS (us.getD p 0) x c)) (p + 1) (addC (us.getD p 0) x c) hv.tail (ho.set _ b4) (by simp; omega) b3
    rw [List.length_cons, show p + (v.length + 1) = p + 1 + v.length from by omega]
    refine ⟨?_, ?_, h3, h4, ?_⟩
    · have h6 := val_take_set us p (p + 1 + v.length) (addS (us.getD p 0) x c) (by omega) (by omega)
      rw [Nat.pow_succ B p] at h1
      simp only [val]
      exact give_val_step (B ^ p) _ _ _ _ _ _ _ _ _ _ hw h1 h6
    · rw [h2, List.drop_set_of_lt (by omega)]
    · have e := congrArg (List.take p) h5
      rw [List.take_take, List.take_take, Nat.min_eq_left (by omega), List.take_set_of_le (Nat.le_refl _)] at e
      exact e
theorem give_fin (Pp Pn s c y o X0 X1 V : Nat) (h1 : X1 + Pn * c = X0 + Pp * V + Pp * 0) (h2 : s + B * o = y + c) : (X1 + Pn * s) + Pn * B * o = (X0 + Pn * y) + Pp * V := by
  generalize B = D at *
  have e : Pn * (s + D * o) = Pn * (y + c) := by rw [h2]
  grind
/-- The last word of 'give'. -/
theorem give_last (us us1 : List Int) (c : Int) (p n V : Nat) (hl : n < us.length) (hlen : us1.length = us.length) (ho : Ok us1) (hc : 0 ≤ c ∧ c ≤ 1) (hp : p ≤ n)
    (h1 : val (us1.take n) + B ^ n * c.toNat = val (us.take n) + B ^ p * V) (h2 : us1.drop n = us.drop n) (h3 : us1.take p = us.take p) :
    ∃ o : Nat, o ≤ 1 ∧ val ((us1.set n (IntKind.u64.wrap (us1.getD n 0 + c))).take (n + 1)) + B ^ (n + 1) * o = val (us.take (n + 1)) + B ^ p * V ∧
      (us1.set n (IntKind.u64.wrap (us1.getD n 0 + c))).drop (n + 1) = us.drop (n + 1) ∧ Ok (us1.set n (IntKind.u64.wrap (us1.getD n 0 + c))) ∧ (us1.set n (IntKind.u64.wrap (us1.getD n 0 + c))).length = us.length ∧ (us1.set n (IntKind.u64.wrap (us1.getD n 0 + c))).take p = us.take p := by
  have hy := ho.getD n
  obtain ⟨o, s, hs, ho1, hso, hs2⟩ : ∃ (o s : Nat), IntKind.u64.wrap (us1.getD n 0 + c) = (s : Int) ∧ o ≤ 1 ∧ s + B * o = (us1.getD n 0).toNat + c.toNat ∧ s < 18446744073709551616 := by
    rw [wu64_mod]
    refine ⟨((us1.getD n 0).toNat + c.toNat) / B, ((us1.getD n 0).toNat + c.toNat) % B, ?_, ?_, ?_, ?_⟩ <;> unfold B <;> omega
  rw [hs]
  refine ⟨o, ho1, ?_, ?_, ho.set _ ⟨by omega, by omega⟩, by rw [List.length_set]; exact hlen, ?_⟩
  · rw [val_set_take_succ _ _ _ (by omega), val_take_succ us, ← getD_of_drop h2, Nat.pow_succ, Int.toNat_natCast]
    exact give_fin _ _ _ _ _ _ _ _ _ (by rw [Nat.mul_zero, Nat.add_zero]; exact h1) hso
  · rw [List.drop_set_of_lt (by omega)]
    exact drop_of_drop h2
  · rw [List.take_set_of_le (by omega)]
    exact h3
/-- 'give', whole. -/
theorem giveF_val (v us : List Int) (p : Nat) (hv : Ok v) (ho : Ok us) (hl : p + v.length + 1 ≤ us.length) : ∃ o : Nat, o ≤ 1 ∧
    val ((giveF v us p).take (p + v.length + 1)) + B ^ (p + v.length + 1) * o = val (us.take (p + v.length + 1)) + B ^ p * val v ∧
      (giveF v us p).drop (p + v.length + 1) = us.drop (p + v.length + 1) ∧ Ok (giveF v us p) ∧ (giveF v us p).length = us.length ∧ (giveF v us p).take p = us.take p := by
  obtain ⟨h1, h2, h3, h4, h5⟩ := giveL_val v us p 0 hv ho (by omega) ⟨by omega, by omega⟩
  rw [Int.toNat_zero, Nat.mul_zero, Nat.add_zero] at h1
  exact give_last us _ _ p (p + v.length) _ (by omega) (giveL_length v us p 0) h3 h4 (by omega) h1 h2 h5
end Go.Proofs.Ytpgmhhkkbjbpgaa.Mg
