/- mag.Sub over lists: the difference, 0 where there is none. -/
import Derived.Test.YtpgmhhkkbjbpgaaX1
import Derived.Test.YtpgmhhkkbjbpgaaB2
namespace Go.Proofs.Ytpgmhhkkbjbpgaa.Mg
open Go.RowKit Go.Proofs.YtpgmhhkkbjbpgaaW.PrintWords Go.Proofs.YtpgmhhkkbjbpgaaW.PrintMore Go.Proofs.Ytpgmhhkkbjbpgaa.MB Go.Proofs.Ytpgmhhkkbjbpgaa.M
set_option linter.unusedVariables false
set_option linter.unusedSimpArgs false

/-! ### Sub -/
theorem Sub_l0 (a b : List Int) (ha : Ok a) (hb : Ok b) (hab : b.length ≤ a.length) (hm : a.length ≤ LEN) (hle : val b ≤ val a) (K : Nat) (hK : a.length + 1 < K) : ∀ (d i k : Nat) (out : List Int) (c : Int), i + d = a.length → d + K ≤ k → out.length = a.length → Ok out → 0 ≤ c → c ≤ 1 →
    val (out.take i) + val (b.take i) = val (a.take i) + B ^ i * c.toNat → mag_Sub.l0 k b out c a (a.length : Int) (i : Int) = some (ofNat (val a - val b)) := by
  unfold LEN at hm
  intro d
  induction d with
  | zero =>
    intro i k out c hi hk hl ho h0 h1 he
    obtain ⟨k, rfl⟩ : ∃ m, k = m + 1 := ⟨k - 1, by omega⟩
    obtain rfl : i = a.length := by omega
    simp only [mag_Sub.l0]
    rw [if_neg (by omega), right_f (by omega) (by omega) ho]
    simp only [Option.bind_some]
    rw [List.take_of_length_le (by omega), List.take_length, List.take_of_length_le hab] at he
    have hv := val_lt ho
    rw [hl] at hv
    have hc : c.toNat = 0 := by
      rcases Nat.eq_zero_or_pos c.toNat with h | h
      · exact h
      · have : B ^ a.length * 1 ≤ B ^ a.length * c.toNat := Nat.mul_le_mul_left _ h
        omega
    rw [hc] at he
    congr 2
    omega
  | succ d ih =>
    intro i k out c hi hk hl ho h0 h1 he
    obtain ⟨k, rfl⟩ : ∃ m, k = m + 1 := ⟨k - 1, by omega⟩
    simp only [mag_Sub.l0]
    have hxa := ha.getD i
    have hxb := hb.getD i
    have step : ∀ y : Int, y = b.getD i 0 → mag_Sub.l0 k b (out.set i (subS (a.getD i 0) y c)) (subC (a.getD i 0) y c) a (a.length : Int) (wrap64 ((i : Int) + 1)) = some (ofNat (val a - val b)) := by
      intro y hy
      subst hy
      rw [w64 (by omega) (by omega), show ((i : Int) + 1) = ((i + 1 : Nat) : Int) from by omega]
      have hC := subC_ok (a.getD i 0) (b.getD i 0) c
      refine ih (i + 1) k _ _ (by omega) (by omega) (by simp; omega) (ho.set _ (subS_ok _ _ _)) hC.1 hC.2 ?_
      rw [val_set_take_succ _ _ _ (by omega), val_take_succ, val_take_succ]
      have hs := subS_subC hxa.2 hxb.2 h1
      have e2 : B ^ i * ((subS (a.getD i 0) (b.getD i 0) c).toNat + (b.getD i 0).toNat + c.toNat) = B ^ i * ((a.getD i 0).toNat + B * (subC (a.getD i 0) (b.getD i 0) c).toNat) := by rw [hs]
      rw [Nat.pow_succ]
      rw [Nat.mul_add, Nat.mul_add, Nat.mul_add, ← Nat.mul_assoc] at e2
      omega
    rw [if_pos (by omega), if_pos (by omega), if_pos (by omega), rd_cast, rd_cast]
    by_cases hib : (i : Int) < (b.length : Int)
    · rw [if_pos hib, if_pos h1, if_pos (by omega), Int.toNat_natCast]
      exact step _ rfl
    · rw [if_neg hib, if_pos h1, if_pos (by omega), Int.toNat_natCast]
      exact step 0 (by simp [List.getD_eq_getElem?_getD, List.getElem?_eq_none (by omega : b.length ≤ i)])
theorem Sub_f {a b : List Int} {k : Nat} (ha : Ok a) (hb : Ok b) (hla : a.length ≤ LEN) (hlb : b.length ≤ LEN) (hk : 2 * (a.length + b.length) + 4 < k) : mag_Sub.f k a b = some (ofNat (val a - val b)) := by
  have hla' := hla
  have hlb' := hlb
  unfold LEN at hla' hlb'
  unfold mag_Sub.f
  have l1 := length_ofNat_val ha
  have l2 := length_ofNat_val hb
  rw [right_f (by omega) (by omega) ha, right_f (by omega) (by omega) hb]
  simp only [Option.bind_some]
  rw [Cmp_f (Ok_ofNat _) (Ok_ofNat _) (by omega) (by omega) (by omega), val_ofNat, val_ofNat]
  simp only [Option.bind_some]
  by_cases hc : cmpN (val a) (val b) ≤ 0
  · rw [if_pos hc]
    have : val a ≤ val b := by
      unfold cmpN at hc
      split at hc
      · omega
      · split at hc
        · omega
        · omega
    rw [show val a - val b = 0 from by omega, ofNat_zero]
  · rw [if_neg hc, if_pos (by omega), Int.toNat_natCast, if_pos (by omega)]
    have hlt : val b < val a := by
      unfold cmpN at hc
      split at hc
      · omega
      · split at hc
        · omega
        · omega
    have hlen : (ofNat (val b)).length ≤ (ofNat (val a)).length := by
      rcases Nat.lt_or_ge (ofNat (val a)).length (ofNat (val b)).length with h | h
      · have := ofNat_length_lt h; omega
      · exact h
    have := Sub_l0 (ofNat (val a)) (ofNat (val b)) (Ok_ofNat _) (Ok_ofNat _) hlen (by omega) (by rw [val_ofNat, val_ofNat]; omega) ((ofNat (val a)).length + 2) (by omega) (ofNat (val a)).length 0 k (List.replicate (ofNat (val a)).length 0) 0 (by omega) (by omega) (by simp) (Ok.replicate _) (by omega) (by omega) (by simp [val])
    rw [val_ofNat, val_ofNat] at this
    exact this
end Go.Proofs.Ytpgmhhkkbjbpgaa.Mg
