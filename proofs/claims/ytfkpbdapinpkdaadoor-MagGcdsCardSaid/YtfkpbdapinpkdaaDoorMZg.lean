/- mag.Gcd over lists: the greatest common divisor. -/
import Derived.Test.YtfkpbdapinpkdaaDoorX6
import Derived.Test.YtfkpbdapinpkdaaDoorB4
namespace Go.Proofs.YtfkpbdapinpkdaaDoor.Mg
open Go.RowKit Go.Proofs.YtfkpbdapinpkdaaDoorW.PrintWords Go.Proofs.YtfkpbdapinpkdaaDoorW.PrintMore Go.Proofs.YtfkpbdapinpkdaaDoor.MB Go.Proofs.YtfkpbdapinpkdaaDoor.M Go.Proofs.YtfkpbdapinpkdaaDoor.MD
set_option linter.unusedVariables false
set_option linter.unusedSimpArgs false

theorem gcd_rec' (a b : Nat) : Nat.gcd a b = Nat.gcd b (a % b) := by
  rw [Nat.gcd_comm a b, Nat.gcd_rec b a, Nat.gcd_comm]
theorem tmod_cast (x y : Nat) : Int.tmod (x : Int) (y : Int) = ((x % y : Nat) : Int) := (Int.ofNat_tmod x y).symm
theorem log_step {a b : Nat} (h : b ≤ a) (hb : 0 < b) : 2 * (a % b) ≤ a := by
  have h1 := Nat.mod_lt a hb
  have h2 := Nat.div_add_mod a b
  have h3 : 1 ≤ a / b := (Nat.le_div_iff_mul_le hb).2 (by omega)
  have h4 : b * 1 ≤ b * (a / b) := Nat.mul_le_mul_left _ h3
  omega

theorem bitsN_pos {n : Nat} (h : n ≠ 0) : 1 ≤ bitsN n := by
  unfold bitsN
  rw [if_neg h]
  omega
/-- How many rounds Euclid's way has at most. -/
def gcdF (a b : Nat) : Nat := bitsN a + bitsN b + (if a < b then 1 else 0)
theorem gcdF_lt {a b : Nat} (hb : b ≠ 0) : gcdF b (a % b) < gcdF a b := by
  have h1 := Nat.mod_lt a (show 0 < b by omega)
  unfold gcdF
  rw [if_neg (by omega)]
  by_cases h : a < b
  · rw [Nat.mod_eq_of_lt h, if_pos h]
    omega
  · have h2 := log_step (show b ≤ a by omega) (by omega)
    have h3 := bitsN_lt a
    have h4 := bitsN_pos (show a ≠ 0 by omega)
    have h5 : bitsN (a % b) ≤ bitsN a - 1 := by
      refine bitsN_le ?_
      rw [show bitsN a = (bitsN a - 1) + 1 from by omega, Nat.pow_succ] at h3
      omega
    rw [if_neg h]
    omega
theorem Gcd_l1 : ∀ (n k x y : Nat), x < 18446744073709551616 → y < 18446744073709551616 → gcdF x y ≤ n → n + 3 ≤ k → mag_Gcd.l1 k (x : Int) (y : Int) = some (ofNat (Nat.gcd x y))
  | n, 0, x, y, hx, hy, hn, hk => by omega
  | n, k + 1, x, y, hx, hy, hn, hk => by
    simp only [mag_Gcd.l1]
    by_cases h : y = 0
    · subst h
      rw [if_neg (by omega), Of_f (by omega) (by omega) (by omega), Option.bind_some, Int.toNat_natCast, Nat.gcd_zero_right]
    · have h1 := Nat.mod_lt x (show 0 < y by omega)
      have h2 := gcdF_lt (a := x) h
      rw [if_pos (by omega), if_neg (by omega), tmod_cast, gcd_rec' x y]
      exact Gcd_l1 (n - 1) k y (x % y) hy (by omega) (by omega) (by omega)
theorem rd_ofNat {a : Nat} (h : (ofNat a).length ≤ 1) : rd (ofNat a) 0 = ((a : Nat) : Int) ∧ a < 18446744073709551616 := by
  have hB := lt_pow_length_ofNat a
  have hB' : a < B := Nat.lt_of_lt_of_le hB (by have := Nat.pow_le_pow_right B_pos h; rwa [Nat.pow_one] at this)
  refine ⟨?_, hB'⟩
  by_cases h0 : a = 0
  · subst h0
    rw [ofNat_zero]
    rfl
  · rw [ofNat_small h0 hB']
    rfl
theorem Gcd_j1 {k a b : Nat} (ha : a ≠ 0) (hla : (ofNat a).length ≤ LEN) (hb : (ofNat b).length ≤ 1) (h : b ≠ 0 → (ofNat a).length ≤ 1) (hk : gcdF a b + 4 ≤ k) : mag_Gcd.j1 k (ofNat a) (ofNat b) = some (ofNat (Nat.gcd a b)) := by
  obtain ⟨k, rfl⟩ : ∃ n, k = n + 1 := ⟨k - 1, by omega⟩
  unfold LEN at hla
  simp only [mag_Gcd.j1]
  by_cases hb0 : b = 0
  · subst hb0
    rw [ofNat_zero, List.length_nil, if_pos (by omega), if_pos (by omega), List.nil_append, Nat.gcd_zero_right]
  · have h1 : (ofNat b).length ≠ 0 := fun h => hb0 (ofNat_eq_nil.1 (List.eq_nil_of_length_eq_zero h))
    have h2 : (ofNat a).length ≠ 0 := fun h => ha (ofNat_eq_nil.1 (List.eq_nil_of_length_eq_zero h))
    obtain ⟨e1, e2⟩ := rd_ofNat (h hb0)
    obtain ⟨e3, e4⟩ := rd_ofNat hb
    rw [if_neg (by omega), if_pos (by omega), if_pos (by omega), e1, e3]
    exact Gcd_l1 (gcdF a b) k a b e2 e4 (Nat.le_refl _) (by omega)
theorem ofNat_length_mono {a b : Nat} (h : a ≤ b) : (ofNat a).length ≤ (ofNat b).length := by
  rcases Nat.lt_or_ge (ofNat b).length (ofNat a).length with h1 | h1
  · have := ofNat_length_lt h1
    omega
  · exact h1
theorem Gcd_l0 (M : Nat) (hM : M ≤ LEN) : ∀ (k a b : Nat), a ≠ 0 → (ofNat a).length ≤ M → (ofNat b).length ≤ M → gcdF a b + 8 * M + 850 ≤ k → mag_Gcd.l0 k (ofNat a) (ofNat b) = some (ofNat (Nat.gcd a b))
  | 0, a, b, ha, hla, hlb, hk => by omega
  | k + 1, a, b, ha, hla, hlb, hk => by
    have step : b ≠ 0 → ((mag_Div.f k (ofNat a) (ofNat b)).bind fun bt => mag_Gcd.l0 k (ofNat b) bt.2) = some (ofNat (Nat.gcd a b)) := by
      intro hb
      have h1 := Nat.mod_lt a (show 0 < b by omega)
      have h2 := gcdF_lt (a := a) hb
      have h3 := ofNat_length_mono (Nat.le_of_lt h1)
      rw [Div_f (Ok_ofNat a) (Ok_ofNat b) (by omega) (by omega) (by omega), Option.bind_some]
      dsimp only
      rw [val_ofNat, val_ofNat, gcd_rec' a b]
      exact Gcd_l0 M hM k b (a % b) hb hlb (by omega) (by omega)
    simp only [mag_Gcd.l0]
    have h1 : (ofNat b).length ≠ 0 → b ≠ 0 := fun h h0 => h (by rw [h0, ofNat_zero]; rfl)
    have h2 : b ≠ 0 → (ofNat b).length ≠ 0 := fun hb0 h => hb0 (ofNat_eq_nil.1 (List.eq_nil_of_length_eq_zero h))
    by_cases c1 : (ofNat b).length > 1
    · rw [if_pos (by omega)]
      exact step (h1 (by omega))
    · rw [if_neg (by omega)]
      by_cases c2 : (ofNat b).length = 1
      · rw [if_pos (by omega)]
        by_cases c3 : (ofNat a).length > 1
        · rw [if_pos (by omega)]
          exact step (h1 (by omega))
        · rw [if_neg (by omega)]
          exact Gcd_j1 ha (by omega) (by omega) (fun _ => by omega) (by omega)
      · rw [if_neg (by omega)]
        exact Gcd_j1 ha (by omega) (by omega) (fun hb0 => absurd (h2 hb0) (by omega)) (by omega)
theorem bitsN_ofNat (n : Nat) : bitsN n ≤ 64 * (ofNat n).length := by
  have := lt_pow_length_ofNat n
  rw [B_pow] at this
  exact bitsN_le this
theorem Gcd_f {a b : List Int} {k : Nat} (ha : Ok a) (hb : Ok b) (hla : a.length ≤ LEN) (hlb : b.length ≤ LEN) (hk : 80 * (a.length + b.length) + 900 ≤ k) : mag_Gcd.f k a b = some (ofNat (Nat.gcd (val a) (val b))) := by
  have h1 := length_ofNat_val ha
  have h2 := length_ofNat_val hb
  have hlaU := hla
  have hlbU := hlb
  unfold LEN at hlaU hlbU
  unfold mag_Gcd.f
  rw [right_f (by omega) (by omega) ha, Option.bind_some, right_f (by omega) (by omega) hb, Option.bind_some]
  have e1 : ∀ n, (ofNat n).length = 0 → n = 0 := fun n h => ofNat_eq_nil.1 (List.eq_nil_of_length_eq_zero h)
  by_cases c1 : (ofNat (val a)).length = 0
  · rw [if_pos (by omega), if_pos (by rw [List.length_nil]; omega), List.nil_append, e1 _ c1, Nat.gcd_zero_left]
  · rw [if_neg (by omega)]
    by_cases c2 : (ofNat (val b)).length = 0
    · rw [if_pos (by omega), if_pos (by rw [List.length_nil]; omega), List.nil_append, e1 _ c2, Nat.gcd_zero_right]
    · rw [if_neg (by omega)]
      have b1 := bitsN_ofNat (val a)
      have b2 := bitsN_ofNat (val b)
      have hF : gcdF (val a) (val b) ≤ bitsN (val a) + bitsN (val b) + 1 := by unfold gcdF; split <;> omega
      exact Gcd_l0 (max a.length b.length) (by omega) k _ _ (fun h => c1 (by rw [h, ofNat_zero]; rfl)) (by omega) (by omega) (by omega)
end Go.Proofs.YtfkpbdapinpkdaaDoor.Mg
