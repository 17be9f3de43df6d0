/- MagShifts answers true, over numbers: up and down are products and quotients by powers of two; a number has as many bits, and noughts at its end, as these say. -/
import Derived.Test.YtfkpbdapinpkdaaDoorLZ
import Derived.Test.YtfkpbdapinpkdaaDoorLBa
import Derived.Test.YtfkpbdapinpkdaaDoorLBm
import Derived.Test.YtfkpbdapinpkdaaDoorKShifts
namespace Go.Proofs.YtfkpbdapinpkdaaDoor.Mg
open Go.RowKit Go.Proofs.YtfkpbdapinpkdaaDoorW.PrintWords Go.Proofs.YtfkpbdapinpkdaaDoorW.PrintMore Go.Proofs.YtfkpbdapinpkdaaDoor.MB Go.Proofs.YtfkpbdapinpkdaaDoor.M Go.Proofs.YtfkpbdapinpkdaaDoor.MD
set_option linter.unusedVariables false
set_option linter.unusedSimpArgs false

theorem two_lt {c m : Nat} (h : c < 64 * m) : 2 ^ c < B ^ m := by
  rw [B_pow]
  exact Nat.pow_lt_pow_right (by decide) h
theorem power_l0 (j : Nat) (hj : j ≤ 500) : ∀ (d i k : Nat), i + d = j → d + 20001 ≤ k → isohyetlaw01_power.l0 k (ofNat (2 ^ i)) (j : Int) (i : Int) = some (ofNat (2 ^ j))
  | 0, i, k, hi, hk => by
    obtain ⟨k, rfl⟩ : ∃ m, k = m + 1 := ⟨k - 1, by omega⟩
    obtain rfl : i = j := by omega
    simp only [isohyetlaw01_power.l0]
    rw [if_neg (by omega)]
  | d + 1, i, k, hi, hk => by
    obtain ⟨k, rfl⟩ : ∃ m, k = m + 1 := ⟨k - 1, by omega⟩
    have h2 : 2 ^ i < B ^ 9 := two_lt (by omega)
    have H := Has.nat h2 (by omega)
    simp only [isohyetlaw01_power.l0]
    rw [if_pos (by omega), Add_g H H (by omega), Option.bind_some, w64 (x := (i : Int) + 1) (by omega) (by omega), ← Nat.two_mul, ← Nat.pow_succ']
    exact power_l0 j hj d (i + 1) k (by omega) (by omega)
theorem power_f {j k : Nat} (hj : j ≤ 500) (hk : 20601 ≤ k) : isohyetlaw01_power.f k (j : Int) = some (ofNat (2 ^ j)) := by
  have h := power_l0 j hj j 0 k (by omega) (by omega)
  rw [Nat.pow_zero, ofNat_small (by decide) (by decide)] at h
  exact h
theorem and_one (x : Nat) (hx : x < 18446744073709551616) : Go.bits .and .u64 (x : Int) 1 = ((x % 2 : Nat) : Int) := by
  have h := bits_and_u64_nat x 1 hx (by omega)
  rw [Nat.and_one_is_mod] at h
  exact h
theorem rd_zero {n : Nat} (h : n ≠ 0) : rd (ofNat n) 0 = ((n % B : Nat) : Int) := by
  rw [ofNat_pos h]
  rfl
theorem bits_le_words {x m : Nat} (h : x < B ^ m) : bitsN x ≤ 64 * m := bitsN_le (by rw [← B_pow]; exact h)
theorem top_one {x : Nat} (h : x ≠ 0) : x / 2 ^ (bitsN x - 1) = 1 := by
  have h1 := bitsN_ge h
  have h2 := bitsN_lt x
  have h3 : bitsN x ≠ 0 := fun e => h (bitsN_eq_zero.1 e)
  have e : 2 ^ bitsN x = 2 ^ (bitsN x - 1) * 2 := by
    rw [← Nat.pow_succ]
    congr 1
    omega
  rw [e] at h2
  have hP : 0 < 2 ^ (bitsN x - 1) := Nat.pow_pos (by decide)
  generalize 2 ^ (bitsN x - 1) = P at *
  exact (divmod_unique (n := x) (y := P) (q := 1) (r := x - P) (by omega) (by omega)).1
theorem MagShifts_f {a : List Int} {a1 : Int} {k : Nat} (ha : Ok a) (hk : 20701 ≤ k) : isohyetlaw01_MagShifts.f k a a1 = some true := by
  unfold isohyetlaw01_MagShifts.f
  obtain ⟨r, hs, hr⟩ := short_1 (k := k) 8 a (by omega)
  rw [fit_f (by omega), Option.bind_some, if_pos rfl, hs, Option.bind_some]
  cases r with
  | false => rw [if_neg (by decide)]
  | true =>
    have la := hr rfl
    rw [if_pos rfl]
    have Ha := Has.of ha (by omega)
    have hx := val_lt_of_len (m := 8) ha (by omega)
    generalize val a = x at Ha hx
    obtain ⟨s, hs1, hs2, hs3⟩ : ∃ s : Int, wrap64 (Go.bits .and .i64 a1 511 - 20) = s ∧ -20 ≤ s ∧ s ≤ 491 := ⟨a1 % 512 - 20, by rw [and511, w64 (by omega) (by omega)], by omega, by omega⟩
    obtain ⟨j, hj, hj2, hj3⟩ : ∃ j : Nat, mx s 0 = (j : Int) ∧ clampN s = j ∧ j ≤ 491 := ⟨s.toNat, by unfold mx; split <;> omega, by unfold clampN; omega, by omega⟩
    have h2 : 2 ^ j < B ^ 8 := two_lt (by omega)
    have H2 := Has.nat h2 (by omega)
    have hxy := pow_mul_lt hx h2
    have hq : x / 2 ^ j < B ^ 8 := Nat.lt_of_le_of_lt (Nat.div_le_self x _) hx
    have u1 : mag_Up.f k a s = some (ofNat (x * 2 ^ j)) := by
      have h1 := Ha.len
      rw [Up_f Ha.ok (le_LEN h1) (by omega), Ha.val, hj2]
    have d1 : mag_Down.f k a s = some (ofNat (x / 2 ^ j)) := by
      have h1 := Ha.len
      rw [Down_f Ha.ok (le_LEN h1) (by omega), Ha.val, hj2]
    simp only [hs1, hj]
    rw [power_f (by omega) (by omega), Option.bind_some, Div_g Ha H2 (by omega), Option.bind_some]
    dsimp only
    rw [u1, Option.bind_some, Mul_g Ha H2 (by omega), Option.bind_some, same_g rfl hxy (by omega) (by omega), Option.bind_some, if_pos rfl, d1, Option.bind_some, same_g rfl hq (by omega) (by omega), Option.bind_some]
    obtain ⟨k, rfl⟩ : ∃ m, k = m + 1 := ⟨k - 1, by omega⟩
    obtain ⟨z0, z1⟩ := Zeros_f (k := k) Ha.ok (le_LEN Ha.len) (by have := Ha.len; omega)
    rw [Ha.val] at z0 z1
    simp only [isohyetlaw01_MagShifts.j0]
    rw [if_neg (by decide), Len_g Ha (by omega), Option.bind_some]
    by_cases h0 : x = 0
    · have e0 : bitsN x = 0 := bitsN_eq_zero.2 h0
      rw [z0 h0, Option.bind_some, e0, if_pos (show ((0 : Nat) : Int) = 0 from rfl), if_pos rfl, Add_g Ha Has.nil (by omega), Option.bind_some, h0, ofNat_zero]
      rfl
    · have hb0 : bitsN x ≠ 0 := fun h => h0 (bitsN_eq_zero.1 h)
      have hb : bitsN x ≤ 64 * 8 := bits_le_words hx
      obtain ⟨t, m, e⟩ := two_form h0
      have ht : 2 ^ t ≤ x := by
        rw [e]
        exact Nat.le_mul_of_pos_right _ (by omega)
      have htb : t < bitsN x := (Nat.pow_lt_pow_iff_right (by decide)).1 (Nat.lt_of_le_of_lt ht (bitsN_lt x))
      have hd : x / 2 ^ t = 2 * m + 1 := by rw [e, Nat.mul_div_cancel_left _ (Nat.pow_pos (by decide))]
      have hm : 2 * m + 1 < B ^ 8 := by rw [← hd]; exact Nat.lt_of_le_of_lt (Nat.div_le_self x _) hx
      have hlen : (ofNat (2 * m + 1)).length ≠ 0 := fun h => absurd (ofNat_eq_nil.1 (List.eq_nil_of_length_eq_zero h)) (by omega)
      have o1 : mag_Of.f k 1 = some (ofNat 1) := Of_f (by omega) (by omega) (by omega)
      have hodd : (2 * m + 1) % B % 2 = 1 := by unfold B; omega
      have hBl : (2 * m + 1) % B < 18446744073709551616 := Nat.mod_lt _ (by decide)
      have hback : (2 * m + 1) * 2 ^ t = x + 0 := by rw [Nat.add_zero, Nat.mul_comm]; exact e.symm
      have hxx : (2 * m + 1) * 2 ^ t < B ^ 8 := by rw [hback]; exact hx
      have e1 : wrap64 (((bitsN x : Nat) : Int) - 1) = ((bitsN x - 1 : Nat) : Int) := by rw [w64 (by omega) (by omega)]; omega
      rw [z1 t m e, Option.bind_some, if_neg (by omega), e1, Down_g Ha (by omega) (by omega), Option.bind_some, top_one h0, Down_g Ha (by omega) (by omega), Option.bind_some, hd, o1, Option.bind_some, same_g rfl (show 1 < B ^ 1 by decide) (by omega) (by omega), Option.bind_some, if_pos rfl, if_pos (by omega),
        rd_zero (by omega), and_one _ hBl, hodd, if_pos (show ((1 : Nat) : Int) = 1 from rfl), Up_g (Has.nat hm (by omega)) (by omega) (by omega), Option.bind_some, Add_g Ha Has.nil (by omega), Option.bind_some, same_g hback hxx (by omega) (by omega), Option.bind_some]
end Go.Proofs.YtfkpbdapinpkdaaDoor.Mg
namespace Go.Proofs.YtfkpbdapinpkdaaDoor.Pure
open Go.Proofs.YtfkpbdapinpkdaaDoor.M
theorem MagShifts : ∀ (l0 : List Int) (a1 : Int), l0.length ≤ maxLen → l0.length * 8 ≤ 140737488351232 → (∀ x ∈ l0, (Lit.int .u64 x).wf = true) → (Lit.int .i64 a1).wf = true → ∃ k, isohyetlaw01_MagShifts.f k l0 a1 = some true := by
  intro l0 a1 _ _ h0 _
  exact ⟨20701, Mg.MagShifts_f (Mg.ok_of_wf h0) (Nat.le_refl _)⟩
end Go.Proofs.YtfkpbdapinpkdaaDoor.Pure
