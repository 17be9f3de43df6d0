/- MagParts answers true, over numbers: a number is what is above some bits, up again, and what is below them. -/
import Derived.Test.YtfkpbdapinpkdaaDoorLZ
import Derived.Test.YtfkpbdapinpkdaaDoorLBa
import Derived.Test.YtfkpbdapinpkdaaDoorLBs
import Derived.Test.YtfkpbdapinpkdaaDoorKParts
namespace Go.Proofs.YtfkpbdapinpkdaaDoor.Mg
open Go.RowKit Go.Proofs.YtfkpbdapinpkdaaDoorW.PrintWords Go.Proofs.YtfkpbdapinpkdaaDoorW.PrintMore Go.Proofs.YtfkpbdapinpkdaaDoor.MB Go.Proofs.YtfkpbdapinpkdaaDoor.M Go.Proofs.YtfkpbdapinpkdaaDoor.MD
set_option linter.unusedVariables false
set_option linter.unusedSimpArgs false

theorem pow_le_B2 {c m : Nat} (h : c ≤ 64 * m) : 2 ^ c ≤ B ^ m := by
  rw [B_pow]
  exact Nat.pow_le_pow_right (by decide) h
theorem sub_low (x P : Nat) : x - x / P * P = x % P := by
  have h := Nat.div_add_mod x P
  rw [Nat.mul_comm] at h
  generalize x / P * P = z at *
  omega
theorem sum_low (x P : Nat) : x / P * P + x % P = x := by
  rw [Nat.mul_comm]
  exact Nat.div_add_mod x P
theorem low_form {x j t m : Nat} (h : x % 2 ^ j = 2 ^ t * (2 * m + 1)) : ∃ m', x = 2 ^ t * (2 * m' + 1) := by
  have hlt := Nat.mod_lt x (Nat.pow_pos (n := j) (show 0 < 2 by decide))
  have ht : 2 ^ t < 2 ^ j := by
    have : 2 ^ t * 1 ≤ 2 ^ t * (2 * m + 1) := Nat.mul_le_mul_left _ (by omega)
    omega
  have htj : t < j := (Nat.pow_lt_pow_iff_right (by decide)).1 ht
  obtain ⟨d, rfl⟩ : ∃ d, j = t + (d + 1) := ⟨j - t - 1, by omega⟩
  have hs := sum_low x (2 ^ (t + (d + 1)))
  rw [h] at hs
  generalize x / 2 ^ (t + (d + 1)) = q at hs
  refine ⟨q * 2 ^ d + m, ?_⟩
  rw [← hs, Nat.pow_add, Nat.pow_succ]
  clear hs ht hlt h htj
  generalize 2 ^ t = P
  generalize 2 ^ d = Q
  grind
theorem MagParts_f {a : List Int} {a1 : Int} {k : Nat} (ha : Ok a) (hk : 20001 ≤ k) : isohyetlaw01_MagParts.f k a a1 = some true := by
  unfold isohyetlaw01_MagParts.f
  obtain ⟨r, hs, hr⟩ := short_1 (k := k) 10 a (by omega)
  rw [fit_f (by omega), Option.bind_some, if_pos rfl, hs, Option.bind_some]
  cases r with
  | false => rw [if_neg (by decide)]
  | true =>
    have la := hr rfl
    rw [if_pos rfl]
    have Ha := Has.of ha (by omega)
    have hx := val_lt_of_len (m := 10) ha (by omega)
    generalize val a = x at Ha hx
    obtain ⟨j, hj, hj2⟩ : ∃ j : Nat, Go.bits .and .i64 a1 511 = (j : Int) ∧ j ≤ 511 := ⟨(a1 % 512).toNat, by rw [and511]; omega, by omega⟩
    have hhigh : x / 2 ^ j * 2 ^ j < B ^ 10 := Nat.lt_of_le_of_lt (Nat.div_mul_le_self x _) hx
    have hq : x / 2 ^ j < B ^ 10 := Nat.lt_of_le_of_lt (Nat.div_le_self x _) hx
    have hlow : x % 2 ^ j < B ^ 10 := Nat.lt_of_le_of_lt (Nat.mod_le x _) hx
    have hP : 1 * 2 ^ j < B ^ (1 + 9) := by rw [Nat.one_mul]; exact Nat.lt_of_le_of_lt (pow_le_B2 (m := 9) (by omega)) (by decide)
    have hbits : bitsN (x % 2 ^ j) ≤ j := bitsN_le (Nat.mod_lt x (Nat.pow_pos (by decide)))
    have hdec : decide (((bitsN (x % 2 ^ j) : Nat) : Int) > (j : Int)) = false := decide_eq_false (by omega)
    obtain ⟨k, rfl⟩ : ∃ m, k = m + 1 := ⟨k - 1, by omega⟩
    simp only [hj]
    rw [Down_g Ha (by omega) (by omega), Option.bind_some, Up_g (Has.nat hq (by omega)) (by omega) (by omega), Option.bind_some, Sub_g Ha (Has.nat hhigh (by omega)) (by omega), Option.bind_some, sub_low,
      Add_g (Has.nat hhigh (by omega)) (Has.nat hlow (by omega)) (by omega), Option.bind_some, sum_low, Cmp_g (Has.nat hx (by omega)) Ha (by omega), Option.bind_some, cmpN_self, if_pos rfl, Len_g (Has.nat hlow (by omega)) (by omega), Option.bind_some, hdec]
    have o1 : mag_Of.f k 1 = some (ofNat 1) := Of_f (by omega) (by omega) (by omega)
    simp only [isohyetlaw01_MagParts.j0]
    rw [if_neg (by decide), o1, Option.bind_some, Up_g (Has.nat (show 1 < B ^ 1 by decide) (by omega)) (by omega) (by omega), Option.bind_some, Div_g Ha (Has.nat hP (by omega)) (by omega), Option.bind_some]
    dsimp only
    rw [Nat.one_mul, same_g rfl hlow (by omega) (by omega), Option.bind_some, if_pos rfl, Len_g (Has.nat hlow (by omega)) (by omega), Option.bind_some]
    by_cases h0 : x % 2 ^ j = 0
    · have e0 : bitsN (x % 2 ^ j) = 0 := bitsN_eq_zero.2 h0
      rw [e0, if_pos (show ((0 : Nat) : Int) = 0 from rfl)]
    · have hb0 : bitsN (x % 2 ^ j) ≠ 0 := fun h => h0 (bitsN_eq_zero.1 h)
      obtain ⟨t, m, e⟩ := two_form h0
      obtain ⟨m', e'⟩ := low_form e
      have hl := (Has.nat hlow (show 10 ≤ 64 by omega))
      have z1 := (Zeros_f (k := k) hl.ok (le_LEN hl.len) (by have := hl.len; omega)).2 t m (by rw [hl.val, e])
      have z2 := (Zeros_f (k := k) Ha.ok (le_LEN Ha.len) (by have := Ha.len; omega)).2 t m' (by rw [Ha.val, e'])
      rw [if_neg (by omega), z1, Option.bind_some, z2, Option.bind_some, beq_self_eq_true]
end Go.Proofs.YtfkpbdapinpkdaaDoor.Mg
namespace Go.Proofs.YtfkpbdapinpkdaaDoor.Pure
open Go.Proofs.YtfkpbdapinpkdaaDoor.M
theorem MagParts : ∀ (l0 : List Int) (a1 : Int), l0.length ≤ maxLen → l0.length * 8 ≤ 140737488351232 → (∀ x ∈ l0, (Lit.int .u64 x).wf = true) → (Lit.int .i64 a1).wf = true → ∃ k, isohyetlaw01_MagParts.f k l0 a1 = some true := by
  intro l0 a1 _ _ h0 _
  exact ⟨20001, Mg.MagParts_f (Mg.ok_of_wf h0) (Nat.le_refl _)⟩
end Go.Proofs.YtfkpbdapinpkdaaDoor.Pure
