/- MagEdges answers true, over numbers: shifts by no more than 8192 bits; a small number is itself. -/
import Derived.Test.YtfkpbdapinpkdaaDoorML
import Derived.Test.YtfkpbdapinpkdaaDoorMR
import Derived.Test.YtfkpbdapinpkdaaDoorMS
import Derived.Test.YtfkpbdapinpkdaaDoorKEdges
import Derived.OpenShut
namespace Go.Proofs.YtfkpbdapinpkdaaDoor.Mg
open Go.RowKit Go.Proofs.YtfkpbdapinpkdaaDoorW.PrintWords Go.Proofs.YtfkpbdapinpkdaaDoorW.PrintMore Go.Proofs.YtfkpbdapinpkdaaDoor.MB Go.Proofs.YtfkpbdapinpkdaaDoor.M Go.Proofs.YtfkpbdapinpkdaaDoor.MD
set_option linter.unusedVariables false
set_option linter.unusedSimpArgs false

theorem bitsN_mul_pow {n : Nat} (c : Nat) (h : n ≠ 0) : bitsN (n * 2 ^ c) = bitsN n + c := by
  have h1 := bitsN_ge h
  have h2 := bitsN_lt n
  have h3 : 1 ≤ bitsN n := by
    unfold bitsN
    rw [if_neg h]
    exact Nat.le_add_left _ _
  have h4 : bitsN (n * 2 ^ c) = bitsN n - 1 + c + 1 := by
    refine bitsN_unique ?_ ?_
    · rw [Nat.pow_add]
      exact Nat.mul_le_mul_right _ h1
    · rw [show bitsN n - 1 + c + 1 = bitsN n + c from by omega, Nat.pow_add]
      exact Nat.mul_lt_mul_of_pos_right h2 (Nat.pow_pos (by decide))
  omega
theorem pow_le_B {c m : Nat} (h : c ≤ 64 * m) : 2 ^ c ≤ B ^ m := by
  rw [B_pow]
  exact Nat.pow_le_pow_right (by decide) h
theorem len_shift {n c m : Nat} (hn : n < B ^ m) (hc : c ≤ 8192) : (ofNat (n * 2 ^ c)).length ≤ m + 128 := by
  refine length_ofNat_le ?_
  rw [Nat.pow_add]
  have h1 : 2 ^ c ≤ B ^ 128 := pow_le_B (by omega)
  exact Nat.mul_lt_mul_of_lt_of_le hn h1 (Nat.pow_pos B_pos)
theorem clampN_idem (x : Int) : clampN ((clampN x : Nat) : Int) = clampN x := by
  unfold clampN
  omega
theorem bits_wrap {a c : Nat} (ha : a ≤ 70368744177664) (hc : c ≤ 8192) : wrap64 ((a : Int) + (c : Int)) = ((a + c : Nat) : Int) := by
  rw [w64 (by omega) (by omega)]
  omega
theorem rd_small {n : Nat} (h0 : n ≠ 0) (h : n < 18446744073709551616) : rd (ofNat n) 0 = (n : Int) := by
  rw [ofNat_small h0 h]
  rfl
theorem MagEdges_f {n : Nat} (hn : n < 18446744073709551616) (a1 : Int) {k : Nat} (hk : 5000 ≤ k) : isohyetlaw01_MagEdges.f k (n : Int) a1 = some true := by
  have hn1 : (ofNat n).length ≤ 1 := length_ofNat_le (by rw [Nat.pow_one]; exact hn)
  have hc := clampN_le a1
  have hs : (ofNat (n * 2 ^ clampN a1)).length ≤ 1 + 128 := len_shift (by rw [Nat.pow_one]; exact hn) hc
  have hb : bitsN n ≤ 64 * (ofNat n).length := by
    have := lt_pow_length_ofNat n
    rw [B_pow] at this
    exact bitsN_le this
  have q1 : (ofNat n).length ≤ LEN := by unfold LEN; omega
  have q2 : (ofNat (n * 2 ^ clampN a1)).length ≤ LEN := by unfold LEN; omega
  have oN : mag_Of.f k (n : Int) = some (ofNat n) := by rw [Of_f (by omega) (by omega) (by omega), Int.toNat_natCast]
  have u1 : mag_Up.f k (ofNat n) a1 = some (ofNat (n * 2 ^ clampN a1)) := by rw [Up_f (Ok_ofNat n) q1 (by omega), val_ofNat]
  have u2 : mag_Up.f k (ofNat n) (clampN a1 : Int) = some (ofNat (n * 2 ^ clampN a1)) := by rw [Up_f (Ok_ofNat n) q1 (by omega), val_ofNat, clampN_idem]
  have d1 : mag_Down.f k (ofNat (n * 2 ^ clampN a1)) a1 = some (ofNat n) := by rw [Down_f (Ok_ofNat _) q2 (by omega), val_ofNat, Nat.mul_div_cancel _ (Nat.pow_pos (by decide))]
  have s1 := same_f (k := k) q2 (by omega)
  have s2 := same_f (k := k) q1 (by omega)
  have n1 : mag_Len.f k (ofNat (n * 2 ^ clampN a1)) = some ((bitsN (n * 2 ^ clampN a1) : Nat) : Int) := by rw [Len_f (Ok_ofNat _) q2 (by omega), val_ofNat]
  have n2 : mag_Len.f k (ofNat n) = some ((bitsN n : Nat) : Int) := by rw [Len_f (Ok_ofNat _) q1 (by omega), val_ofNat]
  unfold isohyetlaw01_MagEdges.f
  rw [clamp_eq a1, fit_f (by omega), Option.bind_some, if_pos rfl, oN, Option.bind_some, u1, Option.bind_some, u2, Option.bind_some, s1, Option.bind_some, if_pos rfl, Option.bind_some, d1, Option.bind_some, s2, Option.bind_some, if_pos rfl, Option.bind_some, n1, Option.bind_some, n2, Option.bind_some,
    bits_wrap (by omega) hc]
  by_cases h0 : n = 0
  · subst h0
    rw [ofNat_zero, Nat.zero_mul]
    simp
  · rw [bitsN_mul_pow _ h0, if_pos rfl, len_small h0 hn, if_neg (by omega), if_pos (by omega), if_pos (by omega), rd_small h0 hn]
    simp
end Go.Proofs.YtfkpbdapinpkdaaDoor.Mg
namespace Go.Proofs.YtfkpbdapinpkdaaDoor.Pure
open Go.Proofs.YtfkpbdapinpkdaaDoor.M
theorem MagEdges : ∀ (a0 a1 : Int), (Lit.int .u64 a0).wf = true → (Lit.int .i64 a1).wf = true → ∃ k, isohyetlaw01_MagEdges.f k a0 a1 = some true := by
  intro a0 a1 h0 _
  obtain ⟨b0, b1⟩ := Go.bounds_u64 h0
  obtain ⟨n, rfl⟩ := Int.eq_ofNat_of_zero_le b0
  exact ⟨5000, Mg.MagEdges_f (by omega) a1 (Nat.le_refl _)⟩
end Go.Proofs.YtfkpbdapinpkdaaDoor.Pure
