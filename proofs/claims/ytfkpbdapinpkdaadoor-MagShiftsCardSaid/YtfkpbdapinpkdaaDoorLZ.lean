/- mag.Zeros over lists: how many noughts stand at a number's end, in the powers of two; Up and Down by no more than 8192 bits; 'n & 511'. -/
import Derived.Test.YtfkpbdapinpkdaaDoorX7
import Derived.Test.YtfkpbdapinpkdaaDoorX2
import Derived.Laws.BitsLemmas
namespace Go.Proofs.YtfkpbdapinpkdaaDoor.Mg
open Go.RowKit Go.Proofs.YtfkpbdapinpkdaaDoorW.PrintWords Go.Proofs.YtfkpbdapinpkdaaDoorW.PrintMore Go.Proofs.YtfkpbdapinpkdaaDoor.MB Go.Proofs.YtfkpbdapinpkdaaDoor.M Go.Proofs.YtfkpbdapinpkdaaDoor.MD
set_option linter.unusedVariables false
set_option linter.unusedSimpArgs false

theorem and511 (n : Int) : Go.bits .and .i64 n 511 = n % 512 := by
  have h127 : (BitVec.ofInt 64 511).toNat = 2 ^ 9 - 1 := by decide
  have key : (BitVec.ofInt 64 n &&& BitVec.ofInt 64 511).toNat = (n % ((2 ^ 64 : Nat) : Int)).toNat % 2 ^ 9 := by
    rw [BitVec.toNat_and, BitVec.toNat_ofInt, h127, Nat.and_two_pow_sub_one_eq_mod]
  show IntKind.i64.wrap ((BitVec.ofInt 64 n &&& BitVec.ofInt 64 511).toNat : Nat) = n % 512
  rw [key, IntKind.wrap_i64]
  omega
theorem twos_unique {t s m n : Nat} (h : 2 ^ t * (2 * m + 1) = 2 ^ s * (2 * n + 1)) : t = s := by
  have key : ∀ {t s m n : Nat}, t < s → 2 ^ t * (2 * m + 1) = 2 ^ s * (2 * n + 1) → False := by
    intro t s m n hlt h
    obtain ⟨d, rfl⟩ : ∃ d, s = t + (d + 1) := ⟨s - t - 1, by omega⟩
    rw [Nat.pow_add, Nat.mul_assoc] at h
    have h2 := Nat.eq_of_mul_eq_mul_left (Nat.pow_pos (show 0 < 2 by decide)) h
    rw [Nat.pow_succ, Nat.mul_comm (2 ^ d) 2, Nat.mul_assoc] at h2
    omega
  rcases Nat.lt_trichotomy t s with h1 | h1 | h1
  · exact (key h1 h).elim
  · exact h1
  · exact (key h1 h.symm).elim
theorem zeros_step {Bi w V s m' q : Nat} (hw : w = 2 ^ s * (2 * m' + 1)) (hB : B = 2 ^ s * (2 * q)) : Bi * (w + B * V) = Bi * 2 ^ s * (2 * (m' + q * V) + 1) := by
  rw [hw, hB]
  generalize 2 ^ s = P
  grind
theorem Zeros_l0 (a : List Int) (ha : Ok a) (hla : a.length ≤ LEN) : ∀ (d i k : Nat), i + d = a.length → d < k →
    (val (a.drop i) = 0 → mag_Zeros.l0 k a (a.length : Int) (i : Int) = some 0) ∧ (val (a.drop i) ≠ 0 → ∃ t m : Nat, mag_Zeros.l0 k a (a.length : Int) (i : Int) = some (t : Int) ∧ B ^ i * val (a.drop i) = 2 ^ t * (2 * m + 1))
  | 0, i, k, hi, hk => by
    obtain ⟨k, rfl⟩ : ∃ m, k = m + 1 := ⟨k - 1, by omega⟩
    rw [List.drop_of_length_le (by omega)]
    simp only [mag_Zeros.l0]
    rw [if_neg (by omega)]
    exact ⟨fun _ => rfl, fun h => absurd rfl h⟩
  | d + 1, i, k, hi, hk => by
    obtain ⟨k, rfl⟩ : ∃ m, k = m + 1 := ⟨k - 1, by omega⟩
    have hla' := hla
    unfold LEN at hla
    have hv := val_drop_cons a i (by omega)
    have hw := ha.getD i
    obtain ⟨w, ew⟩ : ∃ x : Nat, a.getD i 0 = (x : Int) := ⟨(a.getD i 0).toNat, by omega⟩
    rw [ew] at hw hv
    rw [Int.toNat_natCast] at hv
    simp only [mag_Zeros.l0]
    rw [if_pos (by omega), if_pos (by omega), if_pos (by omega), rd_cast a i, ew]
    by_cases h0 : w = 0
    · subst h0
      rw [if_pos (show ((0 : Nat) : Int) = 0 from rfl), w64 (x := (i : Int) + 1) (by omega) (by omega)]
      obtain ⟨h1, h2⟩ := Zeros_l0 a ha hla' d (i + 1) k (by omega) (by omega)
      rw [Nat.zero_add] at hv
      refine ⟨fun h => h1 ?_, fun h => ?_⟩
      · rw [hv] at h
        rcases Nat.mul_eq_zero.1 h with h | h
        · exact absurd h (by decide)
        · exact h
      · obtain ⟨t, m, e1, e2⟩ := h2 (fun hz => h (by rw [hv, hz, Nat.mul_zero]))
        exact ⟨t, m, e1, by rw [hv, ← e2, Nat.pow_succ, Nat.mul_assoc]⟩
    · rw [if_neg (by omega)]
      obtain ⟨m', hm', hs⟩ := Lib.ctzFrom_spec 64 w (by omega) (by omega)
      have ec : Lib.ctz 64 w = Lib.ctzFrom 64 w := by unfold Lib.ctz; rw [if_neg h0]
      have et : bits_TrailingZeros64.f (w : Int) = some ((Lib.ctzFrom 64 w : Nat) : Int) := by
        unfold bits_TrailingZeros64.f
        rw [if_pos (by omega), Int.toNat_natCast, ec]
      generalize Lib.ctzFrom 64 w = s at hm' hs et
      rw [et, Option.bind_some, w64 (x := 64 * (i : Int)) (by omega) (by omega), w64 (by omega) (by omega)]
      have hB : B = 2 ^ s * (2 * 2 ^ (63 - s)) := by
        rw [B_two, ← Nat.pow_succ', ← Nat.pow_add]
        congr 1
        omega
      refine ⟨fun h => ?_, fun _ => ⟨64 * i + s, m' + 2 ^ (63 - s) * val (a.drop (i + 1)), ?_, ?_⟩⟩
      · rw [hv] at h
        omega
      · congr 1
      · rw [hv, zeros_step hm' hB, B_pow, ← Nat.pow_add]
/-- The noughts at a number's end. -/
theorem Zeros_f {a : List Int} {k : Nat} (ha : Ok a) (hla : a.length ≤ LEN) (hk : a.length < k) : (val a = 0 → mag_Zeros.f k a = some 0) ∧ ∀ t m : Nat, val a = 2 ^ t * (2 * m + 1) → mag_Zeros.f k a = some (t : Int) := by
  obtain ⟨h1, h2⟩ := Zeros_l0 a ha hla a.length 0 k (by omega) hk
  rw [List.drop_zero] at h1 h2
  refine ⟨h1, fun t m e => ?_⟩
  have hne : val a ≠ 0 := by
    rw [e]
    have : 0 < 2 ^ t * (2 * m + 1) := Nat.mul_pos (Nat.pow_pos (by decide)) (by omega)
    omega
  obtain ⟨t', m', e1, e2⟩ := h2 hne
  rw [Nat.pow_zero, Nat.one_mul, e] at e2
  rw [twos_unique e2]
  exact e1
theorem two_form {n : Nat} (h : n ≠ 0) : ∃ t m : Nat, n = 2 ^ t * (2 * m + 1) := by
  obtain ⟨m, hm, _⟩ := Lib.ctzFrom_spec n n (by omega) Nat.lt_two_pow_self
  exact ⟨_, m, hm⟩
theorem clampN_of {n : Nat} (h : n ≤ 8192) : clampN (n : Int) = n := by unfold clampN; omega
theorem Up_g {a : List Int} {x k j : Nat} (ha : Has a x) (hj : j ≤ 8192) (hk : 20000 ≤ k) : mag_Up.f k a (j : Int) = some (ofNat (x * 2 ^ j)) := by
  have h1 := ha.len
  rw [Up_f ha.ok (le_LEN h1) (by omega), ha.val, clampN_of hj]
theorem Down_g {a : List Int} {x k j : Nat} (ha : Has a x) (hj : j ≤ 8192) (hk : 20000 ≤ k) : mag_Down.f k a (j : Int) = some (ofNat (x / 2 ^ j)) := by
  have h1 := ha.len
  rw [Down_f ha.ok (le_LEN h1) (by omega), ha.val, clampN_of hj]
end Go.Proofs.YtfkpbdapinpkdaaDoor.Mg
