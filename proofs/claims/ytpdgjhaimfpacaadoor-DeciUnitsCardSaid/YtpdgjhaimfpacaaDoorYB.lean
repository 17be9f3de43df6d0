/- The functions of package mag at magnitudes of no more than 64 words. -/
import Derived.Test.YtpdgjhaimfpacaaDoorX1
import Derived.Test.YtpdgjhaimfpacaaDoorPA
import Derived.Test.YtpdgjhaimfpacaaDoorPM
import Derived.OpenShut
namespace Go.Proofs.YtpdgjhaimfpacaaDoor.Mg
open Go.RowKit Go.Proofs.YtpdgjhaimfpacaaDoorW.PrintWords Go.Proofs.YtpdgjhaimfpacaaDoorW.PrintMore Go.Proofs.YtpdgjhaimfpacaaDoor.MB Go.Proofs.YtpdgjhaimfpacaaDoor.M
set_option linter.unusedVariables false
set_option linter.unusedSimpArgs false

theorem cmpN_self (n : Nat) : cmpN n n = 0 := by unfold cmpN; rw [if_neg (by omega), if_pos rfl]
theorem len_small {n : Nat} (h0 : n ≠ 0) (h : n < 18446744073709551616) : (ofNat n).length = 1 := by rw [ofNat_small h0 h]; rfl
/-- These words are that number, and no more than 64. -/
structure Has (l : List Int) (n : Nat) : Prop where
  ok : Ok l
  len : l.length ≤ 64
  val : Mg.val l = n
theorem Has.of {l : List Int} (h : Ok l) (hl : l.length ≤ 64) : Has l (Mg.val l) := ⟨h, hl, rfl⟩
theorem Has.nat {n m : Nat} (h : n < B ^ m) (hm : m ≤ 64) : Has (ofNat n) n := ⟨Ok_ofNat n, Nat.le_trans (length_ofNat_le h) hm, val_ofNat n⟩
theorem Has.nil : Has [] 0 := ⟨Ok.nil, by simp, rfl⟩
theorem le_LEN {n : Nat} (h : n ≤ 64) : n ≤ LEN := by unfold LEN; omega
theorem Cmp_g {a b : List Int} {x y k : Nat} (ha : Has a x) (hb : Has b y) (hk : 20000 ≤ k) : mag_Cmp.f k a b = some (cmpN x y) := by
  have h1 := ha.len; have h2 := hb.len
  rw [Cmp_f ha.ok hb.ok (le_LEN h1) (le_LEN h2) (by omega), ha.val, hb.val]
theorem Len_g {a : List Int} {x k : Nat} (ha : Has a x) (hk : 20000 ≤ k) : mag_Len.f k a = some ((bitsN x : Nat) : Int) := by
  have h1 := ha.len
  rw [Len_f ha.ok (le_LEN h1) (by omega), ha.val]
theorem bitsN_eq_zero {n : Nat} : bitsN n = 0 ↔ n = 0 := by
  unfold bitsN
  by_cases h : n = 0
  · simp [h]
  · simp [h]
theorem ok_of_wf {l : List Int} (h : ∀ x ∈ l, (Lit.int .u64 x).wf = true) : Ok l := fun x hx => by
  have := Go.bounds_u64 (h x hx)
  omega
theorem pow_mul_lt {x y m n : Nat} (hx : x < B ^ m) (hy : y < B ^ n) : x * y < B ^ (m + n) := by
  rw [Nat.pow_add]
  exact Nat.mul_lt_mul_of_lt_of_le hx (Nat.le_of_lt hy) (Nat.pow_pos B_pos)
theorem pow_add_lt {x y m : Nat} (hx : x < B ^ m) (hy : y < B ^ m) : x + y < B ^ (m + 1) := by
  rw [Nat.pow_succ]
  have : B ^ m * 2 ≤ B ^ m * B := Nat.mul_le_mul_left _ (by decide)
  omega
theorem pow_le {x m n : Nat} (hx : x < B ^ m) (h : m ≤ n) : x < B ^ n := Nat.lt_of_lt_of_le hx (Nat.pow_le_pow_right B_pos h)
theorem val_lt_of_len {l : List Int} {m : Nat} (h : Ok l) (hl : l.length ≤ m) : Mg.val l < B ^ m := pow_le (val_lt h) hl

theorem Add_g {a b : List Int} {x y k : Nat} (ha : Has a x) (hb : Has b y) (hk : 20000 ≤ k) : mag_Add.f k a b = some (ofNat (x + y)) := by
  have h1 := ha.len; have h2 := hb.len
  rw [Add_f ha.ok hb.ok (le_LEN h1) (le_LEN h2) (by omega), ha.val, hb.val]
theorem Mul_g {a b : List Int} {x y k : Nat} (ha : Has a x) (hb : Has b y) (hk : 20000 ≤ k) : mag_Mul.f k a b = some (ofNat (x * y)) := by
  have h1 := ha.len; have h2 := hb.len
  have h3 : a.length * (b.length + 2) ≤ 64 * 66 := Nat.mul_le_mul h1 (by omega)
  rw [Mul_f ha.ok hb.ok (le_LEN h1) (le_LEN h2) (by omega), ha.val, hb.val]
end Go.Proofs.YtpdgjhaimfpacaaDoor.Mg
