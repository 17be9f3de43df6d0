/- Small laws on words and powers of two. What math/bits.Div64 comes to, as numbers; and mag.word. What math/bits.Div64, whole, and mag.word come to, as numbers. mag.Div by one word that isn't 0. -/
import Derived.Test.YtknekneicecgiaaGreatDoorX1
import Derived.Laws.Bits64b
import Derived.Test.YtknekneicecgiaaGreatDoorA3
import Derived.Test.YtknekneicecgiaaGreatDoorX2
import Derived.Test.YtknekneicecgiaaGreatDoorA5
namespace Go.Proofs.YtknekneicecgiaaGreatDoor.Mg
open Go.RowKit Go.Proofs.YtknekneicecgiaaGreatDoorW.PrintWords Go.Proofs.YtknekneicecgiaaGreatDoorW.PrintMore Go.Proofs.YtknekneicecgiaaGreatDoor.MB Go.Proofs.YtknekneicecgiaaGreatDoor.M
set_option linter.unusedVariables false
set_option linter.unusedSimpArgs false

theorem wu64_cast (n : Nat) : IntKind.u64.wrap (n : Int) = ((n % 18446744073709551616 : Nat) : Int) := by
  simp only [IntKind.wrap, IntKind.signed, IntKind.bits]
  simp
theorem shl_high (x k : Nat) (hk : k < 64) : x * 2 ^ k / 18446744073709551616 = x / 2 ^ (64 - k) := by
  have e : (18446744073709551616 : Nat) = 2 ^ k * 2 ^ (64 - k) := by rw [← Nat.pow_add, show k + (64 - k) = 64 from by omega]
  rw [e, Nat.mul_comm x, Nat.mul_div_mul_left _ _ (Nat.two_pow_pos k)]
theorem high_lt {x k : Nat} (hx : x < 18446744073709551616) (hk : k < 64) : x / 2 ^ (64 - k) < 2 ^ k := by
  rw [Nat.div_lt_iff_lt_mul (Nat.two_pow_pos _), ← Nat.pow_add, show k + (64 - k) = 64 from by omega]
  exact hx
theorem cast_pow (K : Nat) : ((2 : Int) ^ K) = ((2 ^ K : Nat) : Int) := by norm_cast

theorem val_drop_cons (y : List Int) (i : Nat) (h : i < y.length) : val (y.drop i) = (y.getD i 0).toNat + B * val (y.drop (i + 1)) := by
  rw [List.drop_eq_getElem_cons h]
  simp [val, List.getD_eq_getElem?_getD, h]
end Go.Proofs.YtknekneicecgiaaGreatDoor.Mg
namespace Go.Proofs.YtknekneicecgiaaGreatDoor.Mg
open Go.RowKit Go.Proofs.YtknekneicecgiaaGreatDoorW.PrintWords Go.Proofs.YtknekneicecgiaaGreatDoorW.PrintMore Go.Proofs.YtknekneicecgiaaGreatDoor.MB Go.Proofs.YtknekneicecgiaaGreatDoor.M
set_option linter.unusedVariables false
set_option linter.unusedSimpArgs false

theorem wu64_mod (x : Int) : IntKind.u64.wrap x = x % 18446744073709551616 := by
  simp only [IntKind.wrap, IntKind.signed, IntKind.bits]
  simp

theorem D_l0 (y s v1 v0 U u1 u0 : Nat) (hy : y = 4294967296 * v1 + v0) (h1 : 2147483648 ≤ v1) (h1' : v1 < 4294967296) (h0 : v0 < 4294967296) (hU : U < y) (hu1 : u1 < 4294967296) (K : Nat) (R : Option (Int × Int))
    (hnext : ∀ k, K ≤ k → bits_Div64.j2 k (y : Int) (s : Int) (v1 : Int) (v0 : Int) (U : Int) (u1 : Int) (u0 : Int) (((U * 4294967296 + u1) / y : Nat) : Int) = R) :
    ∀ (d k q r : Nat), 4294967296 ≤ r + d * v1 → 2 * d + K + 2 ≤ k → r < 4294967296 → (U * 4294967296 + u1) / y ≤ q → q ≤ 4294967297 → q * v1 + r = U →
      bits_Div64.l0 k (y : Int) (s : Int) (v1 : Int) (v0 : Int) (U : Int) (u1 : Int) (u0 : Int) (q : Int) (r : Int) = R := by
  intro d
  induction d with
  | zero =>
    intro k q r hd hk hr
    omega
  | succ d ih =>
    intro k q r hd hk hr hq hqb hqr
    obtain ⟨k, rfl⟩ : ∃ m, k = m + 2 := ⟨k - 2, by omega⟩
    have hypos : 0 < y := by omega
    have hqy : q * y = 4294967296 * (q * v1) + q * v0 := by rw [hy]; grind
    -- where the test says yes
    have yes : (q ≥ 4294967296 ∨ q * v0 > 4294967296 * r + u1) → bits_Div64.j1 (k + 1) (y : Int) (s : Int) (v1 : Int) (v0 : Int) (U : Int) (u1 : Int) (u0 : Int) (q : Int) (r : Int) true = R := by
      intro hc
      have hgt : (U * 4294967296 + u1) / y < q := by
        rw [Nat.div_lt_iff_lt_mul hypos, hqy]
        rcases hc with hc | hc
        · have e2 : 4294967296 * y ≤ q * y := Nat.mul_le_mul_right y hc
          rw [hqy] at e2
          omega
        · omega
      have hqpos : 0 < q := Nat.lt_of_le_of_lt (Nat.zero_le _) hgt
      obtain ⟨p, rfl⟩ : ∃ p, q = p + 1 := ⟨q - 1, by omega⟩
      rw [Nat.succ_mul] at hqr
      simp only [bits_Div64.j1]
      rw [if_pos trivial, wu64 (x := (r : Int) + (v1 : Int)) (by omega) (by omega), wu64 (x := ((p + 1 : Nat) : Int) - 1) (by omega) (by omega), show (((p + 1 : Nat) : Int) - 1) = (p : Int) from by omega]
      by_cases hb : (r : Int) + (v1 : Int) ≥ 4294967296
      · rw [if_pos hb]
        have e : p = (U * 4294967296 + u1) / y := by
          apply Nat.le_antisymm _ (by omega)
          rw [Nat.le_div_iff_mul_le hypos]
          have e3 : p * y = 4294967296 * (p * v1) + p * v0 := by rw [hy]; grind
          have e4 : p * v0 ≤ 4294967296 * v0 := Nat.mul_le_mul_right v0 (by omega)
          rw [e3]
          generalize p * v1 = A at *
          generalize p * v0 = C at *
          have e5 : 4294967296 * v0 ≤ 4294967296 * 4294967295 := Nat.mul_le_mul_left _ (by omega)
          omega
        rw [e]
        exact hnext k (by omega)
      · rw [if_neg hb, show ((r : Int) + (v1 : Int)) = ((r + v1 : Nat) : Int) from by omega]
        refine ih k p (r + v1) ?_ (by omega) (by omega) (by omega) (by omega) ?_
        · rw [Nat.succ_mul] at hd
          omega
        · omega
    have no : ¬ (q ≥ 4294967296 ∨ q * v0 > 4294967296 * r + u1) → bits_Div64.j1 (k + 1) (y : Int) (s : Int) (v1 : Int) (v0 : Int) (U : Int) (u1 : Int) (u0 : Int) (q : Int) (r : Int) false = R := by
      intro hc
      have e : q = (U * 4294967296 + u1) / y := by
        apply Nat.le_antisymm _ hq
        rw [Nat.le_div_iff_mul_le hypos, hqy]
        generalize q * v1 = A at *
        generalize q * v0 = C at *
        omega
      simp only [bits_Div64.j1]
      rw [if_neg (by decide), e]
      exact hnext k (by omega)
    simp only [bits_Div64.l0]
    by_cases hge : (q : Int) ≥ 4294967296
    · rw [if_pos hge]
      exact yes (.inl (by omega))
    · rw [if_neg hge]
      have hqv : q * v0 ≤ 4294967295 * 4294967295 := Nat.mul_le_mul (by omega) (by omega)
      rw [show ((q : Int) * (v0 : Int)) = ((q * v0 : Nat) : Int) from by norm_cast, wu64 (x := ((q * v0 : Nat) : Int)) (by omega) (by omega), wu64 (x := 4294967296 * (r : Int)) (by omega) (by omega), wu64 (x := 4294967296 * (r : Int) + (u1 : Int)) (by omega) (by omega)]
      by_cases hc : ((q * v0 : Nat) : Int) > 4294967296 * (r : Int) + (u1 : Int)
      · rw [decide_eq_true hc]
        exact yes (.inr (by omega))
      · rw [decide_eq_false hc]
        exact no (by omega)

theorem D_l1 (y s v1 v0 U u1 : Nat) (q1 : Int) (hy : y = 4294967296 * v1 + v0) (h1 : 2147483648 ≤ v1) (h1' : v1 < 4294967296) (h0 : v0 < 4294967296) (hU : U < y) (hu1 : u1 < 4294967296) (R : Option (Int × Int))
    (hnext : some (IntKind.u64.wrap (IntKind.u64.wrap (q1 * 4294967296) + (((U * 4294967296 + u1) / y : Nat) : Int)), shr .u64 (IntKind.u64.wrap (IntKind.u64.wrap (IntKind.u64.wrap ((U : Int) * 4294967296) + (u1 : Int)) - IntKind.u64.wrap ((((U * 4294967296 + u1) / y : Nat) : Int) * (y : Int)))) (s : Int)) = R) :
    ∀ (d k q r : Nat), 4294967296 ≤ r + d * v1 → 2 * d + 2 ≤ k → r < 4294967296 → (U * 4294967296 + u1) / y ≤ q → q ≤ 4294967297 → q * v1 + r = U →
      bits_Div64.l1 k (y : Int) (s : Int) (v1 : Int) (v0 : Int) (u1 : Int) q1 (r : Int) (U : Int) (q : Int) = R := by
  intro d
  induction d with
  | zero =>
    intro k q r hd hk hr
    omega
  | succ d ih =>
    intro k q r hd hk hr hq hqb hqr
    obtain ⟨k, rfl⟩ : ∃ m, k = m + 2 := ⟨k - 2, by omega⟩
    have hypos : 0 < y := by omega
    have hqy : q * y = 4294967296 * (q * v1) + q * v0 := by rw [hy]; grind
    have yes : (q ≥ 4294967296 ∨ q * v0 > 4294967296 * r + u1) → bits_Div64.j4 (k + 1) (y : Int) (s : Int) (v1 : Int) (v0 : Int) (u1 : Int) q1 (r : Int) (U : Int) (q : Int) true = R := by
      intro hc
      have hgt : (U * 4294967296 + u1) / y < q := by
        rw [Nat.div_lt_iff_lt_mul hypos, hqy]
        rcases hc with hc | hc
        · have e2 : 4294967296 * y ≤ q * y := Nat.mul_le_mul_right y hc
          rw [hqy] at e2
          omega
        · omega
      have hqpos : 0 < q := Nat.lt_of_le_of_lt (Nat.zero_le _) hgt
      obtain ⟨p, rfl⟩ : ∃ p, q = p + 1 := ⟨q - 1, by omega⟩
      rw [Nat.succ_mul] at hqr
      simp only [bits_Div64.j4]
      rw [if_pos trivial, wu64 (x := (r : Int) + (v1 : Int)) (by omega) (by omega), wu64 (x := ((p + 1 : Nat) : Int) - 1) (by omega) (by omega), show (((p + 1 : Nat) : Int) - 1) = (p : Int) from by omega]
      by_cases hb : (r : Int) + (v1 : Int) ≥ 4294967296
      · rw [if_pos hb, if_pos (by omega)]
        have e : p = (U * 4294967296 + u1) / y := by
          apply Nat.le_antisymm _ (by omega)
          rw [Nat.le_div_iff_mul_le hypos]
          have e3 : p * y = 4294967296 * (p * v1) + p * v0 := by rw [hy]; grind
          have e4 : p * v0 ≤ 4294967296 * v0 := Nat.mul_le_mul_right v0 (by omega)
          rw [e3]
          generalize p * v1 = A at *
          generalize p * v0 = C at *
          have e5 : 4294967296 * v0 ≤ 4294967296 * 4294967295 := Nat.mul_le_mul_left _ (by omega)
          omega
        rw [e]
        exact hnext
      · rw [if_neg hb, show ((r : Int) + (v1 : Int)) = ((r + v1 : Nat) : Int) from by omega]
        refine ih k p (r + v1) ?_ (by omega) (by omega) (by omega) (by omega) ?_
        · rw [Nat.succ_mul] at hd
          omega
        · omega
    have no : ¬ (q ≥ 4294967296 ∨ q * v0 > 4294967296 * r + u1) → bits_Div64.j4 (k + 1) (y : Int) (s : Int) (v1 : Int) (v0 : Int) (u1 : Int) q1 (r : Int) (U : Int) (q : Int) false = R := by
      intro hc
      have e : q = (U * 4294967296 + u1) / y := by
        apply Nat.le_antisymm _ hq
        rw [Nat.le_div_iff_mul_le hypos, hqy]
        generalize q * v1 = A at *
        generalize q * v0 = C at *
        omega
      simp only [bits_Div64.j4]
      rw [if_neg (by decide), if_pos (by omega), e]
      exact hnext
    simp only [bits_Div64.l1]
    by_cases hge : (q : Int) ≥ 4294967296
    · rw [if_pos hge]
      exact yes (.inl (by omega))
    · rw [if_neg hge]
      have hqv : q * v0 ≤ 4294967295 * 4294967295 := Nat.mul_le_mul (by omega) (by omega)
      rw [show ((q : Int) * (v0 : Int)) = ((q * v0 : Nat) : Int) from by norm_cast, wu64 (x := ((q * v0 : Nat) : Int)) (by omega) (by omega), wu64 (x := 4294967296 * (r : Int)) (by omega) (by omega), wu64 (x := 4294967296 * (r : Int) + (u1 : Int)) (by omega) (by omega)]
      by_cases hc : ((q * v0 : Nat) : Int) > 4294967296 * (r : Int) + (u1 : Int)
      · rw [decide_eq_true hc]
        exact yes (.inr (by omega))
      · rw [decide_eq_false hc]
        exact no (by omega)

/-- The rest of a division of three half words, as the machine's words tell it. -/
theorem rest_eq (y U u1 : Nat) (hy : 0 < y) (hyb : y < 18446744073709551616) : IntKind.u64.wrap (IntKind.u64.wrap (IntKind.u64.wrap ((U : Int) * 4294967296) + (u1 : Int)) - IntKind.u64.wrap ((((U * 4294967296 + u1) / y : Nat) : Int) * (y : Int))) = (((U * 4294967296 + u1) % y : Nat) : Int) := by
  have h1 := Nat.div_add_mod (U * 4294967296 + u1) y
  have h2 := Nat.mod_lt (U * 4294967296 + u1) hy
  rw [show ((((U * 4294967296 + u1) / y : Nat) : Int) * (y : Int)) = ((y * ((U * 4294967296 + u1) / y) : Nat) : Int) from by rw [Nat.mul_comm y, Int.natCast_mul]]
  simp only [wu64_mod]
  generalize y * ((U * 4294967296 + u1) / y) = A at *
  generalize (U * 4294967296 + u1) % y = r at *
  omega
theorem guess_hi (y v1 v0 U : Nat) (hy : y = 4294967296 * v1 + v0) (h1 : 2147483648 ≤ v1) (h0 : v0 < 4294967296) (hU : U < y) (u1 : Nat) (hu1 : u1 < 4294967296) : (U * 4294967296 + u1) / y ≤ U / v1 ∧ U / v1 ≤ 4294967297 ∧ U / v1 * v1 + U % v1 = U ∧ U % v1 < v1 ∧ (U * 4294967296 + u1) / y < 4294967296 := by
  have h3 : U / v1 * v1 + U % v1 = U := Nat.div_add_mod' U v1
  have h4 : U % v1 < v1 := Nat.mod_lt _ (by omega)
  refine ⟨?_, ?_, h3, h4, ?_⟩
  · apply Nat.le_of_lt_succ
    rw [Nat.div_lt_iff_lt_mul (by omega)]
    have e : ∀ t : Nat, t.succ * y = 4294967296 * (t * v1 + v1) + (t + 1) * v0 := by intro t; rw [hy, Nat.succ_eq_add_one]; grind
    rw [e]
    generalize (U / v1 + 1) * v0 = C
    omega
  · apply Nat.le_of_lt_succ
    rw [Nat.div_lt_iff_lt_mul (by omega)]
    omega
  · rw [Nat.div_lt_iff_lt_mul (by omega)]
    omega

theorem D_j2 (y s v1 v0 U u1 u0 : Nat) (hy : y = 4294967296 * v1 + v0) (h1 : 2147483648 ≤ v1) (h1' : v1 < 4294967296) (h0 : v0 < 4294967296) (hU : U < y) (hu1 : u1 < 4294967296) (hu0 : u0 < 4294967296) (k : Nat) (hk : 7 ≤ k) (hs : s ≤ 64) :
    bits_Div64.j2 k (y : Int) (s : Int) (v1 : Int) (v0 : Int) (U : Int) (u1 : Int) (u0 : Int) (((U * 4294967296 + u1) / y : Nat) : Int) =
      some ((((U * 4294967296 + u1) / y * 4294967296 + ((U * 4294967296 + u1) % y * 4294967296 + u0) / y : Nat) : Int), (((((U * 4294967296 + u1) % y * 4294967296 + u0) % y) / 2 ^ s : Nat) : Int)) := by
  obtain ⟨k, rfl⟩ : ∃ m, k = m + 1 := ⟨k - 1, by omega⟩
  have hypos : 0 < y := by omega
  have hyb : y < 18446744073709551616 := by omega
  have hg := guess_hi y v1 v0 U hy h1 h0 hU u1 hu1
  have hW : (U * 4294967296 + u1) % y < y := Nat.mod_lt _ hypos
  have hrest := rest_eq y U u1 hypos hyb
  simp only [bits_Div64.j2]
  rw [if_neg (by omega), hrest]
  clear hrest
  obtain ⟨W, hWd⟩ : ∃ W : Nat, W = (U * 4294967296 + u1) % y := ⟨_, rfl⟩
  rw [← hWd] at hW ⊢
  clear hWd
  obtain ⟨q1, hq1⟩ : ∃ q1 : Nat, q1 = (U * 4294967296 + u1) / y := ⟨_, rfl⟩
  rw [← hq1] at hg ⊢
  have hg2 := guess_hi y v1 v0 W hy h1 h0 hW u0 hu0
  have hrest2 := rest_eq y W u0 hypos hyb
  have hdiv : Int.tdiv (W : Int) (v1 : Int) = ((W / v1 : Nat) : Int) := by
    rw [Int.tdiv_eq_ediv_of_nonneg (by omega)]
    norm_cast
  have hwm : W % v1 < v1 := hg2.2.2.2.1
  obtain ⟨t, ht⟩ : ∃ t : Nat, t = W / v1 := ⟨_, rfl⟩
  obtain ⟨q0, hq0⟩ : ∃ q0 : Nat, q0 = (W * 4294967296 + u0) / y := ⟨_, rfl⟩
  rw [← hq0] at hg2 ⊢
  rw [← ht] at hdiv hg2
  have hW2 : t * v1 + W % v1 = W := hg2.2.2.1
  have hwb : t ≤ 4294967297 := hg2.2.1
  rw [hdiv, wu64 (x := (t : Int)) (by omega) (by omega), show ((t : Int) * (v1 : Int)) = ((t * v1 : Nat) : Int) from by norm_cast]
  rw [wu64 (x := ((t * v1 : Nat) : Int)) (by omega) (by omega), wu64 (x := (W : Int) - ((t * v1 : Nat) : Int)) (by omega) (by omega), show ((W : Int) - ((t * v1 : Nat) : Int)) = ((W % v1 : Nat) : Int) from by omega]
  have e1 : 4294967296 ≤ W % v1 + 2 * v1 := by omega
  have e2 : 2 * 2 + 2 ≤ k := by omega
  have e3 : W % v1 < 4294967296 := by omega
  rw [hq0] at hg2
  refine (fun R hn => D_l1 y s v1 v0 W u0 (q1 : Int) hy h1 h1' h0 hW hu0 R hn 2 k t (W % v1) e1 e2 e3 hg2.1 hwb hW2) _ ?_
  have hq0l := hg2.2.2.2.2
  rw [hrest2]
  unfold shr
  rw [show min (s : Int).toNat (IntKind.u64).bits = s from by simp only [IntKind.bits]; omega, cast_pow, ← hq0]
  rw [← hq0] at hq0l
  have hq1l : q1 < 4294967296 := hg.2.2.2.2
  rw [wu64 (x := (q1 : Int) * 4294967296) (by omega) (by omega), wu64 (by omega) (by omega)]
  congr 2

theorem and_low (x : Nat) (hx : x < 18446744073709551616) : Go.bits .and .u64 (x : Int) 4294967295 = ((x % 4294967296 : Nat) : Int) := by
  have := bits_and_u64_nat x 4294967295 hx (by decide)
  rw [show ((4294967295 : Int)) = ((4294967295 : Nat) : Int) from rfl, this, show (4294967295 : Nat) = 2 ^ 32 - 1 from by decide, Nat.and_two_pow_sub_one_eq_mod]
end Go.Proofs.YtknekneicecgiaaGreatDoor.Mg
namespace Go.Proofs.YtknekneicecgiaaGreatDoor.Mg
open Go.RowKit Go.Proofs.YtknekneicecgiaaGreatDoorW.PrintWords Go.Proofs.YtknekneicecgiaaGreatDoorW.PrintMore Go.Proofs.YtknekneicecgiaaGreatDoor.MB Go.Proofs.YtknekneicecgiaaGreatDoor.M
set_option linter.unusedVariables false
set_option linter.unusedSimpArgs false

theorem divmod_unique {n y q r : Nat} (hr : r < y) (h : n = y * q + r) : n / y = q ∧ n % y = r := by
  subst h
  constructor
  · rw [Nat.mul_add_div (by omega), Nat.div_eq_of_lt hr, Nat.add_zero]
  · rw [Nat.mul_add_mod, Nat.mod_eq_of_lt hr]
theorem two_steps (U u1 u0 Y : Nat) (hY : 0 < Y) : (U * 18446744073709551616 + (u1 * 4294967296 + u0)) / Y = (U * 4294967296 + u1) / Y * 4294967296 + ((U * 4294967296 + u1) % Y * 4294967296 + u0) / Y ∧ (U * 18446744073709551616 + (u1 * 4294967296 + u0)) % Y = ((U * 4294967296 + u1) % Y * 4294967296 + u0) % Y := by
  have h1 := Nat.div_add_mod (U * 4294967296 + u1) Y
  obtain ⟨A, hA⟩ : ∃ A, A = (U * 4294967296 + u1) / Y := ⟨_, rfl⟩
  obtain ⟨W, hW⟩ : ∃ W, W = (U * 4294967296 + u1) % Y := ⟨_, rfl⟩
  rw [← hA, ← hW] at h1 ⊢
  have h2 := Nat.div_add_mod (W * 4294967296 + u0) Y
  obtain ⟨C, hC⟩ : ∃ A, A = (W * 4294967296 + u0) / Y := ⟨_, rfl⟩
  have hr : (W * 4294967296 + u0) % Y < Y := Nat.mod_lt _ hY
  obtain ⟨r, hr2⟩ : ∃ W2, W2 = (W * 4294967296 + u0) % Y := ⟨_, rfl⟩
  rw [← hC, ← hr2] at h2 ⊢
  rw [← hr2] at hr
  refine divmod_unique hr ?_
  clear hA hW hC hr2
  grind
theorem shl_or {h l s : Nat} (hs : s < 64) (hh : h * 2 ^ s < 18446744073709551616) (hl : l < 18446744073709551616) : Go.bits .or .u64 ((h * 2 ^ s : Nat) : Int) ((l / 2 ^ (64 - s) : Nat) : Int) = ((h * 2 ^ s + l / 2 ^ (64 - s) : Nat) : Int) := by
  have h1 := high_lt hl hs
  have h2 : 2 ^ s ≤ 2 ^ 63 := Nat.pow_le_pow_right (by decide) (by omega)
  rw [bits_or_u64_nat _ _ hh (by omega), Nat.mul_comm, ← Nat.two_pow_add_eq_or_of_lt h1]

theorem Div64_f {k h l y : Nat} (hy : h < y) (hyb : y < 18446744073709551616) (hl : l < 18446744073709551616) (hk : 20 ≤ k) :
    bits_Div64.f k (h : Int) (l : Int) (y : Int) = some ((((h * 18446744073709551616 + l) / y : Nat) : Int), (((h * 18446744073709551616 + l) % y : Nat) : Int)) := by
  have hy0 : 0 < y := by omega
  unfold bits_Div64.f
  rw [if_neg (by omega), if_neg (by omega)]
  by_cases h0 : (h : Int) = 0
  · have e : h = 0 := by omega
    rw [if_pos h0, Int.tdiv_eq_ediv_of_nonneg (by omega), Int.tmod_eq_emod_of_nonneg (by omega), e]
    have h1 : l / y ≤ l := Nat.div_le_self _ _
    rw [show ((l : Int) / (y : Int)) = ((l / y : Nat) : Int) from by norm_cast, show ((l : Int) % (y : Int)) = ((l % y : Nat) : Int) from by norm_cast]
    obtain ⟨t, ht⟩ : ∃ t : Nat, t = l / y := ⟨_, rfl⟩
    rw [← ht] at h1 ⊢
    rw [wu64 (by omega) (by omega), ht, Nat.zero_mul, Nat.zero_add]
  · rw [if_neg h0]
    unfold bits_LeadingZeros64.f
    rw [if_pos ⟨by omega, by omega⟩, Option.bind_some, Int.toNat_natCast, bitLen_eq hyb]
    have hn0 : bitsN y ≤ 64 := bitsN_le (by omega)
    have hn1 : 1 ≤ bitsN y := by unfold bitsN; rw [if_neg (by omega)]; omega
    have hb1 := bitsN_ge (n := y) (by omega)
    have hb2 := bitsN_lt y
    obtain ⟨s, hs⟩ : ∃ s, s = 64 - bitsN y := ⟨_, rfl⟩
    have hs63 : s ≤ 63 := by omega
    have eb : bitsN y = 64 - s := by omega
    rw [eb] at hb1 hb2 ⊢
    have e1 : IntKind.u64.wrap (64 - (((64 - s : Nat)) : Int)) = (s : Int) := by rw [wu64 (by omega) (by omega)]; omega
    rw [e1, if_pos (by omega)]
    have e2 : IntKind.u64.wrap (64 - (s : Int)) = ((64 - s : Nat) : Int) := by rw [wu64 (by omega) (by omega)]; omega
    rw [e2, if_pos (by omega)]
    have hYlt : y * 2 ^ s < 18446744073709551616 := by
      have := Nat.mul_lt_mul_of_pos_right hb2 (Nat.two_pow_pos s)
      rw [← Nat.pow_add, show 64 - s + s = 64 from by omega] at this
      exact this
    have hYge : 9223372036854775808 ≤ y * 2 ^ s := by
      have := Nat.mul_le_mul_right (2 ^ s) hb1
      rw [← Nat.pow_add, show 64 - s - 1 + s = 63 from by omega] at this
      exact this
    have hhs : h * 2 ^ s < 18446744073709551616 := Nat.lt_of_le_of_lt (Nat.mul_le_mul_right _ (by omega)) hYlt
    have eshl : ∀ x : Nat, shl .u64 (x : Int) (s : Int) = ((x * 2 ^ s % 18446744073709551616 : Nat) : Int) := by
      intro x
      unfold shl
      rw [show min (s : Int).toNat (IntKind.u64).bits = s from by simp only [IntKind.bits]; omega, cast_pow, show ((x : Int) * ((2 ^ s : Nat) : Int)) = ((x * 2 ^ s : Nat) : Int) from by norm_cast, wu64_cast]
    have eshr : shr .u64 (l : Int) ((64 - s : Nat) : Int) = ((l / 2 ^ (64 - s) : Nat) : Int) := by
      unfold shr
      rw [show min ((64 - s : Nat) : Int).toNat (IntKind.u64).bits = 64 - s from by simp only [IntKind.bits]; omega, cast_pow]
      norm_cast
    rw [eshl y, eshl h, eshl l, eshr, Nat.mod_eq_of_lt hYlt, Nat.mod_eq_of_lt hhs, shl_or (by omega) hhs hl]
    have hlow : l * 2 ^ s % 18446744073709551616 < 18446744073709551616 := Nat.mod_lt _ (by decide)
    have hN : (h * 18446744073709551616 + l) * 2 ^ s = (h * 2 ^ s + l / 2 ^ (64 - s)) * 18446744073709551616 + l * 2 ^ s % 18446744073709551616 := by
      have := Nat.div_add_mod (l * 2 ^ s) 18446744073709551616
      rw [shl_high l s (by omega)] at this
      generalize l * 2 ^ s % 18446744073709551616 = r at *
      generalize l / 2 ^ (64 - s) = q at *
      grind
    have hUlt : h * 2 ^ s + l / 2 ^ (64 - s) < y * 2 ^ s := by
      have h1 : (h * 18446744073709551616 + l) * 2 ^ s < (y * 18446744073709551616) * 2 ^ s := Nat.mul_lt_mul_of_pos_right (by omega) (Nat.two_pow_pos s)
      rw [hN, show y * 18446744073709551616 * 2 ^ s = (y * 2 ^ s) * 18446744073709551616 from by grind] at h1
      omega
    have hdiv1 : (h * 18446744073709551616 + l) / y = ((h * 18446744073709551616 + l) * 2 ^ s) / (y * 2 ^ s) := (Nat.mul_div_mul_right _ _ (Nat.two_pow_pos s)).symm
    have hmod1 : ((h * 18446744073709551616 + l) * 2 ^ s) % (y * 2 ^ s) = (h * 18446744073709551616 + l) % y * 2 ^ s := Nat.mul_mod_mul_right ..
    have hmod2 : (h * 18446744073709551616 + l) % y = ((h * 18446744073709551616 + l) * 2 ^ s) % (y * 2 ^ s) / 2 ^ s := by rw [hmod1, Nat.mul_div_cancel _ (Nat.two_pow_pos s)]
    rw [hdiv1, hmod2, hN]
    clear hdiv1 hmod1 hmod2 hN hb1 hb2 eshl eshr e1 e2
    generalize h * 2 ^ s + l / 2 ^ (64 - s) = U at *
    generalize l * 2 ^ s % 18446744073709551616 = low at *
    generalize y * 2 ^ s = Y at *
    rw [and_low Y hYlt, and_low low hlow]
    rw [show ((Y : Int) / 4294967296) = ((Y / 4294967296 : Nat) : Int) from by omega, show ((low : Int) / 4294967296) = ((low / 4294967296 : Nat) : Int) from by omega]
    obtain ⟨v1, hv1⟩ : ∃ v1, v1 = Y / 4294967296 := ⟨_, rfl⟩
    obtain ⟨v0, hv0⟩ : ∃ v0, v0 = Y % 4294967296 := ⟨_, rfl⟩
    obtain ⟨u1, hu1⟩ : ∃ u1, u1 = low / 4294967296 := ⟨_, rfl⟩
    obtain ⟨u0, hu0⟩ : ∃ u0, u0 = low % 4294967296 := ⟨_, rfl⟩
    rw [← hv1, ← hv0, ← hu1, ← hu0]
    have hY : Y = 4294967296 * v1 + v0 := by omega
    have hlo : low = u1 * 4294967296 + u0 := by omega
    have a1 : 2147483648 ≤ v1 := by omega
    have a2 : v1 < 4294967296 := by omega
    have a3 : v0 < 4294967296 := by omega
    have a4 : u1 < 4294967296 := by omega
    have a5 : u0 < 4294967296 := by omega
    rw [if_neg (by omega)]
    have hg := guess_hi Y v1 v0 U hY a1 a3 hUlt u1 a4
    have hdiv : Int.tdiv (U : Int) (v1 : Int) = ((U / v1 : Nat) : Int) := by
      rw [Int.tdiv_eq_ediv_of_nonneg (by omega)]
      norm_cast
    obtain ⟨t, ht⟩ : ∃ t : Nat, t = U / v1 := ⟨_, rfl⟩
    rw [← ht] at hdiv hg
    have hU2 : t * v1 + U % v1 = U := hg.2.2.1
    have htb : t ≤ 4294967297 := hg.2.1
    have hm : U % v1 < v1 := hg.2.2.2.1
    rw [hdiv, wu64 (x := (t : Int)) (by omega) (by omega), show ((t : Int) * (v1 : Int)) = ((t * v1 : Nat) : Int) from by norm_cast]
    rw [wu64 (x := ((t * v1 : Nat) : Int)) (by omega) (by omega), wu64 (x := (U : Int) - ((t * v1 : Nat) : Int)) (by omega) (by omega), show ((U : Int) - ((t * v1 : Nat) : Int)) = ((U % v1 : Nat) : Int) from by omega]
    have b1 : 4294967296 ≤ U % v1 + 2 * v1 := by omega
    have b2 : 2 * 2 + 7 + 2 ≤ k := by omega
    have b3 : U % v1 < 4294967296 := by omega
    refine (fun R hn => D_l0 Y s v1 v0 U u1 u0 hY a1 a2 a3 hUlt a4 7 R hn 2 k t (U % v1) b1 b2 b3 hg.1 htb hU2) _ ?_
    intro k2 hk2
    rw [D_j2 Y s v1 v0 U u1 u0 hY a1 a2 a3 hUlt a4 a5 k2 hk2 (by omega), hlo]
    have h2 := two_steps U u1 u0 Y (by omega)
    rw [h2.1, h2.2]

/-! ### word -/
theorem word_step {y q r2 r x V : Nat} (h : y * q + r2 = r * 18446744073709551616 + x) : (q + 18446744073709551616 * V) * y + r2 = x + 18446744073709551616 * (V * y + r) := by
  grind
theorem word_l0 (a : List Int) (ha : Ok a) (hla : a.length ≤ LEN) (y : Nat) (hy0 : 0 < y) (hy : y < 18446744073709551616) : ∀ (n k : Nat) (out : List Int) (r : Nat), n ≤ a.length → n + a.length + 25 ≤ k → out.length = a.length → Ok out → r < y →
    val (out.drop n) * y + r = val (a.drop n) → (∀ m, m < n → out.getD m 0 = 0) → mag_word.l0 k a (y : Int) out (r : Int) ((n : Int) - 1) = some (ofNat (val a / y), ((val a % y : Nat) : Int)) := by
  unfold LEN at hla
  intro n
  induction n with
  | zero =>
    intro k out r hn hk hl ho hr he hz
    obtain ⟨k, rfl⟩ : ∃ m, k = m + 1 := ⟨k - 1, by omega⟩
    simp only [mag_word.l0]
    rw [if_neg (by omega), right_f (by omega) (by omega) ho, Option.bind_some]
    simp only [List.drop_zero] at he
    have := divmod_unique (n := val a) (q := val out) hr (by rw [← he, Nat.mul_comm])
    rw [this.1, this.2]
  | succ n ih =>
    intro k out r hn hk hl ho hr he hz
    obtain ⟨k, rfl⟩ : ∃ m, k = m + 1 := ⟨k - 1, by omega⟩
    simp only [mag_word.l0]
    have hx := ha.getD n
    obtain ⟨x, hxe⟩ : ∃ x : Nat, a.getD n 0 = (x : Int) := ⟨(a.getD n 0).toNat, by omega⟩
    rw [show (((n + 1 : Nat) : Int) - 1) = (n : Int) from by omega, if_pos (by omega), if_pos (by omega), if_pos (by omega), rd_cast a n, hxe, Div64_f hr hy (by omega) (by omega), Option.bind_some]
    dsimp only
    rw [if_pos (by omega), Int.toNat_natCast, w64 (x := (n : Int) - 1) (by omega) (by omega)]
    have h1 := Nat.div_add_mod (r * 18446744073709551616 + x) y
    have h2 : (r * 18446744073709551616 + x) % y < y := Nat.mod_lt _ hy0
    have h3 : (r * 18446744073709551616 + x) / y < 18446744073709551616 := by
      rw [Nat.div_lt_iff_lt_mul hy0]
      have := Nat.mul_le_mul_left 18446744073709551616 hr
      omega
    obtain ⟨q, hq⟩ : ∃ q, q = (r * 18446744073709551616 + x) / y := ⟨_, rfl⟩
    obtain ⟨r2, hr2⟩ : ∃ q, q = (r * 18446744073709551616 + x) % y := ⟨_, rfl⟩
    rw [← hq, ← hr2] at h1
    rw [← hr2] at h2
    rw [← hq] at h3
    rw [← hq, ← hr2]
    refine ih k _ r2 (by omega) (by omega) (by simpa using hl) (ho.set _ (by omega)) h2 ?_ ?_
    · rw [val_drop_cons _ _ (by simp; omega), val_drop_cons a n (by omega), List.getD_eq_getElem?_getD, List.getElem?_set_self (by omega), Option.getD_some, List.drop_set_of_lt (by omega), ← he, hxe, Int.toNat_natCast, Int.toNat_natCast]
      unfold B
      exact word_step h1
    · intro m hm
      rw [getD_set_ne _ _ (by omega)]
      exact hz m (by omega)
theorem word_f {a : List Int} {k y : Nat} (ha : Ok a) (hla : a.length ≤ LEN) (hy0 : 0 < y) (hy : y < 18446744073709551616) (hk : 2 * a.length + 25 ≤ k) : mag_word.f k a (y : Int) = some (ofNat (val a / y), ((val a % y : Nat) : Int)) := by
  have hla' := hla
  unfold LEN at hla'
  unfold mag_word.f
  rw [if_pos (by omega), Int.toNat_natCast, if_pos (by omega), w64 (by omega) (by omega)]
  exact word_l0 a ha hla y hy0 hy a.length k _ 0 (Nat.le_refl _) (by omega) (by simp) (Ok.replicate _) hy0 (by rw [List.drop_length, List.drop_of_length_le (by simp)]; simp [val])
    (fun m _ => by rw [List.getD_eq_getElem?_getD, List.getElem?_replicate]; split <;> rfl)
end Go.Proofs.YtknekneicecgiaaGreatDoor.Mg
namespace Go.Proofs.YtknekneicecgiaaGreatDoor.Mg
open Go.RowKit Go.Proofs.YtknekneicecgiaaGreatDoorW.PrintWords Go.Proofs.YtknekneicecgiaaGreatDoorW.PrintMore Go.Proofs.YtknekneicecgiaaGreatDoor.MB Go.Proofs.YtknekneicecgiaaGreatDoor.M
set_option linter.unusedVariables false
set_option linter.unusedSimpArgs false

theorem Div_one {a : List Int} {x y k : Nat} (h : Has a x) (hy0 : y ≠ 0) (hy : y < 18446744073709551616) (hk : 20001 ≤ k) : mag_Div.f k a [(y : Int)] = some (ofNat (x / y), ofNat (x % y)) := by
  have ha := h.ok
  have hb : Ok [(y : Int)] := Ok.cons (by omega) Ok.nil
  have hvb : val [(y : Int)] = y := by simp [val]
  have hla := le_LEN h.len
  have l1 := length_ofNat_val ha
  have hl64 := h.len
  have hva := h.val
  rw [hva] at l1
  have hlaU := hla
  unfold LEN at hlaU
  obtain ⟨k, rfl⟩ : ∃ n, k = n + 1 := ⟨k - 1, by omega⟩
  have small : ∀ z, mag_Div.j0 (k + 1) (ofNat x) z true = some (ofNat 0, ofNat x) := by
    intro z
    simp only [mag_Div.j0]
    rw [if_pos trivial, if_pos (by simp only [List.length_nil]; omega), List.nil_append, ofNat_zero]
  have hly : (ofNat y).length = 1 := by rw [ofNat_small hy0 hy]; rfl
  unfold mag_Div.f
  rw [right_f (by omega) (by omega) ha, Option.bind_some, right_f (by simp) (by simp; omega) hb, Option.bind_some, hva, hvb, if_neg (by omega), Cmp_f (Ok_ofNat _) (Ok_ofNat _) (by unfold LEN; omega) (by unfold LEN; omega) (by omega), Option.bind_some, val_ofNat, val_ofNat]
  by_cases hlt : x < y
  · have e : decide (cmpN x y < 0) = true := by unfold cmpN; rw [if_pos hlt]; decide
    rw [e, small, Nat.div_eq_of_lt hlt, Nat.mod_eq_of_lt hlt]
  · have e : decide (cmpN x y < 0) = false := by
      unfold cmpN
      rw [if_neg hlt]
      split <;> decide
    have e3 : rd (ofNat y) 0 = (y : Int) := by rw [ofNat_small hy0 hy]; rfl
    have hm := Nat.mod_lt x (Nat.pos_of_ne_zero hy0)
    rw [e]
    simp only [mag_Div.j0]
    rw [if_neg (by decide), hly, if_pos (by omega), if_pos (by omega), e3, word_f (Ok_ofNat _) (by unfold LEN; omega) (by omega) hy (by omega), Option.bind_some]
    dsimp only
    rw [val_ofNat, Of_f (Int.natCast_nonneg _) (by omega) (by omega), Option.bind_some, Int.toNat_natCast]
end Go.Proofs.YtknekneicecgiaaGreatDoor.Mg
