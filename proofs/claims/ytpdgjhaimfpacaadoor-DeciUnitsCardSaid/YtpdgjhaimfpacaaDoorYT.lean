/- What math/bits.Div64 comes to, as numbers; and mag.word. -/
import Derived.Test.YtpdgjhaimfpacaaDoorYR
import Derived.Test.YtpdgjhaimfpacaaDoorA3
namespace Go.Proofs.YtpdgjhaimfpacaaDoor.Mg
open Go.RowKit Go.Proofs.YtpdgjhaimfpacaaDoorW.PrintWords Go.Proofs.YtpdgjhaimfpacaaDoorW.PrintMore Go.Proofs.YtpdgjhaimfpacaaDoor.MB Go.Proofs.YtpdgjhaimfpacaaDoor.M
set_option linter.unusedVariables false
set_option linter.unusedSimpArgs false

theorem wu64_mod (x : Int) : IntKind.u64.wrap x = x % 18446744073709551616 := by
  simp only [IntKind.wrap, IntKind.signed, IntKind.bits]
  simp

theorem D_l0 (y s v1 v0 U u1 u0 : Nat) (hy : y = 4294967296 * v1 + v0) (h1 : 2147483648 ≤ v1) (h1' : v1 < 4294967296) (h0 : v0 < 4294967296) (hU : U < y) (hu1 : u1 < 4294967296) (K : Nat) (R : Option (Int × Int))
    (hnext : ∀ k, K ≤ k → bits_Div64.j2 k (y : Int) (s : Int) (v1 : Int) (v0 : Int) (U : Int) (u1 : Int) (u0 : Int) (((U * 4294967296 + u1) / y : Nat) : Int) = R) :
    ∀ (d k q r : Nat), 4294967296 ≤ r + d * v1 → 2 * d + K + 2 ≤ k → r < 4294967296 → (U * 4294967296 + u1) / y ≤ q → q ≤ 4294967297 → q * v1 + r = U →
      bits_Div64.l0 k (y : Int) (s : Int) (v1 : Int) (v0 : Int) (U : Int) (u1 : Int) (u0 : Int) (q : Int) (r : Int) = R := by
  intro d
  induction d with
  | zero =>
    intro k q r hd hk hr
    omega
  | succ d ih =>
    intro k q r hd hk hr hq hqb hqr
    obtain ⟨k, rfl⟩ : ∃ m, k = m + 2 := ⟨k - 2, by omega⟩
    have hypos : 0 < y := by omega
    have hqy : q * y = 4294967296 * (q * v1) + q * v0 := by rw [hy]; grind
    -- where the test says yes
    have yes : (q ≥ 4294967296 ∨ q * v0 > 4294967296 * r + u1) → bits_Div64.j1 (k + 1) (y : Int) (s : Int) (v1 : Int) (v0 : Int) (U : Int) (u1 : Int) (u0 : Int) (q : Int) (r : Int) true = R := by
      intro hc
      have hgt : (U * 4294967296 + u1) / y < q := by
        rw [Nat.div_lt_iff_lt_mul hypos, hqy]
        rcases hc with hc | hc
        · have e2 : 4294967296 * y ≤ q * y := Nat.mul_le_mul_right y hc
          rw [hqy] at e2
          omega
        · omega
      have hqpos : 0 < q := Nat.lt_of_le_of_lt (Nat.zero_le _) hgt
      obtain ⟨p, rfl⟩ : ∃ p, q = p + 1 := ⟨q - 1, by omega⟩
      rw [Nat.succ_mul] at hqr
      simp only [bits_Div64.j1]
      rw [if_pos trivial, wu64 (x := (r : Int) + (v1 : Int)) (by omega) (by omega), wu64 (x := ((p + 1 : Nat) : Int) - 1) (by omega) (by omega), show (((p + 1 : Nat) : Int) - 1) = (p : Int) from by omega]
      by_cases hb : (r : Int) + (v1 : Int) ≥ 4294967296
      · rw [if_pos hb]
        have e : p = (U * 4294967296 + u1) / y := by
          apply Nat.le_antisymm _ (by omega)
          rw [Nat.le_div_iff_mul_le hypos]
          have e3 : p * y = 4294967296 * (p * v1) + p * v0 := by rw [hy]; grind
          have e4 : p * v0 ≤ 4294967296 * v0 := Nat.mul_le_mul_right v0 (by omega)
          rw [e3]
          generalize p * v1 = A at *
          generalize p * v0 = C at *
          have e5 : 4294967296 * v0 ≤ 4294967296 * 4294967295 := Nat.mul_le_mul_left _ (by omega)
          omega
        rw [e]
        exact hnext k (by omega)
      · rw [if_neg hb, show ((r : Int) + (v1 : Int)) = ((r + v1 : Nat) : Int) from by omega]
        refine ih k p (r + v1) ?_ (by omega) (by omega) (by omega) (by omega) ?_
        · rw [Nat.succ_mul] at hd
          omega
        · omega
    have no : ¬ (q ≥ 4294967296 ∨ q * v0 > 4294967296 * r + u1) → bits_Div64.j1 (k + 1) (y : Int) (s : Int) (v1 : Int) (v0 : Int) (U : Int) (u1 : Int) (u0 : Int) (q : Int) (r : Int) false = R := by
      intro hc
      have e : q = (U * 4294967296 + u1) / y := by
        apply Nat.le_antisymm _ hq
        rw [Nat.le_div_iff_mul_le hypos, hqy]
        generalize q * v1 = A at *
        generalize q * v0 = C at *
        omega
      simp only [bits_Div64.j1]
      rw [if_neg (by decide), e]
      exact hnext k (by omega)
    simp only [bits_Div64.l0]
    by_cases hge : (q : Int) ≥ 4294967296
    · rw [if_pos hge]
      exact yes (.inl (by omega))
    · rw [if_neg hge]
      have hqv : q * v0 ≤ 4294967295 * 4294967295 := Nat.mul_le_mul (by omega) (by omega)
      rw [show ((q : Int) * (v0 : Int)) = ((q * v0 : Nat) : Int) from by norm_cast, wu64 (x := ((q * v0 : Nat) : Int)) (by omega) (by omega), wu64 (x := 4294967296 * (r : Int)) (by omega) (by omega), wu64 (x := 4294967296 * (r : Int) + (u1 : Int)) (by omega) (by omega)]
      by_cases hc : ((q * v0 : Nat) : Int) > 4294967296 * (r : Int) + (u1 : Int)
      · rw [decide_eq_true hc]
        exact yes (.inr (by omega))
      · rw [decide_eq_false hc]
        exact no (by omega)

theorem D_l1 (y s v1 v0 U u1 : Nat) (q1 : Int) (hy : y = 4294967296 * v1 + v0) (h1 : 2147483648 ≤ v1) (h1' : v1 < 4294967296) (h0 : v0 < 4294967296) (hU : U < y) (hu1 : u1 < 4294967296) (R : Option (Int × Int))
    (hnext : some (IntKind.u64.wrap (IntKind.u64.wrap (q1 * 4294967296) + (((U * 4294967296 + u1) / y : Nat) : Int)), shr .u64 (IntKind.u64.wrap (IntKind.u64.wrap (IntKind.u64.wrap ((U : Int) * 4294967296) + (u1 : Int)) - IntKind.u64.wrap ((((U * 4294967296 + u1) / y : Nat) : Int) * (y : Int)))) (s : Int)) = R) :
    ∀ (d k q r : Nat), 4294967296 ≤ r + d * v1 → 2 * d + 2 ≤ k → r < 4294967296 → (U * 4294967296 + u1) / y ≤ q → q ≤ 4294967297 → q * v1 + r = U →
      bits_Div64.l1 k (y : Int) (s : Int) (v1 : Int) (v0 : Int) (u1 : Int) q1 (r : Int) (U : Int) (q : Int) = R := by
  intro d
  induction d with
  | zero =>
    intro k q r hd hk hr
    omega
  | succ d ih =>
    intro k q r hd hk hr hq hqb hqr
    obtain ⟨k, rfl⟩ : ∃ m, k = m + 2 := ⟨k - 2, by omega⟩
    have hypos : 0 < y := by omega
    have hqy : q * y = 4294967296 * (q * v1) + q * v0 := by rw [hy]; grind
    have yes : (q ≥ 4294967296 ∨ q * v0 > 4294967296 * r + u1) → bits_Div64.j4 (k + 1) (y : Int) (s : Int) (v1 : Int) (v0 : Int) (u1 : Int) q1 (r : Int) (U : Int) (q : Int) true = R := by
      intro hc
      have hgt : (U * 4294967296 + u1) / y < q := by
        rw [Nat.div_lt_iff_lt_mul hypos, hqy]
        rcases hc with hc | hc
        · have e2 : 4294967296 * y ≤ q * y := Nat.mul_le_mul_right y hc
          rw [hqy] at e2
          omega
        · omega
      have hqpos : 0 < q := Nat.lt_of_le_of_lt (Nat.zero_le _) hgt
      obtain ⟨p, rfl⟩ : ∃ p, q = p + 1 := ⟨q - 1, by omega⟩
      rw [Nat.succ_mul] at hqr
      simp only [bits_Div64.j4]
      rw [if_pos trivial, wu64 (x := (r : Int) + (v1 : Int)) (by omega) (by omega), wu64 (x := ((p + 1 : Nat) : Int) - 1) (by omega) (by omega), show (((p + 1 : Nat) : Int) - 1) = (p : Int) from by omega]
      by_cases hb : (r : Int) + (v1 : Int) ≥ 4294967296
      · rw [if_pos hb, if_pos (by omega)]
        have e : p = (U * 4294967296 + u1) / y := by
          apply Nat.le_antisymm _ (by omega)
          rw [Nat.le_div_iff_mul_le hypos]
          have e3 : p * y = 4294967296 * (p * v1) + p * v0 := by rw [hy]; grind
          have e4 : p * v0 ≤ 4294967296 * v0 := Nat.mul_le_mul_right v0 (by omega)
          rw [e3]
          generalize p * v1 = A at *
          generalize p * v0 = C at *
          have e5 : 4294967296 * v0 ≤ 4294967296 * 4294967295 := Nat.mul_le_mul_left _ (by omega)
          omega
        rw [e]
        exact hnext
      · rw [if_neg hb, show ((r : Int) + (v1 : Int)) = ((r + v1 : Nat) : Int) from by omega]
        refine ih k p (r + v1) ?_ (by omega) (by omega) (by omega) (by omega) ?_
        · rw [Nat.succ_mul] at hd
          omega
        · omega
    have no : ¬ (q ≥ 4294967296 ∨ q * v0 > 4294967296 * r + u1) → bits_Div64.j4 (k + 1) (y : Int) (s : Int) (v1 : Int) (v0 : Int) (u1 : Int) q1 (r : Int) (U : Int) (q : Int) false = R := by
      intro hc
      have e : q = (U * 4294967296 + u1) / y := by
        apply Nat.le_antisymm _ hq
        rw [Nat.le_div_iff_mul_le hypos, hqy]
        generalize q * v1 = A at *
        generalize q * v0 = C at *
        omega
      simp only [bits_Div64.j4]
      rw [if_neg (by decide), if_pos (by omega), e]
      exact hnext
    simp only [bits_Div64.l1]
    by_cases hge : (q : Int) ≥ 4294967296
    · rw [if_pos hge]
      exact yes (.inl (by omega))
    · rw [if_neg hge]
      have hqv : q * v0 ≤ 4294967295 * 4294967295 := Nat.mul_le_mul (by omega) (by omega)
      rw [show ((q : Int) * (v0 : Int)) = ((q * v0 : Nat) : Int) from by norm_cast, wu64 (x := ((q * v0 : Nat) : Int)) (by omega) (by omega), wu64 (x := 4294967296 * (r : Int)) (by omega) (by omega), wu64 (x := 4294967296 * (r : Int) + (u1 : Int)) (by omega) (by omega)]
      by_cases hc : ((q * v0 : Nat) : Int) > 4294967296 * (r : Int) + (u1 : Int)
      · rw [decide_eq_true hc]
        exact yes (.inr (by omega))
      · rw [decide_eq_false hc]
        exact no (by omega)

/-- The rest of a division of three half words, as the machine's words tell it. -/
theorem rest_eq (y U u1 : Nat) (hy : 0 < y) (hyb : y < 18446744073709551616) : IntKind.u64.wrap (IntKind.u64.wrap (IntKind.u64.wrap ((U : Int) * 4294967296) + (u1 : Int)) - IntKind.u64.wrap ((((U * 4294967296 + u1) / y : Nat) : Int) * (y : Int))) = (((U * 4294967296 + u1) % y : Nat) : Int) := by
  have h1 := Nat.div_add_mod (U * 4294967296 + u1) y
  have h2 := Nat.mod_lt (U * 4294967296 + u1) hy
  rw [show ((((U * 4294967296 + u1) / y : Nat) : Int) * (y : Int)) = ((y * ((U * 4294967296 + u1) / y) : Nat) : Int) from by rw [Nat.mul_comm y, Int.natCast_mul]]
  simp only [wu64_mod]
  generalize y * ((U * 4294967296 + u1) / y) = A at *
  generalize (U * 4294967296 + u1) % y = r at *
  omega
theorem guess_hi (y v1 v0 U : Nat) (hy : y = 4294967296 * v1 + v0) (h1 : 2147483648 ≤ v1) (h0 : v0 < 4294967296) (hU : U < y) (u1 : Nat) (hu1 : u1 < 4294967296) : (U * 4294967296 + u1) / y ≤ U / v1 ∧ U / v1 ≤ 4294967297 ∧ U / v1 * v1 + U % v1 = U ∧ U % v1 < v1 ∧ (U * 4294967296 + u1) / y < 4294967296 := by
  have h3 : U / v1 * v1 + U % v1 = U := Nat.div_add_mod' U v1
  have h4 : U % v1 < v1 := Nat.mod_lt _ (by omega)
  refine ⟨?_, ?_, h3, h4, ?_⟩
  · apply Nat.le_of_lt_succ
    rw [Nat.div_lt_iff_lt_mul (by omega)]
    have e : ∀ t : Nat, t.succ * y = 4294967296 * (t * v1 + v1) + (t + 1) * v0 := by intro t; rw [hy, Nat.succ_eq_add_one]; grind
    rw [e]
    generalize (U / v1 + 1) * v0 = C
    omega
  · apply Nat.le_of_lt_succ
    rw [Nat.div_lt_iff_lt_mul (by omega)]
    omega
  · rw [Nat.div_lt_iff_lt_mul (by omega)]
    omega

theorem D_j2 (y s v1 v0 U u1 u0 : Nat) (hy : y = 4294967296 * v1 + v0) (h1 : 2147483648 ≤ v1) (h1' : v1 < 4294967296) (h0 : v0 < 4294967296) (hU : U < y) (hu1 : u1 < 4294967296) (hu0 : u0 < 4294967296) (k : Nat) (hk : 7 ≤ k) (hs : s ≤ 64) :
    bits_Div64.j2 k (y : Int) (s : Int) (v1 : Int) (v0 : Int) (U : Int) (u1 : Int) (u0 : Int) (((U * 4294967296 + u1) / y : Nat) : Int) =
      some ((((U * 4294967296 + u1) / y * 4294967296 + ((U * 4294967296 + u1) % y * 4294967296 + u0) / y : Nat) : Int), (((((U * 4294967296 + u1) % y * 4294967296 + u0) % y) / 2 ^ s : Nat) : Int)) := by
  obtain ⟨k, rfl⟩ : ∃ m, k = m + 1 := ⟨k - 1, by omega⟩
  have hypos : 0 < y := by omega
  have hyb : y < 18446744073709551616 := by omega
  have hg := guess_hi y v1 v0 U hy h1 h0 hU u1 hu1
  have hW : (U * 4294967296 + u1) % y < y := Nat.mod_lt _ hypos
  have hrest := rest_eq y U u1 hypos hyb
  simp only [bits_Div64.j2]
  rw [if_neg (by omega), hrest]
  clear hrest
  obtain ⟨W, hWd⟩ : ∃ W : Nat, W = (U * 4294967296 + u1) % y := ⟨_, rfl⟩
  rw [← hWd] at hW ⊢
  clear hWd
  obtain ⟨q1, hq1⟩ : ∃ q1 : Nat, q1 = (U * 4294967296 + u1) / y := ⟨_, rfl⟩
  rw [← hq1] at hg ⊢
  have hg2 := guess_hi y v1 v0 W hy h1 h0 hW u0 hu0
  have hrest2 := rest_eq y W u0 hypos hyb
  have hdiv : Int.tdiv (W : Int) (v1 : Int) = ((W / v1 : Nat) : Int) := by
    rw [Int.tdiv_eq_ediv_of_nonneg (by omega)]
    norm_cast
  have hwm : W % v1 < v1 := hg2.2.2.2.1
  obtain ⟨t, ht⟩ : ∃ t : Nat, t = W / v1 := ⟨_, rfl⟩
  obtain ⟨q0, hq0⟩ : ∃ q0 : Nat, q0 = (W * 4294967296 + u0) / y := ⟨_, rfl⟩
  rw [← hq0] at hg2 ⊢
  rw [← ht] at hdiv hg2
  have hW2 : t * v1 + W % v1 = W := hg2.2.2.1
  have hwb : t ≤ 4294967297 := hg2.2.1
  rw [hdiv, wu64 (x := (t : Int)) (by omega) (by omega), show ((t : Int) * (v1 : Int)) = ((t * v1 : Nat) : Int) from by norm_cast]
  rw [wu64 (x := ((t * v1 : Nat) : Int)) (by omega) (by omega), wu64 (x := (W : Int) - ((t * v1 : Nat) : Int)) (by omega) (by omega), show ((W : Int) - ((t * v1 : Nat) : Int)) = ((W % v1 : Nat) : Int) from by omega]
  have e1 : 4294967296 ≤ W % v1 + 2 * v1 := by omega
  have e2 : 2 * 2 + 2 ≤ k := by omega
  have e3 : W % v1 < 4294967296 := by omega
  rw [hq0] at hg2
  refine (fun R hn => D_l1 y s v1 v0 W u0 (q1 : Int) hy h1 h1' h0 hW hu0 R hn 2 k t (W % v1) e1 e2 e3 hg2.1 hwb hW2) _ ?_
  have hq0l := hg2.2.2.2.2
  rw [hrest2]
  unfold shr
  rw [show min (s : Int).toNat (IntKind.u64).bits = s from by simp only [IntKind.bits]; omega, cast_pow, ← hq0]
  rw [← hq0] at hq0l
  have hq1l : q1 < 4294967296 := hg.2.2.2.2
  rw [wu64 (x := (q1 : Int) * 4294967296) (by omega) (by omega), wu64 (by omega) (by omega)]
  congr 2

theorem and_low (x : Nat) (hx : x < 18446744073709551616) : Go.bits .and .u64 (x : Int) 4294967295 = ((x % 4294967296 : Nat) : Int) := by
  have := bits_and_u64_nat x 4294967295 hx (by decide)
  rw [show ((4294967295 : Int)) = ((4294967295 : Nat) : Int) from rfl, this, show (4294967295 : Nat) = 2 ^ 32 - 1 from by decide, Nat.and_two_pow_sub_one_eq_mod]
end Go.Proofs.YtpdgjhaimfpacaaDoor.Mg
