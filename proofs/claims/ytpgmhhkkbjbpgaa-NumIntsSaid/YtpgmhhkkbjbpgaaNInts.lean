/- NumInts answers true, over whole numbers: each int is a number, and comes back; none that is greater does. -/
import Derived.Test.YtpgmhhkkbjbpgaaND
import Derived.Test.YtpgmhhkkbjbpgaaKInts
namespace Go.Proofs.Ytpgmhhkkbjbpgaa.Mg
open Go.RowKit Go.Proofs.YtpgmhhkkbjbpgaaW.PrintWords Go.Proofs.YtpgmhhkkbjbpgaaW.PrintMore Go.Proofs.Ytpgmhhkkbjbpgaa.MB Go.Proofs.Ytpgmhhkkbjbpgaa.M Go.Proofs.Ytpgmhhkkbjbpgaa.MD
set_option linter.unusedVariables false
set_option linter.unusedSimpArgs false

theorem sgn_self (x : Int) : sgn (x - x) = 0 := by rw [Int.sub_self]; rfl
theorem sgn_ge {x : Int} : sgn x ≥ 0 ↔ x ≥ 0 := by rcases sgn_cases x with ⟨p, e⟩ | ⟨p, e⟩ | ⟨p, e⟩ <;> rw [e] <;> omega
theorem sgn_le {x : Int} : sgn x ≤ 0 ↔ x ≤ 0 := by rcases sgn_cases x with ⟨p, e⟩ | ⟨p, e⟩ | ⟨p, e⟩ <;> rw [e] <;> omega
theorem NumInts_f {n : Int} {m : Bool} {a : List Int} {k : Nat} (h0 : -9223372036854775808 ≤ n) (h1 : n ≤ 9223372036854775807) (ha : Ok a) (hk : 20002 ≤ k) : isohyetlaw02_NumInts.f k n m a = some true := by
  unfold isohyetlaw02_NumInts.f
  obtain ⟨t, hs, hr⟩ := short_1 (k := k) 20 ⟨m, a⟩ (by omega)
  rw [fit_z (by omega), Option.bind_some, if_pos rfl, hs, Option.bind_some]
  cases t with
  | false => rw [if_neg (by decide)]
  | true =>
    have la := hr rfl
    dsimp only at la
    rw [if_pos rfl]
    have Ha := HZ.of (m := m) ha (by omega)
    generalize nv m (val a) = x at Ha
    have hn : n.natAbs < B ^ 1 := by unfold B; omega
    have Hn := HZ.z hn (by omega)
    obtain ⟨k, rfl⟩ : ∃ j, k = j + 1 := ⟨k - 1, by omega⟩
    rw [Of_z h0 h1 (by omega), Option.bind_some]
    dsimp only
    rw [Int_z Hn (by omega), if_pos ⟨h0, h1⟩, Option.bind_some]
    dsimp only
    rw [if_pos rfl, if_pos rfl, Right_z hn (by omega), Option.bind_some]
    simp only [isohyetlaw02_NumInts.j0]
    have H1 := HZ.z (z := -9223372036854775808) (m := 1) (by decide) (by omega)
    have H2 := HZ.z (z := 9223372036854775807) (m := 1) (by decide) (by omega)
    rw [if_neg (by decide), Int_z Ha (by omega)]
    by_cases hx : -9223372036854775808 ≤ x ∧ x ≤ 9223372036854775807
    · have hxx : x.natAbs < B ^ 1 := by unfold B; omega
      have Hx := HZ.z hxx (by omega)
      have c1 : sgn (x - -9223372036854775808) ≥ 0 := sgn_ge.2 (by omega)
      have c2 : sgn (x - 9223372036854775807) ≤ 0 := sgn_le.2 (by omega)
      rw [if_pos hx, Option.bind_some]
      dsimp only
      rw [Of_z (by omega) (by omega) (by omega), Option.bind_some]
      dsimp only
      rw [Cmp_z Ha H1 (by omega), Option.bind_some, if_pos c1, Of_z (by omega) (by omega) (by omega), Option.bind_some]
      dsimp only
      rw [Cmp_z Ha H2 (by omega), Option.bind_some, decide_eq_true c2, if_pos (by decide), if_pos rfl, Of_z hx.1 hx.2 (by omega), Option.bind_some]
      dsimp only
      rw [Cmp_z Hx Ha (by omega), Option.bind_some, sgn_self, if_pos rfl]
    · rw [if_neg hx, Option.bind_some]
      dsimp only
      rw [Of_z (by omega) (by omega) (by omega), Option.bind_some]
      dsimp only
      rw [Cmp_z Ha H1 (by omega), Option.bind_some]
      by_cases c1 : sgn (x - -9223372036854775808) ≥ 0
      · have c1' := sgn_ge.1 c1
        have c2 : ¬ sgn (x - 9223372036854775807) ≤ 0 := fun h => by have := sgn_le.1 h; omega
        rw [if_pos c1, Of_z (by omega) (by omega) (by omega), Option.bind_some]
        dsimp only
        rw [Cmp_z Ha H2 (by omega), Option.bind_some, decide_eq_false c2, if_pos (by decide), if_neg (by decide)]
        rfl
      · rw [if_neg c1, if_pos (by decide), if_neg (by decide)]
        rfl
end Go.Proofs.Ytpgmhhkkbjbpgaa.Mg
namespace Go.Proofs.Ytpgmhhkkbjbpgaa.Pure
open Go.Proofs.Ytpgmhhkkbjbpgaa.M
theorem NumInts : ∀ (a0 : Int) (a1 : Bool) (l1 : List Int), (Lit.int .i64 a0).wf = true → l1.length ≤ maxLen → l1.length * 8 ≤ 140737488351232 → (∀ x ∈ l1, (Lit.int .u64 x).wf = true) → ∃ k, isohyetlaw02_NumInts.f k a0 a1 l1 = some true := by
  intro a0 a1 l1 w _ _ h1
  have hb := Go.bounds_i64 w
  exact ⟨20002, Mg.NumInts_f (by omega) (by omega) (Mg.ok_of_wf h1) (Nat.le_refl _)⟩
end Go.Proofs.Ytpgmhhkkbjbpgaa.Pure
