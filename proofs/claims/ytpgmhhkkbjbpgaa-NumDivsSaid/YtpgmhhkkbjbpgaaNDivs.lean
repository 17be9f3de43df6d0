/- NumDivs answers true, over whole numbers: a quotient is the greatest whole number that isn't above; what is left has the sign of the divisor, and is nearer to 0. -/
import Derived.Test.YtpgmhhkkbjbpgaaNA
import Derived.Test.YtpgmhhkkbjbpgaaNM
import Derived.Test.YtpgmhhkkbjbpgaaND
import Derived.Test.YtpgmhhkkbjbpgaaKDivs
namespace Go.Proofs.Ytpgmhhkkbjbpgaa.Mg
open Go.RowKit Go.Proofs.YtpgmhhkkbjbpgaaW.PrintWords Go.Proofs.YtpgmhhkkbjbpgaaW.PrintMore Go.Proofs.Ytpgmhhkkbjbpgaa.MB Go.Proofs.Ytpgmhhkkbjbpgaa.M Go.Proofs.Ytpgmhhkkbjbpgaa.MD
set_option linter.unusedVariables false
set_option linter.unusedSimpArgs false

theorem sgn_self (x : Int) : sgn (x - x) = 0 := by rw [Int.sub_self]; rfl
theorem NumDivs_f {m n : Bool} {a b : List Int} {k : Nat} (ha : Ok a) (hb : Ok b) (hk : 20002 ≤ k) : isohyetlaw02_NumDivs.f k m a n b = some true := by
  unfold isohyetlaw02_NumDivs.f
  obtain ⟨t, hs, hr⟩ := short_2 (k := k) 20 ⟨m, a⟩ ⟨n, b⟩ (by omega)
  rw [fit_z (by omega), Option.bind_some, if_pos rfl, hs, Option.bind_some]
  cases t with
  | false => rw [if_neg (by decide)]
  | true =>
    obtain ⟨la, lb⟩ := hr rfl
    dsimp only at la lb
    rw [if_pos rfl]
    have Ha := HZ.of (m := m) ha (by omega)
    have Hb := HZ.of (m := n) hb (by omega)
    have hx : (nv m (val a)).natAbs < B ^ 20 := by rw [nv_abs]; exact val_lt_of_len ha (by omega)
    have hy : (nv n (val b)).natAbs < B ^ 20 := by rw [nv_abs]; exact val_lt_of_len hb (by omega)
    generalize nv m (val a) = x at Ha hx
    generalize nv n (val b) = y at Hb hy
    have hB : 2 * B ^ 20 + 1 < B ^ 21 := by decide
    have hB2 : 2 * B ^ 21 + 1 < B ^ 64 := by decide
    obtain ⟨q, r, e, he, h0, hr, hq1, hr1⟩ := Div_z (k := k) Ha Hb (pow_le hx (by omega)) (by omega)
    have hq : q.natAbs < B ^ 21 := by omega
    have hrr : r.natAbs < B ^ 21 := by omega
    have Hq := HZ.z hq (by omega)
    have Hr := HZ.z hrr (by omega)
    have hqy : (q * y).natAbs < B ^ 64 := by
      have : q * y = x - r := by omega
      rw [this]
      omega
    have hqyr : (q * y + r).natAbs < B ^ 64 := by rw [he]; omega
    have Hx : HZ (zb x) (zl x) x := HZ.z hx (by omega)
    have Har : HZ (zb (r.natAbs : Int)) (zl (r.natAbs : Int)) (r.natAbs : Int) := HZ.z (m := 21) (by omega) (by omega)
    have Hay : HZ (zb (y.natAbs : Int)) (zl (y.natAbs : Int)) (y.natAbs : Int) := HZ.z (m := 20) (by omega) (by omega)
    obtain ⟨k, rfl⟩ : ∃ j, k = j + 1 := ⟨k - 1, by omega⟩
    rw [e, Option.bind_some]
    dsimp only
    rw [Right_z hq (by omega), Option.bind_some, if_pos rfl, Right_z hrr (by omega), Option.bind_some, if_pos rfl, Mul_z Hq Hb hqy (by omega), Option.bind_some]
    dsimp only
    rw [Add_z (HZ.z hqy (by omega)) Hr hqyr (by omega), Option.bind_some, he]
    dsimp only
    rw [Cmp_z Hx Ha (by omega), Option.bind_some, sgn_self]
    simp only [isohyetlaw02_NumDivs.j0]
    rw [if_neg (by decide), Sign_z Hb (by omega), Option.bind_some]
    by_cases y0 : y = 0
    · rw [if_pos (by rw [y0]; rfl), Sign_z Hq (by omega), Option.bind_some, h0 y0]
      rfl
    · obtain ⟨h1, h2⟩ := hr y0
      have hs0 : sgn y ≠ 0 := by rcases sgn_cases y with ⟨p, e⟩ | ⟨p, e⟩ | ⟨p, e⟩ <;> rw [e] <;> omega
      have hc : sgn ((r.natAbs : Int) - (y.natAbs : Int)) < 0 := by rcases sgn_cases ((r.natAbs : Int) - (y.natAbs : Int)) with ⟨p, e⟩ | ⟨p, e⟩ | ⟨p, e⟩ <;> rw [e] <;> omega
      rw [if_neg hs0, Abs_z Hr (by omega), Option.bind_some]
      dsimp only
      rw [Abs_z Hb (by omega), Option.bind_some]
      dsimp only
      rw [Cmp_z Har Hay (by omega), Option.bind_some, if_pos hc, Sign_z Hr (by omega), Option.bind_some]
      by_cases hr0 : sgn r = 0
      · rw [if_pos hr0]
      · have hr2 : sgn r = sgn y := by
          rcases h2 with h2 | h2
          · exact absurd (by rw [h2]; rfl) hr0
          · exact h2
        rw [if_neg hr0, Option.bind_some, Option.bind_some, hr2, beq_self_eq_true]
end Go.Proofs.Ytpgmhhkkbjbpgaa.Mg
namespace Go.Proofs.Ytpgmhhkkbjbpgaa.Pure
open Go.Proofs.Ytpgmhhkkbjbpgaa.M
theorem NumDivs : ∀ (a0 : Bool) (l0 : List Int) (a1 : Bool) (l1 : List Int), l0.length ≤ maxLen → l0.length * 8 ≤ 140737488351232 → (∀ x ∈ l0, (Lit.int .u64 x).wf = true) → l1.length ≤ maxLen → l1.length * 8 ≤ 140737488351232 → (∀ x ∈ l1, (Lit.int .u64 x).wf = true) → ∃ k, isohyetlaw02_NumDivs.f k a0 l0 a1 l1 = some true := by
  intro a0 l0 a1 l1 _ _ h0 _ _ h1
  exact ⟨20002, Mg.NumDivs_f (Mg.ok_of_wf h0) (Mg.ok_of_wf h1) (Nat.le_refl _)⟩
end Go.Proofs.Ytpgmhhkkbjbpgaa.Pure
