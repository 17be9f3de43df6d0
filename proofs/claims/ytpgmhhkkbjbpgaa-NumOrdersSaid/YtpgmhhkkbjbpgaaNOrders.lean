/- NumOrders answers true, over whole numbers: which of two is more is the sign of their difference; what is more by both is more; a number made of a magnitude is right. -/
import Derived.Test.YtpgmhhkkbjbpgaaNS
import Derived.Test.YtpgmhhkkbjbpgaaND
import Derived.Test.YtpgmhhkkbjbpgaaKOrders
namespace Go.Proofs.Ytpgmhhkkbjbpgaa.Mg
open Go.RowKit Go.Proofs.YtpgmhhkkbjbpgaaW.PrintWords Go.Proofs.YtpgmhhkkbjbpgaaW.PrintMore Go.Proofs.Ytpgmhhkkbjbpgaa.MB Go.Proofs.Ytpgmhhkkbjbpgaa.M Go.Proofs.Ytpgmhhkkbjbpgaa.MD
set_option linter.unusedVariables false
set_option linter.unusedSimpArgs false

theorem sgn_self (x : Int) : sgn (x - x) = 0 := by rw [Int.sub_self]; rfl
theorem sgn_ge {x : Int} : sgn x ≥ 0 ↔ x ≥ 0 := by rcases sgn_cases x with ⟨p, e⟩ | ⟨p, e⟩ | ⟨p, e⟩ <;> rw [e] <;> omega
theorem sgn_lt {x : Int} : sgn x < 0 ↔ x < 0 := by rcases sgn_cases x with ⟨p, e⟩ | ⟨p, e⟩ | ⟨p, e⟩ <;> rw [e] <;> omega
theorem sgn_turn (x y : Int) : sgn (x - y) = wrap64 (-sgn (y - x)) := by
  rcases sgn_cases (x - y) with ⟨p, e⟩ | ⟨p, e⟩ | ⟨p, e⟩ <;> rcases sgn_cases (y - x) with ⟨p2, e2⟩ | ⟨p2, e2⟩ | ⟨p2, e2⟩ <;> rw [e, e2] <;> first | (exfalso; omega) | (rw [w64 (by omega) (by omega)] <;> decide)
theorem NumOrders_f {m n o : Bool} {a b c : List Int} {k : Nat} (ha : Ok a) (hb : Ok b) (hc : Ok c) (hk : 20002 ≤ k) : isohyetlaw02_NumOrders.f k m a n b o c = some true := by
  unfold isohyetlaw02_NumOrders.f
  obtain ⟨t, hs, hr⟩ := short_3 (k := k) 20 ⟨m, a⟩ ⟨n, b⟩ ⟨o, c⟩ (by omega)
  rw [fit_z (by omega), Option.bind_some, if_pos rfl, hs, Option.bind_some]
  cases t with
  | false => rw [if_neg (by decide)]
  | true =>
    obtain ⟨la, lb, lc⟩ := hr rfl
    dsimp only at la lb lc
    rw [if_pos rfl]
    have Ha := HZ.of (m := m) ha (by omega)
    have Hb := HZ.of (m := n) hb (by omega)
    have Hc := HZ.of (m := o) hc (by omega)
    have hx : (nv m (val a)).natAbs < B ^ 20 := by rw [nv_abs]; exact val_lt_of_len ha (by omega)
    have hy : (nv n (val b)).natAbs < B ^ 20 := by rw [nv_abs]; exact val_lt_of_len hb (by omega)
    have hz : (nv o (val c)).natAbs < B ^ 20 := by rw [nv_abs]; exact val_lt_of_len hc (by omega)
    generalize nv m (val a) = x at Ha hx
    generalize nv n (val b) = y at Hb hy
    generalize nv o (val c) = z at Hc hz
    have hB : 2 * B ^ 20 + 1 < B ^ 64 := by decide
    have h1 : (x - y).natAbs < B ^ 64 := by omega
    have h2 : (x + z).natAbs < B ^ 64 := by omega
    have h3 : (y + z).natAbs < B ^ 64 := by omega
    have Hx : HZ (zb x) (zl x) x := HZ.z hx (by omega)
    have hax := Ha.has
    have hnx := Ha.nv
    obtain ⟨k, rfl⟩ : ∃ j, k = j + 1 := ⟨k - 1, by omega⟩
    rw [Cmp_z Ha Hb (by omega), Option.bind_some, Cmp_z Hb Hc (by omega), Option.bind_some, Sub_z Ha Hb h1 (by omega), Option.bind_some]
    dsimp only
    rw [Sign_z (HZ.z h1 (by omega)) (by omega), Option.bind_some, if_pos rfl, Cmp_z Hb Ha (by omega), Option.bind_some, if_pos (sgn_turn x y), Add_z Ha Hc h2 (by omega), Option.bind_some]
    dsimp only
    rw [Add_z Hb Hc h3 (by omega), Option.bind_some]
    dsimp only
    rw [Cmp_z (HZ.z h2 (by omega)) (HZ.z h3 (by omega)) (by omega), Option.bind_some, show x + z - (y + z) = x - y from by omega, bne_self_eq_false]
    simp only [isohyetlaw02_NumOrders.j0]
    rw [if_neg (by decide), Make_z hax (by omega), Option.bind_some, hnx]
    dsimp only
    rw [Right_z hx (by omega), Option.bind_some, if_pos rfl, Cmp_z Hx Ha (by omega), Option.bind_some, sgn_self, if_pos rfl]
    by_cases c1 : sgn (x - y) < 0
    · rw [if_pos c1]
    · rw [if_neg c1]
      by_cases c2 : sgn (y - z) < 0
      · rw [if_pos c2]
      · have d1 := mt sgn_lt.2 c1
        have d2 := mt sgn_lt.2 c2
        have d3 : sgn (x - z) ≥ 0 := sgn_ge.2 (by omega)
        rw [if_neg c2, Cmp_z Ha Hc (by omega), Option.bind_some, decide_eq_true d3]
end Go.Proofs.Ytpgmhhkkbjbpgaa.Mg
namespace Go.Proofs.Ytpgmhhkkbjbpgaa.Pure
open Go.Proofs.Ytpgmhhkkbjbpgaa.M
theorem NumOrders : ∀ (a0 : Bool) (l0 : List Int) (a1 : Bool) (l1 : List Int) (a2 : Bool) (l2 : List Int), l0.length ≤ maxLen → l0.length * 8 ≤ 140737488351232 → (∀ x ∈ l0, (Lit.int .u64 x).wf = true) → l1.length ≤ maxLen → l1.length * 8 ≤ 140737488351232 → (∀ x ∈ l1, (Lit.int .u64 x).wf = true) → l2.length ≤ maxLen → l2.length * 8 ≤ 140737488351232 → (∀ x ∈ l2, (Lit.int .u64 x).wf = true) → ∃ k, isohyetlaw02_NumOrders.f k a0 l0 a1 l1 a2 l2 = some true := by
  intro a0 l0 a1 l1 a2 l2 _ _ h0 _ _ h1 _ _ h2
  exact ⟨20002, Mg.NumOrders_f (Mg.ok_of_wf h0) (Mg.ok_of_wf h1) (Mg.ok_of_wf h2) (Nat.le_refl _)⟩
end Go.Proofs.Ytpgmhhkkbjbpgaa.Pure
