/- MagBack answers true, over numbers: a product, and less than the divisor with it, divided comes back. -/
import Derived.Test.YtfkpbdapinpkdaaDoorLBa
import Derived.Test.YtfkpbdapinpkdaaDoorLBm
import Derived.Test.YtfkpbdapinpkdaaDoorKBack
namespace Go.Proofs.YtfkpbdapinpkdaaDoor.Mg
open Go.RowKit Go.Proofs.YtfkpbdapinpkdaaDoorW.PrintWords Go.Proofs.YtfkpbdapinpkdaaDoorW.PrintMore Go.Proofs.YtfkpbdapinpkdaaDoor.MB Go.Proofs.YtfkpbdapinpkdaaDoor.M Go.Proofs.YtfkpbdapinpkdaaDoor.MD
set_option linter.unusedVariables false
set_option linter.unusedSimpArgs false

theorem MagBack_f {a b c : List Int} {k : Nat} (ha : Ok a) (hb : Ok b) (hc : Ok c) (hk : 20001 ≤ k) : isohyetlaw01_MagBack.f k a b c = some true := by
  unfold isohyetlaw01_MagBack.f
  obtain ⟨r, hs, hr⟩ := short_3 (k := k) 20 a b c (by omega)
  have hj : isohyetlaw01_MagBack.j0 k a b c true = some true := by
    obtain ⟨k, rfl⟩ : ∃ m, k = m + 1 := ⟨k - 1, by omega⟩
    simp only [isohyetlaw01_MagBack.j0]
    rw [if_pos trivial]
  rw [fit_f (by omega), Option.bind_some, if_pos rfl, hs, Option.bind_some]
  cases r with
  | false => rw [if_neg (by decide), hj]
  | true =>
    obtain ⟨la, lb, lc⟩ := hr rfl
    rw [if_pos rfl]
    have Ha := Has.of ha (by omega)
    have Hb := Has.of hb (by omega)
    have Hc := Has.of hc (by omega)
    have hx := val_lt_of_len (m := 20) ha (by omega)
    have hy := val_lt_of_len (m := 20) hb (by omega)
    have hz := val_lt_of_len (m := 20) hc (by omega)
    generalize val a = x at Ha hx
    generalize val b = y at Hb hy
    generalize val c = z at Hc hz
    rw [Len_g Hb (by omega), Option.bind_some]
    by_cases h0 : y = 0
    · have e0 : bitsN y = 0 := bitsN_eq_zero.2 h0
      rw [e0, show (((0 : Nat) : Int) == 0) = true from rfl, hj]
    · have hb0 : bitsN y ≠ 0 := fun h => h0 (bitsN_eq_zero.1 h)
      have hb1 : (((bitsN y : Nat) : Int) == 0) = false := beq_eq_false_iff_ne.mpr (by omega)
      obtain ⟨k, rfl⟩ : ∃ m, k = m + 1 := ⟨k - 1, by omega⟩
      have hlt : z % y < y := Nat.mod_lt z (by omega)
      have hm : z % y < B ^ 20 := Nat.lt_trans hlt hy
      have hxy : x * y < B ^ (20 + 20) := pow_mul_lt hx hy
      have hsum : x * y + z % y < B ^ (20 + 20 + 1) := pow_add_lt hxy (pow_le hm (by omega))
      obtain ⟨d1, d2⟩ := divmod_unique (n := x * y + z % y) (y := y) (q := x) (r := z % y) hlt (by rw [Nat.mul_comm])
      rw [hb1]
      simp only [isohyetlaw01_MagBack.j0]
      rw [if_neg (by decide), Div_g Hc Hb (by omega), Option.bind_some]
      dsimp only
      rw [Mul_g Ha Hb (by omega), Option.bind_some, Add_g (Has.nat hxy (by omega)) (Has.nat hm (by omega)) (by omega), Option.bind_some, Div_g (Has.nat hsum (by omega)) Hb (by omega), Option.bind_some]
      dsimp only
      rw [d1, d2, Cmp_g (Has.nat hx (by omega)) Ha (by omega), Option.bind_some, cmpN_self, if_pos rfl, same_g rfl hm (by omega) (by omega), Option.bind_some]
end Go.Proofs.YtfkpbdapinpkdaaDoor.Mg
namespace Go.Proofs.YtfkpbdapinpkdaaDoor.Pure
open Go.Proofs.YtfkpbdapinpkdaaDoor.M
theorem MagBack : ∀ (l0 l1 l2 : List Int), l0.length ≤ maxLen → l0.length * 8 ≤ 140737488351232 → (∀ x ∈ l0, (Lit.int .u64 x).wf = true) → l1.length ≤ maxLen → l1.length * 8 ≤ 140737488351232 → (∀ x ∈ l1, (Lit.int .u64 x).wf = true) →
    l2.length ≤ maxLen → l2.length * 8 ≤ 140737488351232 → (∀ x ∈ l2, (Lit.int .u64 x).wf = true) → ∃ k, isohyetlaw01_MagBack.f k l0 l1 l2 = some true := by
  intro l0 l1 l2 _ _ h0 _ _ h1 _ _ h2
  exact ⟨20001, Mg.MagBack_f (Mg.ok_of_wf h0) (Mg.ok_of_wf h1) (Mg.ok_of_wf h2) (Nat.le_refl _)⟩
end Go.Proofs.YtfkpbdapinpkdaaDoor.Pure
