/- MagLaws answers true, over numbers: sums and products don't hang on their order. -/
import Derived.Test.YtfkpbdapinpkdaaDoorLBa
import Derived.Test.YtfkpbdapinpkdaaDoorLBs
import Derived.Test.YtfkpbdapinpkdaaDoorLBm
import Derived.Test.YtfkpbdapinpkdaaDoorKLaws
namespace Go.Proofs.YtfkpbdapinpkdaaDoor.Mg
open Go.RowKit Go.Proofs.YtfkpbdapinpkdaaDoorW.PrintWords Go.Proofs.YtfkpbdapinpkdaaDoorW.PrintMore Go.Proofs.YtfkpbdapinpkdaaDoor.MB Go.Proofs.YtfkpbdapinpkdaaDoor.M Go.Proofs.YtfkpbdapinpkdaaDoor.MD
set_option linter.unusedVariables false
set_option linter.unusedSimpArgs false

theorem law_dist (x y z : Nat) : x * (y + z) = z * x + y * x := by rw [Nat.mul_add, Nat.add_comm, Nat.mul_comm x z, Nat.mul_comm x y]
theorem law_assoc (x y z : Nat) : x * y * z = x * (z * y) := by rw [Nat.mul_assoc, Nat.mul_comm y z]
theorem MagLaws_f {a b c : List Int} {k : Nat} (ha : Ok a) (hb : Ok b) (hc : Ok c) (hk : 20001 ≤ k) : isohyetlaw01_MagLaws.f k a b c = some true := by
  unfold isohyetlaw01_MagLaws.f
  obtain ⟨r, hs, hr⟩ := short_3 (k := k) 20 a b c (by omega)
  rw [fit_f (by omega), Option.bind_some, if_pos rfl, hs, Option.bind_some]
  cases r with
  | false => rw [if_neg (by decide)]
  | true =>
    obtain ⟨la, lb, lc⟩ := hr rfl
    rw [if_pos rfl]
    have Ha := Has.of ha (by omega)
    have Hb := Has.of hb (by omega)
    have Hc := Has.of hc (by omega)
    have hx := val_lt_of_len (m := 20) ha (by omega)
    have hy := val_lt_of_len (m := 20) hb (by omega)
    have hz := val_lt_of_len (m := 20) hc (by omega)
    generalize val a = x at Ha hx
    generalize val b = y at Hb hy
    generalize val c = z at Hc hz
    have hyz := pow_add_lt hy hz
    have hzx := pow_add_lt hz hx
    have hxz := pow_add_lt hx hz
    have hxy := pow_add_lt hx hy
    have h1 := pow_mul_lt hx hyz
    have h2 := pow_mul_lt hz hx
    have h3 := pow_mul_lt hy hx
    have h4 := pow_mul_lt hx hy
    have h5 := pow_mul_lt h4 hz
    have h6 := pow_mul_lt hz hy
    have h7 := pow_add_lt hxy (pow_le hz (show 20 ≤ 20 + 1 by omega))
    obtain ⟨k, rfl⟩ : ∃ m, k = m + 1 := ⟨k - 1, by omega⟩
    rw [Add_g Hb Hc (by omega), Option.bind_some, Mul_g Ha (Has.nat hyz (by omega)) (by omega), Option.bind_some, Mul_g Hc Ha (by omega), Option.bind_some, Mul_g Hb Ha (by omega), Option.bind_some,
      Add_g (Has.nat h2 (by omega)) (Has.nat h3 (by omega)) (by omega), Option.bind_some, same_g (law_dist x y z) h1 (by omega) (by omega), Option.bind_some, if_pos rfl,
      Mul_g Ha Hb (by omega), Option.bind_some, Mul_g (Has.nat h4 (by omega)) Hc (by omega), Option.bind_some, Mul_g Hc Hb (by omega), Option.bind_some, Mul_g Ha (Has.nat h6 (by omega)) (by omega), Option.bind_some,
      same_g (law_assoc x y z) h5 (by omega) (by omega), Option.bind_some]
    simp only [isohyetlaw01_MagLaws.j0]
    rw [if_neg (by decide), Add_g Ha Hb (by omega), Option.bind_some, Add_g (Has.nat hxy (by omega)) Hc (by omega), Option.bind_some, Add_g Hc Ha (by omega), Option.bind_some, Add_g Hb (Has.nat hzx (by omega)) (by omega), Option.bind_some,
      same_g (show x + y + z = y + (z + x) by omega) h7 (by omega) (by omega), Option.bind_some, if_pos rfl, Add_g Ha Hc (by omega), Option.bind_some, Sub_g (Has.nat h7 (by omega)) (Has.nat hxz (by omega)) (by omega), Option.bind_some,
      Add_g Hb Has.nil (by omega), Option.bind_some, same_g (show x + y + z - (x + z) = y + 0 by omega) (show x + y + z - (x + z) < B ^ 20 by rw [show x + y + z - (x + z) = y from by omega]; exact hy) (by omega) (by omega), Option.bind_some]
end Go.Proofs.YtfkpbdapinpkdaaDoor.Mg
namespace Go.Proofs.YtfkpbdapinpkdaaDoor.Pure
open Go.Proofs.YtfkpbdapinpkdaaDoor.M
theorem MagLaws : ∀ (l0 l1 l2 : List Int), l0.length ≤ maxLen → l0.length * 8 ≤ 140737488351232 → (∀ x ∈ l0, (Lit.int .u64 x).wf = true) → l1.length ≤ maxLen → l1.length * 8 ≤ 140737488351232 → (∀ x ∈ l1, (Lit.int .u64 x).wf = true) →
    l2.length ≤ maxLen → l2.length * 8 ≤ 140737488351232 → (∀ x ∈ l2, (Lit.int .u64 x).wf = true) → ∃ k, isohyetlaw01_MagLaws.f k l0 l1 l2 = some true := by
  intro l0 l1 l2 _ _ h0 _ _ h1 _ _ h2
  exact ⟨20001, Mg.MagLaws_f (Mg.ok_of_wf h0) (Mg.ok_of_wf h1) (Mg.ok_of_wf h2) (Nat.le_refl _)⟩
end Go.Proofs.YtfkpbdapinpkdaaDoor.Pure
