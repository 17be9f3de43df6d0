/- MagAdds answers true, over numbers: sums and differences are those of the decimal digits, and so is which number is more. -/
import Derived.Test.YtfkpbdapinpkdaaDoorLD
import Derived.Test.YtfkpbdapinpkdaaDoorLBa
import Derived.Test.YtfkpbdapinpkdaaDoorLBs
import Derived.Test.YtfkpbdapinpkdaaDoorKAdds
namespace Go.Proofs.YtfkpbdapinpkdaaDoor.Mg
open Go.RowKit Go.Proofs.YtfkpbdapinpkdaaDoorW.PrintWords Go.Proofs.YtfkpbdapinpkdaaDoorW.PrintMore Go.Proofs.YtfkpbdapinpkdaaDoor.MB Go.Proofs.YtfkpbdapinpkdaaDoor.M Go.Proofs.YtfkpbdapinpkdaaDoor.MD
set_option linter.unusedVariables false
set_option linter.unusedSimpArgs false

theorem MagAdds_f {a b : List Int} {k : Nat} (ha : Ok a) (hb : Ok b) (hk : 20001 ≤ k) : isohyetlaw01_MagAdds.f k a b = some true := by
  unfold isohyetlaw01_MagAdds.f
  obtain ⟨r, hs, hr⟩ := short_2 (k := k) 8 a b (by omega)
  rw [fit_f (by omega), Option.bind_some, if_pos rfl, hs, Option.bind_some]
  cases r with
  | false => rw [if_neg (by decide)]
  | true =>
    obtain ⟨la, lb⟩ := hr rfl
    rw [if_pos rfl]
    have hT : B ^ 8 < T ^ 200 := by decide
    have Ha := Has.of ha (by omega)
    have Hb := Has.of hb (by omega)
    have hx := val_lt_of_len (m := 8) ha (by omega)
    have hy := val_lt_of_len (m := 8) hb (by omega)
    rw [Digits_f ha (by omega) (by omega) (by omega), Option.bind_some, Digits_f hb (by omega) (by omega) (by omega), Option.bind_some]
    generalize val a = x at Ha hx
    generalize val b = y at Hb hy
    have hxy := pow_add_lt hx hy
    obtain ⟨k, rfl⟩ : ∃ m, k = m + 1 := ⟨k - 1, by omega⟩
    rw [DCmp_f (by omega) (by omega) (by omega), Option.bind_some, Cmp_g Ha Hb (by omega), Option.bind_some, if_pos rfl, Add_g Ha Hb (by omega), Option.bind_some, DAdd_g (by omega) (by omega) (by omega), Option.bind_some, Is_f (pow_le hxy (by omega)) (by omega), Option.bind_some]
    simp only [isohyetlaw01_MagAdds.j0]
    rw [if_neg (by decide), Sub_g Ha Hb (by omega), Option.bind_some]
    by_cases h : x < y
    · rw [if_pos (by unfold cmpN; rw [if_pos h]; decide), Nat.sub_eq_zero_of_le (by omega), ofNat_zero]
      rfl
    · rw [if_neg (by unfold cmpN; rw [if_neg h]; split <;> decide), Option.bind_some, DSub_f (by omega) (by omega) (by omega), Option.bind_some, Is_f (pow_le (m := 8) (by omega) (by omega)) (by omega), Option.bind_some]
end Go.Proofs.YtfkpbdapinpkdaaDoor.Mg
namespace Go.Proofs.YtfkpbdapinpkdaaDoor.Pure
open Go.Proofs.YtfkpbdapinpkdaaDoor.M
theorem MagAdds : ∀ (l0 : List Int) (l1 : List Int), l0.length ≤ maxLen → l0.length * 8 ≤ 140737488351232 → (∀ x ∈ l0, (Lit.int .u64 x).wf = true) → l1.length ≤ maxLen → l1.length * 8 ≤ 140737488351232 → (∀ x ∈ l1, (Lit.int .u64 x).wf = true) → ∃ k, isohyetlaw01_MagAdds.f k l0 l1 = some true := by
  intro l0 l1 _ _ h0 _ _ h1
  exact ⟨20001, Mg.MagAdds_f (Mg.ok_of_wf h0) (Mg.ok_of_wf h1) (Nat.le_refl _)⟩
end Go.Proofs.YtfkpbdapinpkdaaDoor.Pure
