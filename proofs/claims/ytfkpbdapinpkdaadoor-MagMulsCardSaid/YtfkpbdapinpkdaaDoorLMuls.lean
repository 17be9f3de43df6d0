/- MagMuls answers true, over numbers: products are those of the decimal digits. -/
import Derived.Test.YtfkpbdapinpkdaaDoorLDm
import Derived.Test.YtfkpbdapinpkdaaDoorLBm
import Derived.Test.YtfkpbdapinpkdaaDoorKMuls
namespace Go.Proofs.YtfkpbdapinpkdaaDoor.Mg
open Go.RowKit Go.Proofs.YtfkpbdapinpkdaaDoorW.PrintWords Go.Proofs.YtfkpbdapinpkdaaDoorW.PrintMore Go.Proofs.YtfkpbdapinpkdaaDoor.MB Go.Proofs.YtfkpbdapinpkdaaDoor.M Go.Proofs.YtfkpbdapinpkdaaDoor.MD
set_option linter.unusedVariables false
set_option linter.unusedSimpArgs false

theorem Is_12 {n k : Nat} (hn : n < B ^ 12) (hk : 9000 ≤ k) : isohyetlaw01_Is.f k (ofNat n) (dg n) = some true := by
  have hT : B ^ 12 < T ^ 250 := by decide
  exact Is_f2 hn (by omega) (Nat.lt_trans hn hT) hk
theorem MagMuls_f {a b : List Int} {k : Nat} (ha : Ok a) (hb : Ok b) (hk : 20001 ≤ k) : isohyetlaw01_MagMuls.f k a b = some true := by
  unfold isohyetlaw01_MagMuls.f
  obtain ⟨r, hs, hr⟩ := short_2 (k := k) 6 a b (by omega)
  rw [fit_f (by omega), Option.bind_some, if_pos rfl, hs, Option.bind_some]
  cases r with
  | false => rw [if_neg (by decide)]
  | true =>
    obtain ⟨la, lb⟩ := hr rfl
    rw [if_pos rfl]
    have hT : B ^ 6 < T ^ 120 := by decide
    have hT2 : T ^ 120 < T ^ 250 := by decide
    have Ha := Has.of ha (by omega)
    have Hb := Has.of hb (by omega)
    have hx := val_lt_of_len (m := 6) ha (by omega)
    have hy := val_lt_of_len (m := 6) hb (by omega)
    rw [Mul_g Ha Hb (by omega), Option.bind_some, Digits_f ha (by omega) (by omega) (by omega), Option.bind_some, Digits_f hb (by omega) (by omega) (by omega), Option.bind_some]
    generalize val a = x at Ha hx
    generalize val b = y at Hb hy
    have hxy := pow_mul_lt hx hy
    rw [DMul_f (by omega) (by omega) (by omega), Option.bind_some, Is_12 hxy (by omega), Option.bind_some]
end Go.Proofs.YtfkpbdapinpkdaaDoor.Mg
namespace Go.Proofs.YtfkpbdapinpkdaaDoor.Pure
open Go.Proofs.YtfkpbdapinpkdaaDoor.M
theorem MagMuls : ∀ (l0 : List Int) (l1 : List Int), l0.length ≤ maxLen → l0.length * 8 ≤ 140737488351232 → (∀ x ∈ l0, (Lit.int .u64 x).wf = true) → l1.length ≤ maxLen → l1.length * 8 ≤ 140737488351232 → (∀ x ∈ l1, (Lit.int .u64 x).wf = true) → ∃ k, isohyetlaw01_MagMuls.f k l0 l1 = some true := by
  intro l0 l1 _ _ h0 _ _ h1
  exact ⟨20001, Mg.MagMuls_f (Mg.ok_of_wf h0) (Mg.ok_of_wf h1) (Nat.le_refl _)⟩
end Go.Proofs.YtfkpbdapinpkdaaDoor.Pure
