/- MagDivs answers true, over numbers: quotient times divisor, and the rest, are the number again. -/
import Derived.Test.YtfkpbdapinpkdaaDoorLBa
import Derived.Test.YtfkpbdapinpkdaaDoorLBm
import Derived.Test.YtfkpbdapinpkdaaDoorKDivs
namespace Go.Proofs.YtfkpbdapinpkdaaDoor.Mg
open Go.RowKit Go.Proofs.YtfkpbdapinpkdaaDoorW.PrintWords Go.Proofs.YtfkpbdapinpkdaaDoorW.PrintMore Go.Proofs.YtfkpbdapinpkdaaDoor.MB Go.Proofs.YtfkpbdapinpkdaaDoor.M Go.Proofs.YtfkpbdapinpkdaaDoor.MD
set_option linter.unusedVariables false
set_option linter.unusedSimpArgs false

theorem MagDivs_f {a b : List Int} {k : Nat} (ha : Ok a) (hb : Ok b) (hk : 20000 ≤ k) : isohyetlaw01_MagDivs.f k a b = some true := by
  unfold isohyetlaw01_MagDivs.f
  obtain ⟨r, hs, hr⟩ := short_2 (k := k) 40 a b (by omega)
  rw [fit_f (by omega), Option.bind_some, if_pos rfl, hs, Option.bind_some]
  cases r with
  | false => rw [if_neg (by decide)]
  | true =>
    obtain ⟨la, lb⟩ := hr rfl
    rw [if_pos rfl]
    have Ha := Has.of ha (by omega)
    have Hb := Has.of hb (by omega)
    have hx := val_lt_of_len (m := 40) ha (by omega)
    have hy := val_lt_of_len (m := 40) hb (by omega)
    generalize val a = x at Ha hx
    generalize val b = y at Hb hy
    rw [Div_g Ha Hb hk, Option.bind_some, Len_g Hb hk, Option.bind_some]
    dsimp only
    by_cases h0 : y = 0
    · subst h0
      have e0 : bitsN 0 = 0 := bitsN_eq_zero.2 rfl
      rw [e0, Nat.div_zero, Nat.mod_zero, ofNat_zero, List.length_nil, if_pos (show ((0 : Nat) : Int) = 0 from rfl), if_pos (show ((0 : Nat) : Int) = 0 from rfl), Cmp_g (Has.nat hx (by omega)) Ha hk, Option.bind_some, cmpN_self, if_pos rfl, Add_g Ha Has.nil hk, Option.bind_some,
        same_g (Nat.add_zero x).symm hx (by omega) hk, Option.bind_some]
    · have hb0 : bitsN y ≠ 0 := fun h => h0 (bitsN_eq_zero.1 h)
      have hlt : x % y < y := Nat.mod_lt x (by omega)
      have hq : x / y < B ^ 40 := Nat.lt_of_le_of_lt (Nat.div_le_self x y) hx
      have hm : x % y < B ^ 40 := Nat.lt_of_le_of_lt (Nat.mod_le x y) hx
      have hqy : x / y * y < B ^ 40 := Nat.lt_of_le_of_lt (Nat.div_mul_le_self x y) hx
      have hsum : x / y * y + x % y = x := by rw [Nat.mul_comm]; exact Nat.div_add_mod x y
      have hc : cmpN (x % y) y < 0 := by unfold cmpN; rw [if_pos hlt]; decide
      rw [if_neg (by omega), Cmp_g (Has.nat hm (by omega)) Hb hk, Option.bind_some, if_pos hc, Mul_g (Has.nat hq (by omega)) Hb hk, Option.bind_some, Add_g (Has.nat hqy (by omega)) (Has.nat hm (by omega)) hk, Option.bind_some, hsum,
        Cmp_g (Has.nat hx (by omega)) Ha hk, Option.bind_some, cmpN_self, if_pos rfl, Add_g (Has.nat hq (by omega)) Has.nil hk, Option.bind_some, same_g (Nat.add_zero _).symm hq (by omega) hk, Option.bind_some, if_pos rfl,
        Add_g (Has.nat hm (by omega)) Has.nil hk, Option.bind_some, same_g (Nat.add_zero _).symm hm (by omega) hk, Option.bind_some]
end Go.Proofs.YtfkpbdapinpkdaaDoor.Mg
namespace Go.Proofs.YtfkpbdapinpkdaaDoor.Pure
open Go.Proofs.YtfkpbdapinpkdaaDoor.M
theorem MagDivs : ∀ (l0 l1 : List Int), l0.length ≤ maxLen → l0.length * 8 ≤ 140737488351232 → (∀ x ∈ l0, (Lit.int .u64 x).wf = true) → l1.length ≤ maxLen → l1.length * 8 ≤ 140737488351232 → (∀ x ∈ l1, (Lit.int .u64 x).wf = true) → ∃ k, isohyetlaw01_MagDivs.f k l0 l1 = some true := by
  intro l0 l1 _ _ h0 _ _ h1
  exact ⟨20000, Mg.MagDivs_f (Mg.ok_of_wf h0) (Mg.ok_of_wf h1) (Nat.le_refl _)⟩
end Go.Proofs.YtfkpbdapinpkdaaDoor.Pure
