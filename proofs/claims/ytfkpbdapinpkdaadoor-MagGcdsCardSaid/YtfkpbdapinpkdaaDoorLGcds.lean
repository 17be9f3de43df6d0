/- MagGcds answers true, over numbers: the greatest common divisor divides both; what is left has no divisor in common; it grows with both. -/
import Derived.Test.YtfkpbdapinpkdaaDoorLBm
import Derived.Test.YtfkpbdapinpkdaaDoorMZg
import Derived.Test.YtfkpbdapinpkdaaDoorKGcds
namespace Go.Proofs.YtfkpbdapinpkdaaDoor.Mg
open Go.RowKit Go.Proofs.YtfkpbdapinpkdaaDoorW.PrintWords Go.Proofs.YtfkpbdapinpkdaaDoorW.PrintMore Go.Proofs.YtfkpbdapinpkdaaDoor.MB Go.Proofs.YtfkpbdapinpkdaaDoor.M Go.Proofs.YtfkpbdapinpkdaaDoor.MD
set_option linter.unusedVariables false
set_option linter.unusedSimpArgs false

theorem Gcd_g {a b : List Int} {x y k : Nat} (ha : Has a x) (hb : Has b y) (hk : 20000 ≤ k) : mag_Gcd.f k a b = some (ofNat (Nat.gcd x y)) := by
  have h1 := ha.len; have h2 := hb.len
  rw [Gcd_f ha.ok hb.ok (le_LEN h1) (le_LEN h2) (by omega), ha.val, hb.val]
theorem bitsN_small {x m : Nat} (h : x < B ^ m) (hm : m ≤ 64) : bitsN x ≤ 4096 := by
  refine Nat.le_trans (bitsN_le (m := 64 * m) ?_) (by omega)
  rw [← B_pow]
  exact h
theorem gcd_lt {x y m : Nat} (hx : x < B ^ m) (hy : y < B ^ m) : Nat.gcd x y < B ^ m := by
  by_cases h : x = 0
  · subst h
    rw [Nat.gcd_zero_left]
    exact hy
  · exact Nat.lt_of_le_of_lt (Nat.gcd_le_left y (by omega)) hx
theorem MagGcds_f {a b c : List Int} {k : Nat} (ha : Ok a) (hb : Ok b) (hc : Ok c) (hk : 20001 ≤ k) : isohyetlaw01_MagGcds.f k a b c = some true := by
  unfold isohyetlaw01_MagGcds.f
  obtain ⟨r, hs, hr⟩ := short_3 (k := k) 8 a b c (by omega)
  rw [fit_f (by omega), Option.bind_some, if_pos rfl, hs, Option.bind_some]
  cases r with
  | false => rw [if_neg (by decide)]
  | true =>
    obtain ⟨la, lb, lc⟩ := hr rfl
    rw [if_pos rfl]
    have Ha := Has.of ha (by omega)
    have Hb := Has.of hb (by omega)
    have Hc := Has.of hc (by omega)
    have hx := val_lt_of_len (m := 8) ha (by omega)
    have hy := val_lt_of_len (m := 8) hb (by omega)
    have hz := val_lt_of_len (m := 8) hc (by omega)
    generalize val a = x at Ha hx
    generalize val b = y at Hb hy
    generalize val c = z at Hc hz
    have hg := gcd_lt hx hy
    have Hg := Has.nat hg (by omega)
    have bx := bitsN_small hx (by omega)
    have bY := bitsN_small hy (by omega)
    rw [Gcd_g Ha Hb (by omega), Option.bind_some, Len_g Ha (by omega), Option.bind_some, Len_g Hb (by omega), Option.bind_some, w64 (x := ((bitsN x : Nat) : Int) + ((bitsN y : Nat) : Int)) (by omega) (by omega)]
    by_cases h0 : bitsN x = 0 ∧ bitsN y = 0
    · have ex := bitsN_eq_zero.1 h0.1
      have ey := bitsN_eq_zero.1 h0.2
      rw [if_pos (by omega), ex, ey, Nat.gcd_zero_left, ofNat_zero]
      rfl
    · have hpos : 0 < Nat.gcd x y := by
        rcases Nat.eq_zero_or_pos x with h | h
        · rcases Nat.eq_zero_or_pos y with h2 | h2
          · exact absurd ⟨bitsN_eq_zero.2 h, bitsN_eq_zero.2 h2⟩ h0
          · exact Nat.gcd_pos_of_pos_right x h2
        · exact Nat.gcd_pos_of_pos_left y h
      have d1 := Nat.mod_eq_zero_of_dvd (Nat.gcd_dvd_left x y)
      have d2 := Nat.mod_eq_zero_of_dvd (Nat.gcd_dvd_right x y)
      have hp : x / Nat.gcd x y < B ^ 8 := Nat.lt_of_le_of_lt (Nat.div_le_self _ _) hx
      have hq : y / Nat.gcd x y < B ^ 8 := Nat.lt_of_le_of_lt (Nat.div_le_self _ _) hy
      have hco : Nat.gcd (x / Nat.gcd x y) (y / Nat.gcd x y) = 1 := Nat.coprime_div_gcd_div_gcd hpos
      have h1B : 1 < B ^ 1 := by decide
      have hb1 : bitsN 1 = 1 := by decide
      have h2 := pow_mul_lt hx hz
      have h3 := pow_mul_lt hy hz
      have h4 := gcd_lt h2 h3
      obtain ⟨k, rfl⟩ : ∃ m, k = m + 1 := ⟨k - 1, by omega⟩
      rw [if_neg (by omega), Div_g Ha Hg (by omega), Option.bind_some, Div_g Hb Hg (by omega), Option.bind_some]
      dsimp only
      rw [d1, d2, ofNat_zero, List.length_nil, w64 (x := ((0 : Nat) : Int) + ((0 : Nat) : Int)) (by omega) (by omega), if_neg (by omega), Gcd_g (Has.nat hp (by omega)) (Has.nat hq (by omega)) (by omega), Option.bind_some, hco, Len_g (Has.nat h1B (by omega)) (by omega), Option.bind_some, hb1, if_pos (show ((1 : Nat) : Int) = 1 from rfl),
        Gcd_g Hb Ha (by omega), Option.bind_some, same_g (Nat.gcd_comm x y) hg (by omega) (by omega), Option.bind_some]
      simp only [isohyetlaw01_MagGcds.j0]
      rw [if_neg (by decide), Mul_g Ha Hc (by omega), Option.bind_some, Mul_g Hb Hc (by omega), Option.bind_some, Gcd_g (Has.nat h2 (by omega)) (Has.nat h3 (by omega)) (by omega), Option.bind_some, Mul_g Hg Hc (by omega), Option.bind_some,
        same_g (Nat.gcd_mul_right x z y) h4 (by omega) (by omega), Option.bind_some]
end Go.Proofs.YtfkpbdapinpkdaaDoor.Mg
namespace Go.Proofs.YtfkpbdapinpkdaaDoor.Pure
open Go.Proofs.YtfkpbdapinpkdaaDoor.M
theorem MagGcds : ∀ (l0 l1 l2 : List Int), l0.length ≤ maxLen → l0.length * 8 ≤ 140737488351232 → (∀ x ∈ l0, (Lit.int .u64 x).wf = true) → l1.length ≤ maxLen → l1.length * 8 ≤ 140737488351232 → (∀ x ∈ l1, (Lit.int .u64 x).wf = true) →
    l2.length ≤ maxLen → l2.length * 8 ≤ 140737488351232 → (∀ x ∈ l2, (Lit.int .u64 x).wf = true) → ∃ k, isohyetlaw01_MagGcds.f k l0 l1 l2 = some true := by
  intro l0 l1 l2 _ _ h0 _ _ h1 _ _ h2
  exact ⟨20001, Mg.MagGcds_f (Mg.ok_of_wf h0) (Mg.ok_of_wf h1) (Mg.ok_of_wf h2) (Nat.le_refl _)⟩
end Go.Proofs.YtfkpbdapinpkdaaDoor.Pure
