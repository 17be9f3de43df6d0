/- isohyetlaw01's fit and same: seven in two parts; a number is the same as itself. -/
import Derived.Test.YtfkpbdapinpkdaaDoorMZ
import Derived.Test.YtfkpbdapinpkdaaDoorA6
import Derived.Test.YtfkpbdapinpkdaaDoorA7
namespace Go.Proofs.YtfkpbdapinpkdaaDoor.Mg
open Go.RowKit Go.Proofs.YtfkpbdapinpkdaaDoorW.PrintWords Go.Proofs.YtfkpbdapinpkdaaDoorW.PrintMore Go.Proofs.YtfkpbdapinpkdaaDoor.MB Go.Proofs.YtfkpbdapinpkdaaDoor.M Go.Proofs.YtfkpbdapinpkdaaDoor.MD
set_option linter.unusedVariables false
set_option linter.unusedSimpArgs false

theorem cmpN_self (n : Nat) : cmpN n n = 0 := by unfold cmpN; rw [if_neg (by omega), if_pos rfl]
theorem len_small {n : Nat} (h0 : n ≠ 0) (h : n < 18446744073709551616) : (ofNat n).length = 1 := by rw [ofNat_small h0 h]; rfl
theorem Zeros_12 {k : Nat} (hk : 1 < k) : mag_Zeros.f k (ofNat 12) = some 2 := by
  obtain ⟨k, rfl⟩ : ∃ n, k = n + 1 := ⟨k - 1, by omega⟩
  rw [ofNat_small (by decide) (by decide)]
  simp only [mag_Zeros.f, mag_Zeros.l0]
  rw [if_pos (by simp), if_pos (by omega), if_pos (by simp), if_neg (by simp [rd])]
  have e0 : rd [((12 : Nat) : Int)] 0 = 12 := rfl
  have e : bits_TrailingZeros64.f 12 = some 2 := by
    unfold bits_TrailingZeros64.f
    rw [if_pos (by decide)]
    decide
  rw [e0, e, Option.bind_some, w64 (x := 64 * 0) (by omega) (by omega), w64 (by omega) (by omega)]
  rfl
theorem fit_f {k : Nat} (hk : 1000 < k) : isohyetlaw01_fit.f k = some true := by
  have l7 := len_small (n := 7) (by decide) (by decide)
  have l2 := len_small (n := 2) (by decide) (by decide)
  have l3 := len_small (n := 3) (by decide) (by decide)
  have l1 := len_small (n := 1) (by decide) (by decide)
  have o7 : mag_Of.f k 7 = some (ofNat 7) := Of_f (by omega) (by omega) (by omega)
  have o2 : mag_Of.f k 2 = some (ofNat 2) := Of_f (by omega) (by omega) (by omega)
  have o3 : mag_Of.f k 3 = some (ofNat 3) := Of_f (by omega) (by omega) (by omega)
  have o1 : mag_Of.f k 1 = some (ofNat 1) := Of_f (by omega) (by omega) (by omega)
  have o12 : mag_Of.f k 12 = some (ofNat 12) := Of_f (by omega) (by omega) (by omega)
  have hd : mag_Div.f k (ofNat 7) (ofNat 2) = some (ofNat 3, ofNat 1) := by
    rw [Div_f (Ok_ofNat _) (Ok_ofNat _) (by rw [l7]; decide) (by rw [l2]; decide) (by rw [l7, l2]; omega), val_ofNat, val_ofNat]
  have c3 : mag_Cmp.f k (ofNat 3) (ofNat 3) = some 0 := by rw [Cmp_f (Ok_ofNat _) (Ok_ofNat _) (by rw [l3]; decide) (by rw [l3]; decide) (by rw [l3]; omega), cmpN_self]
  have c1 : mag_Cmp.f k (ofNat 1) (ofNat 1) = some 0 := by rw [Cmp_f (Ok_ofNat _) (Ok_ofNat _) (by rw [l1]; decide) (by rw [l1]; decide) (by rw [l1]; omega), cmpN_self]
  unfold isohyetlaw01_fit.f
  rw [o7, Option.bind_some, o2, Option.bind_some, hd, Option.bind_some, o3, Option.bind_some, c3, Option.bind_some, if_pos rfl, o1, Option.bind_some, c1, Option.bind_some, if_pos rfl, if_pos (by rw [l3]; rfl), o12, Option.bind_some, Zeros_12 (by omega), Option.bind_some]
  rfl

theorem same_l0 (l : List Int) (hl : l.length ≤ LEN) : ∀ (d i k : Nat), i + d = l.length → d < k → isohyetlaw01_same.l0 k l l (l.length : Int) (i : Int) = some true
  | 0, i, k, hi, hk => by
    obtain ⟨k, rfl⟩ : ∃ n, k = n + 1 := ⟨k - 1, by omega⟩
    simp only [isohyetlaw01_same.l0]
    rw [if_neg (by omega)]
  | d + 1, i, k, hi, hk => by
    obtain ⟨k, rfl⟩ : ∃ n, k = n + 1 := ⟨k - 1, by omega⟩
    have hl' := hl
    unfold LEN at hl
    simp only [isohyetlaw01_same.l0]
    rw [if_pos (by omega), if_pos (by omega), if_pos (by omega), if_pos (by omega), if_pos trivial, w64 (x := (i : Int) + 1) (by omega) (by omega)]
    exact same_l0 l hl' d (i + 1) k (by omega) (by omega)
/-- A number is the same as itself. -/
theorem same_f {n k : Nat} (hl : (ofNat n).length ≤ LEN) (hk : (ofNat n).length + 1 < k) : isohyetlaw01_same.f k (ofNat n) (ofNat n) = some true := by
  obtain ⟨k, rfl⟩ : ∃ m, k = m + 1 := ⟨k - 1, by omega⟩
  have hl' := hl
  unfold LEN at hl
  unfold isohyetlaw01_same.f
  rw [if_pos rfl]
  by_cases h : n = 0
  · subst h
    rw [ofNat_zero]
    simp only [List.length_nil, isohyetlaw01_same.j0]
    rw [if_neg (by omega), if_neg (by decide)]
    exact same_l0 [] (by decide) 0 0 k rfl (by omega)
  · have h1 : (ofNat n).length ≠ 0 := fun h0 => h (ofNat_eq_nil.1 (List.eq_nil_of_length_eq_zero h0))
    have e : wrap64 (((ofNat n).length : Int) - 1) = (((ofNat n).length - 1 : Nat) : Int) := by rw [w64 (by omega) (by omega)]; omega
    have hlast := ofNat_last h
    rw [if_pos (by omega), e, if_pos (by omega), if_pos (by omega), rd_cast (ofNat n) ((ofNat n).length - 1), beq_eq_false_iff_ne.mpr hlast]
    simp only [isohyetlaw01_same.j0]
    rw [if_neg (by decide)]
    exact same_l0 (ofNat n) hl' (ofNat n).length 0 k (by omega) (by omega)
end Go.Proofs.YtfkpbdapinpkdaaDoor.Mg
