/- What the functions of package mag come to, as numbers: right, Cmp, Of, Len, Add, Sub, Mul. -/
import Derived.Test.YtfkpbdapinpkdaaDoorMV
import Derived.Test.YtfkpbdapinpkdaaDoorA1
namespace Go.Proofs.YtfkpbdapinpkdaaDoor.Mg
open Go.RowKit Go.Proofs.YtfkpbdapinpkdaaDoorW.PrintWords Go.Proofs.YtfkpbdapinpkdaaDoorW.PrintMore Go.Proofs.YtfkpbdapinpkdaaDoor.MB Go.Proofs.YtfkpbdapinpkdaaDoor.M
set_option linter.unusedVariables false
set_option linter.unusedSimpArgs false

/-- How long a magnitude may be here. -/
def LEN : Nat := 1099511627776
theorem LEN_eq : LEN = 1099511627776 := rfl

theorem w64 {x : Int} (h0 : -9223372036854775808 ≤ x) (h1 : x ≤ 9223372036854775807) : wrap64 x = x := by
  unfold wrap64; omega
theorem rd_cast (l : List Int) (i : Nat) : rd l (i : Int) = l.getD i 0 := by simp [rd]
theorem val_take_succ (l : List Int) (i : Nat) : val (l.take (i + 1)) = val (l.take i) + B ^ i * (l.getD i 0).toNat := by
  by_cases h : i < l.length
  · have e : l.take (i + 1) = l.take i ++ [l.getD i 0] := by
      rw [List.take_succ_eq_append_getElem h]
      simp [List.getD_eq_getElem?_getD, h]
    rw [e, val_append, List.length_take, Nat.min_eq_left (by omega)]
    simp [val]
  · rw [List.take_of_length_le (by omega), List.take_of_length_le (by omega)]
    simp [List.getD_eq_getElem?_getD, List.getElem?_eq_none (Nat.le_of_not_lt h)]
theorem val_set_take_succ (l : List Int) (i : Nat) (y : Int) (h : i < l.length) : val ((l.set i y).take (i + 1)) = val (l.take i) + B ^ i * y.toNat := by
  rw [val_take_succ, List.take_set_of_le (Nat.le_refl _)]
  simp [List.getD_eq_getElem?_getD, h]
theorem addS_addC (x y c : Int) : (addS x y c).toNat + B * (addC x y c).toNat = x.toNat + y.toNat + c.toNat := by
  unfold addS addC B
  omega
theorem addS_ok (x y c : Int) : 0 ≤ addS x y c ∧ addS x y c < 18446744073709551616 := by unfold addS; omega
theorem addC_ok {x y c : Int} (hx : x < 18446744073709551616) (hy : y < 18446744073709551616) (hc : c ≤ 1) : 0 ≤ addC x y c ∧ addC x y c ≤ 1 := by unfold addC; omega
theorem subS_ok (x y c : Int) : 0 ≤ subS x y c ∧ subS x y c < 18446744073709551616 := by unfold subS; omega
theorem subC_ok (x y c : Int) : 0 ≤ subC x y c ∧ subC x y c ≤ 1 := by unfold subC; split <;> simp
theorem subS_subC {x y c : Int} (hx : x < 18446744073709551616) (hy : y < 18446744073709551616) (hc : c ≤ 1) : (subS x y c).toNat + y.toNat + c.toNat = x.toNat + B * (subC x y c).toNat := by
  unfold subS subC B
  split <;> omega

/-! ### right -/
theorem right_l0 : ∀ (n : Nat) (l : List Int) (k : Nat), l.length = n → n ≤ 4611686018427387904 → n < k → Ok l → mag_right.l0 k l = some (ofNat (val l)) := by
  intro n
  induction n with
  | zero =>
    intro l k hl _ hk _
    obtain ⟨k, rfl⟩ : ∃ m, k = m + 1 := ⟨k - 1, by omega⟩
    obtain rfl := List.eq_nil_of_length_eq_zero hl
    simp only [mag_right.l0]
    rw [if_neg (by simp)]
    simp [val, ofNat_zero]
  | succ n ih =>
    intro l k hl hm hk hok
    obtain ⟨k, rfl⟩ : ∃ m, k = m + 1 := ⟨k - 1, by omega⟩
    simp only [mag_right.l0]
    have e1 : wrap64 ((l.length : Int) - 1) = ((l.length - 1 : Nat) : Int) := by rw [w64 (by omega) (by omega)]; omega
    rw [if_pos (by omega), e1, if_pos (by omega), if_pos (by omega), rd_cast]
    by_cases hz : l.getD (l.length - 1) 0 = 0
    · rw [if_pos hz, if_pos (by omega), Int.toNat_natCast, ih (l.take (l.length - 1)) k (by rw [List.length_take]; omega) (by omega) (by omega) (hok.take _)]
      have := val_take_succ l (l.length - 1)
      rw [show l.length - 1 + 1 = l.length from by omega, List.take_length, hz] at this
      simp at this
      rw [this]
    · rw [if_neg hz, ofNat_val_of_last hok (.inr hz)]
theorem right_f {l : List Int} {k : Nat} (hl : l.length ≤ 4611686018427387904) (hk : l.length < k) (hok : Ok l) : mag_right.f k l = some (ofNat (val l)) := right_l0 _ l k rfl hl hk hok

/-! ### Of -/
theorem Of_f {k : Nat} {x : Int} (h0 : 0 ≤ x) (h1 : x < 18446744073709551616) (hk : 1 < k) : mag_Of.f k x = some (ofNat x.toNat) := by
  unfold mag_Of.f
  rw [right_f (by simp) (by simpa using hk) (Ok.cons ⟨h0, h1⟩ Ok.nil)]
  simp [val]

/-! ### Cmp -/
/-- Less, the same, more. -/
def cmpN (x y : Nat) : Int := if x < y then -1 else if x = y then 0 else 1
theorem val_lt_of_top {a b : List Int} {i : Nat} (ha : Ok a) (h : val (a.drop (i + 1)) = val (b.drop (i + 1))) (hx : (a.getD i 0).toNat < (b.getD i 0).toNat) (hia : i < a.length) (hib : i < b.length) : val a < val b := by
  rw [val_getD a i hia, val_getD b i hib, h]
  have h1 := val_lt (ha.take i)
  rw [List.length_take, Nat.min_eq_left (by omega)] at h1
  have h2 : B ^ i * ((a.getD i 0).toNat + B * val (b.drop (i + 1)) + 1) ≤ B ^ i * ((b.getD i 0).toNat + B * val (b.drop (i + 1))) := Nat.mul_le_mul_left _ (by omega)
  rw [Nat.mul_add, Nat.mul_one] at h2
  omega
theorem Cmp_l0 (a b : List Int) (ha : Ok a) (hb : Ok b) (hab : a.length = b.length) (hm : a.length ≤ 4611686018427387904) : ∀ (n k : Nat), n ≤ a.length → n < k → val (a.drop n) = val (b.drop n) →
    mag_Cmp.l0 k a b ((n : Int) - 1) = some (cmpN (val a) (val b)) := by
  intro n
  induction n with
  | zero =>
    intro k _ hk he
    obtain ⟨k, rfl⟩ : ∃ m, k = m + 1 := ⟨k - 1, by omega⟩
    simp only [mag_Cmp.l0]
    rw [if_neg (by omega)]
    simp only [List.drop_zero] at he
    simp [cmpN, he]
  | succ n ih =>
    intro k hn hk he
    obtain ⟨k, rfl⟩ : ∃ m, k = m + 1 := ⟨k - 1, by omega⟩
    simp only [mag_Cmp.l0]
    rw [show (((n + 1 : Nat) : Int) - 1) = (n : Int) from by omega, if_pos (by omega), if_pos (by omega), if_pos (by omega), if_pos (by omega), rd_cast, rd_cast, w64 (by omega) (by omega)]
    have h1 := ha.getD n
    have h2 := hb.getD n
    by_cases hq : a.getD n 0 = b.getD n 0
    · rw [if_pos hq, ih k (by omega) (by omega) ?_]
      rw [List.drop_eq_getElem_cons (by omega : n < a.length), List.drop_eq_getElem_cons (by omega : n < b.length)]
      simp only [val, he]
      have e1 : a.getD n 0 = a[n]'(by omega) := by simp [List.getD_eq_getElem?_getD, (by omega : n < a.length)]
      have e2 : b.getD n 0 = b[n]'(by omega) := by simp [List.getD_eq_getElem?_getD, (by omega : n < b.length)]
      rw [← e1, ← e2, hq]
    · rw [if_neg hq]
      by_cases hlt : a.getD n 0 < b.getD n 0
      · rw [if_pos hlt]
        have := val_lt_of_top ha he (by omega) (by omega) (by omega)
        simp [cmpN, this]
      · rw [if_neg hlt]
        have := val_lt_of_top hb he.symm (by omega) (by omega) (by omega)
        unfold cmpN
        rw [if_neg (by omega), if_neg (by omega)]
theorem ofNat_length_lt {m n : Nat} (h : (ofNat m).length < (ofNat n).length) : m < n := by
  by_cases hn : n = 0
  · subst hn; rw [ofNat_zero] at h; simp at h
  · have h1 := pow_length_ofNat_le hn
    have h2 := lt_pow_length_ofNat m
    have h3 : B ^ (ofNat m).length ≤ B ^ ((ofNat n).length - 1) := Nat.pow_le_pow_right B_pos (by omega)
    omega
theorem length_ofNat_val {l : List Int} (h : Ok l) : (ofNat (val l)).length ≤ l.length := length_ofNat_le (val_lt h)
theorem Cmp_f {a b : List Int} {k : Nat} (ha : Ok a) (hb : Ok b) (hla : a.length ≤ LEN) (hlb : b.length ≤ LEN) (hk : a.length + b.length < k) : mag_Cmp.f k a b = some (cmpN (val a) (val b)) := by
  unfold LEN at hla hlb
  unfold mag_Cmp.f
  rw [right_f (by omega) (by omega) ha, right_f (by omega) (by omega) hb]
  simp only [Option.bind_some]
  have l1 := length_ofNat_val ha
  have l2 := length_ofNat_val hb
  by_cases he : ((ofNat (val a)).length : Int) = ((ofNat (val b)).length : Int)
  · rw [if_pos he, w64 (by omega) (by omega), Cmp_l0 _ _ (Ok_ofNat _) (Ok_ofNat _) (by omega) (by omega) _ k (Nat.le_refl _) (by omega) ?_, val_ofNat, val_ofNat]
    rw [List.drop_length, List.drop_of_length_le (by omega)]
  · rw [if_neg he]
    by_cases hlt : ((ofNat (val a)).length : Int) < ((ofNat (val b)).length : Int)
    · rw [if_pos hlt]
      have := ofNat_length_lt (by omega : (ofNat (val a)).length < (ofNat (val b)).length)
      simp [cmpN, this]
    · rw [if_neg hlt]
      have := ofNat_length_lt (by omega : (ofNat (val b)).length < (ofNat (val a)).length)
      unfold cmpN
      rw [if_neg (by omega), if_neg (by omega)]

end Go.Proofs.YtfkpbdapinpkdaaDoor.Mg
