/- isohyetlaw01's fit and same: seven in two parts; a number is the same as itself. The functions of package mag at magnitudes of no more than 64 words; the statements' own 'short'. -/
import Derived.Test.YtfkpbdapinpkdaaDoorX6
import Derived.Test.YtfkpbdapinpkdaaDoorA6
import Derived.Test.YtfkpbdapinpkdaaDoorA7
import Derived.Test.YtfkpbdapinpkdaaDoorA8
import Derived.OpenShut
namespace Go.Proofs.YtfkpbdapinpkdaaDoor.Mg
open Go.RowKit Go.Proofs.YtfkpbdapinpkdaaDoorW.PrintWords Go.Proofs.YtfkpbdapinpkdaaDoorW.PrintMore Go.Proofs.YtfkpbdapinpkdaaDoor.MB Go.Proofs.YtfkpbdapinpkdaaDoor.M Go.Proofs.YtfkpbdapinpkdaaDoor.MD
set_option linter.unusedVariables false
set_option linter.unusedSimpArgs false

theorem cmpN_self (n : Nat) : cmpN n n = 0 := by unfold cmpN; rw [if_neg (by omega), if_pos rfl]
theorem len_small {n : Nat} (h0 : n ≠ 0) (h : n < 18446744073709551616) : (ofNat n).length = 1 := by rw [ofNat_small h0 h]; rfl
theorem Zeros_12 {k : Nat} (hk : 1 < k) : mag_Zeros.f k (ofNat 12) = some 2 := by
  obtain ⟨k, rfl⟩ : ∃ n, k = n + 1 := ⟨k - 1, by omega⟩
  rw [ofNat_small (by decide) (by decide)]
  simp only [mag_Zeros.f, mag_Zeros.l0]
  rw [if_pos (by simp), if_pos (by omega), if_pos (by simp), if_neg (by simp [rd])]
  have e0 : rd [((12 : Nat) : Int)] 0 = 12 := rfl
  have e : bits_TrailingZeros64.f 12 = some 2 := by
    unfold bits_TrailingZeros64.f
    rw [if_pos (by decide)]
    decide
  rw [e0, e, Option.bind_some, w64 (x := 64 * 0) (by omega) (by omega), w64 (by omega) (by omega)]
  rfl
theorem fit_f {k : Nat} (hk : 1000 < k) : isohyetlaw01_fit.f k = some true := by
  have l7 := len_small (n := 7) (by decide) (by decide)
  have l2 := len_small (n := 2) (by decide) (by decide)
  have l3 := len_small (n := 3) (by decide) (by decide)
  have l1 := len_small (n := 1) (by decide) (by decide)
  have o7 : mag_Of.f k 7 = some (ofNat 7) := Of_f (by omega) (by omega) (by omega)
  have o2 : mag_Of.f k 2 = some (ofNat 2) := Of_f (by omega) (by omega) (by omega)
  have o3 : mag_Of.f k 3 = some (ofNat 3) := Of_f (by omega) (by omega) (by omega)
  have o1 : mag_Of.f k 1 = some (ofNat 1) := Of_f (by omega) (by omega) (by omega)
  have o12 : mag_Of.f k 12 = some (ofNat 12) := Of_f (by omega) (by omega) (by omega)
  have hd : mag_Div.f k (ofNat 7) (ofNat 2) = some (ofNat 3, ofNat 1) := by
    rw [Div_f (Ok_ofNat _) (Ok_ofNat _) (by rw [l7]; decide) (by rw [l2]; decide) (by rw [l7, l2]; omega), val_ofNat, val_ofNat]
  have c3 : mag_Cmp.f k (ofNat 3) (ofNat 3) = some 0 := by rw [Cmp_f (Ok_ofNat _) (Ok_ofNat _) (by rw [l3]; decide) (by rw [l3]; decide) (by rw [l3]; omega), cmpN_self]
  have c1 : mag_Cmp.f k (ofNat 1) (ofNat 1) = some 0 := by rw [Cmp_f (Ok_ofNat _) (Ok_ofNat _) (by rw [l1]; decide) (by rw [l1]; decide) (by rw [l1]; omega), cmpN_self]
  unfold isohyetlaw01_fit.f
  rw [o7, Option.bind_some, o2, Option.bind_some, hd, Option.bind_some, o3, Option.bind_some, c3, Option.bind_some, if_pos rfl, o1, Option.bind_some, c1, Option.bind_some, if_pos rfl, if_pos (by rw [l3]; rfl), o12, Option.bind_some, Zeros_12 (by omega), Option.bind_some]
  rfl

theorem same_l0 (l : List Int) (hl : l.length ≤ LEN) : ∀ (d i k : Nat), i + d = l.length → d < k → isohyetlaw01_same.l0 k l l (l.length : Int) (i : Int) = some true
  | 0, i, k, hi, hk => by
    obtain ⟨k, rfl⟩ : ∃ n, k = n + 1 := ⟨k - 1, by omega⟩
    simp only [isohyetlaw01_same.l0]
    rw [if_neg (by omega)]
  | d + 1, i, k, hi, hk => by
    obtain ⟨k, rfl⟩ : ∃ n, k = n + 1 := ⟨k - 1, by omega⟩
    have hl' := hl
    unfold LEN at hl
    simp only [isohyetlaw01_same.l0]
    rw [if_pos (by omega), if_pos (by omega), if_pos (by omega), if_pos (by omega), if_pos trivial, w64 (x := (i : Int) + 1) (by omega) (by omega)]
    exact same_l0 l hl' d (i + 1) k (by omega) (by omega)
/-- A number is the same as itself. -/
theorem same_f {n k : Nat} (hl : (ofNat n).length ≤ LEN) (hk : (ofNat n).length + 1 < k) : isohyetlaw01_same.f k (ofNat n) (ofNat n) = some true := by
  obtain ⟨k, rfl⟩ : ∃ m, k = m + 1 := ⟨k - 1, by omega⟩
  have hl' := hl
  unfold LEN at hl
  unfold isohyetlaw01_same.f
  rw [if_pos rfl]
  by_cases h : n = 0
  · subst h
    rw [ofNat_zero]
    simp only [List.length_nil, isohyetlaw01_same.j0]
    rw [if_neg (by omega), if_neg (by decide)]
    exact same_l0 [] (by decide) 0 0 k rfl (by omega)
  · have h1 : (ofNat n).length ≠ 0 := fun h0 => h (ofNat_eq_nil.1 (List.eq_nil_of_length_eq_zero h0))
    have e : wrap64 (((ofNat n).length : Int) - 1) = (((ofNat n).length - 1 : Nat) : Int) := by rw [w64 (by omega) (by omega)]; omega
    have hlast := ofNat_last h
    rw [if_pos (by omega), e, if_pos (by omega), if_pos (by omega), rd_cast (ofNat n) ((ofNat n).length - 1), beq_eq_false_iff_ne.mpr hlast]
    simp only [isohyetlaw01_same.j0]
    rw [if_neg (by decide)]
    exact same_l0 (ofNat n) hl' (ofNat n).length 0 k (by omega) (by omega)
end Go.Proofs.YtfkpbdapinpkdaaDoor.Mg
namespace Go.Proofs.YtfkpbdapinpkdaaDoor.Mg
open Go.RowKit Go.Proofs.YtfkpbdapinpkdaaDoorW.PrintWords Go.Proofs.YtfkpbdapinpkdaaDoorW.PrintMore Go.Proofs.YtfkpbdapinpkdaaDoor.MB Go.Proofs.YtfkpbdapinpkdaaDoor.M Go.Proofs.YtfkpbdapinpkdaaDoor.MD
set_option linter.unusedVariables false
set_option linter.unusedSimpArgs false

theorem short_l0 (n : Int) (ls : List (List Int)) (hls : ls.length ≤ 1000) : ∀ (d i k : Nat), i + d = ls.length → d < k →
    ∃ b, isohyetlaw01_short.l0 k n ls (ls.length : Int) (i : Int) = some b ∧ (b = true → ∀ j, i ≤ j → j < ls.length → ((ls.getD j []).length : Int) ≤ n)
  | 0, i, k, hi, hk => by
    obtain ⟨k, rfl⟩ : ∃ m, k = m + 1 := ⟨k - 1, by omega⟩
    simp only [isohyetlaw01_short.l0]
    rw [if_neg (by omega)]
    exact ⟨true, rfl, fun _ j h1 h2 => by omega⟩
  | d + 1, i, k, hi, hk => by
    obtain ⟨k, rfl⟩ : ∃ m, k = m + 1 := ⟨k - 1, by omega⟩
    simp only [isohyetlaw01_short.l0]
    rw [if_pos (by omega), if_pos (by omega), if_pos (by omega), w64 (x := (i : Int) + 1) (by omega) (by omega)]
    have e : rd_L1 ls (i : Int) = ls.getD i [] := by unfold rd_L1; rw [Int.toNat_natCast]
    rw [e]
    by_cases h : ((ls.getD i []).length : Int) > n
    · rw [if_pos h]
      exact ⟨false, rfl, fun h => by cases h⟩
    · rw [if_neg h]
      obtain ⟨b, hb, hall⟩ := short_l0 n ls hls d (i + 1) k (by omega) (by omega)
      refine ⟨b, hb, fun ht j h1 h2 => ?_⟩
      rcases Nat.lt_or_ge i j with hij | hij
      · exact hall ht j hij h2
      · obtain rfl : j = i := by omega
        omega
theorem short_f {k : Nat} (n : Int) (ls : List (List Int)) (hls : ls.length ≤ 1000) (hk : ls.length < k) : ∃ b, isohyetlaw01_short.f k n ls = some b ∧ (b = true → ∀ j, j < ls.length → ((ls.getD j []).length : Int) ≤ n) := by
  obtain ⟨b, hb, hall⟩ := short_l0 n ls hls ls.length 0 k (by omega) hk
  exact ⟨b, hb, fun ht j hj => hall ht j (Nat.zero_le _) hj⟩
theorem short_1 {k : Nat} (n : Int) (a : List Int) (hk : 1 < k) : ∃ b, isohyetlaw01_short.f k n [a] = some b ∧ (b = true → (a.length : Int) ≤ n) := by
  obtain ⟨b, hb, h⟩ := short_f n [a] (by simp) (by simpa using hk)
  exact ⟨b, hb, fun ht => h ht 0 (by simp)⟩
theorem short_2 {k : Nat} (n : Int) (a b : List Int) (hk : 2 < k) : ∃ r, isohyetlaw01_short.f k n [a, b] = some r ∧ (r = true → (a.length : Int) ≤ n ∧ (b.length : Int) ≤ n) := by
  obtain ⟨r, hb, h⟩ := short_f n [a, b] (by simp) (by simpa using hk)
  exact ⟨r, hb, fun ht => ⟨h ht 0 (by simp), h ht 1 (by simp)⟩⟩
theorem short_3 {k : Nat} (n : Int) (a b c : List Int) (hk : 3 < k) : ∃ r, isohyetlaw01_short.f k n [a, b, c] = some r ∧ (r = true → (a.length : Int) ≤ n ∧ (b.length : Int) ≤ n ∧ (c.length : Int) ≤ n) := by
  obtain ⟨r, hb, h⟩ := short_f n [a, b, c] (by simp) (by simpa using hk)
  exact ⟨r, hb, fun ht => ⟨h ht 0 (by simp), h ht 1 (by simp), h ht 2 (by simp)⟩⟩

/-- These words are that number, and no more than 64. -/
structure Has (l : List Int) (n : Nat) : Prop where
  ok : Ok l
  len : l.length ≤ 64
  val : Mg.val l = n
theorem Has.of {l : List Int} (h : Ok l) (hl : l.length ≤ 64) : Has l (Mg.val l) := ⟨h, hl, rfl⟩
theorem Has.nat {n m : Nat} (h : n < B ^ m) (hm : m ≤ 64) : Has (ofNat n) n := ⟨Ok_ofNat n, Nat.le_trans (length_ofNat_le h) hm, val_ofNat n⟩
theorem Has.nil : Has [] 0 := ⟨Ok.nil, by simp, rfl⟩
theorem le_LEN {n : Nat} (h : n ≤ 64) : n ≤ LEN := by unfold LEN; omega
theorem Cmp_g {a b : List Int} {x y k : Nat} (ha : Has a x) (hb : Has b y) (hk : 20000 ≤ k) : mag_Cmp.f k a b = some (cmpN x y) := by
  have h1 := ha.len; have h2 := hb.len
  rw [Cmp_f ha.ok hb.ok (le_LEN h1) (le_LEN h2) (by omega), ha.val, hb.val]
theorem Len_g {a : List Int} {x k : Nat} (ha : Has a x) (hk : 20000 ≤ k) : mag_Len.f k a = some ((bitsN x : Nat) : Int) := by
  have h1 := ha.len
  rw [Len_f ha.ok (le_LEN h1) (by omega), ha.val]
theorem Div_g {a b : List Int} {x y k : Nat} (ha : Has a x) (hb : Has b y) (hk : 20000 ≤ k) : mag_Div.f k a b = some (ofNat (x / y), ofNat (x % y)) := by
  have h1 := ha.len; have h2 := hb.len
  rw [Div_f ha.ok hb.ok (le_LEN h1) (le_LEN h2) (by omega), ha.val, hb.val]
theorem same_g {x y m k : Nat} (e : x = y) (h : x < B ^ m) (hm : m ≤ 64) (hk : 20000 ≤ k) : isohyetlaw01_same.f k (ofNat x) (ofNat y) = some true := by
  subst e
  have h1 := (Has.nat h hm).len
  exact same_f (le_LEN h1) (by omega)
theorem bitsN_eq_zero {n : Nat} : bitsN n = 0 ↔ n = 0 := by
  unfold bitsN
  by_cases h : n = 0
  · simp [h]
  · simp [h]
theorem ok_of_wf {l : List Int} (h : ∀ x ∈ l, (Lit.int .u64 x).wf = true) : Ok l := fun x hx => by
  have := Go.bounds_u64 (h x hx)
  omega
theorem pow_mul_lt {x y m n : Nat} (hx : x < B ^ m) (hy : y < B ^ n) : x * y < B ^ (m + n) := by
  rw [Nat.pow_add]
  exact Nat.mul_lt_mul_of_lt_of_le hx (Nat.le_of_lt hy) (Nat.pow_pos B_pos)
theorem pow_add_lt {x y m : Nat} (hx : x < B ^ m) (hy : y < B ^ m) : x + y < B ^ (m + 1) := by
  rw [Nat.pow_succ]
  have : B ^ m * 2 ≤ B ^ m * B := Nat.mul_le_mul_left _ (by decide)
  omega
theorem pow_le {x m n : Nat} (hx : x < B ^ m) (h : m ≤ n) : x < B ^ n := Nat.lt_of_lt_of_le hx (Nat.pow_le_pow_right B_pos h)
theorem val_lt_of_len {l : List Int} {m : Nat} (h : Ok l) (hl : l.length ≤ m) : Mg.val l < B ^ m := pow_le (val_lt h) hl
end Go.Proofs.YtfkpbdapinpkdaaDoor.Mg
