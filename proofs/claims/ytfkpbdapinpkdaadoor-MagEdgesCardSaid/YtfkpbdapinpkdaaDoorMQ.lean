/- What mag.Mul, Len, Up and Down come to, as numbers. -/
import Derived.Test.YtfkpbdapinpkdaaDoorMP
namespace Go.Proofs.YtfkpbdapinpkdaaDoor.Mg
open Go.RowKit Go.Proofs.YtfkpbdapinpkdaaDoorW.PrintWords Go.Proofs.YtfkpbdapinpkdaaDoorW.PrintMore Go.Proofs.YtfkpbdapinpkdaaDoor.MB Go.Proofs.YtfkpbdapinpkdaaDoor.M
set_option linter.unusedVariables false
set_option linter.unusedSimpArgs false

theorem wu64 {x : Int} (h0 : 0 ≤ x) (h1 : x < 18446744073709551616) : IntKind.u64.wrap x = x := by
  simp only [IntKind.wrap, IntKind.signed, IntKind.bits]
  simp
  omega
theorem val_set_add (l : List Int) (p : Nat) (y : Int) (h : p < l.length) : val (l.set p y) + B ^ p * (l.getD p 0).toNat = val l + B ^ p * y.toNat := by
  rw [val_set l p y h, val_getD l p h]
  simp only [Nat.mul_add]
  omega
theorem getD_set_ne (l : List Int) {p m : Nat} (y : Int) (h : p ≠ m) : (l.set p y).getD m 0 = l.getD m 0 := by
  simp [List.getD_eq_getElem?_getD, List.getElem?_set_ne h]
theorem mul64_f {x y : Int} (hx : 0 ≤ x ∧ x < 18446744073709551616) (hy : 0 ≤ y ∧ y < 18446744073709551616) : ∃ h l : Nat, bits_Mul64.f x y = some ((h : Int), (l : Int)) ∧ 18446744073709551616 * h + l = x.toNat * y.toNat ∧ l < 18446744073709551616 := by
  refine ⟨x.toNat * y.toNat / 18446744073709551616, x.toNat * y.toNat % 18446744073709551616, ?_, Nat.div_add_mod _ _, Nat.mod_lt _ (by decide)⟩
  unfold bits_Mul64.f
  rw [if_pos ⟨⟨hx.1, by omega⟩, hy.1, by omega⟩]

theorem mul_step (P s carry x y c o v v' S bt Bi Bj : Nat) (h1 : s + B * carry = x * y + c + o) (h2 : v' + P * o = v + P * s) (h3 : v + P * c = S + x * Bi * bt) (hP : P = Bi * Bj) : v' + P * B * carry = S + x * Bi * (bt + Bj * y) := by
  have e : P * (s + B * carry) = P * (x * y + c + o) := by rw [h1]
  subst hP
  grind
theorem mul_end (P carry v v' S x Bi vb BL : Nat) (h2 : v' + P * 0 = v + P * carry) (h3 : v + P * carry = S + x * Bi * vb) (h4 : S = BL * vb) : v' = (BL + Bi * x) * vb := by
  grind
theorem mul_high {x y h : Nat} (hx : x ≤ 18446744073709551615) (hy : y ≤ 18446744073709551615) (hq : 18446744073709551616 * h ≤ x * y) : h ≤ 18446744073709551614 := by
  have h1 : x * y ≤ 18446744073709551615 * y := Nat.mul_le_mul_right y hx
  omega
theorem mul_low {x y h l : Nat} (hx : x ≤ 18446744073709551615) (hy : y ≤ 18446744073709551615) (hq : 18446744073709551616 * h + l = x * y) : h = 18446744073709551614 → l ≤ 1 := by
  intro e
  have h1 : x * y ≤ 18446744073709551615 * y := Nat.mul_le_mul_right y hx
  rw [e] at hq
  omega
theorem carry_lt {h l : Nat} {c o s1 c1 s2 c2 : Int} (hlo : h = 18446744073709551614 → l ≤ 1) (hh : h ≤ 18446744073709551614) (hl : l < 18446744073709551616) (hc : 0 ≤ c ∧ c < 18446744073709551616) (ho : 0 ≤ o ∧ o < 18446744073709551616) (b1 : 0 ≤ c1 ∧ c1 ≤ 1)
    (b2 : 0 ≤ s1 ∧ s1 < 18446744073709551616) (b3 : 0 ≤ c2 ∧ c2 ≤ 1) (b4 : 0 ≤ s2 ∧ s2 < 18446744073709551616) (a1 : s1.toNat + 18446744073709551616 * c1.toNat = (l : Int).toNat + c.toNat + Int.toNat 0) (a2 : s2.toNat + 18446744073709551616 * c2.toNat = o.toNat + s1.toNat + Int.toNat 0) :
    (h : Int) + c1 + c2 < 18446744073709551616 := by
  by_cases e : h = 18446744073709551614
  · have := hlo e
    omega
  · omega
/-- One step of the product: two words and two carries. -/
theorem mul_words {x y c o : Int} {h l : Nat} (hx : 0 ≤ x ∧ x < 18446744073709551616) (hy : 0 ≤ y ∧ y < 18446744073709551616) (hc : 0 ≤ c ∧ c < 18446744073709551616) (ho : 0 ≤ o ∧ o < 18446744073709551616)
    (hq : 18446744073709551616 * h + l = x.toNat * y.toNat) (hl : l < 18446744073709551616) :
    ∃ carry : Int, (0 ≤ carry ∧ carry < 18446744073709551616) ∧ IntKind.u64.wrap (IntKind.u64.wrap ((h : Int) + addC (l : Int) c 0) + addC o (addS (l : Int) c 0) 0) = carry ∧
      (addS o (addS (l : Int) c 0) 0).toNat + B * carry.toNat = x.toNat * y.toNat + c.toNat + o.toNat := by
  have hh : h ≤ 18446744073709551614 := mul_high (x := x.toNat) (y := y.toNat) (by omega) (by omega) (by omega)
  have hlo := mul_low (x := x.toNat) (y := y.toNat) (by omega) (by omega) hq
  rw [← hq]
  have a1 := addS_addC (l : Int) c 0
  have a2 := addS_addC o (addS (l : Int) c 0) 0
  have b1 := addC_ok (x := (l : Int)) (y := c) (c := 0) (by omega) hc.2 (by omega)
  have b2 := addS_ok (l : Int) c 0
  have b3 := addC_ok (x := o) (y := addS (l : Int) c 0) (c := 0) ho.2 b2.2 (by omega)
  have b4 := addS_ok o (addS (l : Int) c 0) 0
  generalize addS o (addS (l : Int) c 0) 0 = s2 at *
  generalize addC o (addS (l : Int) c 0) 0 = c2 at *
  generalize addC (l : Int) c 0 = c1 at *
  generalize addS (l : Int) c 0 = s1 at *
  unfold B at a1 a2 ⊢
  clear hq
  refine ⟨(h : Int) + c1 + c2, ⟨by omega, ?_⟩, ?_, ?_⟩
  · exact carry_lt hlo hh hl hc ho b1 b2 b3 b4 a1 a2
  · rw [wu64 (x := (h : Int) + c1) (by omega) (by omega), wu64 (by omega) (carry_lt hlo hh hl hc ho b1 b2 b3 b4 a1 a2)]
  · omega

/-! ### Len -/
/-- How many bits. -/
def bitsN (n : Nat) : Nat := if n = 0 then 0 else Nat.log2 n + 1
theorem bitLenAux_eq : ∀ (f x : Nat), x < 2 ^ f → Lib.bitLenAux f x = bitsN x := by
  intro f
  induction f with
  | zero =>
    intro x hx
    obtain rfl : x = 0 := by simpa using hx
    rfl
  | succ f ih =>
    intro x hx
    unfold Lib.bitLenAux
    by_cases h : x = 0
    · subst h; rfl
    · rw [if_neg h, ih (x / 2) (by rw [Nat.pow_succ] at hx; omega)]
      unfold bitsN
      rw [if_neg h]
      by_cases h2 : x / 2 = 0
      · rw [if_pos h2]
        have : x = 1 := by omega
        subst this
        rfl
      · rw [if_neg h2, Nat.log2_def x, if_pos (by omega)]
        omega
theorem bitLen_eq {x : Nat} (h : x < 18446744073709551616) : Lib.bitLen x = bitsN x := by
  unfold Lib.bitLen
  exact bitLenAux_eq 64 x (by omega)
theorem bitsN_le {n m : Nat} (h : n < 2 ^ m) : bitsN n ≤ m := by
  unfold bitsN
  split
  · omega
  · rename_i h0
    have := (Nat.log2_lt h0).2 h
    omega
theorem bitsN_lt (n : Nat) : n < 2 ^ bitsN n := by
  unfold bitsN
  split
  · rename_i h; subst h; simp
  · exact Nat.lt_log2_self
theorem bitsN_ge {n : Nat} (h : n ≠ 0) : 2 ^ (bitsN n - 1) ≤ n := by
  unfold bitsN
  rw [if_neg h, Nat.add_sub_cancel]
  exact Nat.log2_self_le h
theorem bitsN_unique {n m : Nat} (h0 : 2 ^ m ≤ n) (h1 : n < 2 ^ (m + 1)) : bitsN n = m + 1 := by
  have hn : n ≠ 0 := by have := Nat.two_pow_pos m; omega
  have h2 := bitsN_le h1
  have h3 := bitsN_lt n
  rcases Nat.lt_or_ge (bitsN n) (m + 1) with h | h
  · have : 2 ^ bitsN n ≤ 2 ^ m := Nat.pow_le_pow_right (by decide) (by omega)
    omega
  · omega
theorem B_two : B = 2 ^ 64 := by decide
theorem Len_f {a : List Int} {k : Nat} (ha : Ok a) (hla : a.length ≤ LEN) (hk : a.length < k) : mag_Len.f k a = some (bitsN (val a) : Int) := by
  have hla' := hla
  unfold LEN at hla'
  unfold mag_Len.f
  rw [right_f (by omega) hk ha]
  simp only [Option.bind_some]
  have l1 := length_ofNat_val ha
  by_cases h0 : val a = 0
  · rw [if_pos (by rw [h0, ofNat_zero]; rfl), h0]
    rfl
  · have hne : (ofNat (val a)).length ≠ 0 := fun e => h0 (ofNat_eq_nil.1 (List.eq_nil_of_length_eq_zero e))
    rw [if_neg (by omega)]
    obtain ⟨n, hn⟩ : ∃ n, (ofNat (val a)).length = n + 1 := ⟨(ofNat (val a)).length - 1, by omega⟩
    rw [w64 (x := ((ofNat (val a)).length : Int) - 1) (by omega) (by omega), hn, show (((n + 1 : Nat) : Int) - 1) = (n : Int) from by omega, if_pos (by omega), if_pos (by omega), rd_cast]
    have hw := (Ok_ofNat (val a)).getD n
    have htop := ofNat_last h0
    rw [hn, Nat.add_sub_cancel] at htop
    unfold bits_Len64.f
    rw [if_pos ⟨hw.1, by omega⟩]
    simp only [Option.bind_some]
    have hx : ((ofNat (val a)).getD n 0).toNat < 18446744073709551616 := by omega
    rw [bitLen_eq hx]
    have hb := bitsN_le (m := 64) (n := ((ofNat (val a)).getD n 0).toNat) (by omega)
    rw [w64 (x := 64 * (n : Int)) (by omega) (by omega), w64 (by omega) (by omega)]
    congr 1
    have hv := val_getD (ofNat (val a)) n (by omega)
    rw [val_ofNat, List.drop_of_length_le (by omega : (ofNat (val a)).length ≤ n + 1)] at hv
    simp only [val, Nat.mul_zero, Nat.add_zero] at hv
    have hlo := val_lt ((Ok_ofNat (val a)).take n)
    rw [List.length_take, Nat.min_eq_left (by omega)] at hlo
    generalize hxx : ((ofNat (val a)).getD n 0).toNat = x at *
    have hx0 : x ≠ 0 := by omega
    have hBn : B ^ n = 2 ^ (64 * n) := by rw [B_two, ← Nat.pow_mul]
    have e : bitsN (val a) = 64 * n + bitsN x := by
      obtain ⟨m, hm⟩ : ∃ m, bitsN x = m + 1 := ⟨bitsN x - 1, by unfold bitsN; rw [if_neg hx0]; omega⟩
      have g1 := bitsN_ge hx0
      have g2 := bitsN_lt x
      rw [hm, Nat.add_sub_cancel] at g1
      rw [hm] at g2 ⊢
      rw [show 64 * n + (m + 1) = (64 * n + m) + 1 from by omega]
      apply bitsN_unique
      · rw [Nat.pow_add, ← hBn, hv]
        have := Nat.mul_le_mul_left (B ^ n) g1
        omega
      · rw [show 64 * n + m + 1 = 64 * n + (m + 1) from by omega, Nat.pow_add, ← hBn, hv]
        have : B ^ n * (x + 1) ≤ B ^ n * 2 ^ (m + 1) := Nat.mul_le_mul_left (B ^ n) g2
        rw [Nat.mul_add] at this
        omega
    rw [e]
    omega
end Go.Proofs.YtfkpbdapinpkdaaDoor.Mg
