/- The functions of package mag at magnitudes of no more than 64 words. What the functions of package num come to, as whole numbers: Make, Of, Sign, Cmp, Neg, Abs, Add, Sub. num.Int, as whole numbers. -/
import Derived.Test.YtknekneicecgiaaGreatDoorX1
import Derived.Test.YtknekneicecgiaaGreatDoorX13
import Derived.OpenShut
import Derived.Test.YtknekneicecgiaaGreatDoorC1
import Derived.Test.YtknekneicecgiaaGreatDoorC2
namespace Go.Proofs.YtknekneicecgiaaGreatDoor.Mg
open Go.RowKit Go.Proofs.YtknekneicecgiaaGreatDoorW.PrintWords Go.Proofs.YtknekneicecgiaaGreatDoorW.PrintMore Go.Proofs.YtknekneicecgiaaGreatDoor.MB Go.Proofs.YtknekneicecgiaaGreatDoor.M
set_option linter.unusedVariables false
set_option linter.unusedSimpArgs false

theorem len_small {n : Nat} (h0 : n ≠ 0) (h : n < 18446744073709551616) : (ofNat n).length = 1 := by rw [ofNat_small h0 h]; rfl
/-- These words are that number, and no more than 64. -/
structure Has (l : List Int) (n : Nat) : Prop where
  ok : Ok l
  len : l.length ≤ 64
  val : Mg.val l = n
theorem Has.of {l : List Int} (h : Ok l) (hl : l.length ≤ 64) : Has l (Mg.val l) := ⟨h, hl, rfl⟩
theorem Has.nat {n m : Nat} (h : n < B ^ m) (hm : m ≤ 64) : Has (ofNat n) n := ⟨Ok_ofNat n, Nat.le_trans (length_ofNat_le h) hm, val_ofNat n⟩
theorem Has.nil : Has [] 0 := ⟨Ok.nil, by simp, rfl⟩
theorem le_LEN {n : Nat} (h : n ≤ 64) : n ≤ LEN := by unfold LEN; omega
theorem Len_g {a : List Int} {x k : Nat} (ha : Has a x) (hk : 20000 ≤ k) : mag_Len.f k a = some ((bitsN x : Nat) : Int) := by
  have h1 := ha.len
  rw [Len_f ha.ok (le_LEN h1) (by omega), ha.val]
theorem bitsN_eq_zero {n : Nat} : bitsN n = 0 ↔ n = 0 := by
  unfold bitsN
  by_cases h : n = 0
  · simp [h]
  · simp [h]
theorem pow_le {x m n : Nat} (hx : x < B ^ m) (h : m ≤ n) : x < B ^ n := Nat.lt_of_lt_of_le hx (Nat.pow_le_pow_right B_pos h)
theorem val_lt_of_len {l : List Int} {m : Nat} (h : Ok l) (hl : l.length ≤ m) : Mg.val l < B ^ m := pow_le (val_lt h) hl

theorem Add_g {a b : List Int} {x y k : Nat} (ha : Has a x) (hb : Has b y) (hk : 20000 ≤ k) : mag_Add.f k a b = some (ofNat (x + y)) := by
  have h1 := ha.len; have h2 := hb.len
  rw [Add_f ha.ok hb.ok (le_LEN h1) (le_LEN h2) (by omega), ha.val, hb.val]
theorem Mul_g {a b : List Int} {x y k : Nat} (ha : Has a x) (hb : Has b y) (hk : 20000 ≤ k) : mag_Mul.f k a b = some (ofNat (x * y)) := by
  have h1 := ha.len; have h2 := hb.len
  have h3 : a.length * (b.length + 2) ≤ 64 * 66 := Nat.mul_le_mul h1 (by omega)
  rw [Mul_f ha.ok hb.ok (le_LEN h1) (le_LEN h2) (by omega), ha.val, hb.val]
end Go.Proofs.YtknekneicecgiaaGreatDoor.Mg
namespace Go.Proofs.YtknekneicecgiaaGreatDoor.Mg
open Go.RowKit Go.Proofs.YtknekneicecgiaaGreatDoorW.PrintWords Go.Proofs.YtknekneicecgiaaGreatDoorW.PrintMore Go.Proofs.YtknekneicecgiaaGreatDoor.MB Go.Proofs.YtknekneicecgiaaGreatDoor.M
set_option linter.unusedVariables false
set_option linter.unusedSimpArgs false

/-- A magnitude, or less than nothing by it. -/
def nv (m : Bool) (x : Nat) : Int := if m = true then -(x : Int) else (x : Int)
def zb (z : Int) : Bool := decide (z < 0)
def zl (z : Int) : List Int := ofNat z.natAbs
/-- -1, 0, 1. -/
def sgn (z : Int) : Int := if z < 0 then -1 else if z = 0 then 0 else 1
theorem nv_abs (m : Bool) (x : Nat) : (nv m x).natAbs = x := by unfold nv; split <;> omega
theorem nv_true (x : Nat) : nv true x = -(x : Int) := rfl
theorem nv_false (x : Nat) : nv false x = (x : Int) := rfl
theorem nv_zb (z : Int) : nv (zb z) z.natAbs = z := by
  unfold nv zb
  by_cases h : z < 0
  · rw [decide_eq_true h, if_pos rfl]; omega
  · rw [decide_eq_false h, if_neg (by decide)]; omega
/-- This sign and these words are that number, and no more than 64 words. -/
structure HZ (m : Bool) (l : List Int) (z : Int) : Prop where
  ok : Ok l
  len : l.length ≤ 64
  v : nv m (Mg.val l) = z
theorem HZ.has {m : Bool} {l : List Int} {z : Int} (h : HZ m l z) : Has l z.natAbs := ⟨h.ok, h.len, by rw [← h.v, nv_abs]⟩
theorem HZ.nv {m : Bool} {l : List Int} {z : Int} (h : HZ m l z) : Mg.nv m z.natAbs = z := by have := h.v; rw [← this, nv_abs]
theorem HZ.of {m : Bool} {l : List Int} (h : Ok l) (hl : l.length ≤ 64) : HZ m l (Mg.nv m (Mg.val l)) := ⟨h, hl, rfl⟩
theorem HZ.z {z : Int} {m : Nat} (h : z.natAbs < B ^ m) (hm : m ≤ 64) : HZ (zb z) (zl z) z := by
  have := Has.nat h hm
  exact ⟨this.ok, this.len, by unfold zl; rw [val_ofNat, nv_zb]⟩
theorem HZ.lt {m : Bool} {l : List Int} {z : Int} (h : HZ m l z) : z.natAbs < B ^ 64 := by
  rw [← h.v, nv_abs]
  exact val_lt_of_len h.ok h.len
theorem sgn_cases (z : Int) : (z < 0 ∧ sgn z = -1) ∨ (z = 0 ∧ sgn z = 0) ∨ (0 < z ∧ sgn z = 1) := by
  unfold sgn
  by_cases h : z < 0
  · rw [if_pos h]; exact .inl ⟨h, rfl⟩
  · rw [if_neg h]
    by_cases h0 : z = 0
    · rw [if_pos h0]; exact .inr (.inl ⟨h0, rfl⟩)
    · rw [if_neg h0]; exact .inr (.inr ⟨by omega, rfl⟩)
theorem Sign_z {m : Bool} {l : List Int} {z : Int} {k : Nat} (h : HZ m l z) (hk : 20000 ≤ k) : num_Sign.f k m l = some (sgn z) := by
  have hn := h.nv
  unfold num_Sign.f
  rw [Len_g h.has hk, Option.bind_some]
  by_cases h0 : z = 0
  · have e : bitsN z.natAbs = 0 := bitsN_eq_zero.2 (by omega)
    rw [e, if_pos (show ((0 : Nat) : Int) = 0 from rfl), h0]
    rfl
  · have e : bitsN z.natAbs ≠ 0 := fun e => h0 (by have := bitsN_eq_zero.1 e; omega)
    rw [if_neg (by omega)]
    cases m with
    | true =>
      rw [nv_true] at hn
      rw [if_pos rfl]
      unfold sgn
      rw [if_pos (by omega)]
    | false =>
      rw [nv_false] at hn
      rw [if_neg (by decide)]
      unfold sgn
      rw [if_neg (by omega), if_neg h0]
theorem Make_z {m : Bool} {l : List Int} {x k : Nat} (h : Has l x) (hk : 20000 ≤ k) : num_Make.f k m l = some (zb (nv m x), zl (nv m x)) := by
  unfold num_Make.f
  rw [Add_g h Has.nil hk, Option.bind_some, Nat.add_zero]
  unfold zl
  rw [nv_abs]
  cases m with
  | true =>
    rw [if_pos rfl, nv_true]
    unfold zb
    by_cases h0 : x = 0
    · subst h0
      rw [ofNat_zero]
      rfl
    · have : (ofNat x).length ≠ 0 := fun e => h0 (ofNat_eq_nil.1 (List.eq_nil_of_length_eq_zero e))
      have e1 : ((ofNat x).length : Int) > 0 := by omega
      have e2 : -(x : Int) < 0 := by omega
      rw [decide_eq_true e1, decide_eq_true e2]
  | false =>
    have e2 : ¬ ((x : Int) < 0) := by omega
    rw [if_neg (by decide), nv_false]
    unfold zb
    rw [decide_eq_false e2]
theorem zb_false {n : Nat} : zb (n : Int) = false := decide_eq_false (by omega)
theorem zb_true {n : Nat} (h : n ≠ 0) : zb (-(n : Int)) = true := decide_eq_true (by omega)
theorem zl_nat (n : Nat) : zl (n : Int) = ofNat n := by unfold zl; rw [Int.natAbs_natCast]
theorem zl_neg (n : Nat) : zl (-(n : Int)) = ofNat n := by unfold zl; rw [Int.natAbs_neg, Int.natAbs_natCast]
theorem wrapneg {m : Nat} (h0 : m ≠ 0) (h : m ≤ 9223372036854775808) : IntKind.u64.wrap (-(IntKind.u64.wrap (-(m : Int)))) = (m : Int) := by
  simp only [IntKind.wrap, IntKind.signed, IntKind.bits]
  simp
  omega
theorem Of_z {n : Int} {k : Nat} (h0 : -9223372036854775808 ≤ n) (h1 : n ≤ 9223372036854775807) (hk : 20000 ≤ k) : num_Of.f k n = some (zb n, zl n) := by
  unfold num_Of.f
  by_cases h : n < 0
  · obtain ⟨m, rfl⟩ : ∃ m : Nat, n = -(m : Int) := ⟨n.natAbs, by omega⟩
    rw [if_pos h, wrapneg (by omega) (by omega), Of_f (by omega) (by omega) (by omega), Option.bind_some, zb_true (by omega), zl_neg, Int.toNat_natCast]
  · obtain ⟨m, rfl⟩ : ∃ m : Nat, n = (m : Int) := ⟨n.natAbs, by omega⟩
    rw [if_neg h, wu64 (x := (m : Int)) (by omega) (by omega), Of_f (by omega) (by omega) (by omega), Option.bind_some, zb_false, zl_nat, Int.toNat_natCast]
end Go.Proofs.YtknekneicecgiaaGreatDoor.Mg
namespace Go.Proofs.YtknekneicecgiaaGreatDoor.Mg
open Go.RowKit Go.Proofs.YtknekneicecgiaaGreatDoorW.PrintWords Go.Proofs.YtknekneicecgiaaGreatDoorW.PrintMore Go.Proofs.YtknekneicecgiaaGreatDoor.MB Go.Proofs.YtknekneicecgiaaGreatDoor.M
set_option linter.unusedVariables false
set_option linter.unusedSimpArgs false

/-! ### Int -/
theorem bits_le_iff {x m : Nat} : bitsN x ≤ m ↔ x < 2 ^ m := by
  refine ⟨fun h => Nat.lt_of_lt_of_le (bitsN_lt x) (Nat.pow_le_pow_right (by decide) h), bitsN_le⟩
theorem rd_low {l : List Int} (h : Ok l) (h0 : val l ≠ 0) (hlt : val l < B) : 0 < l.length ∧ rd l 0 = ((val l : Nat) : Int) := by
  cases l with
  | nil => exact absurd rfl h0
  | cons x xs =>
    have hx := h.head
    refine ⟨by simp, ?_⟩
    simp only [val] at hlt ⊢
    have hv : val xs = 0 := by
      rcases Nat.eq_zero_or_pos (val xs) with h | h
      · exact h
      · have : B * 1 ≤ B * val xs := Nat.mul_le_mul_left B h
        omega
    rw [hv, Nat.mul_zero, Nat.add_zero]
    show x = _
    omega
theorem Int_z {m : Bool} {l : List Int} {z : Int} {k : Nat} (h : HZ m l z) (hk : 20001 ≤ k) : num_Int.f k m l = if -9223372036854775808 ≤ z ∧ z ≤ 9223372036854775807 then some (z, true) else some (0, false) := by
  have hv := h.v
  have hh := h.has
  have hval := hh.val
  obtain ⟨k, rfl⟩ : ∃ j, k = j + 1 := ⟨k - 1, by omega⟩
  unfold num_Int.f
  rw [Len_g hh (by omega), Option.bind_some]
  by_cases h0 : z = 0
  · have e : bitsN z.natAbs = 0 := bitsN_eq_zero.2 (by omega)
    rw [e, if_pos (show ((0 : Nat) : Int) = 0 from rfl), if_pos (by omega), h0]
  · have e : bitsN z.natAbs ≠ 0 := fun e => h0 (by have := bitsN_eq_zero.1 e; omega)
    have c63 := bits_le_iff (x := z.natAbs) (m := 63)
    have c64 := bits_le_iff (x := z.natAbs) (m := 64)
    have p63 : 2 ^ 63 = 9223372036854775808 := by decide
    have p64 : 2 ^ 64 = 18446744073709551616 := by decide
    rw [p63] at c63
    rw [p64] at c64
    rw [if_neg (by omega)]
    generalize bitsN z.natAbs = b at *
    by_cases hb : b < 64
    · have hlt := c63.1 (by omega)
      obtain ⟨hl, hr⟩ := rd_low h.ok (by omega) (by unfold B; omega)
      rw [hval] at hr
      rw [if_pos (by omega)]
      have hl' : (0 : Int) < (l.length : Int) := by omega
      have hw : wrap64 ((z.natAbs : Nat) : Int) = ((z.natAbs : Nat) : Int) := w64 (by omega) (by omega)
      cases m with
      | true =>
        rw [nv_true, hval] at hv
        have hw2 : wrap64 (-((z.natAbs : Nat) : Int)) = z := by rw [w64 (by omega) (by omega)]; omega
        simp only [num_Int.j0]
        rw [if_pos trivial, if_pos hl', hr, hw, hw2]
        clear hw hw2
        rw [if_pos (by omega)]
      | false =>
        rw [nv_false, hval] at hv
        simp only [num_Int.j0]
        rw [if_neg (by decide), if_pos (by omega), if_pos hl', hr, hw, hv]
        clear hw
        rw [if_pos (by omega)]
    · rw [if_neg (by omega)]
      simp only [num_Int.j0]
      rw [if_neg (by decide), if_neg (by omega)]
      by_cases hb2 : b = 64
      · have hlt := c64.1 (by omega)
        have hge : ¬ z.natAbs < 9223372036854775808 := fun h => hb (by have := c63.2 h; omega)
        obtain ⟨hl, hr⟩ := rd_low h.ok (by omega) (by unfold B; omega)
        rw [hval] at hr
        have hl' : (0 : Int) < (l.length : Int) := by omega
        rw [if_pos (by omega)]
        cases m with
        | true =>
          rw [nv_true, hval] at hv
          rw [if_pos rfl, if_pos hl', hr]
          by_cases h63 : z = -9223372036854775808
          · rw [if_pos (by omega), if_pos (by omega), h63]
          · rw [if_neg (by omega), if_neg (by omega)]
        | false =>
          rw [nv_false, hval] at hv
          rw [if_neg (by decide), if_neg (by omega)]
      · have hge : ¬ z.natAbs < 18446744073709551616 := fun h => hb2 (by have := c64.2 h; omega)
        rw [if_neg (by omega), if_neg (by omega)]

end Go.Proofs.YtknekneicecgiaaGreatDoor.Mg
