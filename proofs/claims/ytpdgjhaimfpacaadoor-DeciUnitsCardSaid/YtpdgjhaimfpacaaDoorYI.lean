/- num.Int, as whole numbers. -/
import Derived.Test.YtpdgjhaimfpacaaDoorYN
import Derived.Test.YtpdgjhaimfpacaaDoorC2
namespace Go.Proofs.YtpdgjhaimfpacaaDoor.Mg
open Go.RowKit Go.Proofs.YtpdgjhaimfpacaaDoorW.PrintWords Go.Proofs.YtpdgjhaimfpacaaDoorW.PrintMore Go.Proofs.YtpdgjhaimfpacaaDoor.MB Go.Proofs.YtpdgjhaimfpacaaDoor.M
set_option linter.unusedVariables false
set_option linter.unusedSimpArgs false

/-! ### Int -/
theorem bits_le_iff {x m : Nat} : bitsN x ≤ m ↔ x < 2 ^ m := by
  refine ⟨fun h => Nat.lt_of_lt_of_le (bitsN_lt x) (Nat.pow_le_pow_right (by decide) h), bitsN_le⟩
theorem rd_low {l : List Int} (h : Ok l) (h0 : val l ≠ 0) (hlt : val l < B) : 0 < l.length ∧ rd l 0 = ((val l : Nat) : Int) := by
  cases l with
  | nil => exact absurd rfl h0
  | cons x xs =>
    have hx := h.head
    refine ⟨by simp, ?_⟩
    simp only [val] at hlt ⊢
    have hv : val xs = 0 := by
      rcases Nat.eq_zero_or_pos (val xs) with h | h
      · exact h
      · have : B * 1 ≤ B * val xs := Nat.mul_le_mul_left B h
        omega
    rw [hv, Nat.mul_zero, Nat.add_zero]
    show x = _
    omega
theorem Int_z {m : Bool} {l : List Int} {z : Int} {k : Nat} (h : HZ m l z) (hk : 20001 ≤ k) : num_Int.f k m l = if -9223372036854775808 ≤ z ∧ z ≤ 9223372036854775807 then some (z, true) else some (0, false) := by
  have hv := h.v
  have hh := h.has
  have hval := hh.val
  obtain ⟨k, rfl⟩ : ∃ j, k = j + 1 := ⟨k - 1, by omega⟩
  unfold num_Int.f
  rw [Len_g hh (by omega), Option.bind_some]
  by_cases h0 : z = 0
  · have e : bitsN z.natAbs = 0 := bitsN_eq_zero.2 (by omega)
    rw [e, if_pos (show ((0 : Nat) : Int) = 0 from rfl), if_pos (by omega), h0]
  · have e : bitsN z.natAbs ≠ 0 := fun e => h0 (by have := bitsN_eq_zero.1 e; omega)
    have c63 := bits_le_iff (x := z.natAbs) (m := 63)
    have c64 := bits_le_iff (x := z.natAbs) (m := 64)
    have p63 : 2 ^ 63 = 9223372036854775808 := by decide
    have p64 : 2 ^ 64 = 18446744073709551616 := by decide
    rw [p63] at c63
    rw [p64] at c64
    rw [if_neg (by omega)]
    generalize bitsN z.natAbs = b at *
    by_cases hb : b < 64
    · have hlt := c63.1 (by omega)
      obtain ⟨hl, hr⟩ := rd_low h.ok (by omega) (by unfold B; omega)
      rw [hval] at hr
      rw [if_pos (by omega)]
      have hl' : (0 : Int) < (l.length : Int) := by omega
      have hw : wrap64 ((z.natAbs : Nat) : Int) = ((z.natAbs : Nat) : Int) := w64 (by omega) (by omega)
      cases m with
      | true =>
        rw [nv_true, hval] at hv
        have hw2 : wrap64 (-((z.natAbs : Nat) : Int)) = z := by rw [w64 (by omega) (by omega)]; omega
        simp only [num_Int.j0]
        rw [if_pos trivial, if_pos hl', hr, hw, hw2]
        clear hw hw2
        rw [if_pos (by omega)]
      | false =>
        rw [nv_false, hval] at hv
        simp only [num_Int.j0]
        rw [if_neg (by decide), if_pos (by omega), if_pos hl', hr, hw, hv]
        clear hw
        rw [if_pos (by omega)]
    · rw [if_neg (by omega)]
      simp only [num_Int.j0]
      rw [if_neg (by decide), if_neg (by omega)]
      by_cases hb2 : b = 64
      · have hlt := c64.1 (by omega)
        have hge : ¬ z.natAbs < 9223372036854775808 := fun h => hb (by have := c63.2 h; omega)
        obtain ⟨hl, hr⟩ := rd_low h.ok (by omega) (by unfold B; omega)
        rw [hval] at hr
        have hl' : (0 : Int) < (l.length : Int) := by omega
        rw [if_pos (by omega)]
        cases m with
        | true =>
          rw [nv_true, hval] at hv
          rw [if_pos rfl, if_pos hl', hr]
          by_cases h63 : z = -9223372036854775808
          · rw [if_pos (by omega), if_pos (by omega), h63]
          · rw [if_neg (by omega), if_neg (by omega)]
        | false =>
          rw [nv_false, hval] at hv
          rw [if_neg (by decide), if_neg (by omega)]
      · have hge : ¬ z.natAbs < 18446744073709551616 := fun h => hb2 (by have := c64.2 h; omega)
        rw [if_neg (by omega), if_neg (by omega)]

end Go.Proofs.YtpdgjhaimfpacaaDoor.Mg
