/- mag.Div by one word that isn't 0. -/
import Derived.Test.YtpdgjhaimfpacaaDoorYU
import Derived.Test.YtpdgjhaimfpacaaDoorYB
import Derived.Test.YtpdgjhaimfpacaaDoorA5
namespace Go.Proofs.YtpdgjhaimfpacaaDoor.Mg
open Go.RowKit Go.Proofs.YtpdgjhaimfpacaaDoorW.PrintWords Go.Proofs.YtpdgjhaimfpacaaDoorW.PrintMore Go.Proofs.YtpdgjhaimfpacaaDoor.MB Go.Proofs.YtpdgjhaimfpacaaDoor.M
set_option linter.unusedVariables false
set_option linter.unusedSimpArgs false

theorem Div_one {a : List Int} {x y k : Nat} (h : Has a x) (hy0 : y ≠ 0) (hy : y < 18446744073709551616) (hk : 20001 ≤ k) : mag_Div.f k a [(y : Int)] = some (ofNat (x / y), ofNat (x % y)) := by
  have ha := h.ok
  have hb : Ok [(y : Int)] := Ok.cons (by omega) Ok.nil
  have hvb : val [(y : Int)] = y := by simp [val]
  have hla := le_LEN h.len
  have l1 := length_ofNat_val ha
  have hl64 := h.len
  have hva := h.val
  rw [hva] at l1
  have hlaU := hla
  unfold LEN at hlaU
  obtain ⟨k, rfl⟩ : ∃ n, k = n + 1 := ⟨k - 1, by omega⟩
  have small : ∀ z, mag_Div.j0 (k + 1) (ofNat x) z true = some (ofNat 0, ofNat x) := by
    intro z
    simp only [mag_Div.j0]
    rw [if_pos trivial, if_pos (by simp only [List.length_nil]; omega), List.nil_append, ofNat_zero]
  have hly : (ofNat y).length = 1 := by rw [ofNat_small hy0 hy]; rfl
  unfold mag_Div.f
  rw [right_f (by omega) (by omega) ha, Option.bind_some, right_f (by simp) (by simp; omega) hb, Option.bind_some, hva, hvb, if_neg (by omega), Cmp_f (Ok_ofNat _) (Ok_ofNat _) (by unfold LEN; omega) (by unfold LEN; omega) (by omega), Option.bind_some, val_ofNat, val_ofNat]
  by_cases hlt : x < y
  · have e : decide (cmpN x y < 0) = true := by unfold cmpN; rw [if_pos hlt]; decide
    rw [e, small, Nat.div_eq_of_lt hlt, Nat.mod_eq_of_lt hlt]
  · have e : decide (cmpN x y < 0) = false := by
      unfold cmpN
      rw [if_neg hlt]
      split <;> decide
    have e3 : rd (ofNat y) 0 = (y : Int) := by rw [ofNat_small hy0 hy]; rfl
    have hm := Nat.mod_lt x (Nat.pos_of_ne_zero hy0)
    rw [e]
    simp only [mag_Div.j0]
    rw [if_neg (by decide), hly, if_pos (by omega), if_pos (by omega), e3, word_f (Ok_ofNat _) (by unfold LEN; omega) (by omega) hy (by omega), Option.bind_some]
    dsimp only
    rw [val_ofNat, Of_f (Int.natCast_nonneg _) (by omega) (by omega), Option.bind_some, Int.toNat_natCast]
end Go.Proofs.YtpdgjhaimfpacaaDoor.Mg
