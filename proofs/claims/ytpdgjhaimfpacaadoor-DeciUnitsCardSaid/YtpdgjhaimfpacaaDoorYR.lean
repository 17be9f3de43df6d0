/- Small laws on words and powers of two. -/
import Derived.Test.YtpdgjhaimfpacaaDoorX1
import Derived.Laws.Bits64b
namespace Go.Proofs.YtpdgjhaimfpacaaDoor.Mg
open Go.RowKit Go.Proofs.YtpdgjhaimfpacaaDoorW.PrintWords Go.Proofs.YtpdgjhaimfpacaaDoorW.PrintMore Go.Proofs.YtpdgjhaimfpacaaDoor.MB Go.Proofs.YtpdgjhaimfpacaaDoor.M
set_option linter.unusedVariables false
set_option linter.unusedSimpArgs false

theorem wu64_cast (n : Nat) : IntKind.u64.wrap (n : Int) = ((n % 18446744073709551616 : Nat) : Int) := by
  simp only [IntKind.wrap, IntKind.signed, IntKind.bits]
  simp
theorem shl_high (x k : Nat) (hk : k < 64) : x * 2 ^ k / 18446744073709551616 = x / 2 ^ (64 - k) := by
  have e : (18446744073709551616 : Nat) = 2 ^ k * 2 ^ (64 - k) := by rw [← Nat.pow_add, show k + (64 - k) = 64 from by omega]
  rw [e, Nat.mul_comm x, Nat.mul_div_mul_left _ _ (Nat.two_pow_pos k)]
theorem high_lt {x k : Nat} (hx : x < 18446744073709551616) (hk : k < 64) : x / 2 ^ (64 - k) < 2 ^ k := by
  rw [Nat.div_lt_iff_lt_mul (Nat.two_pow_pos _), ← Nat.pow_add, show k + (64 - k) = 64 from by omega]
  exact hx
theorem cast_pow (K : Nat) : ((2 : Int) ^ K) = ((2 ^ K : Nat) : Int) := by norm_cast

theorem val_drop_cons (y : List Int) (i : Nat) (h : i < y.length) : val (y.drop i) = (y.getD i 0).toNat + B * val (y.drop (i + 1)) := by
  rw [List.drop_eq_getElem_cons h]
  simp [val, List.getD_eq_getElem?_getD, h]
end Go.Proofs.YtpdgjhaimfpacaaDoor.Mg
