/- isohyetlaw04's fit is true: its run over the printed functions, by the kernel. -/
import Derived.Test.YtpdgjhaimfpacaaDoorA6
import Derived.KernelRfl
namespace Go.Proofs.YtpdgjhaimfpacaaDoor.Mg
open Go.RowKit Go.Proofs.YtpdgjhaimfpacaaDoorW.PrintWords Go.Proofs.YtpdgjhaimfpacaaDoorW.PrintMore Go.Proofs.YtpdgjhaimfpacaaDoor.MB Go.Proofs.YtpdgjhaimfpacaaDoor.M
theorem fit_100 : isohyetlaw04_fit.f 100 = some true := by kernel_rfl
theorem fit_z {k : Nat} (hk : 100 ≤ k) : isohyetlaw04_fit.f k = some true := by
  obtain ⟨d, rfl⟩ : ∃ d, k = 100 + d := ⟨k - 100, by omega⟩
  induction d with
  | zero => exact fit_100
  | succ d ih => exact isohyetlaw04_fit.mono (100 + d) true (ih (by omega))
end Go.Proofs.YtpdgjhaimfpacaaDoor.Mg
