/- The small case that each Level statement tries first is true: its printed functions run in the kernel. -/
import Derived.Test.YtpdgjhaimfpacaaGreatDoorA6
import Derived.KernelRfl
namespace Go.Proofs.YtpdgjhaimfpacaaGreatDoor.Mg
open Go.RowKit Go.Proofs.YtpdgjhaimfpacaaGreatDoor.MB Go.Proofs.YtpdgjhaimfpacaaGreatDoor.M
theorem fit_100 : isohyetlaw18_fit.f 100 = some true := by kernel_rfl
theorem fit_l {k : Nat} (hk : 100 ≤ k) : isohyetlaw18_fit.f k = some true := by
  obtain ⟨d, rfl⟩ : ∃ d, k = 100 + d := ⟨k - 100, by omega⟩
  induction d with
  | zero => exact fit_100
  | succ d ih => exact isohyetlaw18_fit.mono (100 + d) true (ih (by omega))
end Go.Proofs.YtpdgjhaimfpacaaGreatDoor.Mg
