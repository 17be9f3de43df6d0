-- The print's words, as far as this claim comes to them (pruned by prune.py).
import Derived.Test.YtpgmhhkkbjbpgaaWInv
import Derived.Test.YtpgmhhkkbjbpgaaWN
namespace Go.Proofs.YtpgmhhkkbjbpgaaW.PrintWords
open Go.RowKit
end Go.Proofs.YtpgmhhkkbjbpgaaW.PrintWords
namespace Go.Proofs.YtpgmhhkkbjbpgaaW.PrintLast
section
variable {ops : Array Oper} {a : Act} {o og : Oper} {g : Nat} {t : Tmp} {u : Bool}
/-- A guarded operation whose guard has yielded what it wants. -/
theorem wanted_on (hg : o.guard = some (g, u)) (ho : ops[g]? = some og) (hd : og.dst = some t) (hv : a.tmps[t]? = some (.bool u)) : Region.wanted o (yielded ops a.tmps) = true := by
  simp [Region.wanted, hg, yielded, ho, hd, hv]
end
end Go.Proofs.YtpgmhhkkbjbpgaaW.PrintLast
