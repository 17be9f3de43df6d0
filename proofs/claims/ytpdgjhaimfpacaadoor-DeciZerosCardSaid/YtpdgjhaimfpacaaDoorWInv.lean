-- The print's words, as far as this claim comes to them (pruned by prune.py).
import Derived.Test.YtpdgjhaimfpacaaDoorWLast
import Derived.Test.YtpdgjhaimfpacaaDoorWWords
namespace Go.Proofs.YtpdgjhaimfpacaaDoorW.PrintLast
/-- Number i is listed too. -/
def up (b : Nat → Bool) (i : Nat) : Nat → Bool := fun j => if j = i then true else b j
end Go.Proofs.YtpdgjhaimfpacaaDoorW.PrintLast
