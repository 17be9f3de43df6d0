-- The print's words, as far as this claim comes to them (pruned by prune.py).
import Derived.Test.YtknekneicecgiaaGreatDoorWLast
import Derived.Test.YtknekneicecgiaaGreatDoorWWords
namespace Go.Proofs.YtknekneicecgiaaGreatDoorW.PrintLast
/-- Number i is listed too. -/
def up (b : Nat → Bool) (i : Nat) : Nat → Bool := fun j => if j = i then true else b j
end Go.Proofs.YtknekneicecgiaaGreatDoorW.PrintLast
