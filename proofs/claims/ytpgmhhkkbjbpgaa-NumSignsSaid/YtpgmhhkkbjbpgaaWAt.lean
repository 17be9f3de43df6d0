-- The print's words, as far as this claim comes to them (pruned by prune.py).
import Derived.Test.YtpgmhhkkbjbpgaaWN
namespace Go.Proofs.YtpgmhhkkbjbpgaaW.PrintWords
open Go.RowKit
section
variable {w w' u : World} {m B g : Nat} {o : Obj} {row : Option Nat} {S : Nat → Prop} {a : Addr} {v : Value}
theorem cell_at (hq : w.drewN m = w') (h : w.cell? a = some v) : w'.cell? a = some v := by subst hq; exact h
end
namespace Kd
end Kd
end Go.Proofs.YtpgmhhkkbjbpgaaW.PrintWords
