/- The law's own words of a line: a fold over its bytes. -/
import Derived.Test.YtknekneicecgiaaGreatDoorHA
import Derived.BigQuiet
import Derived.Deep.QuietTactic
namespace Go.Proofs.YtknekneicecgiaaGreatDoor.M
open Go.RowKit Go.Lib Go.Proofs.YtknekneicecgiaaGreatDoorW.PrintWords Go.Proofs.YtknekneicecgiaaGreatDoor.MB
set_option linter.unusedVariables false
set_option linter.unusedSimpArgs false
def isBlank (c : UInt8) : Bool := c == 32 || c == 9 || c == 13
def addTo (l : List ByteArray) (c : UInt8) : List ByteArray := l.set (l.length - 1) (l.getD (l.length - 1) ⟨#[]⟩ ++ ⟨#[c]⟩)
def wstep (st : List ByteArray × Bool) (c : UInt8) : List ByteArray × Bool :=
  if isBlank c then (st.1, false) else (addTo (if st.2 then st.1 else st.1 ++ [⟨#[]⟩]) c, true)
end Go.Proofs.YtknekneicecgiaaGreatDoor.M
