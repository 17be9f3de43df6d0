/- Words of a line: data.Words (strings.FieldsFunc, by the shelf's contract) and the law's own words. The law's own words of a line: a fold over its bytes. -/
import Derived.Test.YtknekneicecgiaaGreatDoorX0
import Derived.Test.YtknekneicecgiaaGreatDoorWMore
import Derived.WalkKit
import Derived.Below
import Derived.RegionTactic
import Derived.Laws.OwnMore
import Derived.Laws.NewBlocks
import Derived.Deep.LoopGhost
import Derived.Lib.Hide
import Derived.BigQuiet
import Derived.Deep.QuietTactic
namespace Go.Proofs.YtknekneicecgiaaGreatDoor.M
open Go.RowKit Go.Lib Go.Proofs.YtknekneicecgiaaGreatDoorW.PrintWords Go.Proofs.YtknekneicecgiaaGreatDoor.MB
set_option linter.unusedVariables false
set_option linter.unusedSimpArgs false
/-- What parts words. -/
def blank (x : Nat) : Bool := x == 32 || x == 9 || x == 13
set_option maxHeartbeats 1000000 in
theorem blank_pays (w : World) : PredAt Tryz.prog 60 #[] encR blank w := fun W r _ => by
  unfold FnGives
  by_cases h1 : r = 32
  · subst h1
    go_enter Tryz.func60, Tryz.ntmps60
    go_wp2
    go_ret
    exact ⟨rfl, 0, rfl⟩
  by_cases h2 : r = 9
  · subst h2
    go_enter Tryz.func60, Tryz.ntmps60
    go_wp2
    go_ret
    exact ⟨rfl, 0, rfl⟩
  by_cases h3 : r = 13
  · subst h3
    go_enter Tryz.func60, Tryz.ntmps60
    go_wp2
    go_ret
    exact ⟨rfl, 0, rfl⟩
  have e1 : ((r : Int) == 32) = false := by simp; omega
  have e2 : ((r : Int) == 9) = false := by simp; omega
  have e3 : ((r : Int) == 13) = false := by simp; omega
  have e4 : blank r = false := by simp [blank, h1, h2, h3]
  clear h1 h2 h3
  rw [e4]
  go_enter Tryz.func60, Tryz.ntmps60
  go_wp2
  go_ret
  exact ⟨rfl, 0, rfl⟩
def data_Words.f (s : ByteArray) : Option (List ByteArray) := if s.size ≤ 4294967296 then some (goFieldsP blank s) else none
theorem data_Words.calls (s : ByteArray) (r : List ByteArray) (w : World) (h : data_Words.f s = some r) :
    Calls Tryz.prog 38 #[.string s] w fun e w' => ∃ v : Value, e = .returned v ∧ Kd.R Kd.string 9 w' w.heap.size (fun _ => True) v r ∧ Below w.heap.size w w' := by
  unfold data_Words.f at h
  split at h
  · rename_i hs
    obtain rfl := Option.some.inj h
    have cF := Tryz.strings_FieldsFunc 60 #[] (enters_of Tryz.func60 (by kernel_rfl) rfl) blank s w hs (blank_pays w)
    generalize goFieldsP blank s = FS at cF ⊢
    go_enter Tryz.func38, Tryz.ntmps38
    go_wp2_with (go_at_call 59; refine cF.mono ?_; rintro e w' ⟨A, rfl, hA, hown, hb⟩)
    go_ret
    exact ⟨_, rfl, Kd.R_of_own (enc := Value.string) hown (fun _ _ => trivial), hb⟩
  · cases h
end Go.Proofs.YtknekneicecgiaaGreatDoor.M
namespace Go.Proofs.YtknekneicecgiaaGreatDoor.M
open Go.RowKit Go.Lib Go.Proofs.YtknekneicecgiaaGreatDoorW.PrintWords Go.Proofs.YtknekneicecgiaaGreatDoor.MB
set_option linter.unusedVariables false
set_option linter.unusedSimpArgs false
def isBlank (c : UInt8) : Bool := c == 32 || c == 9 || c == 13
def addTo (l : List ByteArray) (c : UInt8) : List ByteArray := l.set (l.length - 1) (l.getD (l.length - 1) ⟨#[]⟩ ++ ⟨#[c]⟩)
def wstep (st : List ByteArray × Bool) (c : UInt8) : List ByteArray × Bool :=
  if isBlank c then (st.1, false) else (addTo (if st.2 then st.1 else st.1 ++ [⟨#[]⟩]) c, true)
def wordsL (l : List UInt8) : List ByteArray × Bool := l.foldl wstep ([], false)
theorem wordsL_snoc (l : List UInt8) (c : UInt8) : wordsL (l ++ [c]) = wstep (wordsL l) c := by simp [wordsL]
theorem take_snoc (s : ByteArray) (k : Nat) (h : k < s.size) : s.data.toList.take (k + 1) = s.data.toList.take k ++ [s[k]] := by
  rw [List.take_succ_eq_append_getElem (by simpa using h)]; rfl
end Go.Proofs.YtknekneicecgiaaGreatDoor.M
