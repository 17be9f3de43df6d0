/- Words of a line: data.Words (strings.FieldsFunc, by the shelf's contract) and the law's own words. -/
import Derived.Test.YtknekneicecgiaaGreatDoorX0
import Derived.Test.YtknekneicecgiaaGreatDoorWMore
import Derived.Test.YtknekneicecgiaaGreatDoorWKept
import Derived.WalkKit
import Derived.Below
import Derived.RegionTactic
import Derived.Laws.OwnMore
import Derived.Laws.NewBlocks
import Derived.Deep.LoopGhost
import Derived.Lib.Hide
namespace Go.Proofs.YtknekneicecgiaaGreatDoor.M
open Go.RowKit Go.Lib Go.Proofs.YtknekneicecgiaaGreatDoorW.PrintWords Go.Proofs.YtknekneicecgiaaGreatDoor.MB
set_option linter.unusedVariables false
set_option linter.unusedSimpArgs false
/-- What parts words. -/
def blank (x : Nat) : Bool := x == 32 || x == 9 || x == 13
set_option maxHeartbeats 1000000 in
theorem blank_pays (w : World) : PredAt Tryz.prog 60 #[] encR blank w := fun W r _ => by
  unfold FnGives
  by_cases h1 : r = 32
  · subst h1
    go_enter Tryz.func60, Tryz.ntmps60
    go_wp2
    go_ret
    exact ⟨rfl, 0, rfl⟩
  by_cases h2 : r = 9
  · subst h2
    go_enter Tryz.func60, Tryz.ntmps60
    go_wp2
    go_ret
    exact ⟨rfl, 0, rfl⟩
  by_cases h3 : r = 13
  · subst h3
    go_enter Tryz.func60, Tryz.ntmps60
    go_wp2
    go_ret
    exact ⟨rfl, 0, rfl⟩
  have e1 : ((r : Int) == 32) = false := by simp; omega
  have e2 : ((r : Int) == 9) = false := by simp; omega
  have e3 : ((r : Int) == 13) = false := by simp; omega
  have e4 : blank r = false := by simp [blank, h1, h2, h3]
  clear h1 h2 h3
  rw [e4]
  go_enter Tryz.func60, Tryz.ntmps60
  go_wp2
  go_ret
  exact ⟨rfl, 0, rfl⟩
def data_Words.f (s : ByteArray) : Option (List ByteArray) := if s.size ≤ 4294967296 then some (goFieldsP blank s) else none
theorem data_Words.calls (s : ByteArray) (r : List ByteArray) (w : World) (h : data_Words.f s = some r) :
    Calls Tryz.prog 38 #[.string s] w fun e w' => ∃ v : Value, e = .returned v ∧ Kd.R Kd.string 9 w' w.heap.size (fun _ => True) v r ∧ Below w.heap.size w w' := by
  unfold data_Words.f at h
  split at h
  · rename_i hs
    obtain rfl := Option.some.inj h
    have cF := Tryz.strings_FieldsFunc 60 #[] (enters_of Tryz.func60 (by kernel_rfl) rfl) blank s w hs (blank_pays w)
    generalize goFieldsP blank s = FS at cF ⊢
    go_enter Tryz.func38, Tryz.ntmps38
    go_wp2_with (go_at_call 59; refine cF.mono ?_; rintro e w' ⟨A, rfl, hA, hown, hb⟩)
    go_ret
    exact ⟨_, rfl, Kd.R_of_own (enc := Value.string) hown (fun _ _ => trivial), hb⟩
  · cases h
end Go.Proofs.YtknekneicecgiaaGreatDoor.M
