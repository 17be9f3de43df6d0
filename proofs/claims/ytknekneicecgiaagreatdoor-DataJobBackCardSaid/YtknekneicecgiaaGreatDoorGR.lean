/- What a world's draws and new blocks leave as it was, found by its form: short words for the printed texts. -/
import Derived.Test.YtknekneicecgiaaGreatDoorWWords
import Derived.Test.YtknekneicecgiaaGreatDoorWMore
namespace Go.Proofs.YtknekneicecgiaaGreatDoorW.PrintWords
open Go.RowKit
set_option linter.unusedVariables false

/-- One world is the other one, with blocks made and drawn values behind. -/
class Gr (w w' : World) : Prop where
  b : Below w.heap.size w w'
instance gr0 (w : World) : Gr w w := ⟨Below.refl _ _⟩
instance gr1 (w W : World) (o : Obj) [h : Gr w W] : Gr w (W.alloc o) := ⟨below_alloc h.b o⟩
instance gr2 (w W : World) (n : Nat) [h : Gr w W] : Gr w (W.drewN n) := ⟨pw_below_drewN h.b n⟩
instance gr3 (w W : World) [h : Gr w W] : Gr w W.drew := ⟨below_drew1 h.b⟩
theorem gK {w w' : World} {g : Nat} {o : Obj} (h : w.heap[g]? = some o) [q : Gr w w'] : w'.heap[g]? = some o := blk_below h q.b
theorem gB {w W W' : World} (h : Below w.heap.size w W) [q : Gr W W'] : Below w.heap.size w W' := below_step h q.b
section
variable {α : Type} {d : Kd α} {e : TypeId} {w w' : World} {base : Nat} {ok : Nat → Prop} {v : Value} {xs : List α}
theorem gV (h : Kd.V d e w base ok v xs) [q : Gr w w'] : Kd.V d e w' base ok v xs := Kd.V_below h q.b
theorem gR (h : Kd.R d e w base ok v xs) [q : Gr w w'] : Kd.R d e w' base ok v xs := Kd.R_below h q.b
end
theorem bA {w W : World} (h : Below w.heap.size w W) (o : Obj) : Below w.heap.size w (W.alloc o) := below_alloc h o
theorem bN {B : Nat} {w W : World} (h : Below B w W) (n : Nat) : Below B w (W.drewN n) := pw_below_drewN h n
theorem bD {B : Nat} {w W : World} (h : Below B w W) : Below B w W.drew := below_drew1 h
theorem bS {w W : World} {g j : Nat} {v : Value} (h : Below w.heap.size w W) (hg : w.heap.size ≤ g) : Below w.heap.size w (W.setCell ⟨g, j, none⟩ v) := below_set h hg
end Go.Proofs.YtknekneicecgiaaGreatDoorW.PrintWords
