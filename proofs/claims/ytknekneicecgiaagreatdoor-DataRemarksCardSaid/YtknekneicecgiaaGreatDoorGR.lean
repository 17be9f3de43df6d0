/- What a world's draws and new blocks leave as it was, found by its form: short words for the printed texts. -/
import Derived.Test.YtknekneicecgiaaGreatDoorWWords
import Derived.Test.YtknekneicecgiaaGreatDoorWLast
import Derived.Test.YtknekneicecgiaaGreatDoorWN
import Derived.Test.YtknekneicecgiaaGreatDoorWMore
namespace Go.Proofs.YtknekneicecgiaaGreatDoorW.PrintWords
open Go.RowKit
set_option linter.unusedVariables false

/-- One world is the other one, with blocks made and drawn values behind. -/
class Gr (w w' : World) : Prop where
  b : Below w.heap.size w w'
instance gr0 (w : World) : Gr w w := ⟨Below.refl _ _⟩
instance gr1 (w W : World) (o : Obj) [h : Gr w W] : Gr w (W.alloc o) := ⟨below_alloc h.b o⟩
instance gr2 (w W : World) (n : Nat) [h : Gr w W] : Gr w (W.drewN n) := ⟨pw_below_drewN h.b n⟩
instance gr3 (w W : World) [h : Gr w W] : Gr w W.drew := ⟨below_drew1 h.b⟩
theorem gK {w w' : World} {g : Nat} {o : Obj} (h : w.heap[g]? = some o) [q : Gr w w'] : w'.heap[g]? = some o := blk_below h q.b
theorem gB {w W W' : World} (h : Below w.heap.size w W) [q : Gr W W'] : Below w.heap.size w W' := below_step h q.b
section
variable {α : Type} {d : Kd α} {e : TypeId} {w w' : World} {base : Nat} {ok : Nat → Prop} {v : Value} {xs : List α}
theorem gV (h : Kd.V d e w base ok v xs) [q : Gr w w'] : Kd.V d e w' base ok v xs := Kd.V_below h q.b
theorem gR (h : Kd.R d e w base ok v xs) [q : Gr w w'] : Kd.R d e w' base ok v xs := Kd.R_below h q.b
theorem gN (h : Kd.N d e w base ok v xs) [q : Gr w w'] : Kd.N d e w' base ok v xs := Kd.N_below h q.b
end
theorem aK {p : Prop} (h : p) : Aside0 p := ⟨h⟩
theorem bA {w W : World} (h : Below w.heap.size w W) (o : Obj) : Below w.heap.size w (W.alloc o) := below_alloc h o
theorem bN {B : Nat} {w W : World} (h : Below B w W) (n : Nat) : Below B w (W.drewN n) := pw_below_drewN h n
theorem bD {B : Nat} {w W : World} (h : Below B w W) : Below B w W.drew := below_drew1 h
theorem bS {w W : World} {g j : Nat} {v : Value} (h : Below w.heap.size w W) (hg : w.heap.size ≤ g) : Below w.heap.size w (W.setCell ⟨g, j, none⟩ v) := below_set h hg
theorem cell_back {W1 W2 : World} {g t : Nat} {cells : Array Value} {z : Nat × Nat} {ik : IntKind} (hg : ∀ k, k ≠ g → k < W1.heap.size → W2.heap[k]? = W1.heap[k]?) (hb : ∀ k, k = g ∨ W1.heap.size ≤ k → W2.heap[k]? = some (.cells cells t z) ∨ W2.heap[k]? = none)
    (hn : ∀ u ∈ cells.toList, ∀ n, u ≠ .int ik n) {a : Addr} {p : Int} (h : W2.cell? a = some (.int ik p)) : W1.cell? a = some (.int ik p) := by
  by_cases hk : a.block ≠ g ∧ a.block < W1.heap.size
  · have e := hg a.block hk.1 hk.2
    unfold World.cell? at h ⊢
    rwa [e] at h
  · rcases hb a.block (by omega) with e | e
    · unfold World.cell? at h
      rw [e] at h
      dsimp only at h
      split at h
      · cases h
      · exact absurd rfl (hn _ (Array.mem_toList_iff.2 (Array.mem_of_getElem? h)) p)
    · unfold World.cell? at h
      rw [e] at h
      cases h
/-- Whole numbers don't lie in a variable of a struct without any: told by what both hold. -/
theorem V_away {ik : IntKind} {e base : Nat} {W : World} {ok : Nat → Prop} {v : Value} {xs : List Int} (h : Kd.V (Kd.int ik) e W base ok v xs) {g t : Nat} {cells : Array Value} {z : Nat × Nat} (hg : W.heap[g]? = some (.cells cells t z)) (hn : ∀ u ∈ cells.toList, ∀ n, u ≠ .int ik n) :
    Kd.V (Kd.int ik) e W base (fun k => ok k ∧ k ≠ g) v xs := by
  refine Kd.V_map h (fun A hf W1 hW1 => ?_)
  have hlt : g < W.heap.size := (Array.getElem?_eq_some_iff.1 hg).1
  obtain ⟨W2, hW2⟩ : ∃ W2 : World, W2 = { W1 with heap := (W1.heap ++ Array.replicate (g + 1) (Obj.cells cells t z)).setIfInBounds g (Obj.cells cells t z) } := ⟨_, rfl⟩
  have h2 : W2.heap = (W1.heap ++ Array.replicate (g + 1) (Obj.cells cells t z)).setIfInBounds g (Obj.cells cells t z) := by rw [hW2]
  have hsame : ∀ k, k ≠ g → k < W1.heap.size → W2.heap[k]? = W1.heap[k]? := fun k hk hl => by
    rw [h2, Array.getElem?_setIfInBounds_ne (Ne.symm hk), Array.getElem?_append_left hl]
  have hblk : W2.heap[g]? = some (.cells cells t z) := by
    rw [h2, Array.getElem?_setIfInBounds_self, if_pos (by simp; omega)]
  have hrest : ∀ k, k = g ∨ W1.heap.size ≤ k → W2.heap[k]? = some (.cells cells t z) ∨ W2.heap[k]? = none := fun k hk => by
    by_cases e : k = g
    · rw [e]
      exact .inl hblk
    · have hk : W1.heap.size ≤ k := by omega
      rw [h2, Array.getElem?_setIfInBounds_ne (Ne.symm e), Array.getElem?_append_right hk, Array.getElem?_replicate]
      split
      · exact .inl rfl
      · exact .inr rfl
  have hC : Kd.C (Kd.int ik) W2 A xs.length xs := hf W2 (fun k hk hl => by
    by_cases e : k = g
    · rw [e, hblk, hg]
    · have h1 := hW1 k ⟨hk, e⟩ hl
      rw [hsame k e (heap_lt h1 hl), h1])
  obtain ⟨c1, c2, c3⟩ := hC
  refine ⟨c1, c2, fun hn0 => ?_⟩
  obtain ⟨ad, e, c4⟩ := c3 hn0
  refine ⟨ad, e, fun j p hj => ?_⟩
  obtain ⟨c, d1, d2, d3⟩ := c4 j p hj
  have hc : c = [.int ik p] := d2
  refine ⟨c, d1, d2, fun i u hu => ?_⟩
  have hu2 := d3 i u hu
  rw [hc] at hu
  cases i with
  | zero =>
    obtain rfl : (Value.int ik p) = u := by simpa using hu
    exact cell_back hsame hrest hn hu2
  | succ i => simp at hu
end Go.Proofs.YtknekneicecgiaaGreatDoorW.PrintWords
