/- What the rows' listed table gives the walks: it lies in its variable, cell by cell; and the door's own heap meets it. -/
import Derived.Test.YtfkpbdapinpkdaaDoorRows
import Derived.Test.YtfkpbdapinpkdaaDoorTie
import Derived.Test.YtfkpbdapinpkdaaDoorX0
import Derived.ProofKit
import Derived.LaidMore
import Derived.OpenShut
import Derived.Stop.Joined
namespace Go.Proofs.YtfkpbdapinpkdaaDoor
open Go.ChangeShapes Go.WideShapes Go.ChangeAt Go.RowKit
theorem own : ownKnob Tryd.prog.godebug = none := by kernel_rfl
theorem gTab : Tryd.prog.globalNamed "math/bits.deBruijn64tab" = some 0 := by kernel_rfl
theorem tTab : (Tryd.prog.globals[0]?).map (·.type) = some 58 := by kernel_rfl
def laidL : List (String × DataW Unit) := [("math/bits.deBruijn64tab", Rows.laid_math_bits_deBruijn64tab)]
theorem door_met (os : Os) (args : Array Value) : laidMetH Tryd.prog laidL ((World.doorLaid Tryd.prog 400 os).forCall (fun _ _ => 0) ⟨#[], args, []⟩).memory :=
  laidMetH_of_parts3 (fuel := 8) (laidMet_of_run' 8 (by kernel_rfl) (by kernel_rfl)) (by kernel_rfl) (by kernel_rfl)
theorem laid_eq : (Rows.laid_math_bits_deBruijn64tab : DataW Unit) = .agg (Lib.deBruijn64tab.map fun k => .lit (.int .u8 ((k : Nat) : Int))) := by kernel_rfl
theorem tab_len : Lib.deBruijn64tab.length = 64 := by decide
theorem of_laid {W : World} (h : laidMetH Tryd.prog laidL W) : MB.TabW W := by
  rw [MakeChecks.laidMetH_plain _ _ _ (by kernel_rfl)] at h
  obtain ⟨ps, ⟨g0, t0, cs0, f0, p0, q0, hg0, ht0, hv0, hd0, _, _⟩, _, _⟩ := h
  obtain rfl := Option.some.inj (gTab.symm.trans hg0)
  obtain rfl := Option.some.inj (tTab.symm.trans ht0)
  obtain ⟨xs, m1, rfl, hx1, hlen, hn3, hel⟩ := DataW.trod_array Tryd.underlying58 hd0
  have c5 : Tryd.prog.cellsOf 5 = 1 := by kernel_rfl
  simp only [Prod.mk.injEq] at hx1
  have hagg : Lib.deBruijn64tab.map (fun k => (.lit (.int .u8 ((k : Nat) : Int)) : DataW Unit)) = xs.map (·.1) := by
    have := laid_eq.symm.trans hx1.1
    injection this
  have cell : ∀ j, j < 64 → W.cell? ⟨0, j, none⟩ = some (.int .u8 ((Lib.deBruijn64tab.getD j 0 : Nat) : Int)) := by
    intro j hj
    have h0 := hel j hj
    have hl := congrArg (fun l : List (DataW Unit) => l[j]?) hagg
    simp only [List.getElem?_map] at hl
    rw [List.getElem?_eq_getElem (show j < Lib.deBruijn64tab.length by rw [tab_len]; exact hj)] at hl
    rw [c5, Nat.mul_one] at h0
    cases hx : xs[j]? with
    | none => rw [hx] at hl; cases hl
    | some x =>
      rw [hx] at h0 hl
      obtain ⟨k, e1, e2, _⟩ := DataW.trod_int Tryd.underlying5 h0
      rw [e2] at hl
      have hk : k = ((Lib.deBruijn64tab.getD j 0 : Nat) : Int) := by
        rw [List.getD_eq_getElem?_getD, List.getElem?_eq_getElem (show j < Lib.deBruijn64tab.length by rw [tab_len]; exact hj)]
        simpa using hl.symm
      subst hk
      rw [World.var?_cell hg0 hv0 j]
      have h1 : (cs0.toList.drop j).head? = some (.int .u8 ((Lib.deBruijn64tab.getD j 0 : Nat) : Int)) := by
        cases hd : cs0.toList.drop j with
        | nil => rw [hd] at e1; simp at e1
        | cons c l => rw [hd] at e1; simp at e1; rw [e1]; rfl
      rw [List.head?_drop] at h1
      simpa using h1
  refine ⟨fun j hj => cell j hj, ?_⟩
  have := cell 0 (by decide)
  unfold World.cell? at this
  rcases Nat.lt_or_ge 0 W.heap.size with h | h
  · exact h
  · rw [Array.getElem?_eq_none h] at this
    cases this
end Go.Proofs.YtfkpbdapinpkdaaDoor
