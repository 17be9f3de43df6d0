/- Two rows into a new one: append onto a cut whose capacity is its end. -/
import Derived.Test.YtpdgjhaimfpacaaGreatDoorX0
import Derived.Test.YtpdgjhaimfpacaaGreatDoorWMore
import Derived.Deep.RegionLawGrows
namespace Go.Proofs.YtpdgjhaimfpacaaGreatDoor.MB
open Go.RowKit Go.Proofs.YtpdgjhaimfpacaaGreatDoorW.PrintWords
set_option linter.unusedVariables false
theorem cut_full {P : Program} (t e : TypeId) (kh : IntKind) {i : TypeInfo} (ht : P.underlying t = some (.slice e)) (hi : P.info? e = some i) (A : Option Addr) (n c : Nat) (j : Int) (h0 : 0 ≤ j) (hm : j ≤ n) (hc : n ≤ c) :
    ∀ W : World, (Instr.slice t (.slice A n c) none (some (.int kh j)) (some (.int kh j))).run P W = .ok (.slice A j.toNat j.toNat) W := by
  intro W
  have hel : P.elem t = e := by simp [Program.elem, ht]
  have hu : P.underlying t = some (.slice (P.elem t)) := by rw [hel]; exact ht
  have ha : (A.map fun x => x.add 0) = A := by cases A <;> simp [Addr.add]
  rw [run_slice_hm W t A n c hu kh kh j j h0 (Int.le_refl _) (by omega), hel]
  simp [sizeOf, typeInfo, hi, sliced, Result.andThen, ha]
end Go.Proofs.YtpdgjhaimfpacaaGreatDoor.MB
namespace Go.Proofs.YtpdgjhaimfpacaaGreatDoor.M
open Go.RowKit Go.Proofs.YtpdgjhaimfpacaaGreatDoorW.PrintWords Go.Proofs.YtpdgjhaimfpacaaGreatDoor.MB
def row_concat.f (a b : List Int) : Option (List Int) := if 0 < b.length ∧ (a.length + b.length) * 8 ≤ 140737488355328 then some (a ++ b) else none
theorem concat_step {P : Program} {ops : Array Oper} {o : Oper} {a : Act} {w : World} {K : Act → World → Prop} {Q : Exit → Act → World → Prop} {E : Prop} (hg : o.guard = none) (s x : Operand) (t e : TypeId)
    (hop : o.op = Op.call { callee := Callee.builtin Builtin.append, args := #[s, x], argTypes := #[t, t] }) (ht : P.underlying t = some (.slice e)) (hinfo : (P.info? e).map (fun i => (i.zero, i.size, i.bytes)) = some (some (.int .i64 0), 1, 8))
    (A1 A2 : Option Addr) (l1 l2 r : List Int) (c2 : Nat) (hs : a.eval s = .slice A1 l1.length l1.length) (hx : a.eval x = .slice A2 l2.length c2) (hC1 : Kd.C (Kd.int .i64) w A1 l1.length l1) (hC2 : Kd.C (Kd.int .i64) w A2 l2.length l2) (h : row_concat.f l1 l2 = some r)
    (hK : ∀ v' w', Kd.R (Kd.int .i64) e w' w.heap.size (fun _ => True) v' r → Below w.heap.size w w' → K (a.put o.dst v') w') :
    if Region.wanted o (yielded ops a.tmps) = true then Oper.wp P o a w K Q else E := by
  unfold row_concat.f at h
  split at h
  · rename_i hb
    obtain ⟨hb0, hb1⟩ := hb
    obtain rfl := Option.some.inj h
    obtain ⟨i, hi, hz⟩ := Option.map_eq_some_iff.1 hinfo
    simp only [Prod.mk.injEq] at hz
    obtain ⟨hz0, hz1, hz2⟩ := hz
    obtain ⟨b2, o2, rfl, hc2⟩ := C_cells hC2 hb0
    have cells : ∀ (b o : Nat) (l : List Int), (∀ j x, l[j]? = some x → w.cell? ⟨b, o + j, none⟩ = some (Value.int .i64 x)) → ∀ j u, (l.map (Value.int .i64))[j]? = some u → w.cell? ((⟨b, o, none⟩ : Addr).add j) = some u := fun b o l hc j u hu => by
      rw [List.getElem?_map] at hu
      obtain ⟨y, hy, rfl⟩ := Option.map_eq_some_iff.1 hu
      rw [addr_add]
      exact hc j y hy
    refine step_append_grows hg s x t hop e i (.int .i64 0) 1 8 ht hi hz0 hz1 hz2 rfl (by decide) A1 l1.length l1.length (l1.map (Value.int .i64)) hs ?_ (by simp) ?_ ⟨b2, o2, none⟩ l2.length c2 (l2.map (Value.int .i64)) hx (by simp) (cells b2 o2 l2 hc2) ?_ (by omega) (by unfold maxLen; omega) hb1 ?_
    · intro hA
      have : l1.length = 0 := by
        rcases Nat.eq_zero_or_pos l1.length with h0 | h0
        · exact h0
        · obtain ⟨b1, o1, e1, _⟩ := C_cells hC1 h0
          rw [hA] at e1
          cases e1
      omega
    · intro b hA j u hu
      have h0 : 0 < l1.length := by
        have := (List.getElem?_eq_some_iff.1 hu).1
        rw [List.length_map] at this
        omega
      obtain ⟨b1, o1, e1, hc1⟩ := C_cells hC1 h0
      rw [hA] at e1
      obtain rfl := Option.some.inj e1
      exact cells b1 o1 l1 hc1 j u hu
    · intro u hu
      obtain ⟨y, _, rfl⟩ := List.mem_map.1 hu
      rfl
    · intro v' w' own hgr
      refine hK v' w' (Kd.R_of_own (enc := Value.int .i64) ?_ (fun _ _ => trivial)) ⟨hgr.os, hgr.tape, hgr.output, hgr.size, fun k hk => hgr.block k hk (by simp)⟩
      rw [← List.map_append] at own
      rw [List.length_append]
      exact own
  · cases h
end Go.Proofs.YtpdgjhaimfpacaaGreatDoor.M
