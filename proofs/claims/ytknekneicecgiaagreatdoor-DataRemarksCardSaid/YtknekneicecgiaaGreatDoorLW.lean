/- A slice of structs of three ints, as it is handed in. -/
import Derived.Test.YtknekneicecgiaaGreatDoorA0
import Derived.WalkKit
import Derived.ProofKit
import Derived.ChangeArms
import Derived.Deep.Strs
namespace Go.Proofs.YtknekneicecgiaaGreatDoor
open Go.ChangeShapes Go.WideShapes Go.ChangeAt Go.RowKit Go.Proofs.YtknekneicecgiaaGreatDoorW.PrintWords Go.Proofs.YtknekneicecgiaaGreatDoorW.PrintMore Go.Proofs.YtknekneicecgiaaGreatDoor.M Go.Deep
theorem add_join (a : Addr) (i j : Nat) : (a.add i).add j = a.add (i + j) := by
  unfold Addr.add
  by_cases hi : i = 0
  · subst hi
    simp
  · by_cases hj : j = 0
    · subst hj
      simp
    · simp [hi, hj, Nat.add_assoc]
theorem open_s34 {H : Type} {enc : TypeId × Value → H} {P : Program} {w : World} {base : Nat} {spare : Nat → Bool} {held : Bool} {t e : TypeId} {f0 f1 f2 : Field} {a : Option Addr} {len cap : Nat} {d : DataW H} {p : List MemPlace}
    (ht : P.underlying t = some (.slice e)) (he : P.underlying e = some (.struct #[f0, f1, f2])) (ce : P.cellsOf e = 3) (o0 : f0.offset = 0) (o1 : f1.offset = 1) (o2 : f2.offset = 2) (c0 : P.cellsOf f0.type = 1) (c1 : P.cellsOf f1.type = 1) (c2 : P.cellsOf f2.type = 1)
    (u0 : P.underlying f0.type = some (.int .i64)) (u1 : P.underlying f1.type = some (.int .i64)) (u2 : P.underlying f2.type = some (.int .i64))
    (h : DataW.Trod enc P w base spare held t (.slice a len cap) d p) : ∃ l : List S34, l.length = len ∧ len ≤ cap ∧ Kd.C k34 w a len l := by
  obtain ⟨fuel, hf⟩ := h
  rcases DataW.trod_slice ht hf with ⟨hcs, _⟩ | ⟨a', len', cap', elems, rest, n, _, hcs, _, _, hl, hm, hlen, hel, _, _⟩
  · simp [Value.cells] at hcs
    obtain ⟨rfl, rfl, rfl⟩ := hcs
    exact ⟨[], rfl, Nat.le_refl _, rfl, by omega, fun h => absurd h (by omega)⟩
  · simp [Value.cells] at hcs
    obtain ⟨rfl, rfl, rfl⟩ := hcs
    have each : ∀ i, i < len → ∃ s : S34, ∀ j u, [Value.int .i64 s.f0, .int .i64 s.f1, .int .i64 s.f2][j]? = some u → w.cell? (a'.add (i * 3 + j)) = some u := by
      intro i hi
      have h1 := hel i hi
      rw [ce, List.getElem?_eq_getElem (by omega : i < elems.length)] at h1
      obtain ⟨cs, hc, ht3⟩ := Option.bind_eq_some_iff.1 h1
      obtain ⟨_, hl3, hcell⟩ := World.cells?_some hc
      obtain ⟨y0, y1, y2, m, _, _, g0, g1, g2⟩ := trod_struct3 he ht3
      match cs, hl3 with
      | [v0, v1, v2], _ =>
        simp [o0, o1, o2, c0, c1, c2] at g0 g1 g2
        obtain ⟨x0, e0, _, _⟩ := DataW.trod_int u0 g0
        obtain ⟨x1, e1, _, _⟩ := DataW.trod_int u1 g1
        obtain ⟨x2, e2, _, _⟩ := DataW.trod_int u2 g2
        simp at e0 e1 e2
        subst e0 e1 e2
        have k0 := hcell 0 (by omega)
        have k1 := hcell 1 (by omega)
        have k2 := hcell 2 (by omega)
        rw [add_join] at k0 k1 k2
        refine ⟨⟨x0, x1, x2⟩, fun j u hu => ?_⟩
        match j, hu with
        | 0, hu => exact k0.trans hu
        | 1, hu => exact k1.trans hu
        | 2, hu => exact k2.trans hu
        | j + 3, hu => simp at hu
    obtain ⟨f, hfs⟩ : ∃ f : Nat → S34, ∀ i, i < len → ∀ j u, [Value.int .i64 (f i).f0, .int .i64 (f i).f1, .int .i64 (f i).f2][j]? = some u → w.cell? (a'.add (i * 3 + j)) = some u :=
      ⟨fun i => if hi : i < len then (each i hi).choose else z34, fun i hi => by
        dsimp only
        rw [dif_pos hi]
        exact (each i hi).choose_spec⟩
    refine ⟨(List.range len).map f, by simp, hl, by simp, by simp only [maxLen] at hm; omega, fun hn => ⟨a', rfl, fun j p hj => ?_⟩⟩
    rw [List.getElem?_map] at hj
    obtain ⟨i, hi, rfl⟩ := Option.map_eq_some_iff.1 hj
    obtain ⟨hil, hi2⟩ := List.getElem?_eq_some_iff.1 hi
    simp at hi2 hil
    subst hi2
    exact ⟨_, rfl, k34_mk w (f j), fun i u hu => hfs j hil i u hu⟩
end Go.Proofs.YtknekneicecgiaaGreatDoor
