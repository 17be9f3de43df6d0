/- What a law of package data begins with: one sample is read, and a job's wrong method is told at its line. -/
import Derived.Test.YtknekneicecgiaaGreatDoorHV
import Derived.Test.YtknekneicecgiaaGreatDoorHS
namespace Go.Proofs.YtknekneicecgiaaGreatDoor.M
open Go.RowKit Go.Lib Go.Proofs.YtknekneicecgiaaGreatDoorW.PrintWords Go.Proofs.YtknekneicecgiaaGreatDoorW.PrintLast Go.Proofs.YtknekneicecgiaaGreatDoor.MB
set_option linter.unusedVariables false
set_option linter.unusedSimpArgs false
def rs0 : RS := ⟨0, 0, [], 0, 0, 0, 0, 0, []⟩
def jobV (m s : Int) (vl : Value) (gx gy gc gcols grows : Int) : Value := .agg #[.int .i64 m, .int .i64 s, vl, .int .i64 gx, .int .i64 gy, .int .i64 gc, .int .i64 gcols, .int .i64 grows]
def zeroCells : Array Value := #[.int .i64 0, .int .i64 0, .slice none 0 0, .int .i64 0, .int .i64 0, .int .i64 0, .int .i64 0, .int .i64 0]
def jobW (w : World) (xy z : Int) : World := ((w.alloc (.cells zeroCells 43)).alloc (.map #[] 0)).alloc (.cells #[.int .i64 0, .int .i64 0, .slice none 0 0, .int .i64 0, .int .i64 0, .int .i64 0, .int .i64 0, .int .i64 0, .int .i64 xy, .int .i64 z, .map (some (w.heap.size + 1))] 70)
theorem job_below (w : World) (xy z : Int) : Below w.heap.size w (jobW w xy z) := below_alloc (below_alloc (below_alloc (Below.refl w.heap.size w) _) _) _
theorem job_size (w : World) (xy z : Int) : (jobW w xy z).heap.size = w.heap.size + 3 := by unfold jobW; simp
theorem job_start {w : World} (xy z : Int) (hT : TabW w) : RSInv xy z (w.heap.size + 2) (w.heap.size + 1) w.heap.size (fun k => k = w.heap.size + 2 ∨ k = w.heap.size + 1 ∨ k = 2 ∨ k = 0) rs0 (jobW w xy z) := by
  refine ⟨.slice none 0 0, ?_, ?_, ⟨by simp, by simp, by simp, by simp⟩, tab_below hT (job_below w xy z), Kd.R_nil _ _ _ _ _⟩
  · have hs : ((w.alloc (.cells zeroCells 43)).alloc (.map #[] 0)).heap.size = w.heap.size + 2 := by simp
    have := heap_alloc_new ((w.alloc (.cells zeroCells 43)).alloc (.map #[] 0)) (.cells #[.int .i64 0, .int .i64 0, .slice none 0 0, .int .i64 0, .int .i64 0, .int .i64 0, .int .i64 0, .int .i64 0, .int .i64 xy, .int .i64 z, .map (some (w.heap.size + 1))] 70)
    rw [hs] at this
    exact this
  · have hs : (w.alloc (.cells zeroCells 43)).heap.size = w.heap.size + 1 := by simp
    have h := (World.ownsMap_made (w.alloc (.cells zeroCells 43)) Tryz.prog 9 (plainElem (H := Unit) Tryz.prog 4)).alloc (.cells #[.int .i64 0, .int .i64 0, .slice none 0 0, .int .i64 0, .int .i64 0, .int .i64 0, .int .i64 0, .int .i64 0, .int .i64 xy, .int .i64 z, .map (some (w.heap.size + 1))] 70)
    rw [hs] at h
    exact h
theorem job_zero (w : World) (xy z : Int) : (jobW w xy z).heap[w.heap.size]? = some (.cells zeroCells 43) :=
  (heap_alloc_old _ _ (by simp; omega)).trans ((heap_alloc_old _ _ (by simp)).trans (heap_alloc_new w _))
theorem zero_set (j : Nat) (v : Value) (h : zeroCells[j]? = some v) : zeroCells.setIfInBounds j v = zeroCells := by
  apply Array.ext_getElem?
  intro i
  rw [Array.getElem?_setIfInBounds]
  split
  · rename_i hij
    subst hij
    split
    · exact h.symm
    · rename_i hlt
      rw [Array.getElem?_eq_none (by omega)] at h
      cases h
  · rfl
theorem one_reset {w : World} {b : Nat} (g : w.heap[b]? = some (.cells zeroCells 43 (0, 0))) (j : Nat) (v : Value) (h : zeroCells[j]? = some v) : (w.setCell ⟨b, j, none⟩ v).heap[b]? = some (.cells zeroCells 43 (0, 0)) := by
  have h1 := blk_set g j v
  rwa [zero_set j v h] at h1
theorem job_reset {w : World} {b : Nat} (g : w.heap[b]? = some (.cells zeroCells 43 (0, 0))) : (((((((((w.setCell ⟨b, 0, none⟩ (.int .i64 0)).setCell ⟨b, 1, none⟩ (.int .i64 0)).setCell ⟨b, 2, none⟩ (.slice none 0 0)).setCell ⟨b, 3, none⟩ (.int .i64 0)).setCell ⟨b, 4, none⟩ (.int .i64 0)).setCell ⟨b, 5, none⟩ (.int .i64 0)).setCell ⟨b, 6, none⟩ (.int .i64 0)).setCell ⟨b, 7, none⟩ (.int .i64 0))).heap[b]? = some (.cells zeroCells 43 (0, 0)) := by
  have g := one_reset g 0 (.int .i64 0) rfl
  have g := one_reset g 1 (.int .i64 0) rfl
  have g := one_reset g 2 (.slice none 0 0) rfl
  have g := one_reset g 3 (.int .i64 0) rfl
  have g := one_reset g 4 (.int .i64 0) rfl
  have g := one_reset g 5 (.int .i64 0) rfl
  have g := one_reset g 6 (.int .i64 0) rfl
  have g := one_reset g 7 (.int .i64 0) rfl
  exact g
theorem job_resetB {B b : Nat} {w0 w : World} (h : Below B w0 w) (hb : B ≤ b) : Below B w0 (((((((((w.setCell ⟨b, 0, none⟩ (.int .i64 0)).setCell ⟨b, 1, none⟩ (.int .i64 0)).setCell ⟨b, 2, none⟩ (.slice none 0 0)).setCell ⟨b, 3, none⟩ (.int .i64 0)).setCell ⟨b, 4, none⟩ (.int .i64 0)).setCell ⟨b, 5, none⟩ (.int .i64 0)).setCell ⟨b, 6, none⟩ (.int .i64 0)).setCell ⟨b, 7, none⟩ (.int .i64 0))) := by
  have h := h.setCell (p := ⟨b, 0, none⟩) hb (.int .i64 0)
  have h := h.setCell (p := ⟨b, 1, none⟩) hb (.int .i64 0)
  have h := h.setCell (p := ⟨b, 2, none⟩) hb (.slice none 0 0)
  have h := h.setCell (p := ⟨b, 3, none⟩) hb (.int .i64 0)
  have h := h.setCell (p := ⟨b, 4, none⟩) hb (.int .i64 0)
  have h := h.setCell (p := ⟨b, 5, none⟩) hb (.int .i64 0)
  have h := h.setCell (p := ⟨b, 6, none⟩) hb (.int .i64 0)
  have h := h.setCell (p := ⟨b, 7, none⟩) hb (.int .i64 0)
  exact h
set_option maxHeartbeats 4000000 in
set_option maxRecDepth 100000 in
theorem readjob_err (vf : RS → ByteArray → List ByteArray → Option (RS × Int)) (s : ByteArray) (xy z line e : Int) (st' : RS) (w : World) (HT0 : TabW w) (hv : ValueOk Tryz.prog 49 vf xy z (w.heap.size + 2) (w.heap.size + 1) w.heap.size)
    (h : data_each.f (lineF vf) s rs0 = some (st', line, e)) (he : e ≠ 0) :
    Calls Tryz.prog 13 #[.string s, .int .i64 xy, .int .i64 z] w fun en w' => en = .returned (.tuple #[jobV 0 0 (.slice none 0 0) 0 0 0 0 0, .int .i64 line, .int .i64 e]) ∧ Below w.heap.size w w' := by
  have HT := Aside0.mk HT0
  have HV := Aside0.mk hv
  have H := Aside0.mk h
  have he1 : (e != 0) = true := bne_iff_ne.mpr he
  have HI := Aside0.mk (job_start xy z HT0)
  have HTB := Aside0.mk (tab_below HT0 (job_below w xy z))
  have hmm := @run_makeMap Tryz.prog
  have hmf : ∀ (fn : Fn) (first cap : Array Value) (w : World), (Instr.makeFunc fn first cap).run Tryz.prog w = .ok (.func fn first cap) w := fun _ _ _ _ => rfl
  have HLt : Aside0 (w.heap.size < (jobW w xy z).heap.size) := ⟨by rw [job_size]; omega⟩
  have HNo : Aside0 (¬ (w.heap.size = w.heap.size + 2 ∨ w.heap.size = w.heap.size + 1 ∨ w.heap.size = 2 ∨ w.heap.size = 0)) := ⟨by have := HT0.2.1; omega⟩
  clear HT0 hv h he
  go_enter Tryz.func13, Tryz.ntmps13
  go_wp2_with (go_at_call 21; refine (data_each.calls 27 _ #[] (enters_of Tryz.func27 (by kernel_rfl) rfl) _ _ (rs_keeps _ _ _ _ _) _ (line_steps vf xy z _ _ w.heap.size HT.out.2.1 (by omega) HV.out) _ _ _ _ _ _ (jobW w xy z) (by rw [job_size]; omega) HTB.out HI.out H.out).mono ?_; rintro en w' ⟨rfl, hI2, hS2⟩; have g := (hS2.2.2 _ HLt.out HNo.out).trans (job_zero w xy z); have z0 : w'.cell? ⟨w.heap.size, 0, none⟩ = some (.int .i64 0) := blk_cell g 0; have y0 : w'.frozen? ⟨w.heap.size, 0, none⟩ = false := blk_frozen g 0; have z1 : w'.cell? ⟨w.heap.size, 1, none⟩ = some (.int .i64 0) := blk_cell g 1; have y1 : w'.frozen? ⟨w.heap.size, 1, none⟩ = false := blk_frozen g 1; have z2 : w'.cell? ⟨w.heap.size, 2, none⟩ = some (.slice none 0 0) := blk_cell g 2; have y2 : w'.frozen? ⟨w.heap.size, 2, none⟩ = false := blk_frozen g 2; have z3 : w'.cell? ⟨w.heap.size, 3, none⟩ = some (.int .i64 0) := blk_cell g 3; have y3 : w'.frozen? ⟨w.heap.size, 3, none⟩ = false := blk_frozen g 3; have z4 : w'.cell? ⟨w.heap.size, 4, none⟩ = some (.int .i64 0) := blk_cell g 4; have y4 : w'.frozen? ⟨w.heap.size, 4, none⟩ = false := blk_frozen g 4; have z5 : w'.cell? ⟨w.heap.size, 5, none⟩ = some (.int .i64 0) := blk_cell g 5; have y5 : w'.frozen? ⟨w.heap.size, 5, none⟩ = false := blk_frozen g 5; have z6 : w'.cell? ⟨w.heap.size, 6, none⟩ = some (.int .i64 0) := blk_cell g 6; have y6 : w'.frozen? ⟨w.heap.size, 6, none⟩ = false := blk_frozen g 6; have z7 : w'.cell? ⟨w.heap.size, 7, none⟩ = some (.int .i64 0) := blk_cell g 7; have y7 : w'.frozen? ⟨w.heap.size, 7, none⟩ = false := blk_frozen g 7; have G := Aside0.mk g; have HS2 := Aside0.mk hS2; clear g hS2 hI2)
  exact bodyPost_ret (results_ctt rfl _ _ w.heap.size 43 zeroCells (0, 0) _ rfl (job_reset G.out) Tryz.underlying43 rfl (by kernel_rfl)) rfl ⟨rfl, job_resetB ((job_below w xy z).trans HS2.out.1) (Nat.le_refl _)⟩
end Go.Proofs.YtknekneicecgiaaGreatDoor.M
