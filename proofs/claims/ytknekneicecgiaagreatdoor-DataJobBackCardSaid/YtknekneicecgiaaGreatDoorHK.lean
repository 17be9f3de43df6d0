/- data.ReadJob without an error: none of a grid's parts is told, or all of them. -/
import Derived.Test.YtknekneicecgiaaGreatDoorX8
import Derived.Test.YtknekneicecgiaaGreatDoorE15
namespace Go.Proofs.YtknekneicecgiaaGreatDoor.M
open Go.RowKit Go.Lib Go.Proofs.YtknekneicecgiaaGreatDoorW.PrintWords Go.Proofs.YtknekneicecgiaaGreatDoorW.PrintLast Go.Proofs.YtknekneicecgiaaGreatDoor.MB
open Go.Maps (Keyed string_keyed)
set_option linter.unusedVariables false
set_option linter.unusedSimpArgs false
def jobCells (m s : Int) (vl : Value) (gx gy gc gcols grows : Int) : Array Value := #[.int .i64 m, .int .i64 s, vl, .int .i64 gx, .int .i64 gy, .int .i64 gc, .int .i64 gcols, .int .i64 grows]
def jobSet (w : World) (b : Nat) (m s : Int) (vl : Value) (gx gy gc gcols grows : Int) : World :=
  ((((((((w.setCell ⟨b, 0, none⟩ (.int .i64 m)).setCell ⟨b, 1, none⟩ (.int .i64 s)).setCell ⟨b, 2, none⟩ vl).setCell ⟨b, 3, none⟩ (.int .i64 gx)).setCell ⟨b, 4, none⟩ (.int .i64 gy)).setCell ⟨b, 5, none⟩ (.int .i64 gc)).setCell ⟨b, 6, none⟩ (.int .i64 gcols)).setCell ⟨b, 7, none⟩ (.int .i64 grows))
theorem job_put {w : World} {b : Nat} (g : w.heap[b]? = some (.cells zeroCells 43 (0, 0))) (m s : Int) (vl : Value) (gx gy gc gcols grows : Int) : (jobSet w b m s vl gx gy gc gcols grows).heap[b]? = some (.cells (jobCells m s vl gx gy gc gcols grows) 43 (0, 0)) := by
  have g := blk_set g 0 (.int .i64 m)
  have g := blk_set g 1 (.int .i64 s)
  have g := blk_set g 2 vl
  have g := blk_set g 3 (.int .i64 gx)
  have g := blk_set g 4 (.int .i64 gy)
  have g := blk_set g 5 (.int .i64 gc)
  have g := blk_set g 6 (.int .i64 gcols)
  have g := blk_set g 7 (.int .i64 grows)
  unfold jobSet
  rw [g]
  simp [zeroCells, jobCells]
theorem job_putB {B b : Nat} {w0 w : World} (h : Below B w0 w) (hb : B ≤ b) (m s : Int) (vl : Value) (gx gy gc gcols grows : Int) : Below B w0 (jobSet w b m s vl gx gy gc gcols grows) := by
  have h := h.setCell (p := ⟨b, 0, none⟩) hb (.int .i64 m)
  have h := h.setCell (p := ⟨b, 1, none⟩) hb (.int .i64 s)
  have h := h.setCell (p := ⟨b, 2, none⟩) hb vl
  have h := h.setCell (p := ⟨b, 3, none⟩) hb (.int .i64 gx)
  have h := h.setCell (p := ⟨b, 4, none⟩) hb (.int .i64 gy)
  have h := h.setCell (p := ⟨b, 5, none⟩) hb (.int .i64 gc)
  have h := h.setCell (p := ⟨b, 6, none⟩) hb (.int .i64 gcols)
  have h := h.setCell (p := ⟨b, 7, none⟩) hb (.int .i64 grows)
  exact h
theorem job_heap {b : Nat} {w : World} (m s : Int) (vl : Value) (gx gy gc gcols grows : Int) (k : Nat) (hk : k ≠ b) : (jobSet w b m s vl gx gy gc gcols grows).heap[k]? = w.heap[k]? := by
  unfold jobSet
  rw [Below.heap_setCell _ _ _ k hk, Below.heap_setCell _ _ _ k hk, Below.heap_setCell _ _ _ k hk, Below.heap_setCell _ _ _ k hk, Below.heap_setCell _ _ _ k hk, Below.heap_setCell _ _ _ k hk, Below.heap_setCell _ _ _ k hk, Below.heap_setCell _ _ _ k hk]
def partKeys : List ByteArray := [kCell, kOrigin, kSize]
set_option maxHeartbeats 4000000 in
set_option maxRecDepth 100000 in
theorem readjob_ok (vf : RS → ByteArray → List ByteArray → Option (RS × Int)) (s : ByteArray) (xy z : Int) (st' : RS) (w : World) (b : Bool) (kc : Nat) (HT0 : TabW w) (hv : ValueOk Tryz.prog 49 vf xy z (w.heap.size + 2) (w.heap.size + 1) w.heap.size)
    (h : data_each.f (lineF vf) s rs0 = some (st', 0, 0)) (hb : ∀ y ∈ partKeys, isSeen st'.seen y = b) (hck : b = true → grid_Grid_Check.f kc st'.gx st'.gy st'.gc st'.gcols st'.grows = some 0) :
    Calls Tryz.prog 13 #[.string s, .int .i64 xy, .int .i64 z] w fun en w' => ∃ vl, en = .returned (.tuple #[jobV st'.m st'.s vl st'.gx st'.gy st'.gc st'.gcols st'.grows, .int .i64 0, .int .i64 0]) ∧ Kd.R (Kd.int .i64) 3 w' w.heap.size (fun _ => True) vl st'.lv ∧ Below w.heap.size w w' := by
  have HT := Aside0.mk HT0
  have HV := Aside0.mk hv
  have H := Aside0.mk h
  have HI := Aside0.mk (job_start xy z HT0)
  have HTB := Aside0.mk (tab_below HT0 (job_below w xy z))
  have hmm := @run_makeMap Tryz.prog
  have hmf : ∀ (fn : Fn) (first cap : Array Value) (w : World), (Instr.makeFunc fn first cap).run Tryz.prog w = .ok (.func fn first cap) w := fun _ _ _ _ => rfl
  have HLt : Aside0 (w.heap.size < (jobW w xy z).heap.size) := ⟨by rw [job_size]; omega⟩
  have HNo : Aside0 (¬ (w.heap.size = w.heap.size + 2 ∨ w.heap.size = w.heap.size + 1 ∨ w.heap.size = 2 ∨ w.heap.size = 0)) := ⟨by have := HT0.2.1; omega⟩
  have HCk := Aside0.mk hck
  have HSn := Aside0.mk (fun y hy => (congrArg (fun q => (DataW.lit (.bool q) : DataW Unit)) (hb y hy)).symm.trans ((seenD_ok st'.seen).2 y).symm)
  have HZb := fun W => @Aside0.out _ (Aside0.mk (show (zeroValue 4).run Tryz.prog W = .ok (.bool false) W by kernel_rfl))
  clear HT0 hv h hb hck
  go_enter Tryz.func13, Tryz.ntmps13
  go_wp2_with (go_at_call 21; refine (data_each.calls 27 _ #[] (enters_of Tryz.func27 (by kernel_rfl) rfl) _ _ (rs_keeps _ _ _ _ _) _ (line_steps vf xy z _ _ w.heap.size HT.out.2.1 (by omega) HV.out) _ _ _ _ _ _ (jobW w xy z) (by rw [job_size]; omega) HTB.out HI.out H.out).mono ?_; rintro en w' ⟨rfl, hI2, hS2⟩; have HI2 := Aside0.mk hI2; have HS2 := Aside0.mk hS2; clear hS2 hI2)
  obtain ⟨W1, hW1⟩ : ∃ W, W = w'.alloc (.cells #[.string ⟨#[99, 101, 108, 108]⟩, .string ⟨#[111, 114, 105, 103, 105, 110]⟩, .string ⟨#[115, 105, 122, 101]⟩] 9) := ⟨_, rfl⟩
  have hb1 : Below w'.heap.size w' W1 := by rw [hW1]; exact below_alloc (Below.refl w'.heap.size w') _
  have hI3 := keep_below (rs_keeps xy z _ _ _) HI2.out hb1
  have HB3 := Aside0.mk (((job_below w xy z).trans HS2.out.1).trans (hb1.mono (Nat.le_trans (job_below w xy z).size HS2.out.2.1)))
  have g := (hb1.block _ (Nat.lt_of_lt_of_le HLt.out HS2.out.2.1)).trans ((HS2.out.2.2 _ HLt.out HNo.out).trans (job_zero w xy z))
  have hcell : ∀ i y, partKeys[i]? = some y → W1.cell? ⟨w'.heap.size, i, none⟩ = some (.string y) := fun i y h => by
    have hnew : W1.heap[w'.heap.size]? = some (.cells (partKeys.map Value.string).toArray 9 (0, 0)) := by rw [hW1]; exact heap_alloc_new w' _
    rw [blk_cell hnew]
    simp [h]
  rw [← hW1]
  have HOk : Aside0 (∀ k, ((((k = w.heap.size + 2 ∨ k = w.heap.size + 1 ∨ k = 2 ∨ k = 0) ∨ (jobW w xy z).heap.size ≤ k) ∨ w'.heap.size ≤ k)) → k ≠ w.heap.size) := ⟨by
    have h1 := job_size w xy z
    have h2 := HS2.out.2.1
    have h3 := HT.out.2.1
    omega⟩
  clear hW1 hb1 HI2 HS2 HI HTB HLt HNo HT HV H hmm hmf
  generalize w'.heap.size = B3 at hcell hI3 HOk ⊢
  obtain ⟨vl, h1, h2, _, hT3, hR⟩ := hI3
  obtain ⟨Al, cl, rfl⟩ := Kd.R_slice hR
  have HC := Aside0.mk hcell
  have H2 := Aside0.mk h2
  have HR := Aside0.mk hR
  have G := Aside0.mk g
  have z0 : W1.cell? ⟨w.heap.size, 0, none⟩ = some (.int .i64 0) := blk_cell g 0; have y0 : W1.frozen? ⟨w.heap.size, 0, none⟩ = false := blk_frozen g 0
  have z1 : W1.cell? ⟨w.heap.size, 1, none⟩ = some (.int .i64 0) := blk_cell g 1; have y1 : W1.frozen? ⟨w.heap.size, 1, none⟩ = false := blk_frozen g 1
  have z2 : W1.cell? ⟨w.heap.size, 2, none⟩ = some (.slice none 0 0) := blk_cell g 2; have y2 : W1.frozen? ⟨w.heap.size, 2, none⟩ = false := blk_frozen g 2
  have z3 : W1.cell? ⟨w.heap.size, 3, none⟩ = some (.int .i64 0) := blk_cell g 3; have y3 : W1.frozen? ⟨w.heap.size, 3, none⟩ = false := blk_frozen g 3
  have z4 : W1.cell? ⟨w.heap.size, 4, none⟩ = some (.int .i64 0) := blk_cell g 4; have y4 : W1.frozen? ⟨w.heap.size, 4, none⟩ = false := blk_frozen g 4
  have z5 : W1.cell? ⟨w.heap.size, 5, none⟩ = some (.int .i64 0) := blk_cell g 5; have y5 : W1.frozen? ⟨w.heap.size, 5, none⟩ = false := blk_frozen g 5
  have z6 : W1.cell? ⟨w.heap.size, 6, none⟩ = some (.int .i64 0) := blk_cell g 6; have y6 : W1.frozen? ⟨w.heap.size, 6, none⟩ = false := blk_frozen g 6
  have z7 : W1.cell? ⟨w.heap.size, 7, none⟩ = some (.int .i64 0) := blk_cell g 7; have y7 : W1.frozen? ⟨w.heap.size, 7, none⟩ = false := blk_frozen g 7
  have x0 : W1.cell? ⟨w.heap.size + 1 + 1, 0, none⟩ = some (.int .i64 st'.m) := blk_cell h1 0
  have x1 : W1.cell? ⟨w.heap.size + 1 + 1, 1, none⟩ = some (.int .i64 st'.s) := blk_cell h1 1
  have x2 : W1.cell? ⟨w.heap.size + 1 + 1, 2, none⟩ = some (.slice Al st'.lv.length cl) := blk_cell h1 2
  have x3 : W1.cell? ⟨w.heap.size + 1 + 1, 3, none⟩ = some (.int .i64 st'.gx) := blk_cell h1 3
  have x4 : W1.cell? ⟨w.heap.size + 1 + 1, 4, none⟩ = some (.int .i64 st'.gy) := blk_cell h1 4
  have x5 : W1.cell? ⟨w.heap.size + 1 + 1, 5, none⟩ = some (.int .i64 st'.gc) := blk_cell h1 5
  have x6 : W1.cell? ⟨w.heap.size + 1 + 1, 6, none⟩ = some (.int .i64 st'.gcols) := blk_cell h1 6
  have x7 : W1.cell? ⟨w.heap.size + 1 + 1, 7, none⟩ = some (.int .i64 st'.grows) := blk_cell h1 7
  have x10 : W1.cell? ⟨w.heap.size + 1 + 1, 10, none⟩ = some (.map (some (w.heap.size + 1))) := blk_cell h1 10
  have H1 := Aside0.mk h1
  have HB3' := Aside0.mk HB3.out
  clear h1 h2 hR g hcell hT3
  go_loopg [12, 35] 3 (fun gf v12 v35 wr => ∃ i : Nat, i + gf = 3 ∧ v35 = .int .i64 i ∧ v12 = .int .i64 (if b then (i : Int) else 0) ∧ wr = W1)
  case atStart => exact ⟨0, rfl, rfl, by cases b <;> rfl, rfl⟩
  case round =>
    obtain ⟨i, hig, rfl, rfl, rfl⟩ := hrel
    cases gk with
    | zero =>
      obtain rfl : i = 3 := by omega
      cases b
      · go_wp2
        exact bodyPost_ret (results_ctt rfl _ _ w.heap.size 43 (jobCells st'.m st'.s (.slice Al st'.lv.length cl) st'.gx st'.gy st'.gc st'.gcols st'.grows) (0, 0) _ rfl (job_put G.out _ _ _ _ _ _ _ _) Tryz.underlying43 rfl (by kernel_rfl)) rfl ⟨_, rfl, Kd.R_mono (Kd.R_step HR.out (fun k hk hlt => job_heap _ _ _ _ _ _ _ _ k (HOk.out k hk))) (fun _ _ => trivial), job_putB HB3.out (Nat.le_refl _) _ _ _ _ _ _ _ _⟩
      · go_wp2_with (go_at_call 28; refine (grid_Grid_Check.calls kc _ _ _ _ _ 0 _ (HCk.out rfl)).mono ?_; rintro e w5 ⟨rfl, hb5⟩; have g5 := (hb5.block _ (blk_lt G.out)).trans G.out; have h5 := (hb5.block _ (blk_lt H1.out)).trans H1.out; have z0 : w5.cell? ⟨w.heap.size, 0, none⟩ = some (.int .i64 0) := blk_cell g5 0; have y0 : w5.frozen? ⟨w.heap.size, 0, none⟩ = false := blk_frozen g5 0; have z1 : w5.cell? ⟨w.heap.size, 1, none⟩ = some (.int .i64 0) := blk_cell g5 1; have y1 : w5.frozen? ⟨w.heap.size, 1, none⟩ = false := blk_frozen g5 1; have z2 : w5.cell? ⟨w.heap.size, 2, none⟩ = some (.slice none 0 0) := blk_cell g5 2; have y2 : w5.frozen? ⟨w.heap.size, 2, none⟩ = false := blk_frozen g5 2; have z3 : w5.cell? ⟨w.heap.size, 3, none⟩ = some (.int .i64 0) := blk_cell g5 3; have y3 : w5.frozen? ⟨w.heap.size, 3, none⟩ = false := blk_frozen g5 3; have z4 : w5.cell? ⟨w.heap.size, 4, none⟩ = some (.int .i64 0) := blk_cell g5 4; have y4 : w5.frozen? ⟨w.heap.size, 4, none⟩ = false := blk_frozen g5 4; have z5 : w5.cell? ⟨w.heap.size, 5, none⟩ = some (.int .i64 0) := blk_cell g5 5; have y5 : w5.frozen? ⟨w.heap.size, 5, none⟩ = false := blk_frozen g5 5; have z6 : w5.cell? ⟨w.heap.size, 6, none⟩ = some (.int .i64 0) := blk_cell g5 6; have y6 : w5.frozen? ⟨w.heap.size, 6, none⟩ = false := blk_frozen g5 6; have z7 : w5.cell? ⟨w.heap.size, 7, none⟩ = some (.int .i64 0) := blk_cell g5 7; have y7 : w5.frozen? ⟨w.heap.size, 7, none⟩ = false := blk_frozen g5 7; have x0 : w5.cell? ⟨w.heap.size + 1 + 1, 0, none⟩ = some (.int .i64 st'.m) := blk_cell h5 0; have x1 : w5.cell? ⟨w.heap.size + 1 + 1, 1, none⟩ = some (.int .i64 st'.s) := blk_cell h5 1; have x2 : w5.cell? ⟨w.heap.size + 1 + 1, 2, none⟩ = some (.slice Al st'.lv.length cl) := blk_cell h5 2; have x3 : w5.cell? ⟨w.heap.size + 1 + 1, 3, none⟩ = some (.int .i64 st'.gx) := blk_cell h5 3; have x4 : w5.cell? ⟨w.heap.size + 1 + 1, 4, none⟩ = some (.int .i64 st'.gy) := blk_cell h5 4; have x5 : w5.cell? ⟨w.heap.size + 1 + 1, 5, none⟩ = some (.int .i64 st'.gc) := blk_cell h5 5; have x6 : w5.cell? ⟨w.heap.size + 1 + 1, 6, none⟩ = some (.int .i64 st'.gcols) := blk_cell h5 6; have x7 : w5.cell? ⟨w.heap.size + 1 + 1, 7, none⟩ = some (.int .i64 st'.grows) := blk_cell h5 7; have G5 := Aside0.mk g5; have HR5 := Aside0.mk (Kd.R_step (Kd.R_bound HR.out) (fun k hk _ => hb5.block k hk.2.2.1)); have HB5 := Aside0.mk (HB3.out.trans (hb5.mono HB3.out.size)); clear g5 h5 hb5)
        exact bodyPost_ret (results_ctt rfl _ _ w.heap.size 43 (jobCells st'.m st'.s (.slice Al st'.lv.length cl) st'.gx st'.gy st'.gc st'.gcols st'.grows) (0, 0) _ rfl (job_put G5.out _ _ _ _ _ _ _ _) Tryz.underlying43 rfl (by kernel_rfl)) rfl ⟨_, rfl, Kd.R_mono (Kd.R_step HR5.out (fun k hk hlt => job_heap _ _ _ _ _ _ _ _ k (HOk.out k hk.1))) (fun _ _ => trivial), job_putB HB5.out (Nat.le_refl _) _ _ _ _ _ _ _ _⟩
    | succ gf =>
      have hlt : i < 3 := by omega
      have hin : decide ((i : Int) < 3) = true := by simp; omega
      have hin2 : (i : Int) < 3 := by omega
      obtain ⟨y, hy⟩ : ∃ y, partKeys[i]? = some y := ⟨_, List.getElem?_eq_getElem (show i < partKeys.length from hlt)⟩
      have hcy := HC.out i y hy
      have hym := List.mem_of_getElem? hy
      have HSe := Aside0.mk (HSn.out y hym).symm
      have HY : Aside0 (y.size ≤ maxLen) := ⟨by
        simp only [partKeys, List.mem_cons, List.not_mem_nil, or_false] at hym
        rcases hym with rfl | rfl | rfl <;> decide⟩
      clear hy hym
      cases b
      · go_wp2_with (first | (at_lookup; refine wpList_lookup_own_bool _ rfl (.tmp 42) (.tmp 43) 68 rfl 9 4 (string_keyed Tryz.underlying9) Tryz.underlying68 Tryz.underlying4 (HZb _) (w.heap.size + 1) _ (seenD st'.seen) rfl H2.out (.string y) (litS y) rfl (Go.WideMaps.keyOf_string_mk Tryz.underlying9 HY.out) _ HSe.out ?_))
        go_roundg gf
        case measure => omega
        case rel => exact ⟨i + 1, by omega, by go_num, rfl, rfl⟩
      · go_wp2_with (first | (at_lookup; refine wpList_lookup_own_bool _ rfl (.tmp 42) (.tmp 43) 68 rfl 9 4 (string_keyed Tryz.underlying9) Tryz.underlying68 Tryz.underlying4 (HZb _) (w.heap.size + 1) _ (seenD st'.seen) rfl H2.out (.string y) (litS y) rfl (Go.WideMaps.keyOf_string_mk Tryz.underlying9 HY.out) _ HSe.out ?_))
        go_roundg gf
        case measure => omega
        case rel => exact ⟨i + 1, by omega, by go_num, by go_num, rfl⟩
end Go.Proofs.YtknekneicecgiaaGreatDoor.M
