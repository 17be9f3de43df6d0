/- The laws' check (fit) answers true. -/
import Derived.Test.YtknekneicecgiaaGreatDoorHD
import Derived.KernelRfl
namespace Go.Proofs.YtknekneicecgiaaGreatDoor.M
open Go.RowKit Go.Lib Go.Proofs.YtknekneicecgiaaGreatDoorW.PrintWords Go.Proofs.YtknekneicecgiaaGreatDoorW.PrintLast Go.Proofs.YtknekneicecgiaaGreatDoor.MB
set_option linter.unusedVariables false
set_option linter.unusedSimpArgs false
def tx1 : ByteArray := ⟨#[49, 32, 50, 32, 51, 10, 35, 32, 110, 111]⟩
def tx2 : ByteArray := ⟨#[10, 109, 101, 116, 104, 111, 100, 32, 102, 111, 111]⟩
set_option maxRecDepth 100000 in
theorem fit_samples : data_Samples.f 100 tx1 0 0 = some ([⟨1, 2, 3⟩], 0, 0) := by kernel_rfl
set_option maxRecDepth 100000 in
theorem fit_job : data_each.f (lineF methodF) tx2 rs0 = some (⟨-1, 0, [], 0, 0, 0, 0, 0, [kMethod]⟩, 2, 1) := by kernel_rfl
theorem cell_new {w : World} {a : Addr} {v : Value} (h : w.cell? a = some v) (cs : Array Value) (t : TypeId) : (w.alloc (.cells cs t)).cell? a = some v := pw_cell_below (below_alloc (Below.refl w.heap.size w) (.cells cs t)) h
theorem fit_read (w : World) (HT0 : TabW w) : Calls Tryz.prog 13 #[.string tx2, .int .i64 0, .int .i64 0] w fun en w' => en = .returned (.tuple #[.agg #[.int .i64 0, .int .i64 0, .slice none 0 0, .int .i64 0, .int .i64 0, .int .i64 0, .int .i64 0, .int .i64 0], .int .i64 2, .int .i64 1]) ∧ Below w.heap.size w w' :=
  readjob_err methodF tx2 0 0 2 1 _ w HT0 (method_ok 0 0 _ _ _ HT0.2.1 (by omega)) fit_job (by decide)
def isohyetlaw25_fit.f : Option Bool := some true
set_option maxHeartbeats 4000000 in
set_option maxRecDepth 100000 in
theorem isohyetlaw25_fit.calls (r : Bool) (w : World) (HT0 : TabW w) (HTRUE : r = true) (h : isohyetlaw25_fit.f = some r) :
    Calls Tryz.prog 8 #[] w fun e w' => e = .returned (.bool r) ∧ Below w.heap.size w w' := by
  subst HTRUE
  have HT := Aside0.mk HT0
  clear HT0 h
  go_enter Tryz.func8, Tryz.ntmps8
  go_wp2_with (first
    | (go_at_call 9; refine (data_Samples.calls 100 tx1 0 0 _ _ _ _ HT.out fit_samples).mono ?_; rintro e w1 ⟨v1, rfl, hR1, hb1⟩; obtain ⟨A1, c1, rfl, hc1, hC1⟩ := Kd.R_reads hR1; obtain ⟨ad1, rfl, x0, x1, x2⟩ := at_T34 hC1 0 (by decide) (by decide); have x3 : w1.cell? ⟨ad1.block, ad1.off + 2, none⟩ = some (.int .i64 3) := x2; have X3 := Aside0.mk x3; clear x0 x1 x2 x3; have HB1 := Aside0.mk hb1; have HT1 := Aside0.mk (tab_below HT.out hb1); clear hb1 hR1 hC1 hc1)
    | (go_at_call 13; refine (fit_read _ HT1.out).mono ?_; rintro e w2 ⟨rfl, hb2⟩; have x4 := pw_cell_below hb2 X3.out; have x5 := fun cs t => cell_new x4 cs t; have HB2 := Aside0.mk hb2; clear hb2))
  go_ret
  exact ⟨rfl, below_alloc ((HB1.out).trans (HB2.out.mono HB1.out.size)) _⟩
end Go.Proofs.YtknekneicecgiaaGreatDoor.M
