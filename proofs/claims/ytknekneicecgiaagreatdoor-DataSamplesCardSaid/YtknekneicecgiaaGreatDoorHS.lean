/- data.Samples, over its closure's steps. -/
import Derived.Test.YtknekneicecgiaaGreatDoorHC
namespace Go.Proofs.YtknekneicecgiaaGreatDoor.M
open Go.RowKit Go.Lib Go.Proofs.YtknekneicecgiaaGreatDoorW.PrintWords Go.Proofs.YtknekneicecgiaaGreatDoorW.PrintLast Go.Proofs.YtknekneicecgiaaGreatDoor.MB
set_option linter.unusedVariables false
set_option linter.unusedSimpArgs false
theorem eachL_mono {σ : Type} {f f' : σ → List ByteArray → Option (σ × Int)} (h : ∀ st l, LeO (f st l) (f' st l)) : ∀ (ls : List ByteArray) (i : Int) (st : σ), LeO (eachL f ls i st) (eachL f' ls i st)
  | [], _, _ => LeO.refl _
  | x :: xs, i, st => by
    unfold eachL
    refine LeO.bind (LeO.refl _) (fun l => LeO.ite (eachL_mono h xs _ _) (LeO.ite (eachL_mono h xs _ _) (LeO.bind (h _ _) (fun z => LeO.ite (eachL_mono h xs _ _) (LeO.refl _)))))
theorem data_each.mono {σ : Type} {f f' : σ → List ByteArray → Option (σ × Int)} (h : ∀ st l, LeO (f st l) (f' st l)) (s : ByteArray) (st : σ) : LeO (data_each.f f s st) (data_each.f f' s st) := by
  unfold data_each.f
  exact LeO.ite (LeO.refl _) (eachL_mono h _ _ _)
theorem sampF_mono (k : Nat) (xy z : Int) (out : List S34) (l : List ByteArray) : LeO (sampF k xy z out l) (sampF (k + 1) xy z out l) := by
  unfold sampF
  exact LeO.ite (LeO.refl _) (LeO.bind (data_numbers.mono _ _ _) (fun _ => LeO.refl _))
def data_Samples.f (k : Nat) (s : ByteArray) (xy z : Int) : Option (List S34 × Int × Int) :=
  (data_each.f (sampF k xy z) s []).bind fun t => some (if t.2.2 = 0 then (t.1, 0, 0) else ([], t.2.1, t.2.2))
theorem data_Samples.mono (s : ByteArray) (xy z : Int) (k : Nat) : LeO (data_Samples.f k s xy z) (data_Samples.f (k + 1) s xy z) := by
  unfold data_Samples.f
  exact LeO.bind (data_each.mono (sampF_mono k xy z) _ _) (fun _ => LeO.refl _)
set_option maxHeartbeats 4000000 in
set_option maxRecDepth 100000 in
theorem data_Samples.calls (k : Nat) (s : ByteArray) (xy z : Int) (r1 : List S34) (r2 r3 : Int) (w : World) (HT0 : TabW w) (h : data_Samples.f k s xy z = some (r1, r2, r3)) :
    Calls Tryz.prog 9 #[.string s, .int .i64 xy, .int .i64 z] w fun e w' => ∃ v0_ : Value, e = .returned (.tuple #[v0_, .int .i64 r2, .int .i64 r3]) ∧ Kd.R k34 34 w' w.heap.size (fun _ => True) v0_ r1 ∧ Below w.heap.size w w' := by
  obtain ⟨⟨st, line, e⟩, h1, h2⟩ := Option.bind_eq_some_iff.mp h
  have h2 : (if e = 0 then (st, 0, 0) else ([], line, e)) = (r1, r2, r3) := Option.some.inj h2
  have hb := below_alloc (below_alloc (below_alloc (Below.refl w.heap.size w) (.cells #[.int .i64 xy] 3)) (.cells #[.int .i64 z] 3)) (.cells #[.slice none 0 0] 23)
  have hTB := tab_below HT0 hb
  have hI : SampInv xy z (w.heap.size + 2) w.heap.size (w.heap.size + 1) w.heap.size (fun k => k = w.heap.size ∨ k = w.heap.size + 1 ∨ k = w.heap.size + 2 ∨ k = 2 ∨ k = 0) [] (((w.alloc (.cells #[.int .i64 xy] 3)).alloc (.cells #[.int .i64 z] 3)).alloc (.cells #[.slice none 0 0] 23)) := by
    refine ⟨.slice none 0 0, ?_, ?_, ?_, ⟨by simp, by simp, by simp, by simp, by simp⟩, hTB, Kd.R_nil _ _ _ _ _⟩
    · have := heap_alloc_new ((w.alloc (.cells #[.int .i64 xy] 3)).alloc (.cells #[.int .i64 z] 3)) (.cells #[.slice none 0 0] 23)
      simpa using this
    · exact (heap_alloc_old _ _ (by simp; omega)).trans ((heap_alloc_old _ _ (by simp)).trans (heap_alloc_new w _))
    · have := heap_alloc_new (w.alloc (.cells #[.int .i64 xy] 3)) (.cells #[.int .i64 z] 3)
      exact (heap_alloc_old _ _ (by simp)).trans (by simpa using this)
  have HI := Aside0.mk hI
  have HT := Aside0.mk HT0
  have HTB := Aside0.mk hTB
  have HBb := Aside0.mk hb
  have H1 := Aside0.mk h1
  clear h h1 hI HT0 hTB hb
  have hmf : ∀ (fn : Fn) (first cap : Array Value) (w : World), (Instr.makeFunc fn first cap).run Tryz.prog w = .ok (.func fn first cap) w := fun _ _ _ _ => rfl
  by_cases he : e = 0
  · rw [if_pos he] at h2
    subst he
    simp only [Prod.mk.injEq] at h2
    obtain ⟨rfl, rfl, rfl⟩ := h2
    go_enter Tryz.func9, Tryz.ntmps9
    go_wp2_with (go_at_call 21; refine (data_each.calls 22 #[] _ (enters_of Tryz.func22 (by kernel_rfl) rfl) _ _ (samp_keeps _ _ _ _ _ _) _ (samp_steps k xy z _ _ _ w.heap.size HT.out.2.1 (by omega)) _ _ _ _ _ _ _ (by simp; omega) HTB.out HI.out H1.out).mono ?_; rintro e2 w' ⟨rfl, hI2, hS2⟩; obtain ⟨v2, d1, d2, d3, d4, dT, dR⟩ := hI2; obtain ⟨A2, c2, rfl⟩ := Kd.R_slice dR; have y0 : w'.cell? ⟨w.heap.size + 2, 0, none⟩ = some (.slice A2 r1.length c2) := (by rw [blk_cell d1]; rfl); have HR2 := Aside0.mk dR; have HS2 := Aside0.mk hS2; clear d1 d2 d3 d4 dT dR hS2)
    go_ret3
    exact ⟨_, rfl, Kd.R_mono HR2.out (fun _ _ => trivial), HBb.out.trans HS2.out.1⟩
  · rw [if_neg he] at h2
    simp only [Prod.mk.injEq] at h2
    obtain ⟨rfl, rfl, rfl⟩ := h2
    have he1 : (e != 0) = true := bne_iff_ne.mpr he
    clear he
    go_enter Tryz.func9, Tryz.ntmps9
    go_wp2_with (go_at_call 21; refine (data_each.calls 22 #[] _ (enters_of Tryz.func22 (by kernel_rfl) rfl) _ _ (samp_keeps _ _ _ _ _ _) _ (samp_steps k xy z _ _ _ w.heap.size HT.out.2.1 (by omega)) _ _ _ _ _ _ _ (by simp; omega) HTB.out HI.out H1.out).mono ?_; rintro e2 w' ⟨rfl, hI2, hS2⟩; have HS2 := Aside0.mk hS2; clear hS2 hI2)
    go_ret3
    exact ⟨_, rfl, Kd.R_nil _ _ _ _ _, HBb.out.trans HS2.out.1⟩
end Go.Proofs.YtknekneicecgiaaGreatDoor.M
