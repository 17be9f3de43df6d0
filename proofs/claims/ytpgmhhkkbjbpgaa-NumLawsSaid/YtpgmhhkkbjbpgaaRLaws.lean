/- NumLaws answers true to every input: the row. -/
import Derived.Test.YtpgmhhkkbjbpgaaRows
import Derived.Test.YtpgmhhkkbjbpgaaZL
import Derived.Test.YtpgmhhkkbjbpgaaKLaws
import Derived.WalkKit
import Derived.ProofKit
import Derived.OpenShut
import Derived.ShutString
import Derived.ChangeOld
import Derived.Below
import Derived.SizedLaws
import Derived.Test.YtpgmhhkkbjbpgaaWSized
import Derived.Lib.SmallJoins
import Derived.ChangeArms
namespace Go.Proofs.Ytpgmhhkkbjbpgaa.numLaws
open Go.ChangeShapes Go.WideShapes Go.ChangeAt Go.RowKit Go.Proofs.YtpgmhhkkbjbpgaaW.PrintWords
open Go.ChangeMaps (open_string shut_string)
set_option linter.unusedVariables false
theorem own : ownKnob Try.prog.godebug = none := by kernel_rfl
theorem laidOut : laidOutB Try.prog = true := by kernel_rfl
def IsRow (k : IntKind) (w : World) (a : Option Addr) (len cap : Nat) (zs : List Int) : Prop :=
  (a = none ∧ len = 0 ∧ cap = 0 ∧ zs = []) ∨
  ∃ x, a = some x ∧ len ≤ cap ∧ cap ≤ maxLen ∧ zs.length = cap ∧ (∀ i, i < zs.length → w.cell? (x.add i) = some (.int k (zs.getD i 0))) ∧ ∀ n ∈ zs, (Lit.int k n).wf = true
theorem sized_agg {H : Type} {P : Program} {ts : List TypeId} {ds : List (DataW H)} {j : Nat} {t : TypeId} {fs : Array Field} {parts : List (DataW H)} (h : (DataW.weightsEach P ts ds).all (· ≤ reachBytes) = true) (ht : ts[j]? = some t) (hd : ds[j]? = some (.agg parts)) (hu : P.underlying t = some (.struct fs)) : (DataW.weightsEach P (fs.toList.map (·.type)) parts).all (· ≤ reachBytes) = true := by
  refine List.all_eq_true.2 fun n hn => List.all_eq_true.1 h n (DataW.weights_mem_each ht hd n ?_)
  rw [DataW.weights, hu]
  exact hn
set_option maxRecDepth 100000 in
theorem lifted (os : Os) (started : os.Started) (H : Type) (enc : TypeId × Value → H) :
    ReturnsInHanded {} Try.checked os 8 .any (Rows.numLawsSpec.pre6 enc Try.prog Try.f8 Rows.numLawsRow.domain false) (Rows.numLawsSpec.post enc Try.prog Try.f8 false true false false) := by
  refine returnsInHanded_of_change_sized (C := Try.checked) own started (by kernel_rfl) Try.func8
    (ChangeSpec.witness6 (enc := enc) (C := Try.checked) false ⟨#[], #[.agg #[.bool false, .slice none 0 0], .agg #[.bool false, .slice none 0 0], .agg #[.bool false, .slice none 0 0]], []⟩ 8 (by kernel_rfl) (by kernel_rfl) (by kernel_rfl) (by kernel_rfl)) ?_
  intro W base args ds gs before hval0 hW hcnd hsz0 _
  have hsz : (DataW.weightsEach Try.prog (Try.f8.params.toList ++ Rows.numLawsSpec.plain.varTypes Try.prog) (ds ++ gs)).all (· ≤ reachBytes) = true := hsz0
  have hval : ∀ (j : Nat) t v, Try.f8.params[j]? = some t → args[j]? = some v → Value.okWide Try.prog W .any base t v := hval0
  have hW' := hW
  obtain ⟨p, q, hA0, hV, rfl, hfz, hnd⟩ := hW
  have hA : DataW.TrodAll enc Try.prog W 0 (fun _ => true) true Try.f8.params.toList args.toList ds p := hA0
  rw [Try.params8] at hA hval hsz
  obtain ⟨v0, vs0, d0, ds0, p0, q0, hargs, rfl, rfl, h0, r0⟩ := trodAll_cons hA
  obtain ⟨v1, vs1, d1, ds1, p1, q1, rfl, rfl, rfl, h1, r1⟩ := trodAll_cons r0
  obtain ⟨v2, vs2, d2, ds2, p2, q2, rfl, rfl, rfl, h2, r2⟩ := trodAll_cons r1
  obtain ⟨rfl, rfl, rfl⟩ := trodAll_nil r2
  obtain rfl : args = #[v0, v1, v2] := by cases args; simp_all
  obtain ⟨rfl, rfl⟩ := trodVars_none hV
  have k0 := h0
  have lt0 : ∀ x ∈ p0, x.block < W.heap.size := by obtain ⟨m, hm⟩ := k0; exact DataW.trod_lt m _ _ _ hm
  obtain ⟨vb0, vl0, yb0, ys0, n0, rfl, rfl, rfl, hb0, hq0⟩ := Go.Joins.open_agg2 Try.underlying25 (by kernel_rfl) (by kernel_rfl) (hval 0 25 v0 rfl rfl) h0
  obtain ⟨b0, hbe0, rfl⟩ := DataW.trod_bool Try.underlying4 hb0
  simp at hbe0
  subst hbe0
  obtain ⟨a0, len0, cap0, z0, rfl, w0⟩ : ∃ a len cap zs, vl0 = Value.slice a len cap ∧ IsRow .u64 W a len cap zs := by
    rcases open_ints Try.underlying23 Try.underlying54 (by kernel_rfl) hq0 with ⟨hcs, _⟩ | ⟨x, l, c, zs, hcs, _, hl, hm, hz, _, hcell, hwz⟩
    · simp at hcs
      subst hcs
      exact ⟨none, 0, 0, [], rfl, .inl ⟨rfl, rfl, rfl, rfl⟩⟩
    · simp at hcs
      subst hcs
      exact ⟨some x, l, c, zs, rfl, .inr ⟨_, rfl, hl, hm, by simpa using hz, hcell, hwz⟩⟩
  have hsz0 := sized_agg hsz (j := 0) (t := 25) rfl rfl Try.underlying25
  have y0 : len0 * 8 ≤ 140737488351232 := sized_ints hsz0 (j := 1) (t := 23) rfl rfl Try.underlying23 Try.underlying54 (by kernel_rfl) (by kernel_rfl) (show DataW.Trod enc Try.prog W 0 (fun _ => true) true 23 (.slice a0 len0 cap0) ys0.1 ys0.2 from ⟨n0, hq0⟩)
  obtain ⟨l0, rfl, hr0, hm0, hw0, hc0⟩ := ReadsInt.ofRowC w0
  have hs0 : Kd.V (Kd.int .u64) 54 W W.heap.size (fun _ => True) (.slice a0 l0.length cap0) l0 := Kd.V_mk hc0 (fun W1 hW1 => (Kd.heap_int .u64).C (fun k hk => hW1 k trivial hk) (Kd.C_of_reads (d := (0 : Int)) (h1 := fun _ => rfl) hr0))
  have k1 := h1
  have lt1 : ∀ x ∈ p1, x.block < W.heap.size := by obtain ⟨m, hm⟩ := k1; exact DataW.trod_lt m _ _ _ hm
  obtain ⟨vb1, vl1, yb1, ys1, n1, rfl, rfl, rfl, hb1, hq1⟩ := Go.Joins.open_agg2 Try.underlying25 (by kernel_rfl) (by kernel_rfl) (hval 1 25 v1 rfl rfl) h1
  obtain ⟨b1, hbe1, rfl⟩ := DataW.trod_bool Try.underlying4 hb1
  simp at hbe1
  subst hbe1
  obtain ⟨a1, len1, cap1, z1, rfl, w1⟩ : ∃ a len cap zs, vl1 = Value.slice a len cap ∧ IsRow .u64 W a len cap zs := by
    rcases open_ints Try.underlying23 Try.underlying54 (by kernel_rfl) hq1 with ⟨hcs, _⟩ | ⟨x, l, c, zs, hcs, _, hl, hm, hz, _, hcell, hwz⟩
    · simp at hcs
      subst hcs
      exact ⟨none, 0, 0, [], rfl, .inl ⟨rfl, rfl, rfl, rfl⟩⟩
    · simp at hcs
      subst hcs
      exact ⟨some x, l, c, zs, rfl, .inr ⟨_, rfl, hl, hm, by simpa using hz, hcell, hwz⟩⟩
  have hsz1 := sized_agg hsz (j := 1) (t := 25) rfl rfl Try.underlying25
  have y1 : len1 * 8 ≤ 140737488351232 := sized_ints hsz1 (j := 1) (t := 23) rfl rfl Try.underlying23 Try.underlying54 (by kernel_rfl) (by kernel_rfl) (show DataW.Trod enc Try.prog W 0 (fun _ => true) true 23 (.slice a1 len1 cap1) ys1.1 ys1.2 from ⟨n1, hq1⟩)
  obtain ⟨l1, rfl, hr1, hm1, hw1, hc1⟩ := ReadsInt.ofRowC w1
  have hs1 : Kd.V (Kd.int .u64) 54 W W.heap.size (fun _ => True) (.slice a1 l1.length cap1) l1 := Kd.V_mk hc1 (fun W1 hW1 => (Kd.heap_int .u64).C (fun k hk => hW1 k trivial hk) (Kd.C_of_reads (d := (0 : Int)) (h1 := fun _ => rfl) hr1))
  have k2 := h2
  have lt2 : ∀ x ∈ p2, x.block < W.heap.size := by obtain ⟨m, hm⟩ := k2; exact DataW.trod_lt m _ _ _ hm
  obtain ⟨vb2, vl2, yb2, ys2, n2, rfl, rfl, rfl, hb2, hq2⟩ := Go.Joins.open_agg2 Try.underlying25 (by kernel_rfl) (by kernel_rfl) (hval 2 25 v2 rfl rfl) h2
  obtain ⟨b2, hbe2, rfl⟩ := DataW.trod_bool Try.underlying4 hb2
  simp at hbe2
  subst hbe2
  obtain ⟨a2, len2, cap2, z2, rfl, w2⟩ : ∃ a len cap zs, vl2 = Value.slice a len cap ∧ IsRow .u64 W a len cap zs := by
    rcases open_ints Try.underlying23 Try.underlying54 (by kernel_rfl) hq2 with ⟨hcs, _⟩ | ⟨x, l, c, zs, hcs, _, hl, hm, hz, _, hcell, hwz⟩
    · simp at hcs
      subst hcs
      exact ⟨none, 0, 0, [], rfl, .inl ⟨rfl, rfl, rfl, rfl⟩⟩
    · simp at hcs
      subst hcs
      exact ⟨some x, l, c, zs, rfl, .inr ⟨_, rfl, hl, hm, by simpa using hz, hcell, hwz⟩⟩
  have hsz2 := sized_agg hsz (j := 2) (t := 25) rfl rfl Try.underlying25
  have y2 : len2 * 8 ≤ 140737488351232 := sized_ints hsz2 (j := 1) (t := 23) rfl rfl Try.underlying23 Try.underlying54 (by kernel_rfl) (by kernel_rfl) (show DataW.Trod enc Try.prog W 0 (fun _ => true) true 23 (.slice a2 len2 cap2) ys2.1 ys2.2 from ⟨n2, hq2⟩)
  obtain ⟨l2, rfl, hr2, hm2, hw2, hc2⟩ := ReadsInt.ofRowC w2
  have hs2 : Kd.V (Kd.int .u64) 54 W W.heap.size (fun _ => True) (.slice a2 l2.length cap2) l2 := Kd.V_mk hc2 (fun W1 hW1 => (Kd.heap_int .u64).C (fun k hk => hW1 k trivial hk) (Kd.C_of_reads (d := (0 : Int)) (h1 := fun _ => rfl) hr2))
  clear hA0 hval0 hsz0 hsz
  obtain ⟨k, hk⟩ := Pure.NumLaws b0 l0 b1 l1 b2 l2 hm0 y0 hw0 hm1 y1 hw1 hm2 y2 hw2
  refine (M.isohyetlaw02_NumLaws.calls k b0 (fun _ => True) _ _ l0 b1 (fun _ => True) _ _ l1 b2 (fun _ => True) _ _ l2 true W hs0 hs1 hs2 rfl hk).mono fun e W' ⟨he, bel⟩ => ?_
  subst he
  exact ⟨_, rfl, _, _, _, [], _, [], hW', trodAll_mk1 (shut_bool Try.underlying4 _), (trodAll_cons_mk (Below.trod laidOut (by kernel_rfl) (of_decide_eq_true (by kernel_rfl)) k0 bel lt0) (trodAll_cons_mk (Below.trod laidOut (by kernel_rfl) (of_decide_eq_true (by kernel_rfl)) k1 bel lt1) (trodAll_cons_mk (Below.trod laidOut (by kernel_rfl) (of_decide_eq_true (by kernel_rfl)) k2 bel lt2) trodAll_mk0))), rfl, bel.frame _, fun h => by cases h⟩
theorem over : Rows.NumLawsSaid :=
  OpenClaim.holds_of_wide 8 Try.f8 rfl rfl rfl rfl rfl rfl rfl ⟨rfl, rfl, rfl, rfl, rfl⟩ rfl rfl rfl rfl rfl (by kernel_rfl) Try.func8 (by kernel_rfl)
    (of_decide_eq_true (by kernel_rfl)) (by unfold Func.isWrapper; first | (rw [if_pos (by decide +kernel)]; kernel_rfl) | (rw [if_neg (by decide +kernel)]; exact ⟨rfl, rfl⟩))
    (fun os started H enc _ => lifted os started H enc)
end Go.Proofs.Ytpgmhhkkbjbpgaa.numLaws
namespace Go.Proofs.Ytpgmhhkkbjbpgaa
/-- The row, for the claim. -/
theorem numLaws_holds : Rows.NumLawsSaid := numLaws.over
#print axioms numLaws_holds
end Go.Proofs.Ytpgmhhkkbjbpgaa
