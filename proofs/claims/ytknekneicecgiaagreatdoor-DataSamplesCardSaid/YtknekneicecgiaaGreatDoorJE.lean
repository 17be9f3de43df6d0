/- DataSamples answers true: any text has the samples, or the error, that its words say. -/
import Derived.Test.YtknekneicecgiaaGreatDoorJD
import Derived.Test.YtknekneicecgiaaGreatDoorKSamples
namespace Go.Proofs.YtknekneicecgiaaGreatDoor.Mg
open Go.RowKit Go.Proofs.YtknekneicecgiaaGreatDoorW.PrintWords Go.Proofs.YtknekneicecgiaaGreatDoorW.PrintMore Go.Proofs.YtknekneicecgiaaGreatDoor.MB Go.Proofs.YtknekneicecgiaaGreatDoor.M
set_option linter.unusedVariables false
set_option linter.unusedSimpArgs false
theorem rd_L4_get {L : List (List ByteArray)} {i : Nat} (h : i < L.length) : rd_L4 L (i : Int) = L[i] := by
  show L.getD (i : Int).toNat [] = _
  rw [Int.toNat_natCast]
  simp [List.getD, h]
theorem rd_T34_get {l : List S34} {i : Nat} (h : i < l.length) : rd_T34 l (i : Int) = l[i] := by
  show l.getD (i : Int).toNat z34 = _
  rw [Int.toNat_natCast]
  simp [List.getD, h]
theorem Samples_l0 {xy z : Int} {L : List (List ByteArray)} (hL : L.length ≤ 5000) {got out' : List S34} {line e : Int} (hg : got = if e = 0 then out' else []) : ∀ (d i k : Nat) (out : List S34), i + d = L.length → 60300 + d ≤ k → out.length ≤ i →
    runP xy z (L.drop i) i out = (out', line, e) → (e = 0 → line = 0) → isohyetlaw25_DataSamples.l0 k xy z got line e (out.length : Int) L (L.length : Int) (i : Int) = some true
  | 0, i, k, out, hd, hk, ho, hr, hz => by
    obtain ⟨k, rfl⟩ : ∃ n, k = n + 1 := ⟨k - 1, by omega⟩
    rw [List.drop_eq_nil_of_le (by omega)] at hr
    unfold runP at hr
    injection hr with h1 h2
    injection h2 with h2 h3
    subst h1 h2 h3
    simp only [isohyetlaw25_DataSamples.l0]
    rw [if_neg (by omega), if_pos trivial, if_pos trivial, hg, if_pos rfl]
    simp
  | d + 1, i, k, out, hd, hk, ho, hr, hz => by
    obtain ⟨k, rfl⟩ : ∃ n, k = n + 1 := ⟨k - 1, by omega⟩
    have hi : i < L.length := by omega
    rw [List.drop_eq_getElem_cons hi] at hr
    simp only [isohyetlaw25_DataSamples.l0]
    rw [if_pos (by omega), if_pos (by omega), if_pos (by omega), rd_L4_get hi]
    generalize L[i] = w at hr ⊢
    unfold runP at hr
    by_cases h0 : w = []
    · rw [if_pos h0] at hr
      rw [if_pos (by rw [h0]; rfl), wrap2 (by omega)]
      exact Samples_l0 hL hg d (i + 1) k out (by omega) (by omega) (by omega) hr hz
    · rw [if_neg h0] at hr
      rw [if_neg (fun h => h0 (List.eq_nil_of_length_eq_zero (by omega))), decimals_f (by simp) (by omega), Option.bind_some]
      by_cases hn : (nums2 w [xy, xy, z]).2 = 0
      · rw [if_pos hn] at hr
        rw [if_pos hn]
        have hlen := nums2_len hn
        generalize (nums2 w [xy, xy, z]).1 = n at hr hlen ⊢
        have hlen : n.length = 3 := hlen
        have hc : ((out.length : Int)) ≤ 1000000 := by omega
        have hnext : wrap64 ((out.length : Int) + 1) = (((out ++ [smp n]).length : Nat) : Int) := by rw [wrap2 (by omega)]; simp
        by_cases he : e = 0
        · subst he
          obtain ⟨t, ht⟩ := runP_more xy z _ _ _ _ _ hr
          have hgo : got = out ++ (smp n :: t) := by rw [hg, if_pos rfl, ht, List.append_assoc]; rfl
          have hlt : out.length < got.length := by rw [hgo]; simp
          have hat : got[out.length]'hlt = smp n := by
            simp [hgo]
          rw [if_pos rfl, if_neg (by omega), if_pos (by omega), if_pos (by omega), if_pos (by omega), if_pos (by omega), if_pos (by omega), rd_T34_get hlt, hat, if_neg (by simp [smp]), hnext, wrap2 (by omega)]
          exact Samples_l0 hL hg d (i + 1) k _ (by omega) (by omega) (by simp; omega) hr hz
        · rw [if_neg he, hnext, wrap2 (by omega)]
          exact Samples_l0 hL hg d (i + 1) k _ (by omega) (by omega) (by simp; omega) hr hz
      · rw [if_neg hn] at hr
        rw [if_neg hn]
        injection hr with h1 h2
        injection h2 with h2 h3
        subst h1 h2 h3
        rw [if_pos rfl, wrap2 (by omega), if_pos rfl, hg, if_neg hn]
        rfl
theorem runP_line (xy z : Int) : ∀ (L : List (List ByteArray)) (i : Nat) (out out' : List S34) (line e : Int), runP xy z L i out = (out', line, e) → e = 0 → line = 0
  | [], i, out, out', line, e, h, he => by
    unfold runP at h
    injection h with _ h
    injection h with h _
    exact h.symm
  | w :: r, i, out, out', line, e, h, he => by
    unfold runP at h
    split at h
    · exact runP_line xy z r _ _ _ _ _ h he
    · split at h
      · exact runP_line xy z r _ _ _ _ _ h he
      · rename_i h0
        injection h with _ h
        injection h with _ h
        exact absurd (h.trans he) h0
theorem DataSamples_f {s : ByteArray} {xy z : Int} {k : Nat} (hk : 70000 ≤ k) : isohyetlaw25_DataSamples.f k s xy z = some true := by
  unfold isohyetlaw25_DataSamples.f isohyetlaw25_fit.f
  rw [Option.bind_some, if_pos rfl]
  by_cases h : (s.size : Int) > 1500
  · rw [if_pos h]
  · rw [if_neg h, Samples_f (by omega) (by omega), Option.bind_some, lines_f (by omega) (by omega), Option.bind_some]
    obtain ⟨out', line, e, hr⟩ : ∃ a b c, runP xy z ((cutL s.data.toList).map lw) 0 [] = (a, b, c) := ⟨_, _, _, rfl⟩
    have hline := runP_line xy z _ _ _ _ _ _ hr
    have hl := cutL_len s.data.toList
    rw [data_length] at hl
    have hlen : ((cutL s.data.toList).map lw).length ≤ 1501 := by rw [List.length_map]; omega
    rw [hr]
    dsimp only
    generalize (cutL s.data.toList).map lw = L at hr hlen ⊢
    have main := Samples_l0 (xy := xy) (z := z) (L := L) (by omega) (got := if e = 0 then out' else []) (out' := out') (line := line) (e := e) rfl L.length 0 k [] (by omega) (by omega) (by simp) hr hline
    by_cases he : e = 0
    · have h0 := hline he
      rw [if_pos he] at main ⊢
      rw [he, h0] at main
      exact main
    · rw [if_neg he] at main ⊢
      exact main
end Go.Proofs.YtknekneicecgiaaGreatDoor.Mg
namespace Go.Proofs.YtknekneicecgiaaGreatDoor.Pure
open Go.Proofs.YtknekneicecgiaaGreatDoor.M
theorem DataSamples : ∀ (a0 : ByteArray) (a1 a2 : Int), a0.size ≤ 140737488351232 → (Lit.int .i64 a1).wf = true → (Lit.int .i64 a2).wf = true → ∃ k, isohyetlaw25_DataSamples.f k a0 a1 a2 = some true := fun _ _ _ _ _ _ => ⟨70000, Mg.DataSamples_f (Nat.le_refl _)⟩
end Go.Proofs.YtknekneicecgiaaGreatDoor.Pure
