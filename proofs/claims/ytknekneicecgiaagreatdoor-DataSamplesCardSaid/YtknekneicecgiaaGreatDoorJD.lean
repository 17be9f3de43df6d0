/- Any text's samples: line by line, till one has an error. -/
import Derived.Test.YtknekneicecgiaaGreatDoorJB
import Derived.Test.YtknekneicecgiaaGreatDoorJC
import Derived.Test.YtknekneicecgiaaGreatDoorHS
namespace Go.Proofs.YtknekneicecgiaaGreatDoor.Mg
open Go.RowKit Go.Proofs.YtknekneicecgiaaGreatDoorW.PrintWords Go.Proofs.YtknekneicecgiaaGreatDoorW.PrintMore Go.Proofs.YtknekneicecgiaaGreatDoor.MB Go.Proofs.YtknekneicecgiaaGreatDoor.M
set_option linter.unusedVariables false
set_option linter.unusedSimpArgs false
def smp (n : List Int) : S34 := ⟨rd n 0, rd n 1, rd n 2⟩
def runP (xy z : Int) : List (List ByteArray) → Nat → List S34 → List S34 × Int × Int
  | [], _, out => (out, 0, 0)
  | w :: r, i, out => if w = [] then runP xy z r (i + 1) out else if (nums2 w [xy, xy, z]).2 = 0 then runP xy z r (i + 1) (out ++ [smp (nums2 w [xy, xy, z]).1]) else (out, ((i + 1 : Nat) : Int), (nums2 w [xy, xy, z]).2)
theorem runP_more (xy z : Int) : ∀ (L : List (List ByteArray)) (i : Nat) (out out' : List S34) (line : Int), runP xy z L i out = (out', line, 0) → ∃ t, out' = out ++ t
  | [], i, out, out', line, h => by
    unfold runP at h
    injection h with h _
    exact ⟨[], by rw [h, List.append_nil]⟩
  | w :: r, i, out, out', line, h => by
    unfold runP at h
    split at h
    · exact runP_more xy z r _ _ _ _ h
    · split at h
      · obtain ⟨t, ht⟩ := runP_more xy z r _ _ _ _ h
        exact ⟨_ :: t, by rw [ht, List.append_assoc]; rfl⟩
      · rename_i h0
        injection h with _ h
        injection h with _ h
        exact absurd h h0
theorem samp_f {xy z : Int} {out : List S34} {l : List ByteArray} {k : Nat} (ho : out.length < 4000) (hk : 60200 ≤ k) :
    sampF k xy z out l = some (if (nums2 l [xy, xy, z]).2 = 0 then (out ++ [smp (nums2 l [xy, xy, z]).1], 0) else (out, (nums2 l [xy, xy, z]).2)) := by
  unfold sampF
  rw [if_neg (by omega), numbers_f (by simp) hk, Option.bind_some]
  by_cases h : (nums2 l [xy, xy, z]).2 = 0
  · have hl := nums2_len h
    rw [if_pos h, if_pos h, if_pos ⟨by rw [hl]; simp, by omega⟩]
    rfl
  · rw [if_neg h, if_neg h]
theorem prefix_iff (s : ByteArray) : (Lib.hasPrefix s.data.toList [35] = true) ↔ s.data.toList.head? = some 35 := by
  unfold Lib.hasPrefix
  cases s.data.toList with
  | nil => exact ⟨(fun h => by cases h), (fun h => by cases h)⟩
  | cons c t =>
    rw [List.head?_cons]
    show ((35 == c) && List.isPrefixOf [] t) = true ↔ _
    rw [show List.isPrefixOf ([] : List UInt8) t = true from rfl, Bool.and_true, beq_iff_eq]
    exact ⟨fun h => by rw [h], fun h => (Option.some.inj h).symm⟩
theorem each_f {xy z : Int} {k : Nat} (hk : 60200 ≤ k) : ∀ (ps : List (List UInt8)) (i : Nat) (out : List S34), out.length + ps.length < 4000 → (∀ p ∈ ps, p.length ≤ 1000000) →
    eachL (sampF k xy z) (ps.map fun p => (⟨p.toArray⟩ : ByteArray)) (i : Int) out = some (runP xy z (ps.map lw) i out)
  | [], i, out, _, _ => rfl
  | p :: ps, i, out, ho, hp => by
    have hpl := hp p List.mem_cons_self
    have hps : ∀ q ∈ ps, q.length ≤ 1000000 := fun q hq => hp q (List.mem_cons_of_mem _ hq)
    have ho' : out.length + ps.length < 4000 := by simp at ho; omega
    have hw : data_Words.f (⟨p.toArray⟩ : ByteArray) = some (wordsL p).1 := by
      unfold data_Words.f
      have : (⟨p.toArray⟩ : ByteArray).size = p.length := rfl
      rw [if_pos (by omega), fields_words]
    have hi : (i : Int) + 1 = ((i + 1 : Nat) : Int) := by omega
    simp only [List.map_cons, eachL]
    rw [hw, Option.bind_some, hi]
    have ih := fun (o : List S34) (h : o.length + ps.length < 4000) => each_f (xy := xy) (z := z) hk ps (i + 1) o h hps
    by_cases h0 : (wordsL p).1 = []
    · have hlw : lw p = [] := by unfold lw; rw [h0]; rfl
      rw [if_pos (by rw [h0]; rfl), ih _ ho', hlw]
      simp [runP]
    · rw [if_neg (fun h => h0 (List.eq_nil_of_length_eq_zero h))]
      by_cases hpre : ((wordsL p).1.headD ⟨#[]⟩).data.toList.head? = some 35
      · have hlw : lw p = [] := by unfold lw; rw [if_pos hpre]
        rw [if_pos ((prefix_iff _).2 hpre), ih _ ho', hlw]
        simp [runP]
      · have hlw : lw p = (wordsL p).1 := by unfold lw; rw [if_neg hpre]
        rw [if_neg (fun h => hpre ((prefix_iff _).1 h)), samp_f (by simp at ho; omega) hk, Option.bind_some, hlw]
        simp only [runP]
        rw [if_neg h0]
        by_cases hn : (nums2 (wordsL p).1 [xy, xy, z]).2 = 0
        · rw [if_pos hn, if_pos hn, if_pos rfl, ih _ (by simp at ho ⊢; omega)]
        · rw [if_neg hn, if_neg hn, if_neg hn]
theorem Samples_f {s : ByteArray} {xy z : Int} {k : Nat} (hs : s.size ≤ 3000) (hk : 60200 ≤ k) :
    data_Samples.f k s xy z = some (let t := runP xy z ((cutL s.data.toList).map lw) 0 []; if t.2.2 = 0 then (t.1, 0, 0) else ([], t.2.1, t.2.2)) := by
  have hl := cutL_len s.data.toList
  rw [data_length] at hl
  unfold data_Samples.f data_each.f
  rw [if_neg (by omega), linesOf_cut]
  have h := each_f (xy := xy) (z := z) hk (cutL s.data.toList) 0 [] (by simp; omega) (fun p hp => by have := cutL_size _ p hp; rw [data_length] at this; omega)
  rw [show (0 : Int) = ((0 : Nat) : Int) from rfl, h, Option.bind_some]
end Go.Proofs.YtknekneicecgiaaGreatDoor.Mg
