/- deci.Units over bytes: so many units are read from their text as they were; DeciUnits answers true. -/
import Derived.Test.YtpdgjhaimfpacaaDoorDY
import Derived.Test.YtpdgjhaimfpacaaDoorE6
import Derived.Test.YtpdgjhaimfpacaaDoorKUnits
namespace Go.Proofs.YtpdgjhaimfpacaaDoor.Mg
open Go.RowKit Go.Proofs.YtpdgjhaimfpacaaDoorW.PrintWords Go.Proofs.YtpdgjhaimfpacaaDoorW.PrintMore Go.Proofs.YtpdgjhaimfpacaaDoor.MB Go.Proofs.YtpdgjhaimfpacaaDoor.M
set_option linter.unusedVariables false
set_option linter.unusedSimpArgs false

/-- A text without a minus ahead. -/
def unm (l : List UInt8) : List UInt8 := Lib.trimPrefix l [45]
theorem unm_len (l : List UInt8) : (unm l).length ≤ l.length := by
  unfold unm Lib.trimPrefix
  split
  · simp
  · exact Nat.le_refl _
theorem cut_fix (N K : Nat) : (cutP (fixT N K)).1 ++ (cutP (fixT N K)).2.1 = padT N K := by
  obtain ⟨h1, h2, h3⟩ := padT_spec N K
  unfold fixT
  by_cases hK : 0 < K
  · have hw : allD ((padT N K).take ((padT N K).length - K)) = true := List.all_eq_true.2 fun x hx => List.all_eq_true.1 h1 x (List.mem_of_mem_take hx)
    rw [if_pos hK, List.append_assoc, List.singleton_append, cutP_snoc _ _ hw]
    exact List.take_append_drop _ _
  · rw [if_neg hK, cutP_all _ h1]
    exact List.append_nil _
theorem Units_gen {s : ByteArray} {a1 : Int} {k K : Nat} (hK : mn (mx a1 0) 9 = (K : Int)) (hK9 : K ≤ 9) (hs : s.size ≤ 400) (hk : 60000 ≤ k) :
    let L := s.data.toList
    let D := (cutP (unm L)).1 ++ (cutP (unm L)).2.1
    let z := nv (unm L != L) (dvl D)
    deci_Units.f k s a1 = (if (allD D && decide (D ≠ [])) = true then (if fixZ z K = L then some (zb z, zl z, 0) else some (false, [], 1)) else some (false, [], 1)) ∧ (allD D = true → z.natAbs < B ^ 60 ∧ ∃ c, c ≤ 52 ∧ z.natAbs < 10 ^ (18 * c)) := by
  intro L D z
  have hl := size_len s
  have hul := unm_len L
  obtain ⟨c1, c2, _⟩ := cutP_len (unm L)
  have c12 : ∀ l : List UInt8, (cutP l).1.length + (cutP l).2.1.length ≤ l.length := by
    intro l
    induction l with
    | nil => exact Nat.le_refl _
    | cons b l ih =>
      unfold cutP
      by_cases hb : b = 46
      · rw [if_pos hb]; simp
      · rw [if_neg hb]; simp; omega
  have hDl : D.length ≤ 400 := by
    have := c12 (unm L)
    show ((cutP (unm L)).1 ++ (cutP (unm L)).2.1).length ≤ 400
    rw [List.length_append]
    have : L.length = s.size := rfl
    omega
  have bounds : allD D = true → z.natAbs < B ^ 60 ∧ ∃ c, c ≤ 52 ∧ z.natAbs < 10 ^ (18 * c) := fun hd => by
    have hlt := dvl_lt hd
    have hz : z.natAbs = dvl D := nv_abs _ _
    have h1 := ten_s (n := D.length) (by omega)
    rw [Nat.zero_add, Nat.one_mul] at h1
    obtain ⟨c, hc, hcl⟩ : ∃ c, c ≤ 52 ∧ 400 ≤ 18 * c := ⟨23, by omega, by omega⟩
    refine ⟨by rw [hz]; exact Nat.lt_of_lt_of_le hlt h1, c, hc, ?_⟩
    rw [hz]
    exact Nat.lt_of_lt_of_le hlt (Nat.pow_le_pow_right (by decide) (by omega))
  refine ⟨?_, bounds⟩
  have hda : ∀ l : List UInt8, (⟨l.toArray⟩ : ByteArray).data.toList = l := fun l => by simp
  unfold deci_Units.f strings_TrimPrefix.f
  rw [if_neg (by omega), Option.bind_some]
  have h45 : (⟨#[45]⟩ : ByteArray).data.toList = [45] := rfl
  have h46 : (⟨#[46]⟩ : ByteArray).data.toList = [46] := rfl
  rw [h45]
  show ((strings_Cut.f ⟨(unm L).toArray⟩ _).bind _) = _
  unfold strings_Cut.f
  have hus : (⟨(unm L).toArray⟩ : ByteArray).size = (unm L).length := rfl
  have hLs : L.length = s.size := rfl
  rw [if_pos (by rw [hus]; omega), Option.bind_some, h46, hda, cut_eq]
  dsimp only
  have hcat : (⟨(cutP (unm L)).1.toArray⟩ : ByteArray) ++ (⟨(cutP (unm L)).2.1.toArray⟩ : ByteArray) = ⟨D.toArray⟩ := by
    apply ba_mk
    rw [ByteArray.data_append, Array.toList_append, hda, hda]
  have hDs : (⟨D.toArray⟩ : ByteArray).size = D.length := rfl
  rw [size_mk, size_mk, if_pos (by have := c12 (unm L); omega), hcat, digits_f (by rw [hDs]; omega) (by rw [hDs]; omega), Option.bind_some, hda]
  by_cases hd : (allD D && decide (D ≠ [])) = true
  · have hd1 : allD D = true := by
      rw [Bool.and_eq_true] at hd
      exact hd.1
    obtain ⟨b1, c, hc, b2⟩ := bounds hd1
    have hx : dvl D < B ^ 60 := by
      have : z.natAbs = dvl D := nv_abs _ _
      omega
    rw [if_pos hd, if_pos hd, mag_f (by rw [hDs]; omega) (by rw [hda]; exact hd1) (by omega), Option.bind_some, hda, Lib.toList_data, Lib.toList_data, hda, Make_z (Has.nat hx (show 60 ≤ 64 by omega)) (by omega), Option.bind_some]
    dsimp only
    show ((deci_Fixed.f k (zb z) (zl z) a1).bind _) = _
    rw [Fixed_z (HZ.z b1 (by omega)) hK hK9 hc b2 b1 (by omega), Option.bind_some, Lib.toList_data, hda]
    rfl
  · rw [if_neg hd, if_neg hd]
theorem Units_back {z a1 : Int} {k K : Nat} (hK : mn (mx a1 0) 9 = (K : Int)) (hK9 : K ≤ 9) (hl : (fixZ z K).length ≤ 400) (hk : 60000 ≤ k) : deci_Units.f k ⟨(fixZ z K).toArray⟩ a1 = some (zb z, zl z, 0) := by
  have hg := (Units_gen (s := ⟨(fixZ z K).toArray⟩) hK hK9 (by rw [size_mk]; exact hl) hk).1
  have hda : (⟨(fixZ z K).toArray⟩ : ByteArray).data.toList = fixZ z K := by simp
  rw [hda] at hg
  obtain ⟨p1, p2, p3⟩ := padT_spec z.natAbs K
  have hp0 : padT z.natAbs K ≠ [] := fun e => by rw [e] at p3; simp at p3
  have key : unm (fixZ z K) = fixT z.natAbs K ∧ nv (unm (fixZ z K) != fixZ z K) z.natAbs = z := by
    unfold fixZ
    by_cases hz : z < 0
    · rw [if_pos hz]
      have e : unm (45 :: fixT z.natAbs K) = fixT z.natAbs K := rfl
      have hne : fixT z.natAbs K ≠ 45 :: fixT z.natAbs K := fun h => by
        have := congrArg List.length h
        simp at this
      rw [e, bne_iff_ne.2 hne, nv_true]
      exact ⟨rfl, by omega⟩
    · rw [if_neg hz]
      obtain ⟨c, t, hc1, hc2⟩ := fixT_head z.natAbs K
      have hc : 48 ≤ c.toNat ∧ c.toNat ≤ 57 := by simpa [isDg] using hc2
      have h45 : ((45 : UInt8) == c) = false := beq_eq_false_iff_ne.2 fun e => by rw [← e] at hc; exact absurd hc.1 (by decide)
      have e : unm (fixT z.natAbs K) = fixT z.natAbs K := by
        rw [hc1]
        unfold unm Lib.trimPrefix Lib.hasPrefix
        rw [if_neg (by simp [List.isPrefixOf, h45])]
      rw [e, bne_self_eq_false, nv_false]
      exact ⟨rfl, by omega⟩
  obtain ⟨k1, k2⟩ := key
  rw [k1, cut_fix, p2, p1, decide_eq_true hp0, ← k1, k2, if_pos (by decide), if_pos rfl] at hg
  exact hg
theorem fixZ_len {z : Int} {K c : Nat} (h : z.natAbs < 10 ^ c) (hK : K ≤ 9) : (fixZ z K).length ≤ c + 13 := by
  have := (fixT_len h hK).2
  unfold fixZ
  split
  · simp; omega
  · omega
theorem DeciUnits_f {m : Bool} {l : List Int} {s : ByteArray} {a2 : Int} {k : Nat} (ha : Ok l) (hk : 70002 ≤ k) : isohyetlaw04_DeciUnits.f k m l s a2 = some true := by
  obtain ⟨K, hK, hK9⟩ : ∃ K : Nat, mn (mx a2 0) 9 = (K : Int) ∧ K ≤ 9 := by
    refine ⟨(mn (mx a2 0) 9).toNat, ?_, ?_⟩ <;> unfold mn mx <;> split <;> split <;> omega
  obtain ⟨k, rfl⟩ : ∃ j, k = j + 2 := ⟨k - 2, by omega⟩
  have j1 : s.size ≤ 1000 → isohyetlaw04_DeciUnits.j1 (k + 1) s a2 false = some true := fun h1000 => by
    simp only [isohyetlaw04_DeciUnits.j1]
    rw [if_neg (by decide)]
    have hnil : HZ false [] 0 := ⟨Ok.nil, by simp, rfl⟩
    by_cases h400 : s.size ≤ 400
    · obtain ⟨hg, hb⟩ := Units_gen (s := s) hK hK9 h400 (show 60000 ≤ k by omega)
      rw [hg]
      generalize (cutP (unm s.data.toList)).1 ++ (cutP (unm s.data.toList)).2.1 = D at *
      have bad : ((some (false, ([] : List Int), (1 : Int))).bind fun bt480 => (if bt480.2.2 = 0 then ((deci_Fixed.f k bt480.1 bt480.2.1 a2).bind fun t486 => (some (t486.toList == s.toList))) else ((num_Sign.f k bt480.1 bt480.2.1).bind fun t487 => (if t487 = 0 then (some ((bt480.2.2 == 2) == (decide ((s.size : Int) > 400)))) else (some false))))) = some true := by
        rw [Option.bind_some]
        dsimp only
        rw [if_neg (by decide), Sign_z hnil (by omega), Option.bind_some, if_pos (by rfl), decide_eq_false (by omega)]
        rfl
      by_cases hd : (allD D && decide (D ≠ [])) = true
      · have hd1 : allD D = true := by
          rw [Bool.and_eq_true] at hd
          exact hd.1
        obtain ⟨b1, c, hc, b2⟩ := hb hd1
        rw [if_pos hd]
        generalize nv (unm s.data.toList != s.data.toList) (dvl D) = z at *
        by_cases hf : fixZ z K = s.data.toList
        · rw [if_pos hf, Option.bind_some]
          dsimp only
          rw [if_pos rfl, Fixed_z (HZ.z b1 (by omega)) hK hK9 hc b2 b1 (by omega), Option.bind_some, Lib.toList_data, Lib.toList_data]
          have hda : (⟨(fixZ z K).toArray⟩ : ByteArray).data.toList = fixZ z K := by simp
          rw [hda, hf, beq_self_eq_true]
        · rw [if_neg hf]
          exact bad
      · rw [if_neg hd]
        exact bad
    · have hU : deci_Units.f k s a2 = some (false, [], 2) := by
        unfold deci_Units.f
        rw [if_pos (by omega)]
      rw [hU, Option.bind_some]
      dsimp only
      rw [if_neg (by decide), Sign_z hnil (by omega), Option.bind_some, if_pos (by rfl), decide_eq_true (by omega)]
      rfl
  unfold isohyetlaw04_DeciUnits.f
  rw [fit_z (by omega), Option.bind_some, if_pos rfl]
  by_cases hl : (l.length : Int) > 12
  · rw [if_pos hl]
    simp only [isohyetlaw04_DeciUnits.j0]
    rw [if_pos trivial]
  · rw [if_neg hl]
    by_cases hs : (s.size : Int) > 1000
    · rw [decide_eq_true hs]
      simp only [isohyetlaw04_DeciUnits.j0]
      rw [if_pos trivial]
    · have hz := HZ.of (m := m) ha (show l.length ≤ 64 by omega)
      have hv : (nv m (val l)).natAbs < B ^ 12 := by rw [nv_abs]; exact val_lt_of_len ha (by omega)
      generalize nv m (val l) = z at *
      have h234 : z.natAbs < 10 ^ (18 * 13) := Nat.lt_trans hv (by decide)
      have hB : z.natAbs < B ^ 60 := pow_le hv (by omega)
      have hlen := fixZ_len (K := K) h234 hK9
      rw [decide_eq_false hs]
      simp only [isohyetlaw04_DeciUnits.j0]
      rw [if_neg (by decide), Fixed_z hz hK hK9 (by omega) h234 hB (by omega), Option.bind_some, Units_back hK hK9 (by omega) (by omega), Option.bind_some]
      dsimp only
      rw [if_pos rfl, Cmp_z (HZ.z hB (by omega)) hz (by omega), Option.bind_some, Int.sub_self, show (sgn 0 != 0) = false from rfl]
      exact j1 (by omega)
end Go.Proofs.YtpdgjhaimfpacaaDoor.Mg
namespace Go.Proofs.YtpdgjhaimfpacaaDoor.Pure
open Go.Proofs.YtpdgjhaimfpacaaDoor.M
theorem DeciUnits : ∀ (a0 : Bool) (l0 : List Int) (a1 : ByteArray) (a2 : Int), l0.length ≤ maxLen → l0.length * 8 ≤ 140737488351232 → (∀ x ∈ l0, (Lit.int .u64 x).wf = true) → a1.size ≤ 140737488351232 → (Lit.int .i64 a2).wf = true → ∃ k, isohyetlaw04_DeciUnits.f k a0 l0 a1 a2 = some true := fun _ _ _ _ _ _ h _ _ => ⟨70002, Mg.DeciUnits_f (Mg.ok_of_wf h) (Nat.le_refl _)⟩
end Go.Proofs.YtpdgjhaimfpacaaDoor.Pure
