/- deci.Whole and the statement's own digits and test of a whole number's text; DeciWholes answers true. The statement's test of a whole number's text; DeciWholes answers true. DeciWholes answers true, over bytes: a number's digits are those of its magnitude, and are read as it; any text is a number's just if it is that number's. -/
import Derived.Test.YtpdgjhaimfpacaaDoorDZ
import Derived.Test.YtpdgjhaimfpacaaDoorX7
import Derived.Test.YtpdgjhaimfpacaaDoorR2
import Derived.Test.YtpdgjhaimfpacaaDoorA9
import Derived.Test.YtpdgjhaimfpacaaDoorKWholes
namespace Go.Proofs.YtpdgjhaimfpacaaDoor.Mg
open Go.RowKit Go.Proofs.YtpdgjhaimfpacaaDoorW.PrintWords Go.Proofs.YtpdgjhaimfpacaaDoorW.PrintMore Go.Proofs.YtpdgjhaimfpacaaDoor.MB Go.Proofs.YtpdgjhaimfpacaaDoor.M
set_option linter.unusedVariables false
set_option linter.unusedSimpArgs false

def dchI (d : Int) : UInt8 := UInt8.ofNat (48 + d.toNat)
theorem dec_dg (n : Nat) : dec n = ((dg n).map dchI).reverse := by
  induction n using Nat.strongRecOn with
  | _ n ih =>
    by_cases h : n = 0
    · subst h; rw [dec_zero, dg_zero]; rfl
    · have hT : n / T = n / 10 := rfl
      have hm : n % T = n % 10 := rfl
      rw [dec_pos h, dg_pos h, ih (n / 10) (by omega), hT, hm, List.map_cons, List.reverse_cons]
      rfl
theorem wdg {d : Nat} (h : d < 10) : (wrap64 (48 + (d : Int))) % 256 = ((48 + d : Nat) : Int) := by
  rw [w64 (by omega) (by omega)]
  omega
theorem wpred {i : Nat} (h : i ≤ 1000) : wrap64 ((i : Int) - 1) = (i : Int) - 1 := w64 (by omega) (by omega)
theorem refText_l0 (a : List Int) (ha : Dok a) (hl : a.length ≤ 400) : ∀ (i k : Nat) (out : ByteArray), i ≤ a.length → i < k → out.size + i ≤ 1000 →
    isohyetref01_Text.l0 k a out ((i : Int) - 1) = some ⟨(out.data.toList ++ ((a.take i).map dchI).reverse).toArray⟩
  | 0, k, out, hi, hk, ho => by
    obtain ⟨k, rfl⟩ : ∃ n, k = n + 1 := ⟨k - 1, by omega⟩
    simp only [isohyetref01_Text.l0]
    rw [if_neg (by omega)]
    congr 1
    exact ba_mk (by simp)
  | i + 1, k, out, hi, hk, ho => by
    obtain ⟨k, rfl⟩ : ∃ n, k = n + 1 := ⟨k - 1, by omega⟩
    have hd := ha.getD i
    obtain ⟨d, ed⟩ : ∃ d : Nat, a.getD i 0 = (d : Int) := ⟨(a.getD i 0).toNat, by omega⟩
    rw [ed] at hd
    have hs1 := strOf_one (n := 48 + d) (by omega)
    have hsz : (strOfNums [((48 + d : Nat) : Int)]).size = 1 := by rw [← size_len, hs1]; rfl
    have hda : (out ++ strOfNums [((48 + d : Nat) : Int)]).data.toList = out.data.toList ++ [UInt8.ofNat (48 + d)] := by rw [ByteArray.data_append, Array.toList_append, hs1]
    have hsz2 : (out ++ strOfNums [((48 + d : Nat) : Int)]).size = out.size + 1 := by rw [ByteArray.size_append, hsz]
    have ih := refText_l0 a ha hl i k (out ++ strOfNums [((48 + d : Nat) : Int)]) (by omega) (by omega) (by omega)
    have ht : a.take (i + 1) = a.take i ++ [a.getD i 0] := by
      rw [List.take_succ_eq_append_getElem (by omega)]
      simp [List.getD_eq_getElem?_getD, (by omega : i < a.length)]
    simp only [isohyetref01_Text.l0]
    rw [show ((i + 1 : Nat) : Int) - 1 = (i : Int) from by omega, if_pos (by omega), if_pos (by omega), if_pos (by omega), rd_cast a i, ed, wdg (by omega), Option.bind_some, if_pos (by rw [hsz]; omega), wpred (by omega), ih, hda, ht, ed]
    congr 2
    simp [dchI]
theorem refText_f {n k : Nat} (hl : (dg n).length ≤ 400) (hk : 1000 ≤ k) : isohyetref01_Text.f k (dg n) = some ⟨(txt n).toArray⟩ := by
  unfold isohyetref01_Text.f txt
  by_cases h : n = 0
  · subst h
    rw [dg_zero, if_pos (by rfl), if_pos rfl]
  · have hne : (dg n).length ≠ 0 := fun e => h (dg_eq_nil.1 (List.eq_nil_of_length_eq_zero e))
    have := refText_l0 (dg n) (Dok_dg n) hl (dg n).length k ⟨#[]⟩ (Nat.le_refl _) (by omega) (by show 0 + _ ≤ 1000; omega)
    rw [if_neg (by omega), if_neg h, wpred (by omega), this, List.take_length, dec_dg]
    rfl
/-- A whole number's text? -/
def wholeT (L : List UInt8) : Bool := allD (unm L) && decide (unm L ≠ []) && (decide ((unm L).head? ≠ some 48) || decide (L = [48]))
theorem bt_head (l : List UInt8) (h : l ≠ []) : bt ⟨l.toArray⟩ 0 = (((l.head?.getD 0).toNat : Nat) : Int) := by
  cases l with
  | nil => exact absurd rfl h
  | cons c t =>
    have := bt_cast ⟨(c :: t).toArray⟩ 0 (by rw [size_mk]; simp)
    rw [show ((0 : Nat) : Int) = 0 from rfl] at this
    rw [this]
    rfl
theorem Whole_f {s : ByteArray} {k : Nat} (hs : s.size ≤ 400) (hk : 60001 ≤ k) : deci_Whole.f k s = if wholeT s.data.toList = true then some (zb (nv (unm s.data.toList != s.data.toList) (dvl (unm s.data.toList))), zl (nv (unm s.data.toList != s.data.toList) (dvl (unm s.data.toList))), 0) else some (false, [], 1) := by
  have hda : ∀ l : List UInt8, (⟨l.toArray⟩ : ByteArray).data.toList = l := fun l => by simp
  have hul := unm_len s.data.toList
  rw [size_len] at hul
  obtain ⟨k, rfl⟩ : ∃ j, k = j + 1 := ⟨k - 1, by omega⟩
  unfold deci_Whole.f deci_whole.f strings_TrimPrefix.f
  rw [if_neg (by omega), Option.bind_some]
  have h45 : (⟨#[45]⟩ : ByteArray).data.toList = [45] := rfl
  rw [h45]
  show (((deci_digits.f (k + 1) ⟨(unm s.data.toList).toArray⟩).bind _).bind _) = _
  rw [digits_f (by rw [size_mk]; omega) (by rw [size_mk]; omega), Option.bind_some, hda]
  show ((if (allD (unm s.data.toList) && decide (unm s.data.toList ≠ [])) = true then (if 0 < ((⟨(unm s.data.toList).toArray⟩ : ByteArray).size : Int) then (if bt ⟨(unm s.data.toList).toArray⟩ 0 = 48 then deci_whole.j0 (k + 1) s ⟨(unm s.data.toList).toArray⟩ (s.toList != [48]) else deci_whole.j0 (k + 1) s ⟨(unm s.data.toList).toArray⟩ false) else none) else deci_whole.j0 (k + 1) s ⟨(unm s.data.toList).toArray⟩ true).bind _) = _
  have bad : (deci_whole.j0 (k + 1) s ⟨(unm s.data.toList).toArray⟩ true) = some (false, [], 1) := by
    simp only [deci_whole.j0]
    rw [if_pos trivial]
  unfold wholeT
  by_cases hd : (allD (unm s.data.toList) && decide (unm s.data.toList ≠ [])) = true
  · have hd1 : allD (unm s.data.toList) = true := by rw [Bool.and_eq_true] at hd; exact hd.1
    have hd2 : unm s.data.toList ≠ [] := by rw [Bool.and_eq_true] at hd; exact of_decide_eq_true hd.2
    have hlen : (unm s.data.toList).length ≠ 0 := fun e => hd2 (List.eq_nil_of_length_eq_zero e)
    have good : (deci_whole.j0 (k + 1) s ⟨(unm s.data.toList).toArray⟩ false) = some (zb (nv (unm s.data.toList != s.data.toList) (dvl (unm s.data.toList))), zl (nv (unm s.data.toList != s.data.toList) (dvl (unm s.data.toList))), 0) := by
      have hlt := dvl_lt hd1
      have h1 := ten_s (n := (unm s.data.toList).length) (by omega)
      rw [Nat.zero_add, Nat.one_mul] at h1
      have hb : dvl (unm s.data.toList) < B ^ 60 := Nat.lt_of_lt_of_le hlt h1
      simp only [deci_whole.j0]
      rw [if_neg (by decide), mag_f (by rw [size_mk]; omega) (by rw [hda]; exact hd1) (by omega), Option.bind_some, hda, Lib.toList_data, Lib.toList_data, hda, Make_z (Has.nat hb (show 60 ≤ 64 by omega)) (by omega), Option.bind_some]
    rw [hd, if_pos rfl, size_mk, if_pos (by omega), bt_head _ hd2, Bool.true_and]
    have hh : ∃ c, (unm s.data.toList).head? = some c := by
      cases hu : unm s.data.toList with
      | nil => exact absurd hu hd2
      | cons c t => exact ⟨c, rfl⟩
    obtain ⟨c, hc⟩ := hh
    rw [hc, Option.getD_some, Lib.toList_data]
    by_cases h48 : c = 48
    · subst h48
      rw [if_pos (by rfl), decide_eq_false (show ¬ (some (48 : UInt8) ≠ some 48) from fun h => h rfl), Bool.false_or]
      by_cases hL : s.data.toList = [48]
      · rw [decide_eq_true hL, if_pos rfl, show (s.data.toList != [48]) = false from by rw [hL]; rfl, good, Option.bind_some]
      · rw [decide_eq_false hL, if_neg (by decide), show (s.data.toList != [48]) = true from bne_iff_ne.2 hL, bad, Option.bind_some]
    · have hne : ¬ ((c.toNat : Nat) : Int) = 48 := fun h => h48 (UInt8.toNat_inj.1 (show c.toNat = 48 by omega))
      rw [if_neg hne, decide_eq_true (show some c ≠ some (48 : UInt8) from fun h => h48 (Option.some.inj h)), Bool.true_or, if_pos rfl, good, Option.bind_some]
  · have hd' : (allD (unm s.data.toList) && decide (unm s.data.toList ≠ [])) = false := by simpa using hd
    rw [if_neg hd, bad, Option.bind_some, hd', Bool.false_and, if_neg (by decide)]
end Go.Proofs.YtpdgjhaimfpacaaDoor.Mg
namespace Go.Proofs.YtpdgjhaimfpacaaDoor.Mg
open Go.RowKit Go.Proofs.YtpdgjhaimfpacaaDoorW.PrintWords Go.Proofs.YtpdgjhaimfpacaaDoorW.PrintMore Go.Proofs.YtpdgjhaimfpacaaDoor.MB Go.Proofs.YtpdgjhaimfpacaaDoor.M
set_option linter.unusedVariables false
set_option linter.unusedSimpArgs false

theorem plain_l0 (s : ByteArray) (t : List UInt8) (ht : t.length ≤ 1000) : ∀ (d i k : Nat), i + d = t.length → d < k →
    isohyetlaw04_plain.l0 k s ⟨t.toArray⟩ (t.length : Int) (i : Int) = some (allD (t.drop i) && (decide (s.data.toList = [48]) || (decide (t ≠ []) && decide (t.head? ≠ some 48))))
  | 0, i, k, hi, hk => by
    obtain ⟨k, rfl⟩ : ∃ n, k = n + 1 := ⟨k - 1, by omega⟩
    simp only [isohyetlaw04_plain.l0]
    rw [if_neg (by omega), List.drop_of_length_le (by omega), Lib.toList_data, show allD [] = true from rfl, Bool.true_and, size_mk]
    by_cases hL : s.data.toList = [48]
    · rw [if_pos hL, decide_eq_true hL, Bool.true_or]
    · rw [if_neg hL, decide_eq_false hL, Bool.false_or]
      cases t with
      | nil =>
        rw [if_neg (by simp)]
        rfl
      | cons c r =>
        rw [if_pos (by simp), if_pos (by simp), bt_head _ (by simp), decide_eq_true (show c :: r ≠ [] by simp), Bool.true_and]
        congr 1
        by_cases h : c = 48
        · subst h; rfl
        · have h1 : ((c.toNat : Nat) : Int) ≠ 48 := fun e => h (UInt8.toNat_inj.1 (show c.toNat = 48 by omega))
          show (((c.toNat : Nat) : Int) != 48) = _
          rw [bne_iff_ne.2 h1, decide_eq_true (show (c :: r).head? ≠ some 48 from fun e => h (Option.some.inj e))]
  | d + 1, i, k, hi, hk => by
    obtain ⟨k, rfl⟩ : ∃ n, k = n + 1 := ⟨k - 1, by omega⟩
    have ih := plain_l0 s t ht d (i + 1) k (by omega) (by omega)
    have hbt := bt_cast ⟨t.toArray⟩ i (by rw [size_mk]; omega)
    have hda : (⟨t.toArray⟩ : ByteArray).data.toList = t := by simp
    rw [hda] at hbt
    simp only [isohyetlaw04_plain.l0]
    rw [if_pos (by omega), if_pos (by omega), size_mk, if_pos (by omega), hbt, drop_getD _ i (by omega), w64 (x := (i : Int) + 1) (by omega) (by omega)]
    generalize t.getD i 0 = c
    have e : allD (c :: t.drop (i + 1)) = (isDg c && allD (t.drop (i + 1))) := rfl
    rw [e]
    by_cases h1 : (c.toNat : Int) < 48
    · have : isDg c = false := decide_eq_false (by omega)
      rw [if_pos h1, this]
      rfl
    · rw [if_neg h1]
      by_cases h2 : (c.toNat : Int) > 57
      · have : isDg c = false := decide_eq_false (by omega)
        rw [if_pos h2, this]
        rfl
      · have : isDg c = true := decide_eq_true (by omega)
        rw [if_neg h2, this, Bool.true_and]
        exact ih
theorem plain_f {s : ByteArray} {k : Nat} (hs : s.size ≤ 400) (hk : 1000 ≤ k) : isohyetlaw04_plain.f k s = some (wholeT s.data.toList) := by
  obtain ⟨k, rfl⟩ : ∃ n, k = n + 2 := ⟨k - 2, by omega⟩
  have hl := size_len s
  have fin : ∀ t : List UInt8, t = unm s.data.toList → isohyetlaw04_plain.j1 (k + 1) s ⟨t.toArray⟩ = some (wholeT s.data.toList) := by
    intro t ht
    have hul := unm_len s.data.toList
    simp only [isohyetlaw04_plain.j1]
    rw [size_mk]
    have := plain_l0 s t (by rw [ht]; omega) t.length 0 k (by omega) (by rw [ht]; omega)
    rw [List.drop_zero] at this
    rw [show ((0 : Nat) : Int) = 0 from rfl] at this
    rw [this]
    unfold wholeT
    rw [← ht]
    by_cases hL : s.data.toList = [48]
    · have ht2 : t = [48] := by rw [ht, hL]; rfl
      rw [hL, ht2]
      rfl
    · rw [decide_eq_false hL, Bool.false_or, Bool.or_false, Bool.and_assoc]
  have hself : s = ⟨s.data.toList.toArray⟩ := ba_mk rfl
  unfold isohyetlaw04_plain.f
  rw [if_neg (by omega)]
  cases hL : s.data.toList with
  | nil =>
    rw [hL] at hl fin
    rw [if_neg (by simp at hl; omega)]
    simp only [isohyetlaw04_plain.j0]
    rw [if_neg (by decide)]
    have := fin [] (by rfl)
    rw [hL] at hself
    rw [hself] at this ⊢
    exact this
  | cons c r =>
    have hpos : 0 < s.size := by rw [← hl, hL]; simp
    have hbt := bt_cast s 0 hpos
    rw [hL, show ((0 : Nat) : Int) = 0 from rfl, show (c :: r).getD 0 0 = c from rfl] at hbt
    rw [hL] at fin
    rw [if_pos (by omega), if_pos (by omega), hbt]
    simp only [isohyetlaw04_plain.j0]
    by_cases h45 : c = 45
    · have e : (((c.toNat : Nat) : Int) == 45) = true := by subst h45; rfl
      have hex : s.extract 1 s.size = ⟨r.toArray⟩ := ba_mk (by rw [Lib.extract_to_end, hL]; rfl)
      have hu : r = unm (c :: r) := by
        subst h45
        rfl
      rw [e, if_pos rfl, if_pos (by omega), hex]
      exact fin r hu
    · have h1 : ((c.toNat : Nat) : Int) ≠ 45 := fun e => h45 (UInt8.toNat_inj.1 (show c.toNat = 45 by omega))
      have e : (((c.toNat : Nat) : Int) == 45) = false := beq_eq_false_iff_ne.2 h1
      have hb : ((45 : UInt8) == c) = false := beq_eq_false_iff_ne.2 (Ne.symm h45)
      have hu : c :: r = unm (c :: r) := by
        unfold unm Lib.trimPrefix Lib.hasPrefix
        rw [if_neg (by simp [List.isPrefixOf, hb])]
      rw [e, if_neg (by decide)]
      have := fin (c :: r) hu
      rw [hL] at hself
      rw [← hself] at this
      exact this
end Go.Proofs.YtpdgjhaimfpacaaDoor.Mg
namespace Go.Proofs.YtpdgjhaimfpacaaDoor.Mg
open Go.RowKit Go.Proofs.YtpdgjhaimfpacaaDoorW.PrintWords Go.Proofs.YtpdgjhaimfpacaaDoorW.PrintMore Go.Proofs.YtpdgjhaimfpacaaDoor.MB Go.Proofs.YtpdgjhaimfpacaaDoor.M
set_option linter.unusedVariables false
set_option linter.unusedSimpArgs false

theorem dec_head {n : Nat} (h : n ≠ 0) : (dec n).head? ≠ some 48 := by
  intro e
  obtain ⟨h1, h2⟩ := dec_spec n
  have hge := dec_ge n h
  cases hd : dec n with
  | nil => rw [hd] at e; cases e
  | cons c r =>
    rw [hd] at e h1 h2 hge
    have hc : c = 48 := Option.some.inj e
    subst hc
    have hr : allD r = true := by
      simp only [allD, List.all_cons, Bool.and_eq_true] at h1
      exact h1.2
    have hlt := dvl_lt hr
    have hap := dvl_append [48] r
    have h0 : dvl [48] = 0 := rfl
    rw [h0, Nat.zero_mul, Nat.zero_add] at hap
    have h3 : dvl (48 :: r) = dvl r := hap
    rw [h3] at h2
    rw [List.length_cons, Nat.add_sub_cancel] at hge
    omega
theorem unm_cases (L : List UInt8) : unm L = L ∨ L = 45 :: unm L := by
  cases L with
  | nil => exact .inl rfl
  | cons c r =>
    by_cases h : c = 45
    · subst h; exact .inr rfl
    · left
      have hb : ((45 : UInt8) == c) = false := beq_eq_false_iff_ne.2 (Ne.symm h)
      unfold unm Lib.trimPrefix Lib.hasPrefix
      rw [if_neg (by simp [List.isPrefixOf, hb])]
theorem unm_dig {L : List UInt8} (h : allD L = true) : unm L = L := by
  rcases unm_cases L with e | e
  · exact e
  · rw [e] at h
    simp only [allD, List.all_cons, Bool.and_eq_true] at h
    exact absurd h.1 (by decide)
theorem ztxt_whole {L : List UInt8} (h : wholeT L = true) : ztxt (nv (unm L != L) (dvl (unm L))) = L := by
  by_cases hL : L = [48]
  · subst hL; rfl
  · unfold wholeT at h
    rw [decide_eq_false hL, Bool.or_false, Bool.and_eq_true, Bool.and_eq_true] at h
    obtain ⟨⟨h1, h2⟩, h3⟩ := h
    have h2 := of_decide_eq_true h2
    have h3 := of_decide_eq_true h3
    have hd := dec_of _ (unm L) rfl h1 h3
    have hne : dvl (unm L) ≠ 0 := fun e => h2 (by rw [← hd, e, dec_zero])
    have ht : txt (dvl (unm L)) = unm L := by unfold txt; rw [if_neg hne, hd]
    rcases unm_cases L with e | e
    · have hb : (unm L != L) = false := by rw [e]; exact bne_self_eq_false ..
      rw [hb, nv_false]
      unfold ztxt
      rw [if_neg (by omega), Int.natAbs_natCast, ht, e]
    · have hb : (unm L != L) = true := bne_iff_ne.2 fun e2 => by
        have := congrArg List.length e
        rw [← e2] at this
        simp at this
        have h5 : (unm L).length = (unm (unm L)).length + 1 := this
        rw [unm_dig h1] at h5
        omega
      rw [hb, nv_true]
      unfold ztxt
      rw [if_pos (by omega), Int.natAbs_neg, Int.natAbs_natCast, ht]
      exact e.symm
theorem whole_ztxt (z : Int) : wholeT (ztxt z) = true ∧ nv (unm (ztxt z) != ztxt z) (dvl (unm (ztxt z))) = z := by
  obtain ⟨h1, h2⟩ := txt_spec z.natAbs
  have h3 := txt_ne z.natAbs
  by_cases hz : z < 0
  · have e : ztxt z = 45 :: txt z.natAbs := by unfold ztxt; rw [if_pos hz]
    have hu : unm (45 :: txt z.natAbs) = txt z.natAbs := rfl
    have hne : txt z.natAbs ≠ 45 :: txt z.natAbs := fun h => by
      have := congrArg List.length h
      simp at this
    have hh : (txt z.natAbs).head? ≠ some 48 := by
      unfold txt
      rw [if_neg (by omega)]
      exact dec_head (by omega)
    rw [e]
    unfold wholeT
    rw [hu, h1, decide_eq_true h3, decide_eq_true hh, h2, bne_iff_ne.2 hne, nv_true]
    exact ⟨rfl, by omega⟩
  · have e : ztxt z = txt z.natAbs := by unfold ztxt; rw [if_neg hz]
    have hu := unm_dig h1
    rw [e]
    unfold wholeT
    rw [hu, h1, decide_eq_true h3, h2, bne_self_eq_false, nv_false]
    refine ⟨?_, by omega⟩
    by_cases h0 : z.natAbs = 0
    · rw [h0]; rfl
    · have hh : (txt z.natAbs).head? ≠ some 48 := by
        unfold txt
        rw [if_neg h0]
        exact dec_head h0
      rw [decide_eq_true hh]
      rfl
theorem DeciWholes_f {m : Bool} {l : List Int} {s : ByteArray} {k : Nat} (ha : Ok l) (hk : 70003 ≤ k) : isohyetlaw04_DeciWholes.f k m l s = some true := by
  obtain ⟨k, rfl⟩ : ∃ j, k = j + 3 := ⟨k - 3, by omega⟩
  have hda : ∀ l : List UInt8, (⟨l.toArray⟩ : ByteArray).data.toList = l := fun l => by simp
  have hnil : HZ false [] 0 := ⟨Ok.nil, by simp, rfl⟩
  have j2 : isohyetlaw04_DeciWholes.j2 (k + 1) s false = some true := by
    simp only [isohyetlaw04_DeciWholes.j2]
    rw [if_neg (by decide)]
    by_cases h400 : s.size ≤ 400
    · have hP := plain_f (s := s) (k := k) h400 (by omega)
      rw [Whole_f h400 (by omega)]
      by_cases hw : wholeT s.data.toList = true
      · have hzt := ztxt_whole hw
        have hd1 : allD (unm s.data.toList) = true := by
          unfold wholeT at hw
          rw [Bool.and_eq_true, Bool.and_eq_true] at hw
          exact hw.1.1
        have hul := unm_len s.data.toList
        rw [size_len] at hul
        have hlt := dvl_lt hd1
        have h1 := ten_s (n := (unm s.data.toList).length) (by omega)
        rw [Nat.zero_add, Nat.one_mul] at h1
        obtain ⟨c, hc, hcl⟩ : ∃ c, c ≤ 52 ∧ 400 ≤ 18 * c := ⟨23, by omega, by omega⟩
        have hna : (nv (unm s.data.toList != s.data.toList) (dvl (unm s.data.toList))).natAbs = dvl (unm s.data.toList) := nv_abs _ _
        have b2 : dvl (unm s.data.toList) < 10 ^ (18 * c) := Nat.lt_of_lt_of_le hlt (Nat.pow_le_pow_right (by decide) (by omega))
        have b1 : dvl (unm s.data.toList) < B ^ 60 := Nat.lt_of_lt_of_le hlt h1
        rw [← hna] at b1 b2
        rw [if_pos hw, Option.bind_some]
        dsimp only
        rw [if_pos rfl, Digits_z (HZ.z b1 (by omega)) hc b2 b1 (by omega), Option.bind_some, Lib.toList_data, Lib.toList_data, hda, if_pos hzt, hP, Option.bind_some, hw]
      · have hw' : wholeT s.data.toList = false := by simpa using hw
        rw [if_neg hw, Option.bind_some]
        dsimp only
        rw [if_neg (by decide), Sign_z hnil (by omega), Option.bind_some, if_pos (by rfl), decide_eq_false (show ¬ ((s.size : Int) > 400) from by omega), if_pos (by decide), hP, Option.bind_some, hw']
        rfl
    · have hU : deci_Whole.f k s = some (false, [], 2) := by
        unfold deci_Whole.f
        rw [if_pos (by omega)]
      have hP : isohyetlaw04_plain.f k s = some false := by
        unfold isohyetlaw04_plain.f
        rw [if_pos (by omega)]
      rw [hU, Option.bind_some]
      dsimp only
      rw [if_neg (by decide), Sign_z hnil (by omega), Option.bind_some, if_pos (by rfl), decide_eq_true (show (s.size : Int) > 400 from by omega), if_pos (by decide), hP, Option.bind_some]
      rfl
  unfold isohyetlaw04_DeciWholes.f
  rw [fit_z (by omega), Option.bind_some, if_pos rfl]
  by_cases hl : (l.length : Int) > 12
  · rw [if_pos hl]
    simp only [isohyetlaw04_DeciWholes.j0]
    rw [if_pos trivial]
  · rw [if_neg hl]
    by_cases hs : (s.size : Int) > 1000
    · rw [decide_eq_true hs]
      simp only [isohyetlaw04_DeciWholes.j0]
      rw [if_pos trivial]
    · have hz := HZ.of (m := m) ha (show l.length ≤ 64 by omega)
      have hvl := val_lt_of_len (m := 12) ha (by omega)
      have hna := nv_abs m (val l)
      have hv : (nv m (val l)).natAbs < B ^ 12 := by rw [hna]; exact hvl
      have hT : val l < T ^ 250 := Nat.lt_trans hvl (by decide)
      have hdl := length_dg_le hT
      have hD := Digits_f (k := k + 2) ha (by omega) hT (by omega)
      have hR := refText_f (n := val l) (k := k + 2) (by omega) (by omega)
      rw [← hna] at hR hD
      generalize nv m (val l) = z at *
      have h234 : z.natAbs < 10 ^ (18 * 13) := Nat.lt_trans hv (by decide)
      have hB : z.natAbs < B ^ 60 := pow_le hv (by omega)
      have htl := txt_len h234
      have hztl : (ztxt z).length ≤ 300 := by
        unfold ztxt
        split
        · simp; omega
        · omega
      obtain ⟨w1, w2⟩ := whole_ztxt z
      have hW := Whole_f (s := ⟨(ztxt z).toArray⟩) (k := k + 1) (by rw [size_mk]; omega) (by omega)
      rw [hda, if_pos w1, w2] at hW
      have hsg : (sgn z < 0) ↔ z < 0 := by rcases sgn_cases z with ⟨p, e⟩ | ⟨p, e⟩ | ⟨p, e⟩ <;> rw [e] <;> omega
      have j1 : isohyetlaw04_DeciWholes.j1 (k + 2) s ⟨(ztxt z).toArray⟩ ⟨(ztxt z).toArray⟩ m l = some true := by
        simp only [isohyetlaw04_DeciWholes.j1]
        rw [hW, Option.bind_some]
        dsimp only
        rw [if_pos rfl, if_pos trivial, Cmp_z hz (HZ.z hB (by omega)) (by omega), Option.bind_some, Int.sub_self, show (sgn 0 != 0) = false from rfl]
        exact j2
      rw [decide_eq_false hs]
      simp only [isohyetlaw04_DeciWholes.j0]
      rw [if_neg (by decide), Digits_z hz (by omega) h234 hB (by omega), Option.bind_some, hD, Option.bind_some, hR, Option.bind_some, Sign_z hz (by omega), Option.bind_some]
      by_cases hn : z < 0
      · have e : (⟨#[45]⟩ : ByteArray) ++ (⟨(txt z.natAbs).toArray⟩ : ByteArray) = ⟨(ztxt z).toArray⟩ := by
          apply ba_mk
          rw [ByteArray.data_append, Array.toList_append, hda]
          unfold ztxt
          rw [if_pos hn]
          rfl
        rw [if_pos (hsg.2 hn), size_mk, if_pos (by omega), e]
        exact j1
      · have e : txt z.natAbs = ztxt z := by unfold ztxt; rw [if_neg hn]
        rw [if_neg (fun h => hn (hsg.1 h)), e]
        exact j1
end Go.Proofs.YtpdgjhaimfpacaaDoor.Mg
namespace Go.Proofs.YtpdgjhaimfpacaaDoor.Pure
open Go.Proofs.YtpdgjhaimfpacaaDoor.M
theorem DeciWholes : ∀ (a0 : Bool) (l0 : List Int) (a1 : ByteArray), l0.length ≤ maxLen → l0.length * 8 ≤ 140737488351232 → (∀ x ∈ l0, (Lit.int .u64 x).wf = true) → a1.size ≤ 140737488351232 → ∃ k, isohyetlaw04_DeciWholes.f k a0 l0 a1 = some true := fun _ _ _ _ _ h _ => ⟨70003, Mg.DeciWholes_f (Mg.ok_of_wf h) (Nat.le_refl _)⟩
end Go.Proofs.YtpdgjhaimfpacaaDoor.Pure
