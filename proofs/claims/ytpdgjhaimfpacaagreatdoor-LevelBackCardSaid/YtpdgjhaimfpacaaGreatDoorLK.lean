/- LevelBack answers true: levels that are printed are read as they were. -/
import Derived.Test.YtpdgjhaimfpacaaGreatDoorLT
import Derived.Test.YtpdgjhaimfpacaaGreatDoorLI
import Derived.Test.YtpdgjhaimfpacaaGreatDoorE12
import Derived.Test.YtpdgjhaimfpacaaGreatDoorKBack
import Derived.OpenShut
namespace Go.Proofs.YtpdgjhaimfpacaaGreatDoor.Mg
open Go.RowKit Go.Proofs.YtpdgjhaimfpacaaGreatDoorW.PrintWords Go.Proofs.YtpdgjhaimfpacaaGreatDoorW.PrintMore Go.Proofs.YtpdgjhaimfpacaaGreatDoor.MB Go.Proofs.YtpdgjhaimfpacaaGreatDoor.M
set_option linter.unusedVariables false
set_option linter.unusedSimpArgs false

theorem bb_app (a b : List UInt8) : (⟨a.toArray⟩ : ByteArray) ++ (⟨b.toArray⟩ : ByteArray) = ⟨(a ++ b).toArray⟩ := by
  apply ba_mk
  rw [ByteArray.data_append, Array.toList_append]
theorem rd_get {l : List Int} {i : Nat} (h : i < l.length) : rd l (i : Int) = l[i] := by
  show l.getD (i : Int).toNat 0 = _
  rw [Int.toNat_natCast]
  simp [List.getD, h]
/-- Rising, within bounds, and no more than so many. -/
def Good (m : Nat) (out : List Int) : Prop := out.Pairwise (· < ·) ∧ (∀ y ∈ out, -2147483648 ≤ y ∧ y ≤ 2147483648) ∧ out.length ≤ m
theorem good_ins {m i : Nat} {out : List Int} {n : Int} (h : Good m out) (hn : -2147483648 ≤ n ∧ n ≤ 2147483648) (hi : i ≤ out.length) (hlt : ∀ y ∈ out.take i, y < n) (hgt : ∀ h : i < out.length, n < out[i]) : Good (m + 1) (out.take i ++ ([n] ++ out.drop i)) := by
  obtain ⟨h1, h2, h3⟩ := h
  have hd : ∀ y ∈ out.drop i, n < y := fun y hy => by
    obtain ⟨j, hj, rfl⟩ := List.getElem_of_mem hy
    rw [List.length_drop] at hj
    have hio : i < out.length := by omega
    have h0 := hgt hio
    rw [List.getElem_drop]
    rcases Nat.eq_zero_or_pos j with e | e
    · subst e
      exact h0
    · have := List.pairwise_iff_getElem.1 h1 i (i + j) hio (by omega) (by omega)
      omega
  refine ⟨?_, fun y hy => ?_, ?_⟩
  · rw [List.pairwise_append]
    refine ⟨h1.sublist (List.take_sublist _ _), List.Pairwise.cons hd (h1.sublist (List.drop_sublist _ _)), fun x hx y hy => ?_⟩
    have hxn := hlt x hx
    rcases List.mem_cons.1 hy with rfl | hy
    · exact hxn
    · have := hd y hy
      omega
  · rcases List.mem_append.1 hy with hy | hy
    · exact h2 y (List.mem_of_mem_take hy)
    · rcases List.mem_cons.1 hy with rfl | hy
      · exact hn
      · exact h2 y (List.mem_of_mem_drop hy)
  · simp only [List.length_append, List.length_take, List.length_drop, List.length_singleton]
    omega
theorem rising_l1 {out x7 : List Int} {n x8 x9 : Int} {m base : Nat} (h : Good m out) (hm : m ≤ 100) (hn : -2147483648 ≤ n ∧ n ≤ 2147483648) : ∀ (d i k : Nat), i + d = out.length → (∀ y ∈ out.take i, y < n) → base + d + 1 ≤ k →
    ∃ out' k', Good (m + 1) out' ∧ out' ≠ [] ∧ base ≤ k' ∧ isohyetlaw18_rising.l1 k out n (i : Int) x7 x8 x9 = isohyetlaw18_rising.l0 k' out' x7 x8 (wrap64 (x9 + 1)) := by
  have hlen := h.2.2
  have hcat : ∀ i : Nat, i ≤ out.length → row_concat.f (out.take (i : Int).toNat) ([n] ++ out.drop (i : Int).toNat) = some (out.take i ++ ([n] ++ out.drop i)) := fun i hi => by
    rw [Int.toNat_natCast]
    unfold row_concat.f
    rw [if_pos ⟨by simp, by simp only [List.length_append, List.length_take, List.length_drop, List.length_singleton]; omega⟩]
  have hins : ∀ i : Nat, ([n] : List Int).length + (out.drop (i : Int).toNat).length < 17592186044416 := fun i => by
    rw [List.length_singleton, List.length_drop]
    omega
  intro d
  induction d with
  | zero =>
    intro i k hi hlt hk
    obtain ⟨k, rfl⟩ : ∃ j, k = j + 1 := ⟨k - 1, by omega⟩
    refine ⟨_, k, good_ins h hn (i := i) (by omega) hlt (fun hh => by omega), by simp, by omega, ?_⟩
    simp only [isohyetlaw18_rising.l1]
    rw [if_neg (by omega), if_pos (by omega), if_pos (by omega), if_pos (by omega), Option.bind_some, Option.bind_some, if_pos (hins i), hcat i (by omega), Option.bind_some]
  | succ d ih =>
    intro i k hi hlt hk
    obtain ⟨k, rfl⟩ : ∃ j, k = j + 1 := ⟨k - 1, by omega⟩
    have hio : i < out.length := by omega
    by_cases hc : out[i] < n
    · obtain ⟨o', k', p1, p2, p3, p4⟩ := ih (i + 1) k (by omega) (fun y hy => by
        rw [← take_snoc out i hio] at hy
        rcases List.mem_append.1 hy with hy | hy
        · exact hlt y hy
        · rw [List.mem_singleton.1 hy]; exact hc) (by omega)
      refine ⟨o', k', p1, p2, p3, ?_⟩
      simp only [isohyetlaw18_rising.l1]
      rw [if_pos (by omega), if_pos (by omega), rd_get hio, if_pos hc, wi1 (by omega)]
      exact p4
    · by_cases he : out[i] = n
      · refine ⟨out, k, ⟨h.1, h.2.1, by omega⟩, fun e => by rw [e] at hio; simp at hio, by omega, ?_⟩
        simp only [isohyetlaw18_rising.l1]
        rw [if_pos (by omega), if_pos (by omega), rd_get hio, if_neg hc, if_neg (by omega), if_pos he]
      · refine ⟨_, k, good_ins h hn (i := i) (by omega) hlt (fun hh => by omega), by simp, by omega, ?_⟩
        simp only [isohyetlaw18_rising.l1]
        rw [if_pos (by omega), if_pos (by omega), rd_get hio, if_neg hc, if_neg (by omega), if_neg he, if_pos (by omega), Option.bind_some, Option.bind_some, if_pos (hins i), hcat i (by omega), Option.bind_some]
theorem rising_l0 {l : List Int} (hl : l.length ≤ 60) (hr : ∀ y ∈ l, -2147483648 ≤ y ∧ y ≤ 2147483648) : ∀ (d i k : Nat) (out : List Int), i + d = l.length → Good i out → (0 < i → out ≠ []) → 100 * d + 1 ≤ k →
    ∃ r, Good 60 r ∧ (0 < l.length → r ≠ []) ∧ isohyetlaw18_rising.l0 k out l (l.length : Int) (i : Int) = some r
  | 0, i, k, out, hi, hg, h0, hk => by
    obtain ⟨k, rfl⟩ : ∃ j, k = j + 1 := ⟨k - 1, by omega⟩
    refine ⟨out, ⟨hg.1, hg.2.1, by have := hg.2.2; omega⟩, fun h => h0 (by omega), ?_⟩
    simp only [isohyetlaw18_rising.l0]
    rw [if_neg (by omega)]
  | d + 1, i, k, out, hi, hg, h0, hk => by
    obtain ⟨k, rfl⟩ : ∃ j, k = j + 1 := ⟨k - 1, by omega⟩
    have hlt : i < l.length := by omega
    have hgl := hg.2.2
    obtain ⟨o', k', p1, p2, p3, p4⟩ := rising_l1 (x7 := l) (x8 := (l.length : Int)) (x9 := (i : Int)) (base := 100 * d + 1) hg (by omega) (hr l[i] (List.getElem_mem hlt)) out.length 0 k (by omega) (fun y hy => by simp at hy) (by omega)
    obtain ⟨r, q1, q2, q3⟩ := rising_l0 hl hr d (i + 1) k' o' (by omega) p1 (fun _ => p2) p3
    refine ⟨r, q1, q2, ?_⟩
    rw [wi1 (by omega), q3] at p4
    simp only [isohyetlaw18_rising.l0]
    rw [if_pos (by omega), if_pos (by omega), if_pos (by omega), rd_get hlt]
    exact p4
theorem rising_f {l : List Int} {k : Nat} (hl : l.length ≤ 60) (hr : ∀ y ∈ l, -2147483648 ≤ y ∧ y ≤ 2147483648) (hk : 6001 ≤ k) : ∃ r, Good 60 r ∧ (0 < l.length → r ≠ []) ∧ isohyetlaw18_rising.f k l = some r := by
  unfold isohyetlaw18_rising.f
  exact rising_l0 hl hr l.length 0 k [] (by omega) ⟨List.Pairwise.nil, (fun y hy => by cases hy), Nat.le_refl _⟩ (fun h => by omega) (by omega)
theorem Back_l1 {a1 : Int} {K : Nat} {r : List Int} (hg : Good 60 r) (hne : r ≠ []) (hK : mn (mx a1 0) 9 = (K : Int)) (hK9 : K ≤ 9) : ∀ (d i k : Nat), i + d = r.length → d + 63000 ≤ k →
    isohyetlaw18_LevelBack.l1 k a1 r ⟨(jn 44 (txs K (r.take i))).toArray⟩ r (r.length : Int) (i : Int) = some true := by
  obtain ⟨h1, h2, h3⟩ := hg
  have hwf : ∀ z ∈ r, -9223372036854775808 ≤ z ∧ z ≤ 9223372036854775807 := fun z hz => by have := h2 z hz; omega
  intro d
  induction d with
  | zero =>
    intro i k hi hk
    obtain ⟨k, rfl⟩ : ∃ j, k = j + 1 := ⟨k - 1, by omega⟩
    have hpa := Parse_list (a1 := a1) (K := K) (k := k) r hne h1 h2 hK hK9 (by omega) (by omega)
    have hpr := Print_f (a1 := a1) (K := K) (k := k) r hwf hK hK9 (by omega) (by omega)
    have hp0 := Print_f (a1 := a1) (K := K) (k := k) [] (fun z hz => by cases hz) hK hK9 (by simp) (by omega)
    have hsm := same_f (k := k) r (by omega) (by omega)
    simp only [isohyetlaw18_LevelBack.l1]
    rw [if_neg (by omega), List.take_of_length_le (by omega), hpa, Option.bind_some, hpr, Option.bind_some, if_pos rfl]
    dsimp only
    rw [if_pos rfl, hsm, Option.bind_some, if_pos rfl, hp0, Option.bind_some, Lib.toList_data]
    rfl
  | succ d ih =>
    intro i k hi hk
    obtain ⟨k, rfl⟩ : ∃ j, k = j + 1 := ⟨k - 1, by omega⟩
    have ih := ih (i + 1) k (by omega) (by omega)
    have hlt : i < r.length := by omega
    have hz := hwf r[i] (List.getElem_mem hlt)
    have htl := fixZ_len (n := r[i]) (K := K) hz.1 hz.2 hK9
    have hjl := jn_len 44 60 (txs K (r.take i)) (txs_size hK9 (fun z hz => hwf z (List.mem_of_mem_take hz)))
    rw [txs_len, List.length_take] at hjl
    have hmin : min i r.length ≤ 60 := by omega
    have h44 : (⟨#[44]⟩ : ByteArray) = ⟨([44] : List UInt8).toArray⟩ := rfl
    have hts : txs K (r.take (i + 1)) = txs K (r.take i) ++ [fixZ r[i] K] := by
      rw [← take_snoc r i hlt]
      unfold txs
      rw [List.map_append]
      rfl
    have htx := Text_f (a1 := a1) (K := K) (n := r[i]) (k := k) hz.1 hz.2 hK hK9 (by omega)
    simp only [isohyetlaw18_LevelBack.l1]
    rw [if_pos (by omega), if_pos (by omega), if_pos (by omega), rd_get hlt, htx]
    by_cases h0 : i = 0
    · subst h0
      have h00 : jn 44 (txs K (r.take 0)) = [] := rfl
      rw [if_neg (by omega), Option.bind_some, h00, size_mk, size_mk, if_pos (by simp; omega), bb_app, wi1 (by omega)]
      rw [hts, List.take_zero] at ih
      exact ih
    · have hne2 : txs K (r.take i) ≠ [] := fun e => by
        have := txs_len K (r.take i)
        rw [e, List.length_take] at this
        simp at this
        omega
      have hb : (jn 44 (txs K (r.take i))).length ≤ 3660 := by
        have : min i r.length * (60 + 1) ≤ 60 * 61 := Nat.mul_le_mul hmin (Nat.le_refl _)
        omega
      rw [if_pos (by omega), size_mk, if_pos (by omega), Option.bind_some, h44, bb_app, size_mk, size_mk, if_pos (by simp; omega), bb_app, wi1 (by omega)]
      rw [hts, jn_snoc 44 _ _ hne2] at ih
      rw [List.append_assoc]
      exact ih
def clampB (x : Int) : Int := mn (mx x (-2147483648)) 2147483648
theorem clampB_rng (x : Int) : -2147483648 ≤ clampB x ∧ clampB x ≤ 2147483648 := by unfold clampB mn mx; split <;> split <;> omega
theorem Back_l0 {a1 : Int} {l : List Int} (hl : l.length ≤ 60) (h0 : 0 < l.length) : ∀ (d i k : Nat), i + d = l.length → d + 64000 ≤ k →
    isohyetlaw18_LevelBack.l0 k a1 ((l.take i).map clampB) l (l.length : Int) (i : Int) = some true
  | 0, i, k, hi, hk => by
    obtain ⟨k, rfl⟩ : ∃ j, k = j + 1 := ⟨k - 1, by omega⟩
    obtain ⟨K, hK, hK9⟩ : ∃ K : Nat, mn (mx a1 0) 9 = (K : Int) ∧ K ≤ 9 := by
      refine ⟨(mn (mx a1 0) 9).toNat, ?_, ?_⟩ <;> unfold mn mx <;> split <;> split <;> omega
    obtain ⟨r, q1, q2, q3⟩ := rising_f (l := l.map clampB) (k := k) (by rw [List.length_map]; exact hl) (fun y hy => by
      obtain ⟨x, _, rfl⟩ := List.mem_map.1 hy
      exact clampB_rng x) (by omega)
    simp only [isohyetlaw18_LevelBack.l0]
    rw [if_neg (by omega), List.take_of_length_le (by omega), q3, Option.bind_some]
    exact Back_l1 q1 (q2 (by rw [List.length_map]; exact h0)) hK hK9 r.length 0 k (by omega) (by have := q1.2.2; omega)
  | d + 1, i, k, hi, hk => by
    obtain ⟨k, rfl⟩ : ∃ j, k = j + 1 := ⟨k - 1, by omega⟩
    have ih := Back_l0 (a1 := a1) hl h0 d (i + 1) k (by omega) (by omega)
    have hlt : i < l.length := by omega
    have hsn : (l.take i).map clampB ++ [mn (mx l[i] (-2147483648)) 2147483648] = (l.take (i + 1)).map clampB := by
      rw [← take_snoc l i hlt, List.map_append]
      rfl
    simp only [isohyetlaw18_LevelBack.l0]
    rw [if_pos (by omega), if_pos (by omega), if_pos (by omega), if_pos (by rw [List.length_map, List.length_take]; omega), rd_get hlt, hsn, wi1 (by omega)]
    exact ih
theorem LevelBack_f {l : List Int} {a1 : Int} {k : Nat} (hk : 65000 ≤ k) : isohyetlaw18_LevelBack.f k l a1 = some true := by
  unfold isohyetlaw18_LevelBack.f
  rw [fit_l (by omega), Option.bind_some, if_pos rfl]
  obtain ⟨k, rfl⟩ : ∃ j, k = j + 1 := ⟨k - 1, by omega⟩
  by_cases h0 : (l.length : Int) = 0
  · rw [if_pos h0]
    simp only [isohyetlaw18_LevelBack.j0]
    rw [if_pos trivial]
  · rw [if_neg h0]
    by_cases h : (l.length : Int) > 60
    · rw [decide_eq_true h]
      simp only [isohyetlaw18_LevelBack.j0]
      rw [if_pos trivial]
    · rw [decide_eq_false h]
      simp only [isohyetlaw18_LevelBack.j0]
      rw [if_neg (by decide)]
      exact Back_l0 (by omega) (by omega) l.length 0 k (by omega) (by omega)
end Go.Proofs.YtpdgjhaimfpacaaGreatDoor.Mg
namespace Go.Proofs.YtpdgjhaimfpacaaGreatDoor.Pure
open Go.Proofs.YtpdgjhaimfpacaaGreatDoor.M
theorem LevelBack : ∀ (l0 : List Int) (a1 : Int), l0.length ≤ maxLen → l0.length * 8 ≤ 140737488351232 → (∀ x ∈ l0, (Lit.int .i64 x).wf = true) → (Lit.int .i64 a1).wf = true → ∃ k, isohyetlaw18_LevelBack.f k l0 a1 = some true := fun _ _ _ _ _ _ => ⟨65000, Mg.LevelBack_f (Nat.le_refl _)⟩
end Go.Proofs.YtpdgjhaimfpacaaGreatDoor.Pure
