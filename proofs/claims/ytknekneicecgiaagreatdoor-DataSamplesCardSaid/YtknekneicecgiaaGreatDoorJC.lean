/- Numbers of words: any words have their numbers, or an error; the law's own are the same. -/
import Derived.Test.YtknekneicecgiaaGreatDoorX6
import Derived.Test.YtknekneicecgiaaGreatDoorE6
import Derived.Test.YtknekneicecgiaaGreatDoorE8
namespace Go.Proofs.YtknekneicecgiaaGreatDoor.Mg
open Go.RowKit Go.Proofs.YtknekneicecgiaaGreatDoorW.PrintWords Go.Proofs.YtknekneicecgiaaGreatDoorW.PrintMore Go.Proofs.YtknekneicecgiaaGreatDoor.MB Go.Proofs.YtknekneicecgiaaGreatDoor.M
set_option linter.unusedVariables false
set_option linter.unusedSimpArgs false
def pv (s : ByteArray) (a : Int) : Int × Int := if (s.size : Int) > 400 then (0, 2) else spec2 (strip s.data.toList).1 (mn (mx a 0) 9).toNat (cutP (strip s.data.toList).2).1 (cutP (strip s.data.toList).2).2.1 (cutP (strip s.data.toList).2).2.2
theorem Parse_all {s : ByteArray} {a : Int} {k : Nat} (hk : 60000 ≤ k) : deci_Parse.f k s a = some (pv s a) := by
  unfold pv
  by_cases h : (s.size : Int) > 400
  · rw [if_pos h]
    unfold deci_Parse.f deci_scaled.f
    rw [Option.bind_some, if_pos h]
  · rw [if_neg h]
    exact Parse_f (by omega) hk
def numsP : List (ByteArray × Int) → List Int → List Int × Int
  | [], acc => (acc, 0)
  | x :: r, acc => if (pv x.1 x.2).2 = 0 then numsP r (acc ++ [(pv x.1 x.2).1]) else ([], (pv x.1 x.2).2)
theorem numsP_len : ∀ (z : List (ByteArray × Int)) (acc : List Int), (numsP z acc).2 = 0 → (numsP z acc).1.length = acc.length + z.length
  | [], acc, _ => by simp [numsP]
  | x :: r, acc, h => by
    unfold numsP at h ⊢
    split
    · rename_i h0
      rw [if_pos h0] at h
      rw [numsP_len r _ h]
      simp
      omega
    · rename_i h0
      rw [if_neg h0] at h
      exact absurd h h0
theorem rdOf_get {l : List ByteArray} {i : Nat} (h : i < l.length) : rdOf ByteArray.empty l (i : Int) = l[i] := by
  show l.getD (i : Int).toNat ByteArray.empty = _
  rw [Int.toNat_natCast]
  simp [List.getD, h]
theorem rd_get {l : List Int} {i : Nat} (h : i < l.length) : rd l (i : Int) = l[i] := by
  show l.getD (i : Int).toNat 0 = _
  rw [Int.toNat_natCast]
  simp [List.getD, h]
theorem wrap2 {i : Nat} (h : i ≤ 1000000) : wrap64 ((i : Int) + 1) = ((i + 1 : Nat) : Int) := by unfold wrap64; omega
theorem numbers_l0 {l : List ByteArray} {sc : List Int} (hl : l.length = sc.length) (hs : sc.length ≤ 100) : ∀ (d i k : Nat) (acc : List Int), i + d = l.length → 60000 + d + 1 ≤ k → acc.length ≤ i →
    data_numbers.l0 k sc acc l (l.length : Int) (i : Int) = some (numsP ((l.zip sc).drop i) acc)
  | 0, i, k, acc, hd, hk, ha => by
    obtain ⟨k, rfl⟩ : ∃ n, k = n + 1 := ⟨k - 1, by omega⟩
    simp only [data_numbers.l0]
    rw [if_neg (by omega), List.drop_eq_nil_of_le (by simp; omega)]
    rfl
  | d + 1, i, k, acc, hd, hk, ha => by
    obtain ⟨k, rfl⟩ : ∃ n, k = n + 1 := ⟨k - 1, by omega⟩
    have hz : (l.zip sc).drop i = (l[i]'(by omega), sc[i]'(by omega)) :: (l.zip sc).drop (i + 1) := by
      rw [List.drop_eq_getElem_cons (by simp; omega), List.getElem_zip]
    simp only [data_numbers.l0]
    rw [if_pos (by omega), if_pos (by omega), if_pos (by omega), if_pos (by omega), rdOf_get (by omega), rd_get (by omega), Parse_all (by omega), Option.bind_some, hz, numsP]
    by_cases h0 : (pv (l[i]'(by omega)) (sc[i]'(by omega))).2 = 0
    · rw [if_pos h0, if_pos h0, if_pos (by omega), wrap2 (by omega)]
      exact numbers_l0 hl hs d (i + 1) k _ (by omega) (by omega) (by simp; omega)
    · rw [if_neg h0, if_neg h0]
/-- A line's numbers, of scales. -/
def nums2 (l : List ByteArray) (sc : List Int) : List Int × Int := if l.length = sc.length then numsP (l.zip sc) [] else ([], 1)
theorem numbers_f {l : List ByteArray} {sc : List Int} {k : Nat} (hs : sc.length ≤ 100) (hk : 60200 ≤ k) : data_numbers.f k l sc = some (nums2 l sc) := by
  unfold data_numbers.f nums2
  by_cases h : l.length = sc.length
  · rw [if_pos (by omega), if_pos h]
    exact numbers_l0 h hs l.length 0 k [] (by omega) (by omega) (by simp)
  · rw [if_neg (by omega), if_neg h]
theorem nums2_len {l : List ByteArray} {sc : List Int} (h : (nums2 l sc).2 = 0) : (nums2 l sc).1.length = sc.length := by
  unfold nums2 at h ⊢
  split
  · rename_i hl
    rw [if_pos hl] at h
    have := numsP_len _ _ h
    rw [this, List.length_zip]
    simp
    omega
  · rename_i hl
    rw [if_neg hl] at h
    exact absurd h (by decide)
theorem decimals_l0 : ∀ (k : Nat) (sc acc : List Int) (l : List ByteArray) (n i : Int), isohyetlaw25_decimals.l0 k sc acc l n i = data_numbers.l0 k sc acc l n i
  | 0, _, _, _, _, _ => rfl
  | k + 1, sc, acc, l, n, i => by
    simp only [isohyetlaw25_decimals.l0, data_numbers.l0, decimals_l0 k]
theorem decimals_f {l : List ByteArray} {sc : List Int} {k : Nat} (hs : sc.length ≤ 100) (hk : 60200 ≤ k) : isohyetlaw25_decimals.f k l sc = some (nums2 l sc) := by
  rw [← numbers_f hs hk]
  unfold isohyetlaw25_decimals.f data_numbers.f
  rw [decimals_l0]
end Go.Proofs.YtknekneicecgiaaGreatDoor.Mg
