/- A text's lines: strings.Split's are the law's own. Numbers of words: any words have their numbers, or an error; the law's own are the same. Any text's samples: line by line, till one has an error. -/
import Derived.Test.YtknekneicecgiaaGreatDoorJA
import Derived.Test.YtknekneicecgiaaGreatDoorHE
import Derived.Test.YtknekneicecgiaaGreatDoorA0
import Derived.Test.YtknekneicecgiaaGreatDoorHW
import Derived.Lib.SplitLaws
import Derived.Lib.IndexMore
import Derived.Lib.PathFns
import Derived.Test.YtknekneicecgiaaGreatDoorX6
import Derived.Test.YtknekneicecgiaaGreatDoorE6
import Derived.Test.YtknekneicecgiaaGreatDoorE3
import Derived.Test.YtknekneicecgiaaGreatDoorX9
namespace Go.Proofs.YtknekneicecgiaaGreatDoor.Mg
open Go.RowKit Go.Proofs.YtknekneicecgiaaGreatDoorW.PrintWords Go.Proofs.YtknekneicecgiaaGreatDoorW.PrintMore Go.Proofs.YtknekneicecgiaaGreatDoor.MB Go.Proofs.YtknekneicecgiaaGreatDoor.M
set_option linter.unusedVariables false
set_option linter.unusedSimpArgs false
theorem ba_ext' {a b : ByteArray} (h : a.data.toList = b.data.toList) : a = b := ByteArray.ext (Array.ext' h)
theorem ba_mk {s : ByteArray} {l : List UInt8} (h : s.data.toList = l) : s = ⟨l.toArray⟩ := ba_ext' (by rw [h])
def jn (c : UInt8) : List (List UInt8) → List UInt8
  | [] => []
  | [p] => p
  | p :: q :: r => p ++ c :: jn c (q :: r)
theorem jn_cons (c : UInt8) (p : List UInt8) : ∀ r, r ≠ [] → jn c (p :: r) = p ++ c :: jn c r
  | [], h => absurd rfl h
  | _ :: _, _ => rfl
theorem ib_none (c : UInt8) : ∀ p : List UInt8, c ∉ p → Lib.indexByte p c = -1
  | [], _ => rfl
  | b :: p, h => by
    have ih := ib_none c p (fun e => h (List.mem_cons_of_mem _ e))
    have hb : (b == c) = false := beq_eq_false_iff_ne.2 (fun e => h (e ▸ List.mem_cons_self))
    simp only [Lib.indexByte, hb, ih]
    rfl
theorem ib_hit (c : UInt8) (t : List UInt8) : ∀ p : List UInt8, c ∉ p → Lib.indexByte (p ++ c :: t) c = (p.length : Int)
  | [], _ => by simp [Lib.indexByte]
  | b :: p, h => by
    have ih := ib_hit c t p (fun e => h (List.mem_cons_of_mem _ e))
    have hb : (b == c) = false := beq_eq_false_iff_ne.2 (fun e => h (e ▸ List.mem_cons_self))
    have h2 : ((p.length : Int) == -1) = false := beq_eq_false_iff_ne.2 (by omega)
    show Lib.indexByte (b :: (p ++ c :: t)) c = _
    simp only [Lib.indexByte, hb, ih, h2]
    simp
/-- Cut at each such byte, the parts come back. -/
theorem split_jn (c : UInt8) : ∀ (ps : List (List UInt8)) (s : ByteArray), ps ≠ [] → (∀ p ∈ ps, c ∉ p) → s.data.toList = jn c ps →
    Lib.splitB ⟨#[c]⟩ 0 (Lib.countB s ⟨#[c]⟩) s = ps.map (fun p => (⟨p.toArray⟩ : ByteArray))
  | [], _, h, _, _ => absurd rfl h
  | [p], s, _, hp, hs => by
    have hs : s.data.toList = p := hs
    have hix : Lib.indexB s ⟨#[c]⟩ = -1 := by
      show Lib.index s.data.toList [c] = -1
      rw [Lib.index_one, hs]
      exact ib_none c p (hp p List.mem_cons_self)
    rw [Lib.splitB_miss _ _ _ _ hix, ba_mk hs]
    rfl
  | p :: q :: r, s, _, hp, hs => by
    rw [jn_cons c p _ (by simp)] at hs
    have hix : Lib.indexB s ⟨#[c]⟩ = ((p.length : Nat) : Int) := by
      show Lib.index s.data.toList [c] = _
      rw [Lib.index_one, hs]
      exact ib_hit c _ p (hp p List.mem_cons_self)
    have h1 : (⟨#[c]⟩ : ByteArray).size = 1 := rfl
    have hcn := Lib.countB_hit s ⟨#[c]⟩ p.length (Nat.le_of_eq h1.symm) hix
    rw [h1] at hcn
    have hd : (s.extract (p.length + 1) s.size).data.toList = jn c (q :: r) := by
      rw [Lib.extract_to_end, hs]
      simp
    have hf : s.extract 0 (p.length + 0) = ⟨p.toArray⟩ := by
      apply ba_mk
      have := Lib.Pa.extract_upto_list s p.length
      rw [Nat.add_zero, this, hs]
      simp
    have ih := split_jn c (q :: r) (s.extract (p.length + 1) s.size) (by simp) (fun x hx => hp x (List.mem_cons_of_mem _ hx)) hd
    rw [hcn, Nat.add_comm, Lib.splitB_hit _ _ _ _ p.length hix, h1, hf, ih]
    rfl
/-- Parts between line ends. -/
def cutL : List UInt8 → List (List UInt8)
  | [] => [[]]
  | c :: r => if c = 10 then [] :: cutL r else (match cutL r with | x :: xs => (c :: x) :: xs | [] => [[c]])
theorem cutL_ne : ∀ l, cutL l ≠ []
  | [] => by simp [cutL]
  | c :: r => by
    unfold cutL
    split
    · simp
    · cases cutL r <;> simp
theorem cutL_no : ∀ l, ∀ p ∈ cutL l, (10 : UInt8) ∉ p
  | [], p, hp => by
    simp [cutL] at hp
    subst hp
    simp
  | c :: r, p, hp => by
    have ih := cutL_no r
    unfold cutL at hp
    split at hp
    · rcases List.mem_cons.1 hp with rfl | hp
      · simp
      · exact ih p hp
    · rename_i hc
      cases hr : cutL r with
      | nil => exact absurd hr (cutL_ne r)
      | cons x xs =>
        rw [hr] at hp ih
        rcases List.mem_cons.1 hp with rfl | hp
        · intro hm
          rcases List.mem_cons.1 hm with h | h
          · exact hc h.symm
          · exact ih x List.mem_cons_self h
        · exact ih p (List.mem_cons_of_mem _ hp)
theorem cutL_jn : ∀ l, jn 10 (cutL l) = l
  | [] => rfl
  | c :: r => by
    have ih := cutL_jn r
    unfold cutL
    split
    · rename_i hc
      rw [jn_cons _ _ _ (cutL_ne r), ih, hc]
      rfl
    · cases hr : cutL r with
      | nil => exact absurd hr (cutL_ne r)
      | cons x xs =>
        rw [hr] at ih
        cases xs with
        | nil => exact congrArg (c :: ·) ih
        | cons y ys =>
          have e1 : jn 10 (x :: y :: ys) = x ++ 10 :: jn 10 (y :: ys) := rfl
          have e2 : jn 10 ((c :: x) :: y :: ys) = (c :: x) ++ 10 :: jn 10 (y :: ys) := rfl
          show jn 10 ((c :: x) :: y :: ys) = c :: r
          rw [e2, ← ih, e1]
          rfl
theorem linesOf_cut (s : ByteArray) : linesOf s = (cutL s.data.toList).map fun p => (⟨p.toArray⟩ : ByteArray) := split_jn 10 _ s (cutL_ne _) (cutL_no _) (cutL_jn _).symm
def pre (acc : List UInt8) (ls : List (List UInt8)) : List (List UInt8) := match ls with | x :: xs => (acc ++ x) :: xs | [] => [acc]
end Go.Proofs.YtknekneicecgiaaGreatDoor.Mg
namespace Go.Proofs.YtknekneicecgiaaGreatDoor.Mg
open Go.RowKit Go.Proofs.YtknekneicecgiaaGreatDoorW.PrintWords Go.Proofs.YtknekneicecgiaaGreatDoorW.PrintMore Go.Proofs.YtknekneicecgiaaGreatDoor.MB Go.Proofs.YtknekneicecgiaaGreatDoor.M
set_option linter.unusedVariables false
set_option linter.unusedSimpArgs false
def pv (s : ByteArray) (a : Int) : Int × Int := if (s.size : Int) > 400 then (0, 2) else spec2 (strip s.data.toList).1 (mn (mx a 0) 9).toNat (cutP (strip s.data.toList).2).1 (cutP (strip s.data.toList).2).2.1 (cutP (strip s.data.toList).2).2.2
theorem Parse_all {s : ByteArray} {a : Int} {k : Nat} (hk : 60000 ≤ k) : deci_Parse.f k s a = some (pv s a) := by
  unfold pv
  by_cases h : (s.size : Int) > 400
  · rw [if_pos h]
    unfold deci_Parse.f deci_scaled.f
    rw [Option.bind_some, if_pos h]
  · rw [if_neg h]
    exact Parse_f (by omega) hk
def numsP : List (ByteArray × Int) → List Int → List Int × Int
  | [], acc => (acc, 0)
  | x :: r, acc => if (pv x.1 x.2).2 = 0 then numsP r (acc ++ [(pv x.1 x.2).1]) else ([], (pv x.1 x.2).2)
theorem rdOf_get {l : List ByteArray} {i : Nat} (h : i < l.length) : rdOf ByteArray.empty l (i : Int) = l[i] := by
  show l.getD (i : Int).toNat ByteArray.empty = _
  rw [Int.toNat_natCast]
  simp [List.getD, h]
theorem rd_get {l : List Int} {i : Nat} (h : i < l.length) : rd l (i : Int) = l[i] := by
  show l.getD (i : Int).toNat 0 = _
  rw [Int.toNat_natCast]
  simp [List.getD, h]
theorem wrap2 {i : Nat} (h : i ≤ 1000000) : wrap64 ((i : Int) + 1) = ((i + 1 : Nat) : Int) := by unfold wrap64; omega
theorem numbers_l0 {l : List ByteArray} {sc : List Int} (hl : l.length = sc.length) (hs : sc.length ≤ 100) : ∀ (d i k : Nat) (acc : List Int), i + d = l.length → 60000 + d + 1 ≤ k → acc.length ≤ i →
    data_numbers.l0 k sc acc l (l.length : Int) (i : Int) = some (numsP ((l.zip sc).drop i) acc)
  | 0, i, k, acc, hd, hk, ha => by
    obtain ⟨k, rfl⟩ : ∃ n, k = n + 1 := ⟨k - 1, by omega⟩
    simp only [data_numbers.l0]
    rw [if_neg (by omega), List.drop_eq_nil_of_le (by simp; omega)]
    rfl
  | d + 1, i, k, acc, hd, hk, ha => by
    obtain ⟨k, rfl⟩ : ∃ n, k = n + 1 := ⟨k - 1, by omega⟩
    have hz : (l.zip sc).drop i = (l[i]'(by omega), sc[i]'(by omega)) :: (l.zip sc).drop (i + 1) := by
      rw [List.drop_eq_getElem_cons (by simp; omega), List.getElem_zip]
    simp only [data_numbers.l0]
    rw [if_pos (by omega), if_pos (by omega), if_pos (by omega), if_pos (by omega), rdOf_get (by omega), rd_get (by omega), Parse_all (by omega), Option.bind_some, hz, numsP]
    by_cases h0 : (pv (l[i]'(by omega)) (sc[i]'(by omega))).2 = 0
    · rw [if_pos h0, if_pos h0, if_pos (by omega), wrap2 (by omega)]
      exact numbers_l0 hl hs d (i + 1) k _ (by omega) (by omega) (by simp; omega)
    · rw [if_neg h0, if_neg h0]
/-- A line's numbers, of scales. -/
def nums2 (l : List ByteArray) (sc : List Int) : List Int × Int := if l.length = sc.length then numsP (l.zip sc) [] else ([], 1)
theorem numbers_f {l : List ByteArray} {sc : List Int} {k : Nat} (hs : sc.length ≤ 100) (hk : 60200 ≤ k) : data_numbers.f k l sc = some (nums2 l sc) := by
  unfold data_numbers.f nums2
  by_cases h : l.length = sc.length
  · rw [if_pos (by omega), if_pos h]
    exact numbers_l0 h hs l.length 0 k [] (by omega) (by omega) (by simp)
  · rw [if_neg (by omega), if_neg h]
end Go.Proofs.YtknekneicecgiaaGreatDoor.Mg
namespace Go.Proofs.YtknekneicecgiaaGreatDoor.Mg
open Go.RowKit Go.Proofs.YtknekneicecgiaaGreatDoorW.PrintWords Go.Proofs.YtknekneicecgiaaGreatDoorW.PrintMore Go.Proofs.YtknekneicecgiaaGreatDoor.MB Go.Proofs.YtknekneicecgiaaGreatDoor.M
set_option linter.unusedVariables false
set_option linter.unusedSimpArgs false
theorem prefix_iff (s : ByteArray) : (Lib.hasPrefix s.data.toList [35] = true) ↔ s.data.toList.head? = some 35 := by
  unfold Lib.hasPrefix
  cases s.data.toList with
  | nil => exact ⟨(fun h => by cases h), (fun h => by cases h)⟩
  | cons c t =>
    rw [List.head?_cons]
    show ((35 == c) && List.isPrefixOf [] t) = true ↔ _
    rw [show List.isPrefixOf ([] : List UInt8) t = true from rfl, Bool.and_true, beq_iff_eq]
    exact ⟨fun h => by rw [h], fun h => (Option.some.inj h).symm⟩
end Go.Proofs.YtknekneicecgiaaGreatDoor.Mg
