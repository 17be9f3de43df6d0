/- Words by strings.FieldsFunc are the law's own words. -/
import Derived.Test.YtknekneicecgiaaGreatDoorHW
import Derived.Laws.RangeAny
namespace Go.Proofs.YtknekneicecgiaaGreatDoor.M
open Go.RowKit Go.Lib Go.Proofs.YtknekneicecgiaaGreatDoorW.PrintWords Go.Proofs.YtknekneicecgiaaGreatDoor.MB
set_option linter.unusedVariables false
set_option linter.unusedSimpArgs false
theorem get_at' (s : ByteArray) (pos : Nat) (h : pos < s.size) : s.get! pos = s[pos]'h := by
  simp [ByteArray.get!, getElem!_pos, h]
  rfl
/-- What a rune of more than a byte lies on. -/
theorem decode_wide (s : ByteArray) (pos : Nat) (h : pos < s.size) (ha : 128 ≤ (s[pos]'h).toNat) : 128 ≤ (Utf8.decode s pos).1 ∧ 1 ≤ (Utf8.decode s pos).2 ∧ pos + (Utf8.decode s pos).2 ≤ s.size ∧ ∀ j, j < (Utf8.decode s pos).2 → 128 ≤ (s.get! (pos + j)).toNat := by
  have hn : ¬ (s[pos]'h).toNat < 128 := by omega
  have h0 : s.get! (pos + 0) = s[pos]'h := get_at s pos h
  have key : ∀ (r w : Nat), 128 ≤ r → 1 ≤ w → pos + w ≤ s.size → (∀ j, j < w → 128 ≤ (s.get! (pos + j)).toNat) → 128 ≤ (r, w).1 ∧ 1 ≤ (r, w).2 ∧ pos + (r, w).2 ≤ s.size ∧ ∀ j, j < (r, w).2 → 128 ≤ (s.get! (pos + j)).toNat := fun r w a b c d => ⟨a, b, c, d⟩
  generalize s[pos]'h = c0 at ha hn h0
  have one : ∀ j, j < 1 → 128 ≤ (s.get! (pos + j)).toNat := fun j hj => by
    obtain rfl : j = 0 := by omega
    rw [h0]; exact ha
  unfold Utf8.decode
  dsimp only
  simp only [h0]
  rw [if_neg hn]
  split
  · rename_i h1
    simp only [Bool.and_eq_true, decide_eq_true_eq, beq_iff_eq] at h1
    split
    · exact key _ _ (by omega) (by omega) (by omega) (fun j hj => by
        rcases (show j = 0 ∨ j = 1 by omega) with rfl | rfl
        · rw [h0]; exact ha
        · omega)
    · exact key _ _ (by decide) (by omega) (by omega) one
  · split
    · rename_i h1
      simp only [Bool.and_eq_true, decide_eq_true_eq, beq_iff_eq] at h1
      split
      · rename_i h2
        simp only [Bool.and_eq_true, decide_eq_true_eq] at h2
        exact key _ _ (by omega) (by omega) (by omega) (fun j hj => by
          rcases (show j = 0 ∨ j = 1 ∨ j = 2 by omega) with rfl | rfl | rfl
          · rw [h0]; exact ha
          · omega
          · omega)
      · exact key _ _ (by decide) (by omega) (by omega) one
    · split
      · rename_i h1
        simp only [Bool.and_eq_true, decide_eq_true_eq, beq_iff_eq] at h1
        split
        · rename_i h2
          simp only [Bool.and_eq_true, decide_eq_true_eq] at h2
          exact key _ _ (by omega) (by omega) (by omega) (fun j hj => by
            rcases (show j = 0 ∨ j = 1 ∨ j = 2 ∨ j = 3 by omega) with rfl | rfl | rfl | rfl
            · rw [h0]; exact ha
            · omega
            · omega
            · omega)
        · exact key _ _ (by decide) (by omega) (by omega) one
      · exact key _ _ (by decide) (by omega) (by omega) one
theorem isBlank_nat (c : UInt8) : isBlank c = blank c.toNat := by
  unfold isBlank blank
  have : ∀ (k : UInt8), (c == k) = (c.toNat == k.toNat) := fun k => by
    rw [Bool.eq_iff_iff]
    simp [UInt8.toNat_inj]
  rw [this, this, this]
  rfl
theorem blank_high {n : Nat} (h : 128 ≤ n) : blank n = false := by
  unfold blank
  simp
  omega
theorem ex_snoc (s : ByteArray) (a b : Nat) (h : a ≤ b) (hb : b < s.size) : s.extract a (b + 1) = s.extract a b ++ ⟨#[s[b]'hb]⟩ := by
  apply ByteArray.ext
  rw [ByteArray.data_append, ByteArray.data_extract, ByteArray.data_extract]
  apply Array.toList_inj.mp
  rw [Array.toList_append]
  simp only [Array.toList_extract, List.extract_eq_take_drop]
  rw [show b + 1 - a = (b - a) + 1 by omega, List.take_succ_eq_append_getElem (by rw [List.length_drop, data_length]; omega)]
  congr 2
  rw [List.getElem_drop]
  simp only [show a + (b - a) = b by omega]
  rfl
theorem ex_none (s : ByteArray) (a : Nat) : s.extract a a = ⟨#[]⟩ := by
  apply ByteArray.ext
  rw [ByteArray.data_extract]
  simp
  omega
theorem addTo_snoc (W : List ByteArray) (x : ByteArray) (c : UInt8) : addTo (W ++ [x]) c = W ++ [x ++ ⟨#[c]⟩] := by
  unfold addTo
  have h : (W ++ [x]).length - 1 = W.length := by simp
  rw [h]
  simp
/-- The piece that is being read. -/
def openPiece (s : ByteArray) (pos : Nat) (st : Option Nat) : List ByteArray := match st with | some a => [s.extract a pos] | none => []
/-- One more byte that parts nothing. -/
theorem nb_step {s : ByteArray} {pos : Nat} (h : pos < s.size) (hc : isBlank (s[pos]'h) = false) {W : List ByteArray} {st : Option Nat} (ha : ∀ a, st = some a → a ≤ pos) (hw : wordsL (s.data.toList.take pos) = (W ++ openPiece s pos st, st.isSome)) :
    wordsL (s.data.toList.take (pos + 1)) = (W ++ [s.extract (st.getD pos) (pos + 1)], true) := by
  rw [take_snoc s pos h, wordsL_snoc, hw, wstep, if_neg (by rw [hc]; decide)]
  cases st with
  | none =>
    simp only [openPiece, Option.isSome_none, Bool.false_eq_true, if_false, List.append_nil, Option.getD_none]
    rw [addTo_snoc, ex_snoc s pos pos (Nat.le_refl _) h, ex_none]
  | some a =>
    simp only [openPiece, Option.isSome_some, if_true, Option.getD_some]
    rw [addTo_snoc, ex_snoc s a pos (ha a rfl) h]
theorem nb_run {s : ByteArray} {pos : Nat} {W : List ByteArray} {st : Option Nat} (ha : ∀ a, st = some a → a ≤ pos) (hw : wordsL (s.data.toList.take pos) = (W ++ openPiece s pos st, st.isSome)) :
    ∀ (n : Nat) (hn : pos + (n + 1) ≤ s.size), (∀ j (hj : j < n + 1), isBlank (s[pos + j]'(by omega)) = false) → wordsL (s.data.toList.take (pos + (n + 1))) = (W ++ [s.extract (st.getD pos) (pos + (n + 1))], true)
  | 0, hn, hb => nb_step (by omega) (hb 0 (by omega)) ha hw
  | n + 1, hn, hb => by
    have ih := nb_run ha hw n (by omega) (fun j hj => hb j (by omega))
    have hle : st.getD pos ≤ pos := by
      cases st with
      | none => exact Nat.le_refl _
      | some a => exact ha a rfl
    have := nb_step (s := s) (pos := pos + (n + 1)) (by omega) (hb (n + 1) (by omega)) (W := W) (st := some (st.getD pos)) (fun a e => by cases e; omega) ih
    exact this
def piece (s : ByteArray) (x : Nat × Nat) : ByteArray := s.extract x.1 x.2
theorem spans_ok (s : ByteArray) : ∀ (f pos : Nat) (st : Option Nat) (acc : List (Nat × Nat)), s.size ≤ pos + f → pos ≤ s.size → (∀ a, st = some a → a ≤ pos) →
    wordsL (s.data.toList.take pos) = (acc.map (piece s) ++ openPiece s pos st, st.isSome) →
    (closeSpans s (spansFromP blank s f pos st acc)).map (piece s) = (wordsL s.data.toList).1
  | f, pos, st, acc, hf, hp, ha, hw => by
    by_cases hlt : pos < s.size
    · obtain ⟨f, rfl⟩ : ∃ g, f = g + 1 := ⟨f - 1, by omega⟩
      unfold spansFromP
      rw [if_pos hlt]
      by_cases hc : (s[pos]'hlt).toNat < 128
      · rw [decode_ascii s pos hlt hc]
        dsimp only
        by_cases hb : blank (s[pos]'hlt).toNat = true
        · have hib : isBlank (s[pos]'hlt) = true := by rw [isBlank_nat]; exact hb
          rw [if_pos hb]
          have hnext : wordsL (s.data.toList.take (pos + 1)) = (acc.map (piece s) ++ openPiece s pos st, false) := by
            rw [take_snoc s pos hlt, wordsL_snoc, hw, wstep, if_pos hib]
          cases st with
          | none => exact spans_ok s f (pos + 1) none acc (by omega) (by omega) (fun a e => by cases e) hnext
          | some a => exact spans_ok s f (pos + 1) none (acc ++ [(a, pos)]) (by omega) (by omega) (fun a e => by cases e) (by rw [hnext]; simp [piece, openPiece])
        · have hb : blank (s[pos]'hlt).toNat = false := by simpa using hb
          have hib : isBlank (s[pos]'hlt) = false := by rw [isBlank_nat]; exact hb
          rw [if_neg (by rw [hb]; decide)]
          have hnext := nb_step hlt hib ha hw
          cases st with
          | none => exact spans_ok s f (pos + 1) (some pos) acc (by omega) (by omega) (fun a e => by cases e; omega) hnext
          | some a => exact spans_ok s f (pos + 1) (some a) acc (by omega) (by omega) (fun b e => by cases e; have := ha a rfl; omega) hnext
      · obtain ⟨w1, w2, w3, w4⟩ := decode_wide s pos hlt (by omega)
        generalize Utf8.decode s pos = d at w1 w2 w3 w4 ⊢
        obtain ⟨r, n⟩ := d
        obtain ⟨n, rfl⟩ : ∃ m, n = m + 1 := ⟨n - 1, by simp at w2; omega⟩
        dsimp only at w1 w3 w4 ⊢
        rw [if_neg (by rw [blank_high w1]; decide)]
        have hnext := nb_run ha hw n w3 (fun j hj => by
          have h4 := w4 j hj
          rw [get_at' s (pos + j) (by omega)] at h4
          rw [isBlank_nat]
          exact blank_high h4)
        cases st with
        | none => exact spans_ok s f (pos + (n + 1)) (some pos) acc (by omega) (by omega) (fun a e => by cases e; omega) hnext
        | some a => exact spans_ok s f (pos + (n + 1)) (some a) acc (by omega) (by omega) (fun b e => by cases e; have := ha a rfl; omega) hnext
    · obtain rfl : pos = s.size := by omega
      rw [spansFromP_end _ _ _ _ _ _ (by omega)]
      rw [List.take_of_length_le (by rw [data_length]; exact Nat.le_refl _)] at hw
      rw [hw]
      cases st <;> simp [closeSpans, piece, openPiece]
theorem fields_words (s : ByteArray) : goFieldsP blank s = (wordsL s.data.toList).1 := by
  have h := spans_ok s s.size 0 none [] (by omega) (by omega) (fun a e => by cases e) rfl
  exact h
end Go.Proofs.YtknekneicecgiaaGreatDoor.M
