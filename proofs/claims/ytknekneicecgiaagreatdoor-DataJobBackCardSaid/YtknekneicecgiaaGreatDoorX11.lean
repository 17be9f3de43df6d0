/- data.Faults: what its closure does with a line (as HC, HS: turned by a program). Words and lines of texts that are printed: they say what they said. Any text's faults, line by line (as JD, JL: turned by a program). -/
import Derived.Test.YtknekneicecgiaaGreatDoorX9
import Derived.Test.YtknekneicecgiaaGreatDoorX7
import Derived.Test.YtknekneicecgiaaGreatDoorJS
namespace Go.Proofs.YtknekneicecgiaaGreatDoor.M
open Go.RowKit Go.Lib Go.Proofs.YtknekneicecgiaaGreatDoorW.PrintWords Go.Proofs.YtknekneicecgiaaGreatDoorW.PrintLast Go.Proofs.YtknekneicecgiaaGreatDoor.MB
set_option linter.unusedVariables false
set_option linter.unusedSimpArgs false
end Go.Proofs.YtknekneicecgiaaGreatDoor.M
namespace Go.Proofs.YtknekneicecgiaaGreatDoor.Mg
open Go.RowKit Go.Proofs.YtknekneicecgiaaGreatDoorW.PrintWords Go.Proofs.YtknekneicecgiaaGreatDoorW.PrintMore Go.Proofs.YtknekneicecgiaaGreatDoor.MB Go.Proofs.YtknekneicecgiaaGreatDoor.M
set_option linter.unusedVariables false
set_option linter.unusedSimpArgs false
/-! ### words -/
def wf (st : List ByteArray × Bool) (l : List UInt8) : List ByteArray × Bool := l.foldl wstep st
theorem wf_app (st : List ByteArray × Bool) (a b : List UInt8) : wf st (a ++ b) = wf (wf st a) b := by simp [wf]
theorem wf_blank (W : List ByteArray) : ∀ (l : List UInt8) (b : Bool), (∀ c ∈ l, isBlank c = true) → (wf (W, b) l).1 = W ∧ (wf (W, b) l).2 = (b && l.isEmpty)
  | [], b, _ => ⟨rfl, by simp [wf]⟩
  | c :: l, b, h => by
    have hc := h c List.mem_cons_self
    have h1 : wf (W, b) (c :: l) = wf (W, false) l := by
      show List.foldl wstep (wstep (W, b) c) l = _
      rw [wstep, if_pos hc]
      rfl
    rw [h1]
    have ih := wf_blank W l false (fun x hx => h x (List.mem_cons_of_mem _ hx))
    exact ⟨ih.1, by rw [ih.2]; simp⟩
theorem wf_blank1 (W : List ByteArray) (l : List UInt8) (h : ∀ c ∈ l, isBlank c = true) (hl : l ≠ []) : wf (W, true) l = (W, false) := by
  have := wf_blank W l true h
  refine Prod.ext this.1 ?_
  rw [this.2]
  cases l with
  | nil => exact absurd rfl hl
  | cons c l => rfl
theorem ba_snoc (x : ByteArray) (c : UInt8) (l : List UInt8) : x ++ (⟨#[c]⟩ : ByteArray) ++ (⟨l.toArray⟩ : ByteArray) = x ++ (⟨(c :: l).toArray⟩ : ByteArray) := by
  apply ba_ext'
  simp only [ByteArray.data_append, Array.toList_append]
  simp
theorem wf_more (W : List ByteArray) : ∀ (l : List UInt8) (x : ByteArray), (∀ c ∈ l, isBlank c = false) → wf (W ++ [x], true) l = (W ++ [x ++ (⟨l.toArray⟩ : ByteArray)], true)
  | [], x, _ => by
    have : x ++ (⟨([] : List UInt8).toArray⟩ : ByteArray) = x := by
      apply ba_ext'
      simp only [ByteArray.data_append, Array.toList_append]
      simp
    rw [this]
    rfl
  | c :: l, x, h => by
    have hc := h c List.mem_cons_self
    have h1 : wf (W ++ [x], true) (c :: l) = wf (W ++ [x ++ (⟨#[c]⟩ : ByteArray)], true) l := by
      show List.foldl wstep (wstep (W ++ [x], true) c) l = _
      rw [wstep, if_neg (by rw [hc]; decide), if_pos rfl, addTo_snoc]
      rfl
    rw [h1, wf_more W l _ (fun y hy => h y (List.mem_cons_of_mem _ hy)), ba_snoc]
theorem wf_word (W : List ByteArray) (l : List UInt8) (h : ∀ c ∈ l, isBlank c = false) (hl : l ≠ []) : wf (W, false) l = (W ++ [(⟨l.toArray⟩ : ByteArray)], true) := by
  cases l with
  | nil => exact absurd rfl hl
  | cons c l =>
    have hc := h c List.mem_cons_self
    have h1 : wf (W, false) (c :: l) = wf (W ++ [(⟨#[]⟩ : ByteArray) ++ (⟨#[c]⟩ : ByteArray)], true) l := by
      show List.foldl wstep (wstep (W, false) c) l = _
      rw [wstep, if_neg (by rw [hc]; decide), if_neg (by simp), addTo_snoc]
      rfl
    rw [h1, wf_more W l _ (fun y hy => h y (List.mem_cons_of_mem _ hy)), ba_snoc]
    congr 3
theorem fixZ_ne (n : Int) (K : Nat) : fixZ n K ≠ [] := by
  unfold fixZ
  obtain ⟨c, t, hc1, hc2⟩ := fixT_head n.natAbs K
  rw [hc1]
  split <;> simp
theorem fixZ_blank {n : Int} {K : Nat} : ∀ c ∈ fixZ n K, isBlank c = false := by
  intro c hc
  have h := fixZ_mem hc
  unfold isBlank
  have h32 : c ≠ 32 := fun e => by subst e; rcases h with h | h | h <;> revert h <;> decide
  have h9 : c ≠ 9 := fun e => by subst e; rcases h with h | h | h <;> revert h <;> decide
  have h13 : c ≠ 13 := fun e => by subst e; rcases h with h | h | h <;> revert h <;> decide
  simp [h32, h9, h13]
theorem fixZ_no2 {n : Int} {K : Nat} {d : UInt8} (hd : d = 10 ∨ d = 35) : d ∉ fixZ n K := fun h => by
  have := fixZ_mem h
  rcases hd with rfl | rfl <;> rcases this with h | h | h <;> revert h <;> decide
/-! ### lines -/
theorem cutL_line : ∀ (a r : List UInt8), (10 : UInt8) ∉ a → cutL (a ++ 10 :: r) = a :: cutL r
  | [], r, _ => by
    show cutL (10 :: r) = _
    rw [cutL, if_pos rfl]
  | c :: a, r, h => by
    have ih := cutL_line a r (fun e => h (List.mem_cons_of_mem _ e))
    have hc : c ≠ 10 := fun e => h (by rw [e]; exact List.mem_cons_self)
    show cutL (c :: (a ++ 10 :: r)) = _
    rw [cutL, if_neg hc, ih]
theorem pvT {n a : Int} {K : Nat} (h0 : -2147483648 ≤ n) (h1 : n ≤ 2147483648) (hK : mn (mx a 0) 9 = (K : Int)) (hK9 : K ≤ 9) : pv ⟨(fixZ n K).toArray⟩ a = (n, 0) := by
  have h := ParseT (k := 60000) h0 h1 hK hK9 (Nat.le_refl _)
  rw [Parse_all (Nat.le_refl _)] at h
  exact Option.some.inj h
theorem szl (l : List UInt8) : (⟨l.toArray⟩ : ByteArray).size = l.length := rfl
theorem ba_app (a b : List UInt8) : (⟨a.toArray⟩ : ByteArray) ++ (⟨b.toArray⟩ : ByteArray) = (⟨(a ++ b).toArray⟩ : ByteArray) := by
  apply ba_ext'
  simp only [ByteArray.data_append, Array.toList_append]
end Go.Proofs.YtknekneicecgiaaGreatDoor.Mg
namespace Go.Proofs.YtknekneicecgiaaGreatDoor.Mg
open Go.RowKit Go.Proofs.YtknekneicecgiaaGreatDoorW.PrintWords Go.Proofs.YtknekneicecgiaaGreatDoorW.PrintMore Go.Proofs.YtknekneicecgiaaGreatDoor.MB Go.Proofs.YtknekneicecgiaaGreatDoor.M
set_option linter.unusedVariables false
set_option linter.unusedSimpArgs false
end Go.Proofs.YtknekneicecgiaaGreatDoor.Mg
