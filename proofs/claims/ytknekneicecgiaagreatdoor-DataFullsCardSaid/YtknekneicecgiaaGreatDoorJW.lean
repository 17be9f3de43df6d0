/- A text of one line many times over: its samples, its faults, or the one too many. -/
import Derived.Test.YtknekneicecgiaaGreatDoorX7
import Derived.Test.YtknekneicecgiaaGreatDoorX11
import Derived.KernelRfl
namespace Go.Proofs.YtknekneicecgiaaGreatDoor.Mg
open Go.RowKit Go.Proofs.YtknekneicecgiaaGreatDoorW.PrintWords Go.Proofs.YtknekneicecgiaaGreatDoorW.PrintMore Go.Proofs.YtknekneicecgiaaGreatDoor.MB Go.Proofs.YtknekneicecgiaaGreatDoor.M
set_option linter.unusedVariables false
set_option linter.unusedSimpArgs false
/-- A text, so often. -/
def repB (t : List UInt8) : Nat → List UInt8
  | 0 => []
  | n + 1 => repB t n ++ t
theorem repB_length (t : List UInt8) : ∀ n, (repB t n).length = n * t.length
  | 0 => by simp [repB]
  | n + 1 => by rw [repB, List.length_append, repB_length t n, Nat.add_mul, Nat.one_mul]
theorem repB_front (t : List UInt8) : ∀ n, repB t (n + 1) = t ++ repB t n
  | 0 => by simp [repB]
  | n + 1 => by
    have ih := repB_front t n
    show repB t (n + 1) ++ t = t ++ (repB t n ++ t)
    rw [ih, List.append_assoc]
theorem cutL_at : ∀ (a r : List UInt8), (10 : UInt8) ∉ a → cutL (a ++ 10 :: r) = a :: cutL r
  | [], r, _ => by
    show cutL (10 :: r) = _
    rw [cutL, if_pos rfl]
  | c :: a, r, h => by
    have ih := cutL_at a r (fun e => h (List.mem_cons_of_mem _ e))
    have hc : c ≠ 10 := fun e => h (by rw [e]; exact List.mem_cons_self)
    show cutL (c :: (a ++ 10 :: r)) = _
    rw [cutL, if_neg hc, ih]
theorem cutL_rep (a : List UInt8) (h : (10 : UInt8) ∉ a) : ∀ n, cutL (repB (a ++ [10]) n) = List.replicate n a ++ [[]]
  | 0 => rfl
  | n + 1 => by
    rw [repB_front, List.append_assoc, show ([10] : List UInt8) ++ repB (a ++ [10]) n = 10 :: repB (a ++ [10]) n from rfl, cutL_at a _ h, cutL_rep a h n]
    rfl
theorem cutL_ends : ∀ n, cutL (List.replicate n 10) = List.replicate (n + 1) []
  | 0 => rfl
  | n + 1 => by
    rw [List.replicate_succ, cutL, if_pos rfl, cutL_ends n]
    rfl
theorem words_none : data_Words.f ⟨#[]⟩ = some [] := by kernel_rfl
theorem each_blank {σ : Type} (f : σ → List ByteArray → Option (σ × Int)) : ∀ (n : Nat) (i : Int) (st : σ), eachL f (List.replicate n ⟨#[]⟩) i st = some (st, 0, 0)
  | 0, _, _ => rfl
  | n + 1, i, st => by
    rw [List.replicate_succ]
    unfold eachL
    rw [words_none, Option.bind_some, if_pos (show ([] : List ByteArray).length = 0 from rfl)]
    exact each_blank f n _ _
theorem each_full {σ : Type} (f : σ → List ByteArray → Option (σ × Int)) (x : ByteArray) (l : List ByteArray) (hx : data_Words.f x = some l) (hl : ¬ l.length = 0) (hp : ¬ Lib.hasPrefix (l.headD ⟨#[]⟩).data.toList [35] = true)
    (S : Nat → σ) (m : Nat) (hst : ∀ j, j < m → f (S j) l = some (S (j + 1), 0)) (hfull : f (S m) l = some (S m, 5)) :
    ∀ (d i : Nat), i ≤ m → eachL f (List.replicate d x ++ [⟨#[]⟩]) (i : Int) (S i) = some (if i + d ≤ m then (S (i + d), 0, 0) else (S m, ((m + 1 : Nat) : Int), 5))
  | 0, i, hi => by
    rw [if_pos (by omega)]
    exact each_blank f 1 _ _
  | d + 1, i, hi => by
    have hi1 : (i : Int) + 1 = ((i + 1 : Nat) : Int) := by omega
    rw [List.replicate_succ, List.cons_append]
    unfold eachL
    rw [hx, Option.bind_some, if_neg hl, if_neg hp]
    by_cases h : i = m
    · subst h
      rw [hfull, Option.bind_some, if_neg (show ¬ ((5 : Int) = 0) by decide), if_neg (by omega), hi1]
    · rw [hst i (by omega), Option.bind_some, if_pos rfl, hi1, each_full f x l hx hl hp S m hst hfull d (i + 1) (by omega), show i + 1 + d = i + (d + 1) by omega]
def lineS : List UInt8 := [49, 32, 50, 32, 51]
def lineF4 : List UInt8 := [49, 32, 50, 32, 51, 32, 52]
def wordsS : List ByteArray := [⟨#[49]⟩, ⟨#[50]⟩, ⟨#[51]⟩]
def wordsF : List ByteArray := [⟨#[49]⟩, ⟨#[50]⟩, ⟨#[51]⟩, ⟨#[52]⟩]
theorem map_rep (a : List UInt8) (n : Nat) : (List.replicate n a ++ [[]]).map (fun p : List UInt8 => (⟨p.toArray⟩ : ByteArray)) = List.replicate n (⟨a.toArray⟩ : ByteArray) ++ [(⟨#[]⟩ : ByteArray)] := by simp
set_option maxRecDepth 100000 in
theorem Samples_full {k m : Nat} (hk : 60200 ≤ k) (hm : m ≤ 5000) : data_Samples.f k ⟨(repB (lineS ++ [10]) m).toArray⟩ 0 0 = some (if m ≤ 4000 then (List.replicate m ⟨1, 2, 3⟩, 0, 0) else ([], 4001, 5)) := by
  have hsz : (⟨(repB (lineS ++ [10]) m).toArray⟩ : ByteArray).size = m * 6 := repB_length _ m
  have hn : nums2 wordsS [0, 0, 0] = ([1, 2, 3], 0) := by kernel_rfl
  have hw : data_Words.f ⟨lineS.toArray⟩ = some wordsS := by kernel_rfl
  unfold data_Samples.f data_each.f
  rw [if_neg (by omega), linesOf_cut]
  rw [show (⟨(repB (lineS ++ [10]) m).toArray⟩ : ByteArray).data.toList = repB (lineS ++ [10]) m from rfl, cutL_rep lineS (by decide) m, map_rep]
  have h := each_full (sampF k 0 0) ⟨lineS.toArray⟩ wordsS hw (by decide) (by decide) (fun j => List.replicate j (⟨1, 2, 3⟩ : S34)) 4000
    (fun j hj => by
      rw [samp_f (by simp; exact hj) hk, hn]
      dsimp only
      rw [if_pos rfl, List.replicate_succ']
      rfl)
    (by
      unfold sampF
      rw [if_pos ⟨rfl, List.length_replicate ..⟩]) m 0 (by omega)
  rw [show (0 : Int) = ((0 : Nat) : Int) from rfl]
  have h : eachL (sampF k ((0 : Nat) : Int) ((0 : Nat) : Int)) (List.replicate m ⟨lineS.toArray⟩ ++ [⟨#[]⟩]) ((0 : Nat) : Int) [] = _ := h
  rw [h, Option.bind_some, Nat.zero_add]
  by_cases h4 : m ≤ 4000
  · rw [if_pos h4, if_pos h4]
    rfl
  · rw [if_neg h4, if_neg h4]
    rfl
theorem faul_g {xy : Int} {out : List S52} {l : List ByteArray} {k : Nat} (ho : out.length < 1000) (hk : 60200 ≤ k) (n : List Int) (hn : nums2 l [xy, xy, xy, xy] = (n, 0)) :
    faulF k xy out l = some (out ++ [⟨⟨rd n 0, rd n 1⟩, ⟨rd n 2, rd n 3⟩⟩], 0) := by
  have hl := nums2_len (l := l) (sc := [xy, xy, xy, xy]) (by rw [hn])
  rw [hn] at hl
  unfold faulF
  rw [if_neg (by omega), numbers_f (by simp) hk, Option.bind_some, hn]
  dsimp only
  rw [if_pos rfl, if_pos ⟨by rw [hl]; simp, by omega⟩]
set_option maxRecDepth 100000 in
theorem Faults_full {k m : Nat} (hk : 60200 ≤ k) (hm : m ≤ 5000) : data_Faults.f k ⟨(repB (lineF4 ++ [10]) m).toArray⟩ 0 = some (if m ≤ 1000 then (List.replicate m ⟨⟨1, 2⟩, ⟨3, 4⟩⟩, 0, 0) else ([], 1001, 5)) := by
  have hsz : (⟨(repB (lineF4 ++ [10]) m).toArray⟩ : ByteArray).size = m * 8 := repB_length _ m
  have hn : nums2 wordsF [0, 0, 0, 0] = ([1, 2, 3, 4], 0) := by kernel_rfl
  have hw : data_Words.f ⟨lineF4.toArray⟩ = some wordsF := by kernel_rfl
  unfold data_Faults.f data_each.f
  rw [if_neg (by omega), linesOf_cut]
  rw [show (⟨(repB (lineF4 ++ [10]) m).toArray⟩ : ByteArray).data.toList = repB (lineF4 ++ [10]) m from rfl, cutL_rep lineF4 (by decide) m, map_rep]
  have h := each_full (faulF k 0) ⟨lineF4.toArray⟩ wordsF hw (by decide) (by decide) (fun j => List.replicate j (⟨⟨1, 2⟩, ⟨3, 4⟩⟩ : S52)) 1000
    (fun j hj => by
      rw [faul_g (by simp; exact hj) hk _ hn, List.replicate_succ']
      rfl)
    (by
      unfold faulF
      rw [if_pos ⟨rfl, List.length_replicate ..⟩]) m 0 (by omega)
  rw [show (0 : Int) = ((0 : Nat) : Int) from rfl]
  have h : eachL (faulF k ((0 : Nat) : Int)) (List.replicate m ⟨lineF4.toArray⟩ ++ [⟨#[]⟩]) ((0 : Nat) : Int) [] = _ := h
  rw [h, Option.bind_some, Nat.zero_add]
  by_cases h4 : m ≤ 1000
  · rw [if_pos h4, if_pos h4]
    rfl
  · rw [if_neg h4, if_neg h4]
    rfl
/-- Line ends alone. -/
def endsB (m : Nat) : ByteArray := ⟨(List.replicate m 10).toArray⟩
theorem endsB_size (m : Nat) : (endsB m).size = m := List.length_replicate ..
theorem endsB_list (m : Nat) : (endsB m).data.toList = List.replicate m 10 := rfl
theorem each_ends {σ : Type} (f : σ → List ByteArray → Option (σ × Int)) (m : Nat) (st : σ) : data_each.f f (endsB m) st = some (st, 0, if m > 200000 then 2 else 0) := by
  unfold data_each.f
  rw [endsB_size]
  by_cases h : m > 200000
  · rw [if_pos (by omega), if_pos h]
  · rw [if_neg (by omega), if_neg h, linesOf_cut, endsB_list, cutL_ends, List.map_replicate]
    exact each_blank f _ _ _
theorem Samples_long (k : Nat) : data_Samples.f k (endsB 200001) 0 0 = some ([], 0, 2) := by
  unfold data_Samples.f
  rw [each_ends, Option.bind_some, if_pos (show 200001 > 200000 by decide)]
  rfl
end Go.Proofs.YtknekneicecgiaaGreatDoor.Mg
