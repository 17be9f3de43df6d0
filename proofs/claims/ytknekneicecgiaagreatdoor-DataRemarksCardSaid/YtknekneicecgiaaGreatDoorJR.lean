/- DataRemarks answers true: remarks, empty lines and more blanks change nothing but the number of a line. -/
import Derived.Test.YtknekneicecgiaaGreatDoorX7
import Derived.Test.YtknekneicecgiaaGreatDoorJT
import Derived.Test.YtknekneicecgiaaGreatDoorKRemarks
namespace Go.Proofs.YtknekneicecgiaaGreatDoor.Mg
open Go.RowKit Go.Proofs.YtknekneicecgiaaGreatDoorW.PrintWords Go.Proofs.YtknekneicecgiaaGreatDoorW.PrintMore Go.Proofs.YtknekneicecgiaaGreatDoor.MB Go.Proofs.YtknekneicecgiaaGreatDoor.M
set_option linter.unusedVariables false
set_option linter.unusedSimpArgs false
theorem and_le (x : Int) (m : Nat) (hm : m ≤ 65535) : 0 ≤ Go.bits .and .i64 x (m : Int) ∧ Go.bits .and .i64 x (m : Int) ≤ m := by
  have h1 : (BitVec.ofInt 64 (m : Int)).toNat = m := by
    rw [BitVec.ofInt_natCast, BitVec.toNat_ofNat]
    omega
  have h2 : (BitVec.ofInt 64 x &&& BitVec.ofInt 64 (m : Int)).toNat ≤ m := by
    rw [BitVec.toNat_and, h1]
    exact Nat.and_le_right
  have h3 : Go.bits .and .i64 x (m : Int) = IntKind.i64.wrap ((BitVec.ofInt 64 x &&& BitVec.ofInt 64 (m : Int)).toNat : Int) := rfl
  generalize (BitVec.ofInt 64 x &&& BitVec.ofInt 64 (m : Int)).toNat = n at h2 h3
  rw [h3, IntKind.wrap_i64]
  omega
/-! ### words -/
def wf (st : List ByteArray × Bool) (l : List UInt8) : List ByteArray × Bool := l.foldl wstep st
theorem wf_app (st : List ByteArray × Bool) (a b : List UInt8) : wf st (a ++ b) = wf (wf st a) b := by simp [wf]
theorem wf_blank (W : List ByteArray) : ∀ (l : List UInt8) (b : Bool), (∀ c ∈ l, isBlank c = true) → (wf (W, b) l).1 = W ∧ (wf (W, b) l).2 = (b && l.isEmpty)
  | [], b, _ => ⟨rfl, by simp [wf]⟩
  | c :: l, b, h => by
    have hc := h c List.mem_cons_self
    have h1 : wf (W, b) (c :: l) = wf (W, false) l := by
      show List.foldl wstep (wstep (W, b) c) l = _
      rw [wstep, if_pos hc]
      rfl
    rw [h1]
    have ih := wf_blank W l false (fun x hx => h x (List.mem_cons_of_mem _ hx))
    exact ⟨ih.1, by rw [ih.2]; simp⟩
theorem wf_blank' (W : List ByteArray) (l : List UInt8) (h : ∀ c ∈ l, isBlank c = true) : wf (W, false) l = (W, false) := by
  have := wf_blank W l false h
  exact Prod.ext this.1 (by rw [this.2]; rfl)
theorem wf_blank1 (W : List ByteArray) (l : List UInt8) (h : ∀ c ∈ l, isBlank c = true) (hl : l ≠ []) : wf (W, true) l = (W, false) := by
  have := wf_blank W l true h
  refine Prod.ext this.1 ?_
  rw [this.2]
  cases l with
  | nil => exact absurd rfl hl
  | cons c l => rfl
theorem ba_snoc (x : ByteArray) (c : UInt8) (l : List UInt8) : x ++ (⟨#[c]⟩ : ByteArray) ++ (⟨l.toArray⟩ : ByteArray) = x ++ (⟨(c :: l).toArray⟩ : ByteArray) := by
  apply ba_ext'
  simp only [ByteArray.data_append, Array.toList_append]
  simp
theorem wf_more (W : List ByteArray) : ∀ (l : List UInt8) (x : ByteArray), (∀ c ∈ l, isBlank c = false) → wf (W ++ [x], true) l = (W ++ [x ++ (⟨l.toArray⟩ : ByteArray)], true)
  | [], x, _ => by
    have : x ++ (⟨([] : List UInt8).toArray⟩ : ByteArray) = x := by
      apply ba_ext'
      simp only [ByteArray.data_append, Array.toList_append]
      simp
    rw [this]
    rfl
  | c :: l, x, h => by
    have hc := h c List.mem_cons_self
    have h1 : wf (W ++ [x], true) (c :: l) = wf (W ++ [x ++ (⟨#[c]⟩ : ByteArray)], true) l := by
      show List.foldl wstep (wstep (W ++ [x], true) c) l = _
      rw [wstep, if_neg (by rw [hc]; decide), if_pos rfl, addTo_snoc]
      rfl
    rw [h1, wf_more W l _ (fun y hy => h y (List.mem_cons_of_mem _ hy)), ba_snoc]
theorem wf_word (W : List ByteArray) (l : List UInt8) (h : ∀ c ∈ l, isBlank c = false) (hl : l ≠ []) : wf (W, false) l = (W ++ [(⟨l.toArray⟩ : ByteArray)], true) := by
  cases l with
  | nil => exact absurd rfl hl
  | cons c l =>
    have hc := h c List.mem_cons_self
    have h1 : wf (W, false) (c :: l) = wf (W ++ [(⟨#[]⟩ : ByteArray) ++ (⟨#[c]⟩ : ByteArray)], true) l := by
      show List.foldl wstep (wstep (W, false) c) l = _
      rw [wstep, if_neg (by rw [hc]; decide), if_neg (by simp), addTo_snoc]
      rfl
    rw [h1, wf_more W l _ (fun y hy => h y (List.mem_cons_of_mem _ hy)), ba_snoc]
    congr 3
theorem fixZ_ne (n : Int) (K : Nat) : fixZ n K ≠ [] := by
  unfold fixZ
  obtain ⟨c, t, hc1, hc2⟩ := fixT_head n.natAbs K
  rw [hc1]
  split <;> simp
theorem fixZ_blank {n : Int} {K : Nat} : ∀ c ∈ fixZ n K, isBlank c = false := by
  intro c hc
  have h := fixZ_mem hc
  unfold isBlank
  have h32 : c ≠ 32 := fun e => by subst e; rcases h with h | h | h <;> revert h <;> decide
  have h9 : c ≠ 9 := fun e => by subst e; rcases h with h | h | h <;> revert h <;> decide
  have h13 : c ≠ 13 := fun e => by subst e; rcases h with h | h | h <;> revert h <;> decide
  simp [h32, h9, h13]
theorem fixZ_no2 {n : Int} {K : Nat} {d : UInt8} (hd : d = 10 ∨ d = 35) : d ∉ fixZ n K := fun h => by
  have := fixZ_mem h
  rcases hd with rfl | rfl <;> rcases this with h | h | h <;> revert h <;> decide
/-- A line of three numbers, blanks about them. -/
theorem three_words {a b c d : List UInt8} {x y z : Int} {K L M : Nat} (ha : ∀ q ∈ a, isBlank q = true) (hb : ∀ q ∈ b, isBlank q = true) (hc : ∀ q ∈ c, isBlank q = true) (hd : ∀ q ∈ d, isBlank q = true) (hb0 : b ≠ []) (hc0 : c ≠ []) :
    lw (a ++ fixZ x K ++ b ++ fixZ y L ++ c ++ fixZ z M ++ d) = [(⟨(fixZ x K).toArray⟩ : ByteArray), ⟨(fixZ y L).toArray⟩, ⟨(fixZ z M).toArray⟩] := by
  have hw : (wordsL (a ++ fixZ x K ++ b ++ fixZ y L ++ c ++ fixZ z M ++ d)).1 = [(⟨(fixZ x K).toArray⟩ : ByteArray), ⟨(fixZ y L).toArray⟩, ⟨(fixZ z M).toArray⟩] := by
    show (wf ([], false) _).1 = _
    rw [wf_app, wf_app, wf_app, wf_app, wf_app, wf_app, wf_blank' _ _ ha, wf_word _ _ fixZ_blank (fixZ_ne _ _), wf_blank1 _ _ hb hb0, wf_word _ _ fixZ_blank (fixZ_ne _ _), wf_blank1 _ _ hc hc0, wf_word _ _ fixZ_blank (fixZ_ne _ _)]
    exact (wf_blank _ d true hd).1
  unfold lw
  rw [hw, if_neg]
  intro h
  have hm : (35 : UInt8) ∈ fixZ x K := by
    have h2 : (fixZ x K).head? = some 35 := by simpa using h
    exact List.mem_of_mem_head? h2
  exact fixZ_no2 (.inr rfl) hm
/-! ### lines -/
theorem cutL_line : ∀ (a r : List UInt8), (10 : UInt8) ∉ a → cutL (a ++ 10 :: r) = a :: cutL r
  | [], r, _ => by
    show cutL (10 :: r) = _
    rw [cutL, if_pos rfl]
  | c :: a, r, h => by
    have ih := cutL_line a r (fun e => h (List.mem_cons_of_mem _ e))
    have hc : c ≠ 10 := fun e => h (by rw [e]; exact List.mem_cons_self)
    show cutL (c :: (a ++ 10 :: r)) = _
    rw [cutL, if_neg hc, ih]
/-- What has been written: its lines, and the samples that they say. -/
def Told (xy z : Int) (T : List UInt8) (smps : List S34) : Prop :=
  ∃ Ls : List (List UInt8), (∀ r, cutL (T ++ r) = Ls ++ cutL r) ∧ ∀ (i : Nat) (out : List S34) (rest : List (List ByteArray)), runP xy z (Ls.map lw ++ rest) i out = runP xy z rest (i + Ls.length) (out ++ smps)
theorem told_nil (xy z : Int) : Told xy z [] [] := ⟨[], fun _ => rfl, fun i out rest => by simp⟩
theorem told_skip {xy z : Int} {T a : List UInt8} {smps : List S34} (h : Told xy z T smps) (ha : (10 : UInt8) ∉ a) (hl : lw a = []) : Told xy z (T ++ a ++ [10]) smps := by
  obtain ⟨Ls, h1, h2⟩ := h
  refine ⟨Ls ++ [a], fun r => ?_, fun i out rest => ?_⟩
  · rw [List.append_assoc, List.append_assoc, h1, show a ++ ([10] ++ r) = a ++ 10 :: r from rfl, cutL_line a r ha]
    simp
  · rw [List.map_append, List.append_assoc, h2]
    simp only [List.map_cons, List.map_nil, List.cons_append, List.nil_append, hl, runP, if_pos, List.length_append, List.length_cons, List.length_nil]
    rw [Nat.add_assoc]
theorem told_line {xy z : Int} {T a : List UInt8} {smps : List S34} {n : List Int} (h : Told xy z T smps) (ha : (10 : UInt8) ∉ a) (hl : lw a ≠ []) (hn : nums2 (lw a) [xy, xy, z] = (n, 0)) : Told xy z (T ++ a ++ [10]) (smps ++ [smp n]) := by
  obtain ⟨Ls, h1, h2⟩ := h
  refine ⟨Ls ++ [a], fun r => ?_, fun i out rest => ?_⟩
  · rw [List.append_assoc, List.append_assoc, h1, show a ++ ([10] ++ r) = a ++ 10 :: r from rfl, cutL_line a r ha]
    simp
  · rw [List.map_append, List.append_assoc, h2]
    simp only [List.map_cons, List.map_nil, List.cons_append, List.nil_append, runP, List.length_append, List.length_cons, List.length_nil]
    rw [if_neg hl, hn]
    dsimp only
    rw [if_pos rfl, Nat.add_assoc, List.append_assoc]
theorem told_all {xy z : Int} {T : List UInt8} {smps : List S34} (h : Told xy z T smps) : ∃ n, (cutL T).length = n + 1 ∧ runP xy z ((cutL T).map lw) 0 [] = (smps, 0, 0) := by
  obtain ⟨Ls, h1, h2⟩ := h
  have hc := h1 []
  rw [List.append_nil] at hc
  refine ⟨Ls.length, by rw [hc]; simp [cutL], ?_⟩
  rw [hc, List.map_append, h2]
  simp [cutL, runP, lw, wordsL]
theorem told_err {xy z : Int} {T : List UInt8} {smps : List S34} (h : Told xy z T smps) : ∃ n, (cutL T).length = n + 1 ∧ runP xy z ((cutL (T ++ [35, 10, 49, 32, 50])).map lw) 0 [] = (smps, ((n + 2 : Nat) : Int), 1) := by
  obtain ⟨Ls, h1, h2⟩ := h
  have hc := h1 []
  rw [List.append_nil] at hc
  refine ⟨Ls.length, by rw [hc]; simp [cutL], ?_⟩
  have e1 : cutL [35, 10, 49, 32, 50] = [[35], [49, 32, 50]] := by decide
  have e2 : lw [35] = [] := by decide
  have e3 : lw [49, 32, 50] = [⟨#[49]⟩, ⟨#[50]⟩] := by decide
  have e4 : nums2 [(⟨#[49]⟩ : ByteArray), ⟨#[50]⟩] [xy, xy, z] = ([], 1) := by
    unfold nums2
    rw [if_neg (by simp)]
  rw [h1, e1, List.map_append, h2]
  simp only [List.map_cons, List.map_nil, e2, e3, runP, List.nil_append]
  rw [if_pos trivial, if_neg (by simp), e4]
  dsimp only
  rw [if_neg (by decide)]
  congr 2
  omega
theorem pvT {n a : Int} {K : Nat} (h0 : -2147483648 ≤ n) (h1 : n ≤ 2147483648) (hK : mn (mx a 0) 9 = (K : Int)) (hK9 : K ≤ 9) : pv ⟨(fixZ n K).toArray⟩ a = (n, 0) := by
  have h := ParseT (k := 60000) h0 h1 hK hK9 (Nat.le_refl _)
  rw [Parse_all (Nat.le_refl _)] at h
  exact Option.some.inj h
theorem numsT {x y z a b : Int} {K L : Nat} (hx : -2147483648 ≤ x ∧ x ≤ 2147483648) (hy : -2147483648 ≤ y ∧ y ≤ 2147483648) (hz : -2147483648 ≤ z ∧ z ≤ 2147483648) (hK : mn (mx a 0) 9 = (K : Int)) (hK9 : K ≤ 9) (hL : mn (mx b 0) 9 = (L : Int)) (hL9 : L ≤ 9) :
    nums2 [(⟨(fixZ x K).toArray⟩ : ByteArray), ⟨(fixZ y K).toArray⟩, ⟨(fixZ z L).toArray⟩] [a, a, b] = ([x, y, z], 0) := by
  unfold nums2
  rw [if_pos (by simp)]
  simp only [List.zip_cons_cons, List.zip_nil_right, numsP]
  rw [pvT hx.1 hx.2 hK hK9, pvT hy.1 hy.2 hK hK9, pvT hz.1 hz.2 hL hL9]
  simp
/-! ### the law -/
theorem szl (l : List UInt8) : (⟨l.toArray⟩ : ByteArray).size = l.length := rfl
theorem ba_app (a b : List UInt8) : (⟨a.toArray⟩ : ByteArray) ++ (⟨b.toArray⟩ : ByteArray) = (⟨(a ++ b).toArray⟩ : ByteArray) := by
  apply ba_ext'
  simp only [ByteArray.data_append, Array.toList_append]
theorem cut_mk (l : List UInt8) : (⟨l.toArray⟩ : ByteArray).data.toList = l := rfl
theorem rd4 {j : Int} (h0 : 0 ≤ j) (h1 : j ≤ 3) : ∃ q : List UInt8, rdOf ByteArray.empty [(⟨#[]⟩ : ByteArray), (⟨#[10]⟩ : ByteArray), (⟨#[35, 32, 49, 32, 50, 32, 51, 10]⟩ : ByteArray), (⟨#[32, 9, 13, 10]⟩ : ByteArray)] j = ⟨q.toArray⟩ ∧ q.length ≤ 8 ∧ (q = [] ∨ q = [10] ∨ q = [35, 32, 49, 32, 50, 32, 51, 10] ∨ q = [32, 9, 13, 10]) := by
  obtain rfl | rfl | rfl | rfl : j = 0 ∨ j = 1 ∨ j = 2 ∨ j = 3 := by omega
  · exact ⟨[], rfl, by simp, .inl rfl⟩
  · exact ⟨[10], rfl, by simp, .inr (.inl rfl)⟩
  · exact ⟨[35, 32, 49, 32, 50, 32, 51, 10], rfl, by simp, .inr (.inr (.inl rfl))⟩
  · exact ⟨[32, 9, 13, 10], rfl, by simp, .inr (.inr (.inr rfl))⟩
theorem rd3 {j : Int} {x y z : List UInt8} (h0 : 0 ≤ j) (h1 : j < 3) : ∃ q : List UInt8, rdOf ByteArray.empty [(⟨x.toArray⟩ : ByteArray), (⟨y.toArray⟩ : ByteArray), (⟨z.toArray⟩ : ByteArray)] j = ⟨q.toArray⟩ ∧ (q = x ∨ q = y ∨ q = z) := by
  obtain rfl | rfl | rfl : j = 0 ∨ j = 1 ∨ j = 2 := by omega
  · exact ⟨x, rfl, .inl rfl⟩
  · exact ⟨y, rfl, .inr (.inl rfl)⟩
  · exact ⟨z, rfl, .inr (.inr rfl)⟩
theorem blank_of {q : List UInt8} (h : q.all isBlank = true) : ∀ c ∈ q, isBlank c = true := fun c hc => List.all_eq_true.1 h c hc
theorem told_pre {T q : List UInt8} {smps : List S34} (h : Told 1 0 T smps) (hq : q = [] ∨ q = [10] ∨ q = [35, 32, 49, 32, 50, 32, 51, 10] ∨ q = [32, 9, 13, 10]) : Told 1 0 (T ++ q) smps := by
  rcases hq with rfl | rfl | rfl | rfl
  · rw [List.append_nil]
    exact h
  · have := told_skip (a := []) h (by decide) (by decide)
    rwa [List.append_nil] at this
  · have := told_skip (a := [35, 32, 49, 32, 50, 32, 51]) h (by decide) (by decide)
    rwa [List.append_assoc] at this
  · have := told_skip (a := [32, 9, 13]) h (by decide) (by decide)
    rwa [List.append_assoc] at this
theorem told_chunk {T q0 q1 q2 : List UInt8} {smps : List S34} {X Y Z : Int} (h : Told 1 0 T smps) (hX : 0 ≤ X ∧ X ≤ 65535) (hY : -65535 ≤ Y ∧ Y ≤ 0) (hZ : 0 ≤ Z ∧ Z ≤ 255)
    (hq0 : q0 = [] ∨ q0 = [10] ∨ q0 = [35, 32, 49, 32, 50, 32, 51, 10] ∨ q0 = [32, 9, 13, 10]) (hq1 : q1 = [32] ∨ q1 = [9] ∨ q1 = []) (hq2 : q2 = [] ∨ q2 = [32] ∨ q2 = [13]) :
    Told 1 0 (T ++ q0 ++ (q1 ++ fixZ X 1 ++ [32, 32] ++ fixZ Y 1 ++ [9] ++ fixZ Z 0 ++ q2) ++ [10]) (smps ++ [(⟨X, Y, Z⟩ : S34)]) := by
  have b1 : ∀ c ∈ q1, isBlank c = true := blank_of (by rcases hq1 with rfl | rfl | rfl <;> decide)
  have b2 : ∀ c ∈ q2, isBlank c = true := blank_of (by rcases hq2 with rfl | rfl | rfl <;> decide)
  have hw := three_words (a := q1) (b := [32, 32]) (c := [9]) (d := q2) (x := X) (y := Y) (z := Z) (K := 1) (L := 1) (M := 0) b1 (blank_of (by decide)) (blank_of (by decide)) b2 (by decide) (by decide)
  have n1 : (10 : UInt8) ∉ q1 := fun e => absurd (b1 _ e) (by decide)
  have n2 : (10 : UInt8) ∉ q2 := fun e => absurd (b2 _ e) (by decide)
  have ha : (10 : UInt8) ∉ q1 ++ fixZ X 1 ++ [32, 32] ++ fixZ Y 1 ++ [9] ++ fixZ Z 0 ++ q2 := by
    simp only [List.mem_append, not_or]
    exact ⟨⟨⟨⟨⟨⟨n1, fixZ_no2 (.inl rfl)⟩, by decide⟩, fixZ_no2 (.inl rfl)⟩, by decide⟩, fixZ_no2 (.inl rfl)⟩, n2⟩
  exact told_line (n := [X, Y, Z]) (told_pre h hq0) ha (by rw [hw]; simp) (by rw [hw]; exact numsT ⟨by omega, by omega⟩ ⟨by omega, by omega⟩ ⟨by omega, by omega⟩ (by decide) (by omega) (by decide) (by omega))
theorem Remarks_l1 {T : List UInt8} {smps : List S34} (hs : smps.length ≤ 20) (hT : T.length ≤ 3900) (h : Told 1 0 T smps) : ∀ (d i k : Nat), i + d = smps.length → 70000 + d ≤ k →
    isohyetlaw25_DataRemarks.l1 k smps ⟨T.toArray⟩ smps (smps.length : Int) (i : Int) = some true
  | 0, i, k, hd, hk => by
    obtain ⟨k, rfl⟩ : ∃ n, k = n + 1 := ⟨k - 1, by omega⟩
    obtain ⟨n, h1, h2⟩ := told_err h
    simp only [isohyetlaw25_DataRemarks.l1]
    rw [if_neg (by omega), if_pos (by rw [szl]; omega), ba_app, Samples_f (by rw [szl]; simp; omega) (by omega), Option.bind_some, cut_mk, h2]
    dsimp only
    rw [if_neg (show ¬ ((1 : Int) = 0) from by decide)]
    dsimp only
    rw [if_pos rfl, lines_f (by rw [szl]; omega) (by rw [szl]; omega), Option.bind_some, cut_mk, List.length_map, h1]
    have hn := cutL_len T
    rw [h1] at hn
    rw [show wrap64 (((n + 1 : Nat) : Int) + 1) = ((n + 2 : Nat) : Int) from wrap2 (by omega)]
    simp
  | d + 1, i, k, hd, hk => by
    obtain ⟨k, rfl⟩ : ∃ n, k = n + 1 := ⟨k - 1, by omega⟩
    simp only [isohyetlaw25_DataRemarks.l1]
    rw [if_pos (by omega), if_pos (by omega), if_pos (by omega), if_pos (by omega), if_neg (by simp), wrap2 (by omega)]
    exact Remarks_l1 hs hT h d (i + 1) k (by omega) (by omega)
theorem Remarks_l0 {a1 : Int} {L : List S34} (hL : L.length ≤ 20) : ∀ (d i k : Nat) (smps : List S34) (T : List UInt8), i + d = L.length → 80000 + d ≤ k → smps.length = i → T.length ≤ 194 * i → Told 1 0 T smps →
    isohyetlaw25_DataRemarks.l0 k a1 smps ⟨T.toArray⟩ L (L.length : Int) (i : Int) = some true
  | 0, i, k, smps, T, hd, hk, hs, hT, h => by
    obtain ⟨k, rfl⟩ : ∃ n, k = n + 1 := ⟨k - 1, by omega⟩
    obtain ⟨n, h1, h2⟩ := told_all h
    simp only [isohyetlaw25_DataRemarks.l0]
    rw [if_neg (by omega), Samples_f (by rw [szl]; omega) (by omega), Option.bind_some, cut_mk, h2]
    dsimp only
    rw [if_pos rfl]
    dsimp only
    rw [if_pos rfl, if_pos rfl]
    obtain ⟨k, rfl⟩ : ∃ n, k = n + 1 := ⟨k - 1, by omega⟩
    simp only [isohyetlaw25_DataRemarks.j1]
    rw [if_neg (by simp)]
    exact Remarks_l1 (by omega) (by omega) h smps.length 0 k (by omega) (by omega)
  | d + 1, i, k, smps, T, hd, hk, hs, hT, h => by
    obtain ⟨k, rfl⟩ : ∃ n, k = n + 1 := ⟨k - 1, by omega⟩
    have b0 : 0 ≤ Go.bits .and .i64 (shr .i64 a1 (Int.tmod (i : Int) 16)) 3 ∧ Go.bits .and .i64 (shr .i64 a1 (Int.tmod (i : Int) 16)) 3 ≤ 3 := and_le _ 3 (by omega)
    have t0 : 0 ≤ Int.tmod (i : Int) 16 := Int.tmod_nonneg _ (by omega)
    have t1 : 0 ≤ Int.tmod (i : Int) 3 := Int.tmod_nonneg _ (by omega)
    have u1 : Int.tmod (i : Int) 3 < 3 := Int.tmod_lt_of_pos _ (by omega)
    have b2 : 0 ≤ Go.bits .and .i64 a1 255 ∧ Go.bits .and .i64 a1 255 ≤ 255 := and_le _ 255 (by omega)
    have hw : wrap64 (Go.bits .and .i64 a1 255 + (i : Int)) = Go.bits .and .i64 a1 255 + (i : Int) := by
      generalize Go.bits .and .i64 a1 255 = m at b2 ⊢
      unfold wrap64
      omega
    have t2 : 0 ≤ Int.tmod (Go.bits .and .i64 a1 255 + (i : Int)) 3 := Int.tmod_nonneg _ (by omega)
    have u2 : Int.tmod (Go.bits .and .i64 a1 255 + (i : Int)) 3 < 3 := Int.tmod_lt_of_pos _ (by omega)
    have hX : 0 ≤ Go.bits .and .i64 (rd_T34 L (i : Int)).f0 65535 ∧ Go.bits .and .i64 (rd_T34 L (i : Int)).f0 65535 ≤ 65535 := and_le _ 65535 (by omega)
    have hY0 : 0 ≤ Go.bits .and .i64 (rd_T34 L (i : Int)).f1 65535 ∧ Go.bits .and .i64 (rd_T34 L (i : Int)).f1 65535 ≤ 65535 := and_le _ 65535 (by omega)
    have hZ : 0 ≤ Go.bits .and .i64 (rd_T34 L (i : Int)).f2 255 ∧ Go.bits .and .i64 (rd_T34 L (i : Int)).f2 255 ≤ 255 := and_le _ 255 (by omega)
    have hY : -65535 ≤ wrap64 (-(Go.bits .and .i64 (rd_T34 L (i : Int)).f1 65535)) ∧ wrap64 (-(Go.bits .and .i64 (rd_T34 L (i : Int)).f1 65535)) ≤ 0 := by
      generalize Go.bits .and .i64 (rd_T34 L (i : Int)).f1 65535 = m at hY0 ⊢
      unfold wrap64
      omega
    simp only [isohyetlaw25_DataRemarks.l0]
    rw [hw]
    generalize Go.bits .and .i64 (shr .i64 a1 (Int.tmod (i : Int) 16)) 3 = j0 at b0 ⊢
    generalize Int.tmod (i : Int) 16 = j9 at t0 ⊢
    generalize Int.tmod (i : Int) 3 = j1 at t1 u1 ⊢
    generalize Int.tmod (Go.bits .and .i64 a1 255 + (i : Int)) 3 = j2 at t2 u2 ⊢
    generalize wrap64 (-(Go.bits .and .i64 (rd_T34 L (i : Int)).f1 65535)) = Y at hY ⊢
    generalize Go.bits .and .i64 (rd_T34 L (i : Int)).f0 65535 = X at hX ⊢
    generalize Go.bits .and .i64 (rd_T34 L (i : Int)).f2 255 = Z at hZ ⊢
    obtain ⟨q0, e0, l0, m0⟩ := rd4 b0.1 b0.2
    obtain ⟨q1, e1, m1⟩ := rd3 (x := [32]) (y := [9]) (z := []) t1 u1
    obtain ⟨q2, e2, m2⟩ := rd3 (x := []) (y := [32]) (z := [13]) t2 u2
    have l1 : q1.length ≤ 1 := by rcases m1 with rfl | rfl | rfl <;> simp
    have l2 : q2.length ≤ 1 := by rcases m2 with rfl | rfl | rfl <;> simp
    have lX := fixZ_len (n := X) (K := 1) (by omega) (by omega) (by omega)
    have lY := fixZ_len (n := Y) (K := 1) (by omega) (by omega) (by omega)
    have lZ := fixZ_len (n := Z) (K := 0) (by omega) (by omega) (by omega)
    have fX : deci_Text.f k X 1 = some ⟨(fixZ X 1).toArray⟩ := Text_f (by omega) (by omega) (by decide) (by omega) (by omega)
    have fY : deci_Text.f k Y 1 = some ⟨(fixZ Y 1).toArray⟩ := Text_f (by omega) (by omega) (by decide) (by omega) (by omega)
    have fZ : deci_Text.f k Z 0 = some ⟨(fixZ Z 0).toArray⟩ := Text_f (by omega) (by omega) (by decide) (by omega) (by omega)
    have ht := told_chunk h hX hY hZ m0 m1 m2
    rw [if_pos (by omega), if_pos (by omega), if_pos (by omega), if_pos (by omega), fX, fY, fZ]
    simp only [Option.bind_some]
    rw [e0, e1, e2]
    simp only [ba_app, szl, List.length_append, List.length_cons, List.length_nil]
    generalize fixZ X 1 = x at *
    generalize fixZ Y 1 = y at *
    generalize fixZ Z 0 = z at *
    rw [if_pos t0, if_pos b0.1, if_pos (by omega), if_pos t1, if_pos (by omega), if_pos (by omega), if_pos (by omega), if_pos (by omega), if_pos (by omega), if_pos (by omega), if_pos (by omega), if_pos t2, if_pos (by omega), if_pos (by omega), if_pos (by omega), if_pos (by omega), wrap2 (by omega)]
    have e : T ++ (q0 ++ q1 ++ x ++ [32, 32] ++ y ++ [9] ++ z ++ q2 ++ [10]) = T ++ q0 ++ (q1 ++ x ++ [32, 32] ++ y ++ [9] ++ z ++ q2) ++ [10] := by simp only [List.append_assoc]
    rw [e]
    exact Remarks_l0 hL d (i + 1) k _ _ (by omega) (by omega) (by simp; omega) (by simp only [List.length_append, List.length_cons, List.length_nil]; omega) ht
theorem DataRemarks_f {L : List S34} {a1 : Int} {k : Nat} (hk : 90000 ≤ k) : isohyetlaw25_DataRemarks.f k L a1 = some true := by
  unfold isohyetlaw25_DataRemarks.f isohyetlaw25_fit.f
  rw [Option.bind_some, if_pos rfl]
  by_cases h : (L.length : Int) > 20
  · rw [if_pos h]
  · rw [if_neg h]
    exact Remarks_l0 (by omega) L.length 0 k [] [] (by omega) (by omega) rfl (by simp) (told_nil 1 0)
end Go.Proofs.YtknekneicecgiaaGreatDoor.Mg
namespace Go.Proofs.YtknekneicecgiaaGreatDoor.Pure
open Go.Proofs.YtknekneicecgiaaGreatDoor.M
theorem DataRemarks : ∀ (l0 : List S34) (a1 : Int), (Lit.int .i64 a1).wf = true → ∃ k, isohyetlaw25_DataRemarks.f k l0 a1 = some true := fun _ _ _ => ⟨90000, Mg.DataRemarks_f (Nat.le_refl _)⟩
end Go.Proofs.YtknekneicecgiaaGreatDoor.Pure
