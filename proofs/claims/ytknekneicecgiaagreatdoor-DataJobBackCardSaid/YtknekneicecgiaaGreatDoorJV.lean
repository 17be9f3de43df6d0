/- A job's text: its lines are read as what they say. A job's text, whole: read as the job. What a job and its text must be for the law: without a grid, and with one. -/
import Derived.Test.YtknekneicecgiaaGreatDoorX11
import Derived.Test.YtknekneicecgiaaGreatDoorJS
import Derived.Test.YtknekneicecgiaaGreatDoorHK
import Derived.Test.YtknekneicecgiaaGreatDoorHO
import Derived.Test.YtknekneicecgiaaGreatDoorJP
import Derived.KernelRfl
namespace Go.Proofs.YtknekneicecgiaaGreatDoor.Lv
open Go.RowKit Go.Proofs.YtknekneicecgiaaGreatDoorW.PrintWords Go.Proofs.YtknekneicecgiaaGreatDoorW.PrintMore Go.Proofs.YtknekneicecgiaaGreatDoor.MB Go.Proofs.YtknekneicecgiaaGreatDoor.M Go.Proofs.YtknekneicecgiaaGreatDoor.Mg
set_option linter.unusedVariables false
set_option linter.unusedSimpArgs false
/-! ### numbers' texts -/
def itL (n : Nat) : List UInt8 := if n < 10 then [UInt8.ofNat (48 + n)] else if n < 100 then [UInt8.ofNat (48 + n / 10), UInt8.ofNat (48 + n % 10)] else [UInt8.ofNat (48 + n / 100), UInt8.ofNat (48 + n / 10 % 10), UInt8.ofNat (48 + n % 10)]
theorem itoa_it {n : Nat} (h : n < 1000) : Lib.itoa (n : Int) = itL n := by
  unfold Lib.itoa itL
  rw [if_neg (by omega), Int.toNat_natCast]
  by_cases h1 : n < 10
  · rw [if_pos h1, Lib.decDigits, dif_pos h1]
  · rw [if_neg h1, Lib.decDigits, dif_neg h1]
    by_cases h2 : n < 100
    · rw [if_pos h2, Lib.decDigits, dif_pos (by omega)]
      rfl
    · rw [if_neg h2, Lib.decDigits, dif_neg (by omega), Lib.decDigits, dif_pos (by omega)]
      have e : n / 10 / 10 = n / 100 := by omega
      rw [e]
      rfl
theorem itL_ok : ((List.range 200).all fun n => decide ((itL n).length ≤ 3) && decide (itL n ≠ []) && (itL n).all fun c => !isBlank c && c != 10 && c != 35) = true := by kernel_rfl
theorem it_facts {n : Nat} (h : n < 200) : (itL n).length ≤ 3 ∧ itL n ≠ [] ∧ ∀ c ∈ itL n, isBlank c = false ∧ c ≠ 10 ∧ c ≠ 35 := by
  have h1 := List.all_eq_true.1 itL_ok n (List.mem_range.2 h)
  simp only [Bool.and_eq_true, decide_eq_true_eq, List.all_eq_true, bne_iff_ne, Bool.not_eq_true'] at h1
  exact ⟨h1.1.1, h1.1.2, fun c hc => ⟨(h1.2 c hc).1.1, (h1.2 c hc).1.2, (h1.2 c hc).2⟩⟩
theorem scale_all : ((List.range 10).all fun n => data_count.f 100 ⟨(itL n).toArray⟩ 0 9 == some ((n : Int), 0)) = true := by kernel_rfl
theorem size_all : ((List.range 129).all fun n => n == 0 || data_count.f 100 ⟨(itL n).toArray⟩ 1 1099511627776 == some ((n : Int), 0)) = true := by kernel_rfl
theorem count_up {k : Nat} (hk : 100 ≤ k) {s : ByteArray} {a b : Int} {r : Int × Int} (h : data_count.f 100 s a b = some r) : data_count.f k s a b = some r := by
  obtain ⟨d, rfl⟩ : ∃ d, k = 100 + d := ⟨k - 100, by omega⟩
  induction d with
  | zero => exact h
  | succ d ih => exact data_count.mono _ _ _ _ _ (ih (by omega))
theorem scale_f {n k : Nat} (hn : n < 10) (hk : 100 ≤ k) : data_count.f k ⟨(itL n).toArray⟩ 0 9 = some ((n : Int), 0) := count_up hk (by
  have h := List.all_eq_true.1 scale_all n (List.mem_range.2 hn)
  exact beq_iff_eq.1 h)
theorem size_f {n k : Nat} (h0 : 0 < n) (hn : n < 129) (hk : 100 ≤ k) : data_count.f k ⟨(itL n).toArray⟩ 1 1099511627776 = some ((n : Int), 0) := count_up hk (by
  have h := List.all_eq_true.1 size_all n (List.mem_range.2 hn)
  rw [Bool.or_eq_true] at h
  rcases h with h | h
  · have := beq_iff_eq.1 h
    omega
  · exact beq_iff_eq.1 h)
/-! ### lines -/
theorem words2 {a b : List UInt8} (ha : ∀ c ∈ a, isBlank c = false) (ha0 : a ≠ []) (hb : ∀ c ∈ b, isBlank c = false) (hb0 : b ≠ []) (hl : a.length + b.length ≤ 1000000) : data_Words.f ⟨(a ++ 32 :: b).toArray⟩ = some [⟨a.toArray⟩, ⟨b.toArray⟩] := by
  have hs : (⟨(a ++ 32 :: b).toArray⟩ : ByteArray).size = a.length + (b.length + 1) := by rw [szl, List.length_append, List.length_cons]
  have h32 : ∀ q ∈ ([32] : List UInt8), isBlank q = true := by decide
  unfold data_Words.f
  rw [if_pos (by omega), fields_words]
  show some (wf ([], false) (a ++ 32 :: b)).1 = _
  rw [show a ++ 32 :: b = a ++ [32] ++ b by simp, wf_app, wf_app, wf_word _ _ ha ha0, wf_blank1 _ _ h32 (by decide), wf_word _ _ hb hb0]
  rfl
theorem words3 {a b d : List UInt8} (ha : ∀ c ∈ a, isBlank c = false) (ha0 : a ≠ []) (hb : ∀ c ∈ b, isBlank c = false) (hb0 : b ≠ []) (hd : ∀ c ∈ d, isBlank c = false) (hd0 : d ≠ []) (hl : a.length + b.length + d.length ≤ 1000000) : data_Words.f ⟨(a ++ 32 :: b ++ 32 :: d).toArray⟩ = some [⟨a.toArray⟩, ⟨b.toArray⟩, ⟨d.toArray⟩] := by
  have hs : (⟨(a ++ 32 :: b ++ 32 :: d).toArray⟩ : ByteArray).size = a.length + (b.length + 1) + (d.length + 1) := by rw [szl, List.length_append, List.length_append, List.length_cons, List.length_cons]
  have h32 : ∀ q ∈ ([32] : List UInt8), isBlank q = true := by decide
  unfold data_Words.f
  rw [if_pos (by omega), fields_words]
  show some (wf ([], false) (a ++ 32 :: b ++ 32 :: d)).1 = _
  rw [show a ++ 32 :: b ++ 32 :: d = a ++ [32] ++ b ++ [32] ++ d by simp, wf_app, wf_app, wf_app, wf_app, wf_word _ _ ha ha0, wf_blank1 _ _ h32 (by decide), wf_word _ _ hb hb0, wf_blank1 _ _ h32 (by decide), wf_word _ _ hd hd0]
  rfl
theorem line_step {σ : Type} {f : σ → List ByteArray → Option (σ × Int)} {st st1 : σ} {i : Int} {x : ByteArray} {l rest : List ByteArray} (hx : data_Words.f x = some l) (hl : ¬ l.length = 0) (hp : ¬ (l.headD ⟨#[]⟩).data.toList.head? = some 35) (hf : f st l = some (st1, 0)) :
    eachL f (x :: rest) i st = eachL f rest (i + 1) st1 := by
  simp only [eachL]
  rw [hx, Option.bind_some, if_neg hl, if_neg (fun h => hp ((prefix_iff _).1 h)), hf, Option.bind_some, if_pos rfl]
theorem lineF_step {vf : RS → ByteArray → List ByteArray → Option (RS × Int)} {st : RS} {key : ByteArray} {ws : List ByteArray} (n : Int) (hk : key.size ≤ 1000000) (hs : st.seen.length ≤ 1000000) (hw : wantOf key = n) (hn : n ≠ 0) (hl : (ws.length : Int) = n) (hsn : isSeen st.seen key = false) :
    lineF vf st (key :: ws) = vf { st with seen := st.seen ++ [key] } key ws := by
  unfold lineF
  simp only [List.headD_cons, List.drop_succ_cons, List.drop_zero]
  rw [if_pos ⟨hk, hs⟩, hw, if_neg (fun h => h.elim hn (fun h => h hl)), if_neg (by rw [hsn]; decide)]
def jobVF (k : Nat) (z : Int) (st : RS) (key : ByteArray) (l : List ByteArray) : Option (RS × Int) :=
  (methodF st key l).or ((scaleF k st key l).or ((levelsF k z st key l).or ((cellF k 2 st key l).or ((originF k 2 st key l).or (sizeF k st key l)))))
theorem jobVF_ok (k : Nat) (z : Int) (Br Bm B : Nat) (hB2 : 2 < B) (hBr : B ≤ Br) : ValueOk Tryz.prog 49 (jobVF k z) 2 z Br Bm B :=
  value_or (method_ok 2 z Br Bm B hB2 hBr) (value_or (scale_ok k 2 z Br Bm B hB2 hBr) (value_or (levels_ok k 2 z Br Bm B hB2 hBr) (value_or (cell_ok k 2 z Br Bm B hB2 hBr) (value_or (origin_ok k 2 z Br Bm B hB2 hBr) (size_ok k 2 z Br Bm B hB2 hBr)))))
theorem no_method {st : RS} {key : ByteArray} {l : List ByteArray} (h : ¬ key.data.toList = kMethod.data.toList) : methodF st key l = none := by unfold methodF; rw [if_neg (fun h2 => h h2.1)]
theorem no_scale {k : Nat} {st : RS} {key : ByteArray} {l : List ByteArray} (h : ¬ key.data.toList = kScale.data.toList) : scaleF k st key l = none := by unfold scaleF; rw [if_neg (fun h2 => h h2.1)]
theorem no_levels {k : Nat} {z : Int} {st : RS} {key : ByteArray} {l : List ByteArray} (h : ¬ key.data.toList = kLevels.data.toList) : levelsF k z st key l = none := by unfold levelsF; rw [if_neg (fun h2 => h h2.1)]
theorem no_cell {k : Nat} {xy : Int} {st : RS} {key : ByteArray} {l : List ByteArray} (h : ¬ key.data.toList = kCell.data.toList) : cellF k xy st key l = none := by unfold cellF; rw [if_neg (fun h2 => h h2.1)]
theorem no_origin {k : Nat} {xy : Int} {st : RS} {key : ByteArray} {l : List ByteArray} (h : ¬ key.data.toList = kOrigin.data.toList) : originF k xy st key l = none := by unfold originF; rw [if_neg (fun h2 => h h2.1)]
theorem meth_f {m : Int} {x : ByteArray} (h0 : 0 ≤ m) (h2 : m ≤ 2) (hx : mths[m.toNat]? = some x) : slices_Index_string_string.f 10 mths x = some m := by
  rcases (show m = 0 ∨ m = 1 ∨ m = 2 by omega) with rfl | rfl | rfl <;> (cases hx; kernel_rfl)
theorem meth_word {m : Int} {x : ByteArray} (h0 : 0 ≤ m) (h2 : m ≤ 2) (hx : mths[m.toNat]? = some x) : (∀ c ∈ x.data.toList, isBlank c = false ∧ c ≠ 10) ∧ x.data.toList ≠ [] ∧ x.data.toList.length ≤ 10 := by
  rcases (show m = 0 ∨ m = 1 ∨ m = 2 by omega) with rfl | rfl | rfl <;> (cases hx; decide)
section
variable {k : Nat} {z : Int} {st : RS}
theorem step_method {m : Int} {x : ByteArray} (h0 : 0 ≤ m) (h2 : m ≤ 2) (hx : mths[m.toNat]? = some x) (hs : st.seen.length ≤ 100) (hn : isSeen st.seen kMethod = false) : lineF (jobVF k z) st [kMethod, x] = some ({ st with m := m, seen := st.seen ++ [kMethod] }, 0) := by
  rw [lineF_step 1 (by decide) (by omega) (by decide) (by decide) rfl hn]
  unfold jobVF methodF
  rw [if_pos ⟨rfl, by simp⟩, List.headD_cons, meth_f h0 h2 hx, Option.bind_some, if_neg (by omega)]
  rfl
theorem step_scale {n : Nat} (hk : 100 ≤ k) (h : n < 10) (hs : st.seen.length ≤ 100) (hn : isSeen st.seen kScale = false) : lineF (jobVF k z) st [kScale, ⟨(itL n).toArray⟩] = some ({ st with s := n, seen := st.seen ++ [kScale] }, 0) := by
  rw [lineF_step 1 (by decide) (by omega) (by decide) (by decide) rfl hn]
  unfold jobVF
  rw [no_method (by decide)]
  unfold scaleF
  rw [if_pos ⟨rfl, by simp⟩, List.headD_cons, scale_f h hk, Option.bind_some, if_pos rfl]
  rfl
theorem step_levels {T : ByteArray} {L : List Int} (hT : level_Parse.f k T z = some (L, 0)) (hs : st.seen.length ≤ 100) (hn : isSeen st.seen kLevels = false) : lineF (jobVF k z) st [kLevels, T] = some ({ st with lv := L, seen := st.seen ++ [kLevels] }, 0) := by
  rw [lineF_step 1 (by decide) (by omega) (by decide) (by decide) rfl hn]
  unfold jobVF
  rw [no_method (by decide), no_scale (by decide)]
  unfold levelsF
  rw [if_pos ⟨rfl, by simp⟩, List.headD_cons, hT, Option.bind_some, if_pos rfl]
  rfl
theorem step_cell {T : ByteArray} {n : Int} (hT : data_numbers.f k [T] [2] = some ([n], 0)) (h1 : 1 ≤ n) (hs : st.seen.length ≤ 100) (hn : isSeen st.seen kCell = false) : lineF (jobVF k z) st [kCell, T] = some ({ st with gc := n, seen := st.seen ++ [kCell] }, 0) := by
  rw [lineF_step 1 (by decide) (by omega) (by decide) (by decide) rfl hn]
  unfold jobVF
  rw [no_method (by decide), no_scale (by decide), no_levels (by decide)]
  unfold cellF
  rw [if_pos ⟨rfl, by simp⟩, hT, Option.bind_some, if_pos ⟨rfl, by simp, h1⟩]
  rfl
theorem step_origin {T U : ByteArray} {n m : Int} (hT : data_numbers.f k [T, U] [2, 2] = some ([n, m], 0)) (hs : st.seen.length ≤ 100) (hn : isSeen st.seen kOrigin = false) : lineF (jobVF k z) st [kOrigin, T, U] = some ({ st with gx := n, gy := m, seen := st.seen ++ [kOrigin] }, 0) := by
  rw [lineF_step 2 (by decide) (by omega) (by decide) (by decide) rfl hn]
  unfold jobVF
  rw [no_method (by decide), no_scale (by decide), no_levels (by decide), no_cell (by decide)]
  unfold originF
  rw [if_pos ⟨rfl, by simp⟩, hT, Option.bind_some, if_pos ⟨rfl, by simp⟩]
  rfl
theorem step_size {n m : Nat} (hk : 100 ≤ k) (h0 : 0 < n) (h1 : n < 129) (h2 : 0 < m) (h3 : m < 129) (hs : st.seen.length ≤ 100) (hn : isSeen st.seen kSize = false) : lineF (jobVF k z) st [kSize, ⟨(itL n).toArray⟩, ⟨(itL m).toArray⟩] = some ({ st with gcols := n, grows := m, seen := st.seen ++ [kSize] }, 0) := by
  rw [lineF_step 2 (by decide) (by omega) (by decide) (by decide) rfl hn]
  unfold jobVF
  rw [no_method (by decide), no_scale (by decide), no_levels (by decide), no_cell (by decide), no_origin (by decide)]
  unfold sizeF
  rw [if_pos ⟨rfl, by simp⟩, List.headD_cons, size_f h0 h1 hk, Option.bind_some, if_pos rfl]
  have e : ([(⟨(itL n).toArray⟩ : ByteArray), ⟨(itL m).toArray⟩].getD 1 ⟨#[]⟩) = ⟨(itL m).toArray⟩ := rfl
  rw [e, size_f h2 h3 hk, Option.bind_some, if_pos rfl]
  rfl
end
end Go.Proofs.YtknekneicecgiaaGreatDoor.Lv
namespace Go.Proofs.YtknekneicecgiaaGreatDoor.Lv
open Go.RowKit Go.Proofs.YtknekneicecgiaaGreatDoorW.PrintWords Go.Proofs.YtknekneicecgiaaGreatDoorW.PrintMore Go.Proofs.YtknekneicecgiaaGreatDoor.MB Go.Proofs.YtknekneicecgiaaGreatDoor.M Go.Proofs.YtknekneicecgiaaGreatDoor.Mg
set_option linter.unusedVariables false
set_option linter.unusedSimpArgs false
def lnM (x : ByteArray) : List UInt8 := kMethod.data.toList ++ 32 :: x.data.toList
def lnS (n : Nat) : List UInt8 := kScale.data.toList ++ 32 :: itL n
def lnL (K : Nat) (L : List Int) : List UInt8 := kLevels.data.toList ++ 32 :: jn 44 (txs K L)
def lnO (gx gy : Int) : List UInt8 := kOrigin.data.toList ++ 32 :: fixZ gx 2 ++ 32 :: fixZ gy 2
def lnC (gc : Int) : List UInt8 := kCell.data.toList ++ 32 :: fixZ gc 2
def lnZ (n m : Nat) : List UInt8 := kSize.data.toList ++ 32 :: itL n ++ 32 :: itL m
def mk (p : List UInt8) : ByteArray := ⟨p.toArray⟩
/-- Lines, each with its end. -/
def ends : List (List UInt8) → List UInt8
  | [] => []
  | a :: r => a ++ 10 :: ends r
theorem cutL_ends2 : ∀ ls : List (List UInt8), (∀ a ∈ ls, (10 : UInt8) ∉ a) → cutL (ends ls) = ls ++ [[]]
  | [], _ => rfl
  | a :: r, h => by
    show cutL (a ++ 10 :: ends r) = _
    rw [cutL_line a _ (h a List.mem_cons_self), cutL_ends2 r (fun b hb => h b (List.mem_cons_of_mem _ hb))]
    rfl
theorem ends_app : ∀ a b : List (List UInt8), ends (a ++ b) = ends a ++ ends b
  | [], b => rfl
  | x :: a, b => by
    show x ++ 10 :: ends (a ++ b) = (x ++ 10 :: ends a) ++ ends b
    rw [ends_app a b]
    simp
def linesJ (x : ByteArray) (n : Nat) (K : Nat) (L : List Int) : List (List UInt8) := [lnM x, lnS n] ++ if L = [] then [] else [lnL K L]
def linesG (gx gy gc : Int) (n m : Nat) : List (List UInt8) := [lnO gx gy, lnC gc, lnZ n m]
theorem jn_facts {K : Nat} {L : List Int} (h0 : L ≠ []) (hK : K ≤ 9) (hr : ∀ z ∈ L, -2147483648 ≤ z ∧ z ≤ 2147483648) (hl : L.length ≤ 40) : (∀ c ∈ jn 44 (txs K L), isBlank c = false ∧ c ≠ 10) ∧ jn 44 (txs K L) ≠ [] ∧ (jn 44 (txs K L)).length ≤ 2440 := by
  have hr2 : ∀ z ∈ L, -9223372036854775808 ≤ z ∧ z ≤ 9223372036854775807 := fun z hz => by have := hr z hz; omega
  refine ⟨fun c hc => ?_, ?_, ?_⟩
  · rcases jn_mem 44 _ hc with rfl | ⟨p, hp, hcp⟩
    · decide
    · obtain ⟨y, _, rfl⟩ := List.mem_map.1 hp
      exact ⟨fixZ_blank c hcp, fun e => fixZ_no2 (.inl e) hcp⟩
  · cases L with
    | nil => exact absurd rfl h0
    | cons y r =>
      cases r with
      | nil => exact fixZ_ne y K
      | cons y2 r =>
        show fixZ y K ++ 44 :: _ ≠ []
        simp
  · have h := jn_len 44 60 (txs K L) (txs_size hK hr2)
    rw [txs_len] at h
    have : L.length * 61 ≤ 40 * 61 := Nat.mul_le_mul_right _ hl
    omega
theorem key_blank : (∀ c ∈ kMethod.data.toList, isBlank c = false) ∧ (∀ c ∈ kScale.data.toList, isBlank c = false) ∧ (∀ c ∈ kLevels.data.toList, isBlank c = false) ∧ (∀ c ∈ kOrigin.data.toList, isBlank c = false) ∧ (∀ c ∈ kCell.data.toList, isBlank c = false) ∧ (∀ c ∈ kSize.data.toList, isBlank c = false) := by decide
theorem fx_len {n : Int} {K : Nat} (h : -2147483648 ≤ n ∧ n ≤ 2147483648) (hK : K ≤ 9) : (fixZ n K).length ≤ 60 := fixZ_len (by omega) (by omega) hK
theorem it_bl {n : Nat} (h : n < 200) : ∀ c ∈ itL n, isBlank c = false := fun c hc => ((it_facts h).2.2 c hc).1
section
variable {k : Nat} {z m : Int} {x : ByteArray} {n K : Nat} {L : List Int}
theorem part1 (hk : 63000 ≤ k) (h0 : 0 ≤ m) (h2 : m ≤ 2) (hx : mths[m.toNat]? = some x) (hn : n < 10) (hK : mn (mx z 0) 9 = (K : Int)) (hK9 : K ≤ 9) (hi : L.Pairwise (· < ·)) (hr : ∀ y ∈ L, -2147483648 ≤ y ∧ y ≤ 2147483648) (hl : L.length ≤ 40) :
    ∃ (j : Int) (sn : List ByteArray), (sn = [kMethod, kScale] ∨ sn = [kMethod, kScale, kLevels]) ∧ ∀ rest, eachL (lineF (jobVF k z)) ((linesJ x n K L).map mk ++ rest) 0 rs0 = eachL (lineF (jobVF k z)) rest j ⟨m, n, L, 0, 0, 0, 0, 0, sn⟩ := by
  have hxw := meth_word h0 h2 hx
  have hb := key_blank
  have s1 : ∀ rest, eachL (lineF (jobVF k z)) (mk (lnM x) :: mk (lnS n) :: rest) 0 rs0 = eachL (lineF (jobVF k z)) rest (0 + 1 + 1) ⟨m, n, [], 0, 0, 0, 0, 0, [kMethod, kScale]⟩ := fun rest => by
    rw [line_step (x := mk (lnM x)) (words2 hb.1 (by decide) (fun c hc => (hxw.1 c hc).1) hxw.2.1 (by have h := hxw.2.2; have h1 : kMethod.data.toList.length = 6 := rfl; omega)) (by simp) (show ¬ (kMethod : ByteArray).data.toList.head? = some 35 by decide) (step_method h0 h2 hx (show ([] : List ByteArray).length ≤ 100 by decide) (show isSeen [] kMethod = false by decide))]
    rw [line_step (x := mk (lnS n)) (words2 hb.2.1 (by decide) (it_bl (by omega)) (it_facts (by omega)).2.1 (by have h := (it_facts (show n < 200 by omega)).1; have h1 : kScale.data.toList.length = 5 := rfl; omega)) (by simp) (show ¬ (kScale : ByteArray).data.toList.head? = some 35 by decide) (step_scale (by omega) hn (show ([kMethod] : List ByteArray).length ≤ 100 by decide) (show isSeen [kMethod] kScale = false by decide))]
    rfl
  by_cases hL : L = []
  · subst hL
    refine ⟨0 + 1 + 1, _, .inl rfl, fun rest => ?_⟩
    unfold linesJ
    rw [if_pos rfl]
    exact s1 rest
  · refine ⟨0 + 1 + 1 + 1, _, .inr rfl, fun rest => ?_⟩
    unfold linesJ
    rw [if_neg hL]
    have hj := jn_facts hL hK9 hr hl
    have h1 : kLevels.data.toList.length = 6 := rfl
    show eachL (lineF (jobVF k z)) (mk (lnM x) :: mk (lnS n) :: mk (lnL K L) :: rest) 0 rs0 = _
    rw [s1, line_step (x := mk (lnL K L)) (words2 hb.2.2.1 (by decide) (fun c hc => (hj.1 c hc).1) hj.2.1 (by omega)) (by simp) (show ¬ (kLevels : ByteArray).data.toList.head? = some 35 by decide) (step_levels (Parse_list L hL hi hr hK hK9 (by omega) (by omega)) (show ([kMethod, kScale] : List ByteArray).length ≤ 100 by decide) (show isSeen [kMethod, kScale] kLevels = false by decide))]
    rfl
theorem nums1 {a : Int} (ha : -2147483648 ≤ a ∧ a ≤ 2147483648) (hk : 63000 ≤ k) : data_numbers.f k [(⟨(fixZ a 2).toArray⟩ : ByteArray)] [2] = some ([a], 0) := by
  rw [Go.Proofs.YtknekneicecgiaaGreatDoor.Mg.numbers_f (by simp) (by omega)]
  unfold nums2
  rw [if_pos (by simp)]
  simp only [List.zip_cons_cons, List.zip_nil_right, numsP]
  rw [pvT ha.1 ha.2 (by decide) (by decide)]
  simp
theorem nums1b {a b : Int} (ha : -2147483648 ≤ a ∧ a ≤ 2147483648) (hb : -2147483648 ≤ b ∧ b ≤ 2147483648) (hk : 63000 ≤ k) : data_numbers.f k [(⟨(fixZ a 2).toArray⟩ : ByteArray), ⟨(fixZ b 2).toArray⟩] [2, 2] = some ([a, b], 0) := by
  rw [Go.Proofs.YtknekneicecgiaaGreatDoor.Mg.numbers_f (by simp) (by omega)]
  unfold nums2
  rw [if_pos (by simp)]
  simp only [List.zip_cons_cons, List.zip_nil_right, numsP]
  rw [pvT ha.1 ha.2 (by decide) (by decide), pvT hb.1 hb.2 (by decide) (by decide)]
  simp
theorem part2 (hk : 63000 ≤ k) {s : Int} {gx gy gc : Int} {c r : Nat} (hgx : -2147483648 ≤ gx ∧ gx ≤ 2147483648) (hgy : -2147483648 ≤ gy ∧ gy ≤ 2147483648) (hgc : 1 ≤ gc ∧ gc ≤ 2147483648) (hc : 0 < c ∧ c < 129) (hrr : 0 < r ∧ r < 129) (i : Int) {sn : List ByteArray} (hsn : sn = [kMethod, kScale] ∨ sn = [kMethod, kScale, kLevels]) :
    ∃ sn', (∀ y ∈ partKeys, isSeen sn' y = true) ∧ eachL (lineF (jobVF k z)) ((linesG gx gy gc c r ++ [[]]).map mk) i ⟨m, s, L, 0, 0, 0, 0, 0, sn⟩ = some (⟨m, s, L, gx, gy, gc, c, r, sn'⟩, 0, 0) := by
  have hb := key_blank
  have l1 := fx_len (K := 2) hgx (by decide)
  have l2 := fx_len (K := 2) hgy (by decide)
  have l3 := fx_len (K := 2) (n := gc) ⟨by omega, hgc.2⟩ (by decide)
  have k1 : kOrigin.data.toList.length = 6 := rfl
  have k2 : kCell.data.toList.length = 4 := rfl
  have k3 : kSize.data.toList.length = 4 := rfl
  have i1 := it_facts (show c < 200 by omega)
  have i2 := it_facts (show r < 200 by omega)
  have hgc2 : -2147483648 ≤ gc ∧ gc ≤ 2147483648 := ⟨by omega, hgc.2⟩
  have hO : data_Words.f (mk (lnO gx gy)) = some [kOrigin, ⟨(fixZ gx 2).toArray⟩, ⟨(fixZ gy 2).toArray⟩] := words3 hb.2.2.2.1 (by decide) fixZ_blank (fixZ_ne _ _) fixZ_blank (fixZ_ne _ _) (by omega)
  have hC : data_Words.f (mk (lnC gc)) = some [kCell, ⟨(fixZ gc 2).toArray⟩] := words2 hb.2.2.2.2.1 (by decide) fixZ_blank (fixZ_ne _ _) (by omega)
  have hZ : data_Words.f (mk (lnZ c r)) = some [kSize, ⟨(itL c).toArray⟩, ⟨(itL r).toArray⟩] := words3 hb.2.2.2.2.2 (by decide) (it_bl (by omega)) i1.2.1 (it_bl (by omega)) i2.2.1 (by omega)
  have hE : data_Words.f (mk []) = some [] := by kernel_rfl
  refine ⟨sn ++ [kOrigin] ++ [kCell] ++ [kSize], ?_, ?_⟩
  · rcases hsn with rfl | rfl <;> decide
  · show eachL (lineF (jobVF k z)) [mk (lnO gx gy), mk (lnC gc), mk (lnZ c r), mk []] i _ = _
    rcases hsn with rfl | rfl
    · rw [line_step hO (by simp) (show ¬ (kOrigin : ByteArray).data.toList.head? = some 35 by decide) (step_origin (nums1b hgx hgy hk) (show ([kMethod, kScale] : List ByteArray).length ≤ 100 by decide) (show isSeen [kMethod, kScale] kOrigin = false by decide))]
      rw [line_step hC (by simp) (show ¬ (kCell : ByteArray).data.toList.head? = some 35 by decide) (step_cell (nums1 hgc2 hk) hgc.1 (show ([kMethod, kScale, kOrigin] : List ByteArray).length ≤ 100 by decide) (show isSeen [kMethod, kScale, kOrigin] kCell = false by decide))]
      rw [line_step hZ (by simp) (show ¬ (kSize : ByteArray).data.toList.head? = some 35 by decide) (step_size (by omega) hc.1 hc.2 hrr.1 hrr.2 (show ([kMethod, kScale, kOrigin, kCell] : List ByteArray).length ≤ 100 by decide) (show isSeen [kMethod, kScale, kOrigin, kCell] kSize = false by decide))]
      simp only [eachL]
      rw [hE, Option.bind_some, if_pos (show ([] : List ByteArray).length = 0 from rfl)]
    · rw [line_step hO (by simp) (show ¬ (kOrigin : ByteArray).data.toList.head? = some 35 by decide) (step_origin (nums1b hgx hgy hk) (show ([kMethod, kScale, kLevels] : List ByteArray).length ≤ 100 by decide) (show isSeen [kMethod, kScale, kLevels] kOrigin = false by decide))]
      rw [line_step hC (by simp) (show ¬ (kCell : ByteArray).data.toList.head? = some 35 by decide) (step_cell (nums1 hgc2 hk) hgc.1 (show ([kMethod, kScale, kLevels, kOrigin] : List ByteArray).length ≤ 100 by decide) (show isSeen [kMethod, kScale, kLevels, kOrigin] kCell = false by decide))]
      rw [line_step hZ (by simp) (show ¬ (kSize : ByteArray).data.toList.head? = some 35 by decide) (step_size (by omega) hc.1 hc.2 hrr.1 hrr.2 (show ([kMethod, kScale, kLevels, kOrigin, kCell] : List ByteArray).length ≤ 100 by decide) (show isSeen [kMethod, kScale, kLevels, kOrigin, kCell] kSize = false by decide))]
      simp only [eachL]
      rw [hE, Option.bind_some, if_pos (show ([] : List ByteArray).length = 0 from rfl)]
/-! ### texts -/
theorem mk_app (a b : List UInt8) : mk a ++ mk b = mk (a ++ b) := ba_app a b
theorem mk_inj {a b : ByteArray} (h : a.data.toList = b.data.toList) : a = b := ba_ext' h
theorem mk_list (a : List UInt8) : (mk a).data.toList = a := rfl
theorem itB_it {n : Nat} (h : n < 1000) : itB (n : Int) = mk (itL n) := by unfold itB; rw [itoa_it h]; rfl
def W0 (x : ByteArray) (s : ByteArray) : ByteArray := ((((⟨#[109, 101, 116, 104, 111, 100, 32]⟩ : ByteArray) ++ x) ++ (⟨#[10, 115, 99, 97, 108, 101, 32]⟩ : ByteArray)) ++ s) ++ (⟨#[10]⟩ : ByteArray)
def WL (T : ByteArray) : ByteArray := ((⟨#[108, 101, 118, 101, 108, 115, 32]⟩ : ByteArray) ++ T) ++ (⟨#[10]⟩ : ByteArray)
def WG (X Y C N M : ByteArray) : ByteArray := ((((((((((⟨#[111, 114, 105, 103, 105, 110, 32]⟩ : ByteArray) ++ X) ++ (⟨#[32]⟩ : ByteArray)) ++ Y) ++ (⟨#[10, 99, 101, 108, 108, 32]⟩ : ByteArray)) ++ C) ++ (⟨#[10, 115, 105, 122, 101, 32]⟩ : ByteArray)) ++ N) ++ (⟨#[32]⟩ : ByteArray)) ++ M) ++ (⟨#[10]⟩ : ByteArray)
theorem W0_eq (x : ByteArray) (n : Nat) : W0 x (mk (itL n)) = mk (ends [lnM x, lnS n]) := by
  apply mk_inj
  unfold W0
  simp only [ByteArray.data_append, Array.toList_append, mk_list, ends, lnM, lnS, kMethod, kScale]
  simp
theorem WL_eq (a : List (List UInt8)) (K : Nat) (L : List Int) : mk (ends a) ++ WL (mk (jn 44 (txs K L))) = mk (ends (a ++ [lnL K L])) := by
  apply mk_inj
  unfold WL
  rw [ends_app]
  simp only [ByteArray.data_append, Array.toList_append, mk_list, ends, lnL, kLevels]
  simp
theorem WG_eq (a : List (List UInt8)) (gx gy gc : Int) (c r : Nat) : mk (ends a) ++ WG (mk (fixZ gx 2)) (mk (fixZ gy 2)) (mk (fixZ gc 2)) (mk (itL c)) (mk (itL r)) = mk (ends (a ++ linesG gx gy gc c r)) := by
  apply mk_inj
  unfold WG linesG
  rw [ends_app]
  simp only [ByteArray.data_append, Array.toList_append, mk_list, ends, lnO, lnC, lnZ, kOrigin, kCell, kSize]
  simp
theorem jnB2_list (a b : ByteArray) : (jnB [a, b]).data.toList = a.data.toList ++ 32 :: b.data.toList := by
  show Lib.join [a.data.toList, b.data.toList] [32] = _
  simp [Lib.join]
theorem jnB3_list (a b c : ByteArray) : (jnB [a, b, c]).data.toList = a.data.toList ++ 32 :: b.data.toList ++ 32 :: c.data.toList := by
  show Lib.join [a.data.toList, b.data.toList, c.data.toList] [32] = _
  simp [Lib.join]
theorem pjB_eq (x : ByteArray) (n K : Nat) (L : List Int) : pjB x (mk (itL n)) (mk (jn 44 (txs K L))) L = mk (ends (linesJ x n K L)) := by
  apply mk_inj
  have e1 : wMethod = kMethod := rfl
  have e2 : wScale = kScale := rfl
  have e3 : wLevels = kLevels := rfl
  have e4 : nlB.data.toList = [10] := rfl
  have e5 : (⟨#[]⟩ : ByteArray).data.toList = [] := rfl
  unfold pjB pjA linesJ
  rw [e1, e2, e3]
  split
  · simp only [ByteArray.data_append, Array.toList_append, jnB2_list, e4, e5, mk_list, ends, lnM, lnS, List.append_nil, List.nil_append, List.cons_append]
    simp
  · simp only [ByteArray.data_append, Array.toList_append, jnB2_list, e4, e5, mk_list, ends, lnM, lnS, lnL, List.append_nil, List.nil_append, List.cons_append]
    simp
theorem pjC_eq (a : List (List UInt8)) (X : ByteArray) (hX : X = mk (ends a)) (gx gy gc : Int) (c r : Nat) :
    ((X ++ (jnB [wOrigin, mk (fixZ gx 2), mk (fixZ gy 2)] ++ nlB)) ++ (jnB [wCell, mk (fixZ gc 2)] ++ nlB)) ++ (jnB [wSize, mk (itL c), mk (itL r)] ++ nlB) = mk (ends (a ++ linesG gx gy gc c r)) := by
  apply mk_inj
  have e1 : wOrigin = kOrigin := rfl
  have e2 : wCell = kCell := rfl
  have e3 : wSize = kSize := rfl
  have e4 : nlB.data.toList = [10] := rfl
  rw [hX, e1, e2, e3, ends_app]
  unfold linesG
  simp only [ByteArray.data_append, Array.toList_append, jnB2_list, jnB3_list, e4, mk_list, ends, lnO, lnC, lnZ]
  simp
theorem no10 {K : Nat} (hx : ∀ q ∈ x.data.toList, q ≠ (10 : UInt8)) (hn : n < 10) (hK9 : K ≤ 9) (hr : ∀ y ∈ L, -2147483648 ≤ y ∧ y ≤ 2147483648) (hl : L.length ≤ 40) : ∀ a ∈ linesJ x n K L, (10 : UInt8) ∉ a := by
  have a1 : (10 : UInt8) ∉ lnM x := fun h => by
    rcases List.mem_append.1 h with h | h
    · exact absurd h (by decide)
    · rcases List.mem_cons.1 h with h | h
      · exact absurd h (by decide)
      · exact hx _ h rfl
  have a2 : (10 : UInt8) ∉ lnS n := fun h => by
    rcases List.mem_append.1 h with h | h
    · exact absurd h (by decide)
    · rcases List.mem_cons.1 h with h | h
      · exact absurd h (by decide)
      · exact ((it_facts (show n < 200 by omega)).2.2 _ h).2.1 rfl
  intro a ha
  unfold linesJ at ha
  rcases List.mem_append.1 ha with ha | ha
  · simp only [List.mem_cons, List.not_mem_nil, or_false] at ha
    rcases ha with rfl | rfl
    · exact a1
    · exact a2
  · by_cases hL : L = []
    · rw [if_pos hL] at ha
      cases ha
    · rw [if_neg hL] at ha
      simp only [List.mem_cons, List.not_mem_nil, or_false] at ha
      subst ha
      intro h
      rcases List.mem_append.1 h with h | h
      · exact absurd h (by decide)
      · rcases List.mem_cons.1 h with h | h
        · exact absurd h (by decide)
        · exact ((jn_facts hL hK9 hr hl).1 _ h).2 rfl
theorem no10g {gx gy gc : Int} {c r : Nat} (hc : c < 129) (hr : r < 129) : ∀ a ∈ linesG gx gy gc c r, (10 : UInt8) ∉ a := by
  have it : ∀ {q : Nat}, q < 129 → (10 : UInt8) ∉ itL q := fun hq h => ((it_facts (by omega)).2.2 _ h).2.1 rfl
  intro a ha
  simp only [linesG, List.mem_cons, List.not_mem_nil, or_false] at ha
  rcases ha with rfl | rfl | rfl <;> intro h <;> simp only [lnO, lnC, lnZ, List.mem_append, List.mem_cons] at h
  · rcases h with (h | h | h) | h | h
    · exact absurd h (by decide)
    · exact absurd h (by decide)
    · exact fixZ_no2 (.inl rfl) h
    · exact absurd h (by decide)
    · exact fixZ_no2 (.inl rfl) h
  · rcases h with h | h | h
    · exact absurd h (by decide)
    · exact absurd h (by decide)
    · exact fixZ_no2 (.inl rfl) h
  · rcases h with (h | h | h) | h | h
    · exact absurd h (by decide)
    · exact absurd h (by decide)
    · exact it hc h
    · exact absurd h (by decide)
    · exact it hr h
theorem lenJ (hx : x.data.toList.length ≤ 10) (hn : n < 10) (hK9 : K ≤ 9) (hr : ∀ y ∈ L, -2147483648 ≤ y ∧ y ≤ 2147483648) (hl : L.length ≤ 40) : (ends (linesJ x n K L)).length ≤ 3000 := by
  have i1 := (it_facts (show n < 200 by omega)).1
  have k1 : kMethod.data.toList.length = 6 := rfl
  have k2 : kScale.data.toList.length = 5 := rfl
  have k3 : kLevels.data.toList.length = 6 := rfl
  unfold linesJ
  by_cases hL : L = []
  · rw [if_pos hL]
    simp only [ends, lnM, lnS, List.append_nil, List.length_append, List.length_cons, List.length_nil, k1, k2]
    omega
  · rw [if_neg hL]
    have := (jn_facts hL hK9 hr hl).2.2
    simp only [ends, lnM, lnS, lnL, List.cons_append, List.nil_append, List.length_append, List.length_cons, List.length_nil, k1, k2, k3]
    omega
theorem lenG {gx gy gc : Int} {c r : Nat} (hgx : -2147483648 ≤ gx ∧ gx ≤ 2147483648) (hgy : -2147483648 ≤ gy ∧ gy ≤ 2147483648) (hgc : 1 ≤ gc ∧ gc ≤ 2147483648) (hc : c < 129) (hr : r < 129) : (ends (linesG gx gy gc c r)).length ≤ 1000 := by
  have l1 := fx_len (K := 2) hgx (by decide)
  have l2 := fx_len (K := 2) hgy (by decide)
  have l3 := fx_len (K := 2) (n := gc) ⟨by omega, hgc.2⟩ (by decide)
  have i1 := (it_facts (show c < 200 by omega)).1
  have i2 := (it_facts (show r < 200 by omega)).1
  have k1 : kOrigin.data.toList.length = 6 := rfl
  have k2 : kCell.data.toList.length = 4 := rfl
  have k3 : kSize.data.toList.length = 4 := rfl
  simp only [ends, linesG, lnO, lnC, lnZ, List.length_append, List.length_cons, List.length_nil, k1, k2, k3]
  omega
/-- The text without a grid is read. -/
theorem reads0 (hk : 63000 ≤ k) (h0 : 0 ≤ m) (h2 : m ≤ 2) (hx : mths[m.toNat]? = some x) (hn : n < 10) (hK : mn (mx z 0) 9 = (K : Int)) (hK9 : K ≤ 9) (hi : L.Pairwise (· < ·)) (hr : ∀ y ∈ L, -2147483648 ≤ y ∧ y ≤ 2147483648) (hl : L.length ≤ 40) :
    ∃ sn, (∀ y ∈ partKeys, isSeen sn y = false) ∧ data_each.f (lineF (jobVF k z)) (mk (ends (linesJ x n K L))) rs0 = some (⟨m, n, L, 0, 0, 0, 0, 0, sn⟩, 0, 0) := by
  have hxw := meth_word h0 h2 hx
  have hlen := lenJ (x := x) hxw.2.2 hn hK9 hr hl
  have hsz : (mk (ends (linesJ x n K L))).size = (ends (linesJ x n K L)).length := rfl
  obtain ⟨j, sn, hsn, hp⟩ := part1 hk h0 h2 hx hn hK hK9 hi hr hl
  have hE : data_Words.f (mk []) = some [] := by kernel_rfl
  refine ⟨sn, by rcases hsn with rfl | rfl <;> decide, ?_⟩
  unfold data_each.f
  rw [if_neg (by omega), linesOf_cut, mk_list, cutL_ends2 _ (no10 (fun q hq => (hxw.1 q hq).2) hn hK9 hr hl), List.map_append]
  refine (hp [mk []]).trans ?_
  simp only [eachL]
  rw [hE, Option.bind_some, if_pos (show ([] : List ByteArray).length = 0 from rfl)]
theorem readsG (hk : 63000 ≤ k) (h0 : 0 ≤ m) (h2 : m ≤ 2) (hx : mths[m.toNat]? = some x) (hn : n < 10) (hK : mn (mx z 0) 9 = (K : Int)) (hK9 : K ≤ 9) (hi : L.Pairwise (· < ·)) (hr : ∀ y ∈ L, -2147483648 ≤ y ∧ y ≤ 2147483648) (hl : L.length ≤ 40)
    {gx gy gc : Int} {c r : Nat} (hgx : -2147483648 ≤ gx ∧ gx ≤ 2147483648) (hgy : -2147483648 ≤ gy ∧ gy ≤ 2147483648) (hgc : 1 ≤ gc ∧ gc ≤ 2147483648) (hc : 0 < c ∧ c < 129) (hrr : 0 < r ∧ r < 129) :
    ∃ sn, (∀ y ∈ partKeys, isSeen sn y = true) ∧ data_each.f (lineF (jobVF k z)) (mk (ends (linesJ x n K L ++ linesG gx gy gc c r))) rs0 = some (⟨m, n, L, gx, gy, gc, c, r, sn⟩, 0, 0) := by
  have hxw := meth_word h0 h2 hx
  have hlen := lenJ (x := x) hxw.2.2 hn hK9 hr hl
  have hlenG := lenG hgx hgy hgc hc.2 hrr.2
  have hsz : (mk (ends (linesJ x n K L ++ linesG gx gy gc c r))).size = (ends (linesJ x n K L)).length + (ends (linesG gx gy gc c r)).length := by
    show (ends _).length = _
    rw [ends_app, List.length_append]
  obtain ⟨j, sn, hsn, hp⟩ := part1 hk h0 h2 hx hn hK hK9 hi hr hl
  obtain ⟨sn', hs', hq⟩ := part2 (m := m) (s := (n : Int)) (L := L) hk hgx hgy hgc hc hrr j hsn (z := z)
  refine ⟨sn', hs', ?_⟩
  unfold data_each.f
  rw [if_neg (by omega), linesOf_cut, mk_list, cutL_ends2 _ (fun a ha => (List.mem_append.1 ha).elim (no10 (fun q hq => (hxw.1 q hq).2) hn hK9 hr hl a) (no10g hc.2 hrr.2 a)), List.append_assoc, List.map_append]
  exact (hp _).trans hq
end
end Go.Proofs.YtknekneicecgiaaGreatDoor.Lv
namespace Go.Proofs.YtknekneicecgiaaGreatDoor.Lv
open Go.RowKit Go.Proofs.YtknekneicecgiaaGreatDoorW.PrintWords Go.Proofs.YtknekneicecgiaaGreatDoorW.PrintMore Go.Proofs.YtknekneicecgiaaGreatDoor.MB Go.Proofs.YtknekneicecgiaaGreatDoor.M Go.Proofs.YtknekneicecgiaaGreatDoor.Mg
/-! ### the law's levels -/
def lvs : Nat → List Int → List Int
  | _, [] => []
  | i, n :: r => ((i : Int) * 1000 + Go.bits .and .i64 n 511) :: lvs (i + 1) r
theorem lvs_len : ∀ (V : List Int) (i : Nat), (lvs i V).length = V.length
  | [], _ => rfl
  | _ :: r, i => by simp [lvs, lvs_len r]
theorem lvs_get : ∀ (V : List Int) (i j : Nat) (h : j < V.length), (lvs i V)[j]? = some (((i + j : Nat) : Int) * 1000 + Go.bits .and .i64 V[j] 511)
  | [], _, _, h => by simp at h
  | n :: r, i, 0, h => by simp [lvs]
  | n :: r, i, j + 1, h => by
    have ih := lvs_get r (i + 1) j (by simpa using h)
    simp only [lvs, List.getElem?_cons_succ, ih, List.getElem_cons_succ]
    rw [show i + 1 + j = i + (j + 1) by omega]
theorem lvs_ok (hand : ∀ n, 0 ≤ Go.bits .and .i64 n 511 ∧ Go.bits .and .i64 n 511 ≤ 511) : ∀ (V : List Int) (i : Nat), (lvs i V).Pairwise (· < ·) ∧ ∀ y ∈ lvs i V, (i : Int) * 1000 ≤ y ∧ y ≤ ((i + V.length : Nat) : Int) * 1000
  | [], i => ⟨List.Pairwise.nil, fun y hy => by simp [lvs] at hy⟩
  | n :: r, i => by
    obtain ⟨h1, h2⟩ := lvs_ok hand r (i + 1)
    have h3 := hand n
    refine ⟨List.Pairwise.cons (fun y hy => ?_) h1, fun y hy => ?_⟩
    · have := h2 y hy
      omega
    · have hl : (n :: r).length = r.length + 1 := rfl
      rcases List.mem_cons.1 hy with rfl | hy
      · omega
      · have := h2 y hy
        omega
theorem tx_next0 {K : Nat} {xs : List Int} (h : 0 < xs.length) : mk (jn 44 (txs K (xs.take 1))) = mk (jn 44 (txs K (xs.take 0))) ++ mk (fixZ (xs[0]'h) K) := by
  cases xs with
  | nil => simp at h
  | cons y r => rw [mk_app]; rfl
theorem tx_next {K i : Nat} {xs : List Int} (h : i < xs.length) (h0 : 0 < i) : mk (jn 44 (txs K (xs.take (i + 1)))) = (mk (jn 44 (txs K (xs.take i))) ++ (⟨#[44]⟩ : ByteArray)) ++ mk (fixZ (xs[i]'h) K) := by
  have h44 : (⟨#[44]⟩ : ByteArray) = mk [44] := rfl
  have hne : txs K (xs.take i) ≠ [] := fun e => by
    have := congrArg List.length e
    rw [txs_len, List.length_take] at this
    have h2 : ([] : List (List UInt8)).length = 0 := rfl
    omega
  rw [h44, mk_app, mk_app, ← Go.Proofs.YtknekneicecgiaaGreatDoor.Lv.take_snoc xs i h]
  have e : txs K (xs.take i ++ [xs[i]]) = txs K (xs.take i) ++ [fixZ xs[i] K] := by unfold txs; rw [List.map_append]; rfl
  rw [e, jn_snoc 44 _ _ hne, List.append_assoc]
  rfl
end Go.Proofs.YtknekneicecgiaaGreatDoor.Lv
namespace Go.Proofs.YtknekneicecgiaaGreatDoor.Lv
open Go.RowKit Go.Proofs.YtknekneicecgiaaGreatDoorW.PrintWords Go.Proofs.YtknekneicecgiaaGreatDoorW.PrintMore Go.Proofs.YtknekneicecgiaaGreatDoor.MB Go.Proofs.YtknekneicecgiaaGreatDoor.M Go.Proofs.YtknekneicecgiaaGreatDoor.Mg
set_option linter.unusedVariables false
set_option linter.unusedSimpArgs false
theorem w_in {a : Int} (h0 : -9000000000000000000 ≤ a) (h1 : a ≤ 9000000000000000000) : wrap64 a = a := by unfold wrap64; omega
theorem far_f {a : Int} (h0 : -2147483648 ≤ a) (h1 : a ≤ 2147483648) : grid_far.f a = some false := by
  unfold grid_far.f
  rw [if_neg (by omega), decide_eq_false (by omega)]
theorem last_f {a c : Int} {n : Nat} (h0 : -70000 ≤ a) (h1 : a ≤ 70000) (hc : 1 ≤ c) (hc2 : c ≤ 256) (hn : 0 < n) (hn2 : n < 129) : grid_last.f a c n = some true := by
  unfold grid_last.f
  rw [far_f (by omega) (by omega), Option.bind_some, if_neg (by decide)]
  by_cases h : (n : Int) = 1
  · rw [if_pos h]
  · obtain ⟨q, rfl⟩ : ∃ q : Nat, c = (q : Int) := ⟨c.toNat, by omega⟩
    have hm : (n - 1) * q ≤ 128 * 256 := Nat.mul_le_mul (by omega) (by omega)
    have e1 : wrap64 ((n : Int) - 1) = ((n - 1 : Nat) : Int) := by rw [w_in (by omega) (by omega)]; omega
    have e2 : ((n - 1 : Nat) : Int) * (q : Int) = (((n - 1) * q : Nat) : Int) := by rw [Int.natCast_mul]
    rw [if_neg h, if_pos (by omega), e1, e2]
    generalize (n - 1) * q = p at hm
    rw [w_in (a := (p : Int)) (by omega) (by omega), w_in (by omega) (by omega), far_f (by omega) (by omega)]
    rfl
theorem check_f {gx gy gc : Int} {c r : Nat} (hx : 0 ≤ gx ∧ gx ≤ 65535) (hy : -65535 ≤ gy ∧ gy ≤ 0) (hg : 1 ≤ gc ∧ gc ≤ 256) (hc : 0 < c ∧ c < 129) (hr : 0 < r ∧ r < 129) : grid_Grid_Check.f 10 gx gy gc c r = some 0 := by
  have hm : c * r ≤ 128 * 128 := Nat.mul_le_mul (by omega) (by omega)
  have e2 : (c : Int) * (r : Int) = ((c * r : Nat) : Int) := by rw [Int.natCast_mul]
  unfold grid_Grid_Check.f
  rw [if_neg (by omega), if_neg (by omega), decide_eq_false (by omega)]
  simp only [grid_Grid_Check.j0]
  rw [if_neg (by decide), if_neg (by omega), if_neg (by omega), e2, w_in (by omega) (by omega), decide_eq_false (by omega)]
  simp only [grid_Grid_Check.j1]
  rw [if_neg (by decide), last_f (by omega) (by omega) hg.1 hg.2 hc.1 hc.2, Option.bind_some, if_pos rfl, last_f (by omega) (by omega) hg.1 hg.2 hr.1 hr.2, Option.bind_some, if_pos rfl]
def JobOk (z : Int) (K : Nat) (m : Int) (x : ByteArray) (n : Nat) (xs : List Int) (gx gy gc gn gm : Int) (T : ByteArray) : Prop :=
  (∃ sn b, (∀ y ∈ partKeys, isSeen sn y = b) ∧ (b = true → grid_Grid_Check.f 10 gx gy gc gn gm = some 0) ∧ data_each.f (lineF (jobVF 63000 z)) T rs0 = some (⟨m, n, xs, gx, gy, gc, gn, gm, sn⟩, 0, 0)) ∧
  pjC x (itB (n : Int)) (mk (jn 44 (txs K xs))) (mk (fixZ gx 2)) (mk (fixZ gy 2)) (mk (fixZ gc 2)) (itB gn) (itB gm) xs gc = T ∧
  (gc ≠ 0 → deci_Text.f 63000 gx 2 = some (mk (fixZ gx 2)) ∧ deci_Text.f 63000 gy 2 = some (mk (fixZ gy 2)) ∧ deci_Text.f 63000 gc 2 = some (mk (fixZ gc 2)) ∧ (0 ≤ gn ∧ gn ≤ 1000000) ∧ (0 ≤ gm ∧ gm ≤ 1000000)) ∧
  ((mk (fixZ gx 2)).size ≤ 10000 ∧ (mk (fixZ gy 2)).size ≤ 10000 ∧ (mk (fixZ gc 2)).size ≤ 10000 ∧ (itB gn).size ≤ 10000 ∧ (itB gm).size ≤ 10000)
section
variable {z m : Int} {x : ByteArray} {n K : Nat} {L : List Int}
theorem it_size {c : Nat} (h : c < 200) : (itB (c : Int)).size ≤ 10000 := by
  rw [itB_it (by omega)]
  have := (it_facts h).1
  show (itL c).length ≤ 10000
  omega
theorem fx_size {a : Int} (h : -2147483648 ≤ a ∧ a ≤ 2147483648) : (mk (fixZ a 2)).size ≤ 10000 := by
  have := fx_len (K := 2) h (by decide)
  show (fixZ a 2).length ≤ 10000
  omega
theorem text2 {a : Int} (h : -2147483648 ≤ a ∧ a ≤ 2147483648) : deci_Text.f 63000 a 2 = some (mk (fixZ a 2)) := Text_f (by omega) (by omega) (by decide) (by decide) (by decide)
theorem jobOk0 (h0 : 0 ≤ m) (h2 : m ≤ 2) (hx : mths[m.toNat]? = some x) (hn : n < 10) (hK : mn (mx z 0) 9 = (K : Int)) (hK9 : K ≤ 9) (hi : L.Pairwise (· < ·)) (hr : ∀ y ∈ L, -2147483648 ≤ y ∧ y ≤ 2147483648) (hl : L.length ≤ 40) : JobOk z K m x n L 0 0 0 0 0 (mk (ends (linesJ x n K L))) := by
  obtain ⟨sn, hs, hd⟩ := reads0 (k := 63000) (Nat.le_refl _) h0 h2 hx hn hK hK9 hi hr hl
  refine ⟨⟨sn, false, hs, (fun h => by cases h), hd⟩, ?_, fun h => absurd rfl h, fx_size (by decide), fx_size (by decide), fx_size (by decide), it_size (c := 0) (by decide), it_size (c := 0) (by decide)⟩
  unfold pjC
  rw [if_pos rfl, itB_it (by omega), pjB_eq]
theorem jobOkG (h0 : 0 ≤ m) (h2 : m ≤ 2) (hx : mths[m.toNat]? = some x) (hn : n < 10) (hK : mn (mx z 0) 9 = (K : Int)) (hK9 : K ≤ 9) (hi : L.Pairwise (· < ·)) (hr : ∀ y ∈ L, -2147483648 ≤ y ∧ y ≤ 2147483648) (hl : L.length ≤ 40)
    {gx gy gc : Int} {c r : Nat} (hgx : 0 ≤ gx ∧ gx ≤ 65535) (hgy : -65535 ≤ gy ∧ gy ≤ 0) (hgc : 1 ≤ gc ∧ gc ≤ 256) (hc : 0 < c ∧ c < 129) (hrr : 0 < r ∧ r < 129) :
    JobOk z K m x n L gx gy gc c r (mk (ends (linesJ x n K L)) ++ WG (mk (fixZ gx 2)) (mk (fixZ gy 2)) (mk (fixZ gc 2)) (itB c) (itB r)) := by
  have a1 : -2147483648 ≤ gx ∧ gx ≤ 2147483648 := by omega
  have a2 : -2147483648 ≤ gy ∧ gy ≤ 2147483648 := by omega
  have a3 : -2147483648 ≤ gc ∧ gc ≤ 2147483648 := by omega
  have a4 : 1 ≤ gc ∧ gc ≤ 2147483648 := by omega
  obtain ⟨sn, hs, hd⟩ := readsG (k := 63000) (Nat.le_refl _) h0 h2 hx hn hK hK9 hi hr hl a1 a2 a4 hc hrr
  have hW : mk (ends (linesJ x n K L)) ++ WG (mk (fixZ gx 2)) (mk (fixZ gy 2)) (mk (fixZ gc 2)) (itB c) (itB r) = mk (ends (linesJ x n K L ++ linesG gx gy gc c r)) := by
    rw [itB_it (n := c) (by omega), itB_it (n := r) (by omega), WG_eq]
  rw [hW]
  refine ⟨⟨sn, true, hs, fun _ => check_f hgx hgy hgc hc hrr, hd⟩, ?_, fun _ => ⟨text2 a1, text2 a2, text2 a3, by omega, by omega⟩, fx_size a1, fx_size a2, fx_size a3, it_size (by omega), it_size (by omega)⟩
  unfold pjC
  rw [if_neg (by omega), itB_it (n := n) (by omega), itB_it (n := c) (by omega), itB_it (n := r) (by omega), pjB_eq, pjC_eq _ _ rfl]
end
end Go.Proofs.YtknekneicecgiaaGreatDoor.Lv
