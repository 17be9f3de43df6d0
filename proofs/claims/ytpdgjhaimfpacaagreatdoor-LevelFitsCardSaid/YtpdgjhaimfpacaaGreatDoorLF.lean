/- LevelFits answers true: levels by a step are all its multiples, from a base on, between the least and the greatest height, as many as may be. -/
import Derived.Test.YtpdgjhaimfpacaaGreatDoorLT
import Derived.Test.YtpdgjhaimfpacaaGreatDoorLI
import Derived.Test.YtpdgjhaimfpacaaGreatDoorE11
import Derived.Test.YtpdgjhaimfpacaaGreatDoorKFits
import Derived.OpenShut
namespace Go.Proofs.YtpdgjhaimfpacaaGreatDoor.Mg
open Go.RowKit Go.Proofs.YtpdgjhaimfpacaaGreatDoorW.PrintWords Go.Proofs.YtpdgjhaimfpacaaGreatDoorW.PrintMore Go.Proofs.YtpdgjhaimfpacaaGreatDoor.MB Go.Proofs.YtpdgjhaimfpacaaGreatDoor.M
set_option linter.unusedVariables false
set_option linter.unusedSimpArgs false

theorem mn_min (a b : Int) : mn a b = min a b := by unfold mn; rw [Int.min_def]; split <;> split <;> omega
theorem mx_max (a b : Int) : mx a b = max a b := by unfold mx; rw [Int.max_def]; split <;> split <;> omega
theorem fold_min (a : Int) : ∀ (ys : List Int) (h : Int), a ≤ h → (∀ y ∈ ys, a ≤ y) → a ≤ ys.foldl min h ∧ ys.foldl min h ≤ h
  | [], h, h0, _ => ⟨h0, Int.le_refl _⟩
  | y :: ys, h, h0, hy => by
    have h1 := hy y List.mem_cons_self
    obtain ⟨i1, i2⟩ := fold_min a ys (min h y) (by omega) (fun z hz => hy z (List.mem_cons_of_mem _ hz))
    rw [List.foldl_cons]
    omega
theorem fold_max (b : Int) : ∀ (ys : List Int) (h : Int), h ≤ b → (∀ y ∈ ys, y ≤ b) → h ≤ ys.foldl max h ∧ ys.foldl max h ≤ b
  | [], h, h0, _ => ⟨Int.le_refl _, h0⟩
  | y :: ys, h, h0, hy => by
    have h1 := hy y List.mem_cons_self
    obtain ⟨i1, i2⟩ := fold_max b ys (max h y) (by omega) (fun z hz => hy z (List.mem_cons_of_mem _ hz))
    rw [List.foldl_cons]
    omega
theorem div_unique {a S q r : Int} (hS : 0 < S) (h : S * q + r = a) (h0 : 0 ≤ r) (h1 : r < S) : a / S = q := by
  have := (Int.ediv_emod_unique (a := a) (b := S) (q := q) (r := r) hS).2 ⟨by omega, h0, h1⟩
  exact this.1
theorem tq (b : Int) {S : Int} (hS : 0 < S) : ∃ q r, b = S * q + r ∧ -S < r ∧ r < S ∧ Int.tmod b S = r ∧ Int.tdiv b S = q ∧ (0 ≤ b → 0 ≤ r) ∧ (q.natAbs ≤ b.natAbs) := by
  have key : ∀ c : Int, 0 ≤ c → S * (c / S) + c % S = c ∧ 0 ≤ c % S ∧ c % S < S ∧ 0 ≤ c / S ∧ c / S ≤ c := fun c hc =>
    ⟨Int.mul_ediv_add_emod c S, Int.emod_nonneg c (by omega), Int.emod_lt_of_pos c hS, Int.ediv_nonneg hc (by omega), Int.ediv_le_self S hc⟩
  by_cases h : 0 ≤ b
  · obtain ⟨k1, k2, k3, k4, k5⟩ := key b h
    refine ⟨b / S, b % S, by omega, by omega, k3, Int.tmod_eq_emod_of_nonneg h, Int.tdiv_eq_ediv_of_nonneg h, fun _ => k2, by omega⟩
  · obtain ⟨c, rfl⟩ : ∃ c, b = -c := ⟨-b, by omega⟩
    obtain ⟨k1, k2, k3, k4, k5⟩ := key c (by omega)
    refine ⟨-(c / S), -(c % S), by rw [Int.mul_neg]; omega, by omega, by omega, by rw [Int.neg_tmod, Int.tmod_eq_emod_of_nonneg (by omega)], by rw [Int.neg_tdiv, Int.tdiv_eq_ediv_of_nonneg (by omega)], fun h2 => absurd h2 h, by omega⟩
theorem floor_f {a S : Int} (hS : 0 < S) (h0 : -4611686018427387904 ≤ a) (h1 : a ≤ 4611686018427387904) : level_floor.f a S = some (a / S) := by
  obtain ⟨q, r, e, r0, r1, et, ed, _, hq⟩ := tq a hS
  unfold level_floor.f
  rw [if_neg (by omega), et, ed, w64 (x := q) (by omega) (by omega)]
  by_cases hr : r < 0
  · rw [if_pos hr, w64 (by omega) (by omega), div_unique (q := q - 1) (r := r + S) hS (by rw [Int.mul_sub, Int.mul_one]; omega) (by omega) (by omega)]
  · rw [if_neg hr, div_unique (q := q) (r := r) hS e.symm (by omega) r1]
theorem Fit_l0 {S high : Int} (hS : 0 < S) (hS2 : S ≤ 268435456) (hh : high ≤ 4294967296) : ∀ (d : Nat) (n : Int) (acc : List Int) (k : Nat), acc.length + d = 200 → -4294967296 ≤ n → d + 1 ≤ k →
    ∃ m : Nat, m ≤ d ∧ (∀ i : Nat, i < m → n + i * S ≤ high) ∧ (m = d ∨ high < n + m * S) ∧ level_Fit.l0 k S high n acc = some (acc ++ ap n S m)
  | 0, n, acc, k, ha, hn, hk => by
    obtain ⟨k, rfl⟩ : ∃ j, k = j + 1 := ⟨k - 1, by omega⟩
    refine ⟨0, Nat.le_refl _, fun i hi => by omega, .inl rfl, ?_⟩
    simp only [level_Fit.l0]
    rw [show acc ++ ap n S 0 = acc from List.append_nil acc]
    by_cases h : n ≤ high
    · rw [if_pos h, if_neg (by omega)]
    · rw [if_neg h]
  | d + 1, n, acc, k, ha, hn, hk => by
    obtain ⟨k, rfl⟩ : ∃ j, k = j + 1 := ⟨k - 1, by omega⟩
    by_cases h : n ≤ high
    · obtain ⟨m, h1, h2, h3, h4⟩ := Fit_l0 hS hS2 hh d (n + S) (acc ++ [n]) k (by rw [List.length_append, List.length_singleton]; omega) (by omega) (by omega)
      have hs : ∀ i : Nat, n + ((i + 1 : Nat) : Int) * S = n + S + i * S := fun i => by rw [Int.natCast_succ, Int.add_mul, Int.one_mul]; omega
      refine ⟨m + 1, by omega, fun i hi => ?_, ?_, ?_⟩
      · cases i with
        | zero => simpa using h
        | succ i => rw [hs]; exact h2 i (by omega)
      · rcases h3 with h3 | h3
        · exact .inl (by omega)
        · exact .inr (by rw [hs]; exact h3)
      · simp only [level_Fit.l0]
        rw [if_pos h, if_pos (by omega), if_pos (by omega), w64 (by omega) (by omega), h4, List.append_assoc]
        rfl
    · refine ⟨0, by omega, fun i hi => by omega, .inr (by simp; omega), ?_⟩
      simp only [level_Fit.l0]
      rw [if_neg h, show acc ++ ap n S 0 = acc from List.append_nil acc]
/-- What is told by a step. -/
theorem Fit_f {ys : List Int} {S Bs : Int} {k : Nat} (h0 : ys ≠ []) (hl : ys.length ≤ 30) (hy : ∀ y ∈ ys, -2147483648 ≤ y ∧ y ≤ 2147483648) (hS : 0 < S) (hS2 : S ≤ 268435456) (hb0 : 0 ≤ Bs) (hb1 : Bs < S) (hk : 300 ≤ k) :
    ∃ (q : Int) (m : Nat), Lib.minOf ys ≤ Bs + q * S ∧ Bs + q * S < Lib.minOf ys + S ∧ m ≤ 200 ∧ (∀ i : Nat, i < m → Bs + q * S + i * S ≤ Lib.maxOf ys) ∧ (m = 200 ∨ Lib.maxOf ys < Bs + q * S + m * S) ∧
      level_Fit.f k ys S Bs = some (ap (Bs + q * S) S m) ∧ -2147483648 ≤ Lib.minOf ys ∧ Lib.minOf ys ≤ Lib.maxOf ys ∧ Lib.maxOf ys ≤ 2147483648 := by
  have hln : 0 < ys.length := List.length_pos_iff.2 h0
  obtain ⟨y0, t, rfl⟩ : ∃ y0 t, ys = y0 :: t := by
    cases ys with
    | nil => exact absurd rfl h0
    | cons y0 t => exact ⟨y0, t, rfl⟩
  have hy0 := hy y0 List.mem_cons_self
  obtain ⟨m1, m2⟩ := fold_min (-2147483648) (y0 :: t) y0 hy0.1 (fun y h => (hy y h).1)
  obtain ⟨m3, m4⟩ := fold_max 2147483648 (y0 :: t) y0 hy0.2 (fun y h => (hy y h).2)
  have hmin : slices_Min.f (y0 :: t) = some (Lib.minOf (y0 :: t)) := by unfold slices_Min.f; rw [if_pos ⟨hln, by omega⟩]
  have hmax : slices_Max.f (y0 :: t) = some (Lib.maxOf (y0 :: t)) := by unfold slices_Max.f; rw [if_pos ⟨hln, by omega⟩]
  have e1 : Lib.minOf (y0 :: t) = (y0 :: t).foldl min y0 := rfl
  have e2 : Lib.maxOf (y0 :: t) = (y0 :: t).foldl max y0 := rfl
  rw [← e1] at m1 m2
  rw [← e2] at m3 m4
  generalize Lib.minOf (y0 :: t) = low at *
  generalize Lib.maxOf (y0 :: t) = high at *
  have hd1 := Int.mul_ediv_add_emod (low - Bs + S - 1) S
  have hd2 := Int.emod_nonneg (low - Bs + S - 1) (show S ≠ 0 by omega)
  have hd3 := Int.emod_lt_of_pos (low - Bs + S - 1) hS
  have hfl := floor_f (a := low - Bs + S - 1) hS (by omega) (by omega)
  generalize (low - Bs + S - 1) % S = r at *
  generalize (low - Bs + S - 1) / S = q at *
  have hc : q * S = S * q := Int.mul_comm _ _
  obtain ⟨m, f1, f2, f3, f4⟩ := Fit_l0 (high := high) hS hS2 (by omega) 200 (Bs + q * S) [] k rfl (by omega) (by omega)
  refine ⟨q, m, by omega, by omega, f1, f2, f3, ?_, by omega, by omega, by omega⟩
  unfold level_Fit.f
  rw [if_neg (by omega), hmin, Option.bind_some, hmax, Option.bind_some, w64 (x := low - Bs) (by omega) (by omega), w64 (x := low - Bs + S) (by omega) (by omega), w64 (x := low - Bs + S - 1) (by omega) (by omega), hfl, Option.bind_some, w64 (x := q * S) (by omega) (by omega), w64 (by omega) (by omega), f4]
  rfl
theorem small_mul {S u : Int} (hS : 0 < S) (h0 : 0 ≤ S * u) (h1 : S * u < 2 * S) : u = 0 ∨ u = 1 := by
  by_cases a : u ≤ -1
  · have := Int.mul_le_mul_of_nonneg_left a (show 0 ≤ S by omega)
    omega
  · by_cases b : 2 ≤ u
    · have := Int.mul_le_mul_of_nonneg_left b (show 0 ≤ S by omega)
      omega
    · omega
theorem rd_ap {n S : Int} {m i : Nat} (h : i < m) : rd (ap n S m) (i : Int) = n + i * S := by
  show (ap n S m).getD (i : Int).toNat 0 = _
  rw [Int.toNat_natCast]
  exact ap_get S m n i h
theorem wm1 {i : Nat} (h0 : 0 < i) (h : i ≤ 100000) : wrap64 ((i : Int) - 1) = ((i - 1 : Nat) : Int) := by
  rw [w64 (by omega) (by omega)]
  omega
/-- What is told is looked through. -/
theorem Fits_l2 {S Bs q low high : Int} {m : Nat} (hS : 0 < S) (hS2 : S ≤ 268435456) (hb0 : 0 ≤ Bs) (hb1 : Bs < S) (h1 : low ≤ Bs + q * S) (h2 : Bs + q * S < low + S) (hm : m ≤ 200) (h3 : ∀ i : Nat, i < m → Bs + q * S + i * S ≤ high) (h4 : m = 200 ∨ high < Bs + q * S + m * S)
    (l0 : -2147483648 ≤ low) (l1 : low ≤ high) (l2 : high ≤ 2147483648) : ∀ (d i k : Nat), i + d = m → d + 1 ≤ k →
    isohyetlaw18_LevelFits.l2 k S Bs (ap (Bs + q * S) S m) low high (ap (Bs + q * S) S m) (m : Int) (i : Int) = some true := by
  have hnn : ∀ i : Nat, 0 ≤ (i : Int) * S := fun i => Int.mul_nonneg (by omega) (by omega)
  intro d
  induction d with
  | zero =>
    intro i k hi hk
    obtain ⟨k, rfl⟩ : ∃ j, k = j + 1 := ⟨k - 1, by omega⟩
    obtain rfl : i = m := by omega
    have hal := ap_len S i (Bs + q * S)
    simp only [isohyetlaw18_LevelFits.l2]
    rw [if_neg (by omega), hal]
    by_cases hm0 : i = 0
    · subst hm0
      have h4 : high < Bs + q * S := by
        rcases h4 with h4 | h4
        · omega
        · simpa using h4
      obtain ⟨q0, r, e, r0, r1, et, _, _, _⟩ := tq (low - Bs) hS
      have hd1 := Int.mul_ediv_add_emod (r + S) S
      have hd2 := Int.emod_nonneg (r + S) (show S ≠ 0 by omega)
      have hd3 := Int.emod_lt_of_pos (r + S) hS
      rw [if_pos (by omega), if_neg (by omega), w64 (x := low - Bs) (by omega) (by omega), et, w64 (x := r + S) (by omega) (by omega), Int.tmod_eq_emod_of_nonneg (show 0 ≤ r + S by omega)]
      generalize (r + S) % S = e' at *
      generalize (r + S) / S = j at *
      have hu : S * (q - (q0 - 1 + j)) = q * S - (low - Bs - e') := by
        rw [Int.mul_sub, Int.mul_add, Int.mul_sub, Int.mul_one, Int.mul_comm S q]
        omega
      have hsm := small_mul hS (u := q - (q0 - 1 + j)) (by omega) (by omega)
      have hSu : S * (q - (q0 - 1 + j)) = 0 ∨ S * (q - (q0 - 1 + j)) = S := by
        rcases hsm with h | h
        · left; rw [h, Int.mul_zero]
        · right; rw [h, Int.mul_one]
      rw [w64 (x := low - e') (by omega) (by omega), if_pos (by omega), w64 (by omega) (by omega), decide_eq_true (by omega)]
    · rw [if_neg (by omega)]
      by_cases h200 : i = 200
      · rw [if_pos (by omega)]
      · have hlast : Bs + q * S + ((i - 1 : Nat) : Int) * S + S = Bs + q * S + (i : Int) * S := by
          have : (i : Int) = ((i - 1 : Nat) : Int) + 1 := by omega
          rw [this, Int.add_mul, Int.one_mul]
          omega
        have hl3 := h3 (i - 1) (by omega)
        have hnn1 := hnn (i - 1)
        rw [if_neg (by omega), if_pos (by omega), wm1 (by omega) (by omega), if_pos (by omega), if_pos (by omega), rd_ap (by omega), w64 (by omega) (by omega), decide_eq_true (by omega)]
  | succ d ih =>
    intro i k hi hk
    obtain ⟨k, rfl⟩ : ∃ j, k = j + 1 := ⟨k - 1, by omega⟩
    have ih := ih (i + 1) k (by omega) (by omega)
    have hal := ap_len S m (Bs + q * S)
    have hl3 := h3 i (by omega)
    have hnn1 := hnn i
    have hmod : Int.tmod (Bs + q * S + (i : Int) * S - Bs) S = 0 := by
      rw [show Bs + q * S + (i : Int) * S - Bs = (q + i) * S from by rw [Int.add_mul]; omega]
      exact Int.mul_tmod_left _ _
    simp only [isohyetlaw18_LevelFits.l2]
    rw [if_pos (by omega), if_pos (by omega), hal, if_pos (by omega), rd_ap (by omega), if_neg (by omega), if_neg (by omega), if_neg (by omega), w64 (x := Bs + q * S + (i : Int) * S - Bs) (by omega) (by omega), if_pos hmod]
    by_cases h0 : i = 0
    · subst h0
      rw [if_neg (by omega), if_pos (by omega), w64 (by omega) (by omega), if_neg (by simp; omega), wi1 (by omega)]
      exact ih
    · have hprev : Bs + q * S + ((i - 1 : Nat) : Int) * S + S = Bs + q * S + (i : Int) * S := by
        have : (i : Int) = ((i - 1 : Nat) : Int) + 1 := by omega
        rw [this, Int.add_mul, Int.one_mul]
        omega
      have hnn2 := hnn (i - 1)
      rw [if_pos (by omega), wm1 (by omega) (by omega), if_pos (by omega), if_pos (by omega), rd_ap (by omega), hprev, w64 (by omega) (by omega), if_pos rfl, if_neg (by omega), wi1 (by omega)]
      exact ih
theorem foldl_take {f : Int → Int → Int} (ys : List Int) (h : Int) (i : Nat) (hi : i < ys.length) : f ((ys.take i).foldl f h) ys[i] = (ys.take (i + 1)).foldl f h := by
  rw [← take_snoc ys i hi, List.foldl_append]
  rfl
theorem Fits_l1 {S Bs h : Int} {X ys : List Int} {R : Option Bool} (hl : ys.length ≤ 30) : ∀ (d i k : Nat), i + d = ys.length → d + 502 ≤ k →
    (∀ k, 501 ≤ k → isohyetlaw18_LevelFits.l2 k S Bs X (ys.foldl min h) (ys.foldl max h) X (X.length : Int) 0 = R) →
    isohyetlaw18_LevelFits.l1 k S Bs X ((ys.take i).foldl min h) ((ys.take i).foldl max h) ys (ys.length : Int) (i : Int) = R
  | 0, i, k, hi, hk, hR => by
    obtain ⟨k, rfl⟩ : ∃ j, k = j + 1 := ⟨k - 1, by omega⟩
    simp only [isohyetlaw18_LevelFits.l1]
    rw [if_neg (by omega), List.take_of_length_le (by omega)]
    exact hR k (by omega)
  | d + 1, i, k, hi, hk, hR => by
    obtain ⟨k, rfl⟩ : ∃ j, k = j + 1 := ⟨k - 1, by omega⟩
    have ih := Fits_l1 (S := S) (Bs := Bs) (h := h) (X := X) hl d (i + 1) k (by omega) (by omega) hR
    have hlt : i < ys.length := by omega
    have hrd : rd ys (i : Int) = ys[i] := by
      show ys.getD (i : Int).toNat 0 = _
      rw [Int.toNat_natCast]
      simp [List.getD, hlt]
    simp only [isohyetlaw18_LevelFits.l1]
    rw [if_pos (by omega), if_pos (by omega), if_pos (by omega), hrd, mn_min, mx_max, foldl_take (f := min) ys h i hlt, foldl_take (f := max) ys h i hlt, wi1 (by omega)]
    exact ih
def clamp (x : Int) : Int := mn (mx x (-2147483648)) 2147483648
theorem clamp_rng (x : Int) : -2147483648 ≤ clamp x ∧ clamp x ≤ 2147483648 := by unfold clamp mn mx; split <;> split <;> omega
theorem Fits_l0 {a1 a2 : Int} {l : List Int} (hl : l.length ≤ 30) : ∀ (d i k : Nat), i + d = l.length → d + 1000 ≤ k →
    isohyetlaw18_LevelFits.l0 k a1 a2 ((l.take i).map clamp) l (l.length : Int) (i : Int) = some true
  | 0, i, k, hi, hk => by
    obtain ⟨k, rfl⟩ : ∃ j, k = j + 1 := ⟨k - 1, by omega⟩
    have hx := and_le a1 268435455 (by omega)
    have hy := and_le a2 268435455 (by omega)
    have e0 : (268435455 : Int) = ((268435455 : Nat) : Int) := rfl
    simp only [isohyetlaw18_LevelFits.l0]
    rw [if_neg (by omega), List.take_of_length_le (by omega), e0]
    generalize Go.bits .and .i64 a1 ((268435455 : Nat) : Int) = x at *
    generalize Go.bits .and .i64 a2 ((268435455 : Nat) : Int) = y at *
    rw [w64 (x := x + 1) (by omega) (by omega)]
    obtain ⟨S, hS⟩ : ∃ S : Int, x + 1 = S := ⟨_, rfl⟩
    obtain ⟨q0, Bs, e, r0, r1, et, _, r2, _⟩ := tq y (show 0 < S by omega)
    have hb0 := r2 (by omega)
    rw [hS, et, if_neg (by omega)]
    have hlen : (l.map clamp).length = l.length := List.length_map _
    have hrng : ∀ z ∈ l.map clamp, -2147483648 ≤ z ∧ z ≤ 2147483648 := fun z hz => by
      obtain ⟨x, _, rfl⟩ := List.mem_map.1 hz
      exact clamp_rng x
    generalize l.map clamp = ys at *
    by_cases h0 : ys = []
    · subst h0
      unfold level_Fit.f
      rw [if_pos (by simp), Option.bind_some, if_pos (by simp)]
      rfl
    · have hln : 0 < ys.length := List.length_pos_iff.2 h0
      obtain ⟨q, m, g1, g2, g3, g4, g5, g6, g7, g8, g9⟩ := Fit_f (k := k) h0 (by omega) hrng (show 0 < S by omega) (by omega) hb0 r1 (by omega)
      have hd : rd ys 0 = ys.headD 0 := by
        cases ys with
        | nil => exact absurd rfl h0
        | cons y t => rfl
      rw [g6, Option.bind_some, if_neg (by omega), if_pos (by omega), hd]
      refine Fits_l1 (h := ys.headD 0) (X := ap (Bs + q * S) S m) (by omega) ys.length 0 k (by omega) (by omega) (fun k hk => ?_)
      rw [ap_len]
      exact Fits_l2 (by omega) (by omega) hb0 r1 g1 g2 g3 g4 g5 g7 g8 g9 m 0 k (by omega) (by omega)
  | d + 1, i, k, hi, hk => by
    obtain ⟨k, rfl⟩ : ∃ j, k = j + 1 := ⟨k - 1, by omega⟩
    have ih := Fits_l0 (a1 := a1) (a2 := a2) hl d (i + 1) k (by omega) (by omega)
    have hlt : i < l.length := by omega
    have hrd : rd l (i : Int) = l[i] := by
      show l.getD (i : Int).toNat 0 = _
      rw [Int.toNat_natCast]
      simp [List.getD, hlt]
    have hsn : (l.take i).map clamp ++ [mn (mx l[i] (-2147483648)) 2147483648] = (l.take (i + 1)).map clamp := by
      rw [← take_snoc l i hlt, List.map_append]
      rfl
    simp only [isohyetlaw18_LevelFits.l0]
    rw [if_pos (by omega), if_pos (by omega), if_pos (by omega), if_pos (by rw [List.length_map, List.length_take]; omega), hrd, hsn, wi1 (by omega)]
    exact ih
theorem LevelFits_f {l : List Int} {a1 a2 : Int} {k : Nat} (hk : 2000 ≤ k) : isohyetlaw18_LevelFits.f k l a1 a2 = some true := by
  unfold isohyetlaw18_LevelFits.f
  rw [fit_l (by omega), Option.bind_some, if_pos rfl]
  by_cases h : (l.length : Int) > 30
  · rw [if_pos h]
  · rw [if_neg h]
    exact Fits_l0 (by omega) l.length 0 k (by omega) (by omega)
end Go.Proofs.YtpdgjhaimfpacaaGreatDoor.Mg
namespace Go.Proofs.YtpdgjhaimfpacaaGreatDoor.Pure
open Go.Proofs.YtpdgjhaimfpacaaGreatDoor.M
theorem LevelFits : ∀ (l0 : List Int) (a1 a2 : Int), l0.length ≤ maxLen → l0.length * 8 ≤ 140737488351232 → (∀ x ∈ l0, (Lit.int .i64 x).wf = true) → (Lit.int .i64 a1).wf = true → (Lit.int .i64 a2).wf = true → ∃ k, isohyetlaw18_LevelFits.f k l0 a1 a2 = some true := fun _ _ _ _ _ _ _ _ => ⟨2000, Mg.LevelFits_f (Nat.le_refl _)⟩
end Go.Proofs.YtpdgjhaimfpacaaGreatDoor.Pure
