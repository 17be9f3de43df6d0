/- num.Div and Int, as whole numbers; isohyetlaw02's fit and short. -/
import Derived.Test.YtpgmhhkkbjbpgaaNN
import Derived.Test.YtpgmhhkkbjbpgaaA6
import Derived.Test.YtpgmhhkkbjbpgaaA8
namespace Go.Proofs.Ytpgmhhkkbjbpgaa.Mg
open Go.RowKit Go.Proofs.YtpgmhhkkbjbpgaaW.PrintWords Go.Proofs.YtpgmhhkkbjbpgaaW.PrintMore Go.Proofs.Ytpgmhhkkbjbpgaa.MB Go.Proofs.Ytpgmhhkkbjbpgaa.M Go.Proofs.Ytpgmhhkkbjbpgaa.MD
set_option linter.unusedVariables false
set_option linter.unusedSimpArgs false

/-- What a quotient and a rest are to be. -/
def DivOk (x y q r : Int) : Prop := q * y + r = x ∧ (y = 0 → q = 0) ∧ (y ≠ 0 → r.natAbs < y.natAbs ∧ (r = 0 ∨ sgn r = sgn y)) ∧ q.natAbs ≤ x.natAbs + 1 ∧ r.natAbs ≤ x.natAbs + y.natAbs
theorem sgn_nv {m : Bool} {X Y : Nat} (hx : X ≠ 0) (hy : Y ≠ 0) : sgn (nv m X) = sgn (nv m Y) := by
  rcases sgn_cases (nv m X) with ⟨h1, e1⟩ | ⟨h1, e1⟩ | ⟨h1, e1⟩ <;> rcases sgn_cases (nv m Y) with ⟨h2, e2⟩ | ⟨h2, e2⟩ | ⟨h2, e2⟩ <;> rw [e1, e2] <;> exfalso <;> cases m <;> simp [nv] at h1 h2 <;> omega
theorem div_one {m n : Bool} {X Y : Nat} (hY : Y ≠ 0) (h : X % Y = 0 ∨ m = n) : DivOk (nv m X) (nv n Y) (nv (m != n) (X / Y)) (nv m (X % Y)) := by
  have e := Nat.div_add_mod X Y
  have hlt := Nat.mod_lt X (Nat.pos_of_ne_zero hY)
  have hle := Nat.div_le_self X Y
  generalize X / Y = Q at *
  generalize X % Y = R at *
  refine ⟨?_, fun h0 => ?_, fun _ => ⟨by rw [nv_abs, nv_abs]; exact hlt, ?_⟩, by rw [nv_abs, nv_abs]; omega, by rw [nv_abs, nv_abs, nv_abs]; omega⟩
  · subst e
    cases m <;> cases n <;> simp [nv] <;> grind
  · have := nv_abs n Y
    rw [h0] at this
    omega
  · by_cases hR : R = 0
    · left
      subst hR
      cases m <;> rfl
    · right
      obtain rfl : m = n := by rcases h with h | h; exact absurd h hR; exact h
      exact sgn_nv hR hY
theorem div_two {m n : Bool} {X Y : Nat} (hY : Y ≠ 0) (hR : X % Y ≠ 0) (h : m ≠ n) : DivOk (nv m X) (nv n Y) (nv true (X / Y + 1)) (nv n (Y - X % Y)) := by
  have e := Nat.div_add_mod X Y
  have hlt := Nat.mod_lt X (Nat.pos_of_ne_zero hY)
  have hle := Nat.div_le_self X Y
  generalize X / Y = Q at *
  generalize X % Y = R at *
  refine ⟨?_, fun h0 => ?_, fun _ => ⟨by rw [nv_abs, nv_abs]; omega, .inr (sgn_nv (by omega) hY)⟩, by rw [nv_abs, nv_abs]; omega, by rw [nv_abs, nv_abs, nv_abs]; omega⟩
  · obtain ⟨D, rfl⟩ : ∃ D, Y = R + D := ⟨Y - R, by omega⟩
    rw [Nat.add_sub_cancel_left]
    subst e
    cases m <;> cases n <;> simp [nv] at h ⊢ <;> grind
  · have := nv_abs n Y
    rw [h0] at this
    omega
theorem Div_z {m n : Bool} {a b : List Int} {x y : Int} {k : Nat} (ha : HZ m a x) (hb : HZ n b y) (hx : x.natAbs < B ^ 60) (hk : 20001 ≤ k) : ∃ q r, num_Div.f k m a n b = some (zb q, zl q, zb r, zl r) ∧ DivOk x y q r := by
  have e1 := ha.nv
  have e2 := hb.nv
  have l2 := hb.lt
  have h1 := ha.has
  have h2 := hb.has
  have hB : B ^ 60 + 1 < B ^ 64 := by decide
  unfold num_Div.f
  rw [Sign_z hb (by omega), Option.bind_some]
  by_cases h0 : y = 0
  · refine ⟨0, x, ?_, ?_⟩
    · have es : sgn y = 0 := by rw [h0]; rfl
      rw [if_pos es, Make_z h1 (by omega), Option.bind_some, e1]
      unfold zl
      rw [Int.natAbs_zero, ofNat_zero]
      rfl
    · refine ⟨by rw [Int.zero_mul, Int.zero_add], fun _ => rfl, fun h => absurd h0 h, by omega, by omega⟩
  · have hs : sgn y ≠ 0 := by
      rcases sgn_cases y with ⟨q, e⟩ | ⟨q, e⟩ | ⟨q, e⟩ <;> rw [e] <;> omega
    rw [if_neg hs, Div_g h1 h2 (by omega), Option.bind_some]
    dsimp only
    generalize hX : x.natAbs = X at *
    generalize hY : y.natAbs = Y at *
    have hY0 : Y ≠ 0 := by omega
    have hq : X / Y < B ^ 64 := by have := Nat.div_le_self X Y; omega
    have hq1 : X / Y + 1 < B ^ 64 := by have := Nat.div_le_self X Y; omega
    have hr : X % Y < B ^ 64 := by have := Nat.mod_le X Y; omega
    have hr1 : Y - X % Y < B ^ 64 := by omega
    obtain ⟨k, rfl⟩ : ∃ j, k = j + 1 := ⟨k - 1, by omega⟩
    have lr : (ofNat (X % Y)).length = 0 ↔ X % Y = 0 := ⟨fun h => ofNat_eq_nil.1 (List.eq_nil_of_length_eq_zero h), fun h => by rw [h, ofNat_zero]; rfl⟩
    have Q := Has.nat hq (show 64 ≤ 64 by omega)
    have R := Has.nat hr (show 64 ≤ 64 by omega)
    have Q1 := Has.nat hq1 (show 64 ≤ 64 by omega)
    have R1 := Has.nat hr1 (show 64 ≤ 64 by omega)
    have one : (X % Y = 0 ∨ m = n) → ∃ q r, num_Div.j0 (k + 1) (ofNat (X / Y)) (ofNat (X % Y)) true m a n b = some (zb q, zl q, zb r, zl r) ∧ DivOk x y q r := fun h => by
      refine ⟨_, _, ?_, by rw [← e1, ← e2]; exact div_one hY0 h⟩
      simp only [num_Div.j0]
      rw [if_pos trivial, Make_z Q (by omega), Option.bind_some, Make_z R (by omega), Option.bind_some]
    by_cases hR : X % Y = 0
    · rw [if_pos (by have := lr.2 hR; omega)]
      exact one (.inl hR)
    · rw [if_neg (by have := mt lr.1 hR; omega)]
      by_cases hmn : m = n
      · rw [show (m == n) = true from by rw [hmn]; exact beq_self_eq_true n]
        exact one (.inr hmn)
      · rw [show (m == n) = false from beq_eq_false_iff_ne.2 hmn]
        refine ⟨_, _, ?_, by rw [← e1, ← e2]; exact div_two hY0 hR hmn⟩
        have o1 : mag_Of.f k 1 = some (ofNat 1) := Of_f (by omega) (by omega) (by omega)
        simp only [num_Div.j0]
        rw [if_neg (by decide), o1, Option.bind_some, Add_g Q (Has.nat (show 1 < B ^ 1 by decide) (by omega)) (by omega), Option.bind_some, Make_z Q1 (by omega), Option.bind_some, Sub_g h2 R (by omega), Option.bind_some, Make_z R1 (by omega), Option.bind_some]

/-! ### Int -/
theorem bits_le_iff {x m : Nat} : bitsN x ≤ m ↔ x < 2 ^ m := by
  refine ⟨fun h => Nat.lt_of_lt_of_le (bitsN_lt x) (Nat.pow_le_pow_right (by decide) h), bitsN_le⟩
theorem rd_low {l : List Int} (h : Ok l) (h0 : val l ≠ 0) (hlt : val l < B) : 0 < l.length ∧ rd l 0 = ((val l : Nat) : Int) := by
  cases l with
  | nil => exact absurd rfl h0
  | cons x xs =>
    have hx := h.head
    refine ⟨by simp, ?_⟩
    simp only [val] at hlt ⊢
    have hv : val xs = 0 := by
      rcases Nat.eq_zero_or_pos (val xs) with h | h
      · exact h
      · have : B * 1 ≤ B * val xs := Nat.mul_le_mul_left B h
        omega
    rw [hv, Nat.mul_zero, Nat.add_zero]
    show x = _
    omega
theorem Int_z {m : Bool} {l : List Int} {z : Int} {k : Nat} (h : HZ m l z) (hk : 20001 ≤ k) : num_Int.f k m l = if -9223372036854775808 ≤ z ∧ z ≤ 9223372036854775807 then some (z, true) else some (0, false) := by
  have hv := h.v
  have hh := h.has
  have hval := hh.val
  obtain ⟨k, rfl⟩ : ∃ j, k = j + 1 := ⟨k - 1, by omega⟩
  unfold num_Int.f
  rw [Len_g hh (by omega), Option.bind_some]
  by_cases h0 : z = 0
  · have e : bitsN z.natAbs = 0 := bitsN_eq_zero.2 (by omega)
    rw [e, if_pos (show ((0 : Nat) : Int) = 0 from rfl), if_pos (by omega), h0]
  · have e : bitsN z.natAbs ≠ 0 := fun e => h0 (by have := bitsN_eq_zero.1 e; omega)
    have c63 := bits_le_iff (x := z.natAbs) (m := 63)
    have c64 := bits_le_iff (x := z.natAbs) (m := 64)
    have p63 : 2 ^ 63 = 9223372036854775808 := by decide
    have p64 : 2 ^ 64 = 18446744073709551616 := by decide
    rw [p63] at c63
    rw [p64] at c64
    rw [if_neg (by omega)]
    generalize bitsN z.natAbs = b at *
    by_cases hb : b < 64
    · have hlt := c63.1 (by omega)
      obtain ⟨hl, hr⟩ := rd_low h.ok (by omega) (by unfold B; omega)
      rw [hval] at hr
      rw [if_pos (by omega)]
      have hl' : (0 : Int) < (l.length : Int) := by omega
      have hw : wrap64 ((z.natAbs : Nat) : Int) = ((z.natAbs : Nat) : Int) := w64 (by omega) (by omega)
      cases m with
      | true =>
        rw [nv_true, hval] at hv
        have hw2 : wrap64 (-((z.natAbs : Nat) : Int)) = z := by rw [w64 (by omega) (by omega)]; omega
        simp only [num_Int.j0]
        rw [if_pos trivial, if_pos hl', hr, hw, hw2]
        clear hw hw2
        rw [if_pos (by omega)]
      | false =>
        rw [nv_false, hval] at hv
        simp only [num_Int.j0]
        rw [if_neg (by decide), if_pos (by omega), if_pos hl', hr, hw, hv]
        clear hw
        rw [if_pos (by omega)]
    · rw [if_neg (by omega)]
      simp only [num_Int.j0]
      rw [if_neg (by decide), if_neg (by omega)]
      by_cases hb2 : b = 64
      · have hlt := c64.1 (by omega)
        have hge : ¬ z.natAbs < 9223372036854775808 := fun h => hb (by have := c63.2 h; omega)
        obtain ⟨hl, hr⟩ := rd_low h.ok (by omega) (by unfold B; omega)
        rw [hval] at hr
        have hl' : (0 : Int) < (l.length : Int) := by omega
        rw [if_pos (by omega)]
        cases m with
        | true =>
          rw [nv_true, hval] at hv
          rw [if_pos rfl, if_pos hl', hr]
          by_cases h63 : z = -9223372036854775808
          · rw [if_pos (by omega), if_pos (by omega), h63]
          · rw [if_neg (by omega), if_neg (by omega)]
        | false =>
          rw [nv_false, hval] at hv
          rw [if_neg (by decide), if_neg (by omega)]
      · have hge : ¬ z.natAbs < 18446744073709551616 := fun h => hb2 (by have := c64.2 h; omega)
        rw [if_neg (by omega), if_neg (by omega)]

/-! ### fit, short -/
theorem zsmall {z : Int} (h : z.natAbs < 18446744073709551616) : HZ (zb z) (zl z) z := HZ.z (m := 1) (by rw [Nat.pow_one]; exact h) (by omega)
theorem fit_z {k : Nat} (hk : 20001 ≤ k) : isohyetlaw02_fit.f k = some true := by
  have h7 := zsmall (z := -7) (by decide)
  have h2 := zsmall (z := 2) (by decide)
  obtain ⟨q, r, e, h, _, hr, _, _⟩ := Div_z (k := k) h7 h2 (by decide) hk
  obtain ⟨hr1, hr2⟩ := hr (by decide)
  have hs2 : sgn 2 = 1 := by decide
  rw [hs2] at hr2
  have hr3 : r = 0 ∨ r = 1 := by
    rcases sgn_cases r with ⟨q1, e1⟩ | ⟨q1, e1⟩ | ⟨q1, e1⟩ <;> rw [e1] at hr2 <;> omega
  obtain rfl : r = 1 := by omega
  obtain rfl : q = -4 := by omega
  have h4 := zsmall (z := -4) (by decide)
  have h1 := zsmall (z := 1) (by decide)
  have lz : (zl 1).length = 1 := by unfold zl; exact len_small (by decide) (by decide)
  unfold isohyetlaw02_fit.f
  rw [Of_z (by omega) (by omega) (by omega), Option.bind_some, Of_z (by omega) (by omega) (by omega), Option.bind_some]
  dsimp only
  rw [e, Option.bind_some]
  dsimp only
  rw [Int_z h4 hk, if_pos (by omega), Option.bind_some]
  dsimp only
  rw [if_pos rfl, if_pos rfl, Sign_z h1 (by omega), Option.bind_some, if_pos (by decide), Cmp_z h4 h1 (by omega), Option.bind_some, if_pos (by decide), lz]
  rfl
theorem short_l0 (n : Int) (ls : List S25) (hls : ls.length ≤ 1000) : ∀ (d i k : Nat), i + d = ls.length → d < k →
    ∃ b, isohyetlaw02_short.l0 k n ls (ls.length : Int) (i : Int) = some b ∧ (b = true → ∀ j, i ≤ j → j < ls.length → ((ls.getD j z25).f1.length : Int) ≤ n)
  | 0, i, k, hi, hk => by
    obtain ⟨k, rfl⟩ : ∃ m, k = m + 1 := ⟨k - 1, by omega⟩
    simp only [isohyetlaw02_short.l0]
    rw [if_neg (by omega)]
    exact ⟨true, rfl, fun _ j h1 h2 => by omega⟩
  | d + 1, i, k, hi, hk => by
    obtain ⟨k, rfl⟩ : ∃ m, k = m + 1 := ⟨k - 1, by omega⟩
    simp only [isohyetlaw02_short.l0]
    rw [if_pos (by omega), if_pos (by omega), if_pos (by omega), w64 (x := (i : Int) + 1) (by omega) (by omega)]
    have e : rd_T25 ls (i : Int) = ls.getD i z25 := by unfold rd_T25; rw [Int.toNat_natCast]
    rw [e]
    by_cases h : ((ls.getD i z25).f1.length : Int) > n
    · rw [if_pos h]
      exact ⟨false, rfl, fun h => by cases h⟩
    · rw [if_neg h]
      obtain ⟨b, hb, hall⟩ := short_l0 n ls hls d (i + 1) k (by omega) (by omega)
      refine ⟨b, hb, fun ht j h1 h2 => ?_⟩
      rcases Nat.lt_or_ge i j with hij | hij
      · exact hall ht j hij h2
      · obtain rfl : j = i := by omega
        omega
theorem short_f {k : Nat} (n : Int) (ls : List S25) (hls : ls.length ≤ 1000) (hk : ls.length < k) : ∃ b, isohyetlaw02_short.f k n ls = some b ∧ (b = true → ∀ j, j < ls.length → ((ls.getD j z25).f1.length : Int) ≤ n) := by
  obtain ⟨b, hb, hall⟩ := short_l0 n ls hls ls.length 0 k (by omega) hk
  exact ⟨b, hb, fun ht j hj => hall ht j (Nat.zero_le _) hj⟩
theorem short_1 {k : Nat} (n : Int) (a : S25) (hk : 1 < k) : ∃ b, isohyetlaw02_short.f k n [a] = some b ∧ (b = true → (a.f1.length : Int) ≤ n) := by
  obtain ⟨b, hb, h⟩ := short_f n [a] (by simp) (by simpa using hk)
  exact ⟨b, hb, fun ht => h ht 0 (by simp)⟩
theorem short_2 {k : Nat} (n : Int) (a b : S25) (hk : 2 < k) : ∃ r, isohyetlaw02_short.f k n [a, b] = some r ∧ (r = true → (a.f1.length : Int) ≤ n ∧ (b.f1.length : Int) ≤ n) := by
  obtain ⟨r, hb, h⟩ := short_f n [a, b] (by simp) (by simpa using hk)
  exact ⟨r, hb, fun ht => ⟨h ht 0 (by simp), h ht 1 (by simp)⟩⟩
theorem short_3 {k : Nat} (n : Int) (a b c : S25) (hk : 3 < k) : ∃ r, isohyetlaw02_short.f k n [a, b, c] = some r ∧ (r = true → (a.f1.length : Int) ≤ n ∧ (b.f1.length : Int) ≤ n ∧ (c.f1.length : Int) ≤ n) := by
  obtain ⟨r, hb, h⟩ := short_f n [a, b, c] (by simp) (by simpa using hk)
  exact ⟨r, hb, fun ht => ⟨h ht 0 (by simp), h ht 1 (by simp), h ht 2 (by simp)⟩⟩
end Go.Proofs.Ytpgmhhkkbjbpgaa.Mg
