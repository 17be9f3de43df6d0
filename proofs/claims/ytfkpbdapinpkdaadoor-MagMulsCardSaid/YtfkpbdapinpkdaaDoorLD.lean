/- The document's decimal digits as numbers: trim, Add, Digits, Cmp, Sub; 'Is': a number's digits are those that its words have. -/
import Derived.Test.YtfkpbdapinpkdaaDoorDV
import Derived.Test.YtfkpbdapinpkdaaDoorX7
import Derived.Test.YtfkpbdapinpkdaaDoorR1
import Derived.Test.YtfkpbdapinpkdaaDoorR3
import Derived.Laws.BitsLemmas
import Derived.Laws.Bits64b
namespace Go.Proofs.YtfkpbdapinpkdaaDoor.Mg
open Go.RowKit Go.Proofs.YtfkpbdapinpkdaaDoorW.PrintWords Go.Proofs.YtfkpbdapinpkdaaDoorW.PrintMore Go.Proofs.YtfkpbdapinpkdaaDoor.MB Go.Proofs.YtfkpbdapinpkdaaDoor.M Go.Proofs.YtfkpbdapinpkdaaDoor.MD
set_option linter.unusedVariables false
set_option linter.unusedSimpArgs false

theorem dv_take_succ (l : List Int) (i : Nat) : dv (l.take (i + 1)) = dv (l.take i) + T ^ i * (l.getD i 0).toNat := by
  by_cases h : i < l.length
  · have e : l.take (i + 1) = l.take i ++ [l.getD i 0] := by
      rw [List.take_succ_eq_append_getElem h]
      simp [List.getD_eq_getElem?_getD, h]
    rw [e, dv_append, List.length_take, Nat.min_eq_left (by omega)]
    simp [dv]
  · rw [List.take_of_length_le (by omega), List.take_of_length_le (by omega)]
    simp [List.getD_eq_getElem?_getD, List.getElem?_eq_none (Nat.le_of_not_lt h)]
theorem dv_snoc (l : List Int) (x : Nat) : dv (l ++ [(x : Int)]) = dv l + T ^ l.length * x := by
  rw [dv_append]
  simp [dv]
theorem tm10 (n : Nat) : Int.tmod (n : Int) 10 = ((n % 10 : Nat) : Int) := by
  rw [Int.tmod_eq_emod_of_nonneg (by omega)]
  omega
theorem td10 (n : Nat) : Int.tdiv (n : Int) 10 = ((n / 10 : Nat) : Int) := by
  rw [Int.tdiv_eq_ediv_of_nonneg (by omega)]
  omega
theorem getD_ge (l : List Int) {i : Nat} (h : l.length ≤ i) : l.getD i 0 = 0 := by simp [List.getD_eq_getElem?_getD, List.getElem?_eq_none h]
theorem getD_take_last (l : List Int) {n : Nat} (h : n < l.length) : (l.take (n + 1)).getD ((l.take (n + 1)).length - 1) 0 = l.getD n 0 := by
  rw [List.length_take, Nat.min_eq_left (by omega), Nat.add_sub_cancel, List.getD_eq_getElem?_getD, List.getD_eq_getElem?_getD, List.getElem?_take_of_lt (by omega)]

/-! ### trim -/
theorem trim_l0 (l : List Int) (hok : Dok l) (hm : l.length ≤ 1000000) : ∀ (n k : Nat), n ≤ l.length → n < k → dv l = dv (l.take n) → isohyetref01_trim.l0 k l (n : Int) = some (dg (dv l))
  | 0, k, hn, hk, he => by
    obtain ⟨k, rfl⟩ : ∃ m, k = m + 1 := ⟨k - 1, by omega⟩
    simp only [isohyetref01_trim.l0]
    rw [if_neg (by omega), if_pos (by omega), if_pos (by omega), he]
    simp [dv, dg_zero]
  | n + 1, k, hn, hk, he => by
    obtain ⟨k, rfl⟩ : ∃ m, k = m + 1 := ⟨k - 1, by omega⟩
    simp only [isohyetref01_trim.l0]
    have e1 : wrap64 (((n + 1 : Nat) : Int) - 1) = (n : Int) := by rw [w64 (by omega) (by omega)]; omega
    rw [if_pos (by omega), e1, if_pos (by omega), if_pos (by omega), rd_cast]
    by_cases h : l.getD n 0 = 0
    · rw [if_pos h]
      refine trim_l0 l hok hm n k (by omega) (by omega) ?_
      rw [he, dv_take_succ, h]
      simp
    · rw [if_neg h, if_pos (by omega), if_pos (by omega), Int.toNat_natCast, he, dg_dv_of_last (hok.take _) (.inr (by rw [getD_take_last l (by omega)]; exact h))]
theorem trim_f {l : List Int} {k : Nat} (hok : Dok l) (hm : l.length ≤ 1000000) (hk : l.length < k) : isohyetref01_trim.f k l = some (dg (dv l)) := trim_l0 l hok hm l.length k (Nat.le_refl _) hk (by rw [List.take_length])

/-! ### Add -/
theorem w10 {n : Nat} (h : n < 100) : wrap64 ((n / 10 : Nat) : Int) = ((n / 10 : Nat) : Int) := by rw [w64 (x := ((n / 10 : Nat) : Int)) (by omega) (by omega)]
theorem wadd {m n : Nat} (h : m + n < 1000000000) : wrap64 ((m : Int) + (n : Int)) = ((m + n : Nat) : Int) := by rw [w64 (x := (m : Int) + (n : Int)) (by omega) (by omega)]; omega
theorem wsucc {n : Nat} (h : n < 1000000000) : wrap64 ((n : Int) + 1) = ((n + 1 : Nat) : Int) := by rw [w64 (x := (n : Int) + 1) (by omega) (by omega)]; omega
theorem DAdd_step (a b out : List Int) {c i k : Nat} (ha : Dok a) (hb : Dok b) (hi : i ≤ 1000000) (hc : c ≤ 1) (ho : out.length = i) (h : i < a.length ∨ i < b.length ∨ c = 1) :
    isohyetref01_Add.l0 (k + 2) a b out (c : Int) (i : Int) = isohyetref01_Add.l0 k a b (out ++ [(((c + (a.getD i 0).toNat + (b.getD i 0).toNat) % 10 : Nat) : Int)]) (((c + (a.getD i 0).toNat + (b.getD i 0).toNat) / 10 : Nat) : Int) ((i + 1 : Nat) : Int) := by
  have h1 := ha.getD i
  have h2 := hb.getD i
  obtain ⟨x, ex⟩ : ∃ x : Nat, a.getD i 0 = (x : Int) := ⟨(a.getD i 0).toNat, by omega⟩
  obtain ⟨y, ey⟩ : ∃ y : Nat, b.getD i 0 = (y : Int) := ⟨(b.getD i 0).toNat, by omega⟩
  have gx : a.length ≤ i → x = 0 := fun h => by rw [getD_ge a h] at ex; omega
  have gy : b.length ≤ i → y = 0 := fun h => by rw [getD_ge b h] at ey; omega
  rw [ex] at h1
  rw [ey] at h2
  have hj : isohyetref01_Add.l0 (k + 2) a b out (c : Int) (i : Int) = isohyetref01_Add.j1 (k + 1) a b out (c : Int) (i : Int) true := by
    simp only [isohyetref01_Add.l0]
    by_cases q1 : (i : Int) < (a.length : Int)
    · rw [if_pos q1]
    · rw [if_neg q1]
      by_cases q2 : (i : Int) < (b.length : Int)
      · rw [if_pos q2]
      · have hc1 : (c : Int) > 0 := by omega
        rw [if_neg q2, decide_eq_true hc1]
  have n1 : c + x < 100 := by omega
  have n2 : c + y < 100 := by omega
  have n3 : c + x + y < 100 := by omega
  have n4 : c < 100 := by omega
  have o1 : out.length < 17592186044416 := by omega
  have p1 : (0 : Int) ≤ (i : Int) := by omega
  rw [hj]
  simp only [isohyetref01_Add.j1]
  rw [if_pos trivial, rd_cast a i, rd_cast b i, ex, ey, Int.toNat_natCast x, Int.toNat_natCast y, wadd (m := c) (n := x) (by omega), wadd (m := c) (n := y) (by omega), wadd (m := c + x) (n := y) (by omega), tm10, td10, tm10, td10, tm10, td10, tm10, td10, wsucc (by omega)]
  by_cases q1 : (i : Int) < (a.length : Int)
  · rw [if_pos q1, if_pos p1]
    by_cases q2 : (i : Int) < (b.length : Int)
    · rw [if_pos q2, if_pos o1, w10 n3]
    · rw [if_neg q2, if_pos o1, w10 n1, gy (by omega)]; simp only [Nat.add_zero]
  · rw [if_neg q1]
    by_cases q2 : (i : Int) < (b.length : Int)
    · rw [if_pos q2, if_pos p1, if_pos o1, w10 n2, gx (by omega)]; simp only [Nat.add_zero]
    · rw [if_neg q2, if_pos o1, w10 n4, gx (by omega), gy (by omega)]; simp only [Nat.add_zero]
theorem dadd_val {P T' c x y o va vb : Nat} (hT : T' = 10) (h : o + P * c = va + vb) : o + P * ((c + x + y) % 10) + P * T' * ((c + x + y) / 10) = va + P * x + (vb + P * y) := by
  have e := Nat.mod_add_div (c + x + y) 10
  generalize (c + x + y) % 10 = r at *
  generalize (c + x + y) / 10 = q at *
  subst hT
  have : P * (r + 10 * q) = P * (c + x + y) := by rw [e]
  grind
theorem DAdd_end (a b out : List Int) {i k : Nat} (ha : a.length ≤ i) (hb : b.length ≤ i) (ho : out.length = i) (hi : i ≤ 1000000) (hk : i + 2 < k) (hd : Dok out) (hv : dv out = dv a + dv b) : isohyetref01_Add.l0 k a b out ((0 : Nat) : Int) (i : Int) = some (dg (dv a + dv b)) := by
  obtain ⟨k, rfl⟩ : ∃ m, k = m + 2 := ⟨k - 2, by omega⟩
  simp only [isohyetref01_Add.l0]
  rw [if_neg (by omega), if_neg (by omega), decide_eq_false (by omega)]
  simp only [isohyetref01_Add.j1]
  rw [if_neg (by decide), trim_f hd (by omega) (by omega), Option.bind_some, hv]
theorem DAdd_l0 (a b : List Int) (ha : Dok a) (hb : Dok b) (M : Nat) (hM : M ≤ 900000) (hla : a.length ≤ M) (hlb : b.length ≤ M) : ∀ (d i k c : Nat) (out : List Int), i + d = M → 2 * d + M + 10 ≤ k → out.length = i → Dok out → c ≤ 1 → dv out + T ^ i * c = dv (a.take i) + dv (b.take i) →
    isohyetref01_Add.l0 k a b out (c : Int) (i : Int) = some (dg (dv a + dv b))
  | 0, i, k, c, out, hi, hk, ho, hd, hc, he => by
    obtain rfl : i = M := by omega
    rw [List.take_of_length_le hla, List.take_of_length_le hlb] at he
    by_cases h0 : c = 0
    · subst h0
      rw [Nat.mul_zero, Nat.add_zero] at he
      exact DAdd_end a b out hla hlb ho (by omega) (by omega) hd he
    · obtain rfl : c = 1 := by omega
      obtain ⟨k, rfl⟩ : ∃ m, k = m + 2 := ⟨k - 2, by omega⟩
      rw [DAdd_step a b out ha hb (by omega) (by omega) ho (.inr (.inr rfl)), getD_ge a hla, getD_ge b hlb]
      refine DAdd_end a b _ (by omega) (by omega) (by simp [ho]) (by omega) (by omega) (hd.append (Dok.cons (by decide) Dok.nil)) ?_
      rw [dv_snoc, ho, ← he]
      rfl
  | d + 1, i, k, c, out, hi, hk, ho, hd, hc, he => by
    obtain ⟨k, rfl⟩ : ∃ m, k = m + 2 := ⟨k - 2, by omega⟩
    by_cases hlt : i < a.length ∨ i < b.length
    · rw [DAdd_step a b out ha hb (by omega) hc ho (by omega)]
      have h1 := ha.getD i
      have h2 := hb.getD i
      have hs : c + (a.getD i 0).toNat + (b.getD i 0).toNat ≤ 19 := by omega
      refine DAdd_l0 a b ha hb M hM hla hlb d (i + 1) k _ _ (by omega) (by omega) (by simp [ho]) (hd.append (Dok.cons (by omega) Dok.nil)) (by omega) ?_
      rw [dv_snoc, ho, dv_take_succ, dv_take_succ, Nat.pow_succ]
      exact dadd_val T_eq he
    · rw [List.take_of_length_le (by omega), List.take_of_length_le (by omega)] at he
      by_cases h0 : c = 0
      · subst h0
        rw [Nat.mul_zero, Nat.add_zero] at he
        exact DAdd_end a b out (by omega) (by omega) ho (by omega) (by omega) hd he
      · obtain rfl : c = 1 := by omega
        rw [DAdd_step a b out ha hb (by omega) (by omega) ho (.inr (.inr rfl)), getD_ge a (by omega), getD_ge b (by omega)]
        refine DAdd_end a b _ (by omega) (by omega) (by simp [ho]) (by omega) (by omega) (hd.append (Dok.cons (by decide) Dok.nil)) ?_
        rw [dv_snoc, ho, ← he]
        rfl
theorem DAdd_f {a b : List Int} {k : Nat} (ha : Dok a) (hb : Dok b) (hla : a.length ≤ 300) (hlb : b.length ≤ 300) (hk : 1000 ≤ k) : isohyetref01_Add.f k a b = some (dg (dv a + dv b)) :=
  DAdd_l0 a b ha hb 300 (by omega) hla hlb 300 0 k 0 [] (by omega) (by omega) rfl Dok.nil (by omega) (by simp [dv])
theorem DAdd_g {x y k : Nat} (hx : x < T ^ 250) (hy : y < T ^ 250) (hk : 1000 ≤ k) : isohyetref01_Add.f k (dg x) (dg y) = some (dg (x + y)) := by
  have h1 := length_dg_le hx
  have h2 := length_dg_le hy
  rw [DAdd_f (Dok_dg x) (Dok_dg y) (by omega) (by omega) hk, dv_dg, dv_dg]

/-! ### Digits -/
theorem dg_one : dg 1 = [1] := by rw [dg_pos (by decide)]; simp [T, dg_zero]
theorem bit_of (w s : Nat) (hw : w < 18446744073709551616) (hs : s < 64) : Go.bits .and .u64 (shr .u64 (w : Int) (IntKind.u64.wrap (s : Int))) 1 = ((w / 2 ^ s % 2 : Nat) : Int) := by
  have e1 : IntKind.u64.wrap (s : Int) = (s : Int) := wu64 (by omega) (by omega)
  have hq : w / 2 ^ s < 18446744073709551616 := Nat.lt_of_le_of_lt (Nat.div_le_self _ _) hw
  have e2 : shr .u64 (w : Int) (s : Int) = ((w / 2 ^ s : Nat) : Int) := by
    unfold shr
    simp only [IntKind.signed, IntKind.bits]
    rw [Int.toNat_natCast]
    try rw [Nat.min_eq_left (by omega)]
    norm_cast
  rw [e1, e2]
  have h := bits_and_u64_nat (w / 2 ^ s) 1 hq (by omega)
  rw [Nat.and_one_is_mod] at h
  exact h
theorem half_step (w s : Nat) : w / 2 ^ s = 2 * (w / 2 ^ (s + 1)) + w / 2 ^ s % 2 := by
  rw [Nat.pow_succ, ← Nat.div_div_eq_div_mul]
  omega
theorem val_drop_le (a : List Int) (i : Nat) (h : i ≤ a.length) : val (a.drop i) ≤ val a := by
  rw [val_take_drop a i h]
  have : 1 * val (a.drop i) ≤ B ^ i * val (a.drop i) := Nat.mul_le_mul_right _ (Nat.pow_pos B_pos)
  omega
theorem dig_le {V w s : Nat} (hs : s ≤ 64) : V * 2 ^ (64 - s) + w / 2 ^ s ≤ w + B * V := by
  have e : B = 2 ^ (64 - s) * 2 ^ s := by rw [B_two, ← Nat.pow_add, show 64 - s + s = 64 from by omega]
  have h1 := Nat.div_le_self w (2 ^ s)
  have h2 : V * 2 ^ (64 - s) * 1 ≤ V * 2 ^ (64 - s) * 2 ^ s := Nat.mul_le_mul_left _ (Nat.pow_pos (by decide))
  rw [e, Nat.mul_comm _ V, ← Nat.mul_assoc]
  omega
theorem Digits_l1 (a : List Int) (ha : Ok a) (hla : a.length ≤ 1000) (hv : val a < T ^ 250) (i w : Nat) (hi : i < a.length) (hw : a.getD i 0 = (w : Int)) (r : Option (List Int)) : ∀ (s k : Nat), s ≤ 64 → s + 1001 ≤ k →
    (∀ m, m + (s + 1) = k → isohyetref01_Digits.l0 m a (dg (val (a.drop i))) (wrap64 ((i : Int) - 1)) = r) → isohyetref01_Digits.l1 k a (dg (val (a.drop (i + 1)) * 2 ^ (64 - s) + w / 2 ^ s)) (i : Int) ((s : Int) - 1) = r
  | 0, k, hs, hk, hr => by
    obtain ⟨k, rfl⟩ : ∃ m, k = m + 1 := ⟨k - 1, by omega⟩
    simp only [isohyetref01_Digits.l1]
    have e : val (a.drop (i + 1)) * 2 ^ (64 - 0) + w / 2 ^ 0 = val (a.drop i) := by
      rw [val_drop_cons a i hi, hw, Int.toNat_natCast, Nat.mul_comm, Nat.sub_zero, ← B_two, Nat.pow_zero, Nat.div_one, Nat.add_comm]
    rw [if_neg (by omega), e]
    exact hr k (by omega)
  | s + 1, k, hs, hk, hr => by
    obtain ⟨k, rfl⟩ : ∃ m, k = m + 1 := ⟨k - 1, by omega⟩
    have hwo := ha.getD i
    rw [hw] at hwo
    have hdl := val_drop_le a i (by omega)
    have hdc := val_drop_cons a i hi
    rw [hw, Int.toNat_natCast] at hdc
    have hle : ∀ s, s ≤ 64 → val (a.drop (i + 1)) * 2 ^ (64 - s) + w / 2 ^ s < T ^ 250 := fun s hs => by
      have := dig_le (V := val (a.drop (i + 1))) (w := w) hs
      omega
    have hone : 1 < T ^ 250 := by decide
    have hb1 := hle (s + 1) hs
    have hb0 := hle s (by omega)
    have es : ((s + 1 : Nat) : Int) - 1 = (s : Int) := by omega
    have e2 : val (a.drop (i + 1)) * 2 ^ (64 - s) = 2 * (val (a.drop (i + 1)) * 2 ^ (64 - (s + 1))) := by
      rw [show 64 - s = (64 - (s + 1)) + 1 from by omega, Nat.pow_succ]
      generalize 2 ^ (64 - (s + 1)) = P
      generalize val (a.drop (i + 1)) = V
      rw [← Nat.mul_assoc, Nat.mul_comm]
    have eh := half_step w s
    have hbit := bit_of w s (by omega) (by omega)
    have ih := Digits_l1 a ha hla hv i w hi hw r s k (by omega) (by omega) (fun m hm => hr m (by omega))
    simp only [isohyetref01_Digits.l1]
    rw [es, if_pos (by omega), DAdd_g hb1 hb1 (by omega), Option.bind_some, if_pos (by omega), if_pos (by omega), if_pos (by rw [wu64 (by omega) (by omega)]; omega), rd_cast, hw, hbit, w64 (x := (s : Int) - 1) (by omega) (by omega)]
    generalize val (a.drop (i + 1)) * 2 ^ (64 - (s + 1)) = V at *
    generalize val (a.drop (i + 1)) * 2 ^ (64 - s) = V2 at *
    generalize w / 2 ^ (s + 1) = q at *
    have hm2 := Nat.mod_lt (w / 2 ^ s) (show 0 < 2 by decide)
    by_cases h1 : w / 2 ^ s % 2 = 1
    · rw [if_pos (by omega), ← dg_one, DAdd_g (by omega) hone (by omega), Option.bind_some, show V + q + (V + q) + 1 = V2 + w / 2 ^ s from by omega]
      exact ih
    · rw [if_neg (by omega), show V + q + (V + q) = V2 + w / 2 ^ s from by omega]
      exact ih
theorem Digits_l0 (a : List Int) (ha : Ok a) (hla : a.length ≤ 1000) (hv : val a < T ^ 250) : ∀ (i k : Nat), i ≤ a.length → 67 * i + 2000 ≤ k → isohyetref01_Digits.l0 k a (dg (val (a.drop i))) ((i : Int) - 1) = some (dg (val a))
  | 0, k, hi, hk => by
    obtain ⟨k, rfl⟩ : ∃ m, k = m + 1 := ⟨k - 1, by omega⟩
    simp only [isohyetref01_Digits.l0]
    rw [if_neg (by omega), List.drop_zero]
  | i + 1, k, hi, hk => by
    obtain ⟨k, rfl⟩ : ∃ m, k = m + 1 := ⟨k - 1, by omega⟩
    have hwo := ha.getD i
    obtain ⟨w, hw⟩ : ∃ x : Nat, a.getD i 0 = (x : Int) := ⟨(a.getD i 0).toNat, by omega⟩
    rw [hw] at hwo
    simp only [isohyetref01_Digits.l0]
    rw [show ((i + 1 : Nat) : Int) - 1 = (i : Int) from by omega, if_pos (by omega)]
    have h := Digits_l1 a ha hla hv i w (by omega) hw (some (dg (val a))) 64 k (by omega) (by omega) (fun m hm => by
      rw [w64 (by omega) (by omega)]
      exact Digits_l0 a ha hla hv i m (by omega) (by omega))
    have e : val (a.drop (i + 1)) * 2 ^ (64 - 64) + w / 2 ^ 64 = val (a.drop (i + 1)) := by
      rw [Nat.sub_self, Nat.pow_zero, Nat.mul_one, Nat.div_eq_of_lt (by omega), Nat.add_zero]
    rw [e] at h
    exact h
/-- The digits of a number's words. -/
theorem Digits_f {a : List Int} {k : Nat} (ha : Ok a) (hla : a.length ≤ 100) (hv : val a < T ^ 250) (hk : 9000 ≤ k) : isohyetref01_Digits.f k a = some (dg (val a)) := by
  have h := Digits_l0 a ha (by omega) hv a.length k (Nat.le_refl _) (by omega)
  unfold isohyetref01_Digits.f
  rw [w64 (by omega) (by omega)]
  rw [List.drop_length] at h
  simp only [val, dg_zero] at h
  exact h

/-! ### Cmp -/
theorem dv_lt_of_top {a b : List Int} {i : Nat} (ha : Dok a) (h : dv (a.drop (i + 1)) = dv (b.drop (i + 1))) (hx : (a.getD i 0).toNat < (b.getD i 0).toNat) (hia : i < a.length) (hib : i < b.length) : dv a < dv b := by
  rw [dv_getD a i hia, dv_getD b i hib, h]
  have h1 := dv_lt (ha.take i)
  rw [List.length_take, Nat.min_eq_left (by omega)] at h1
  have h2 : T ^ i * ((a.getD i 0).toNat + T * dv (b.drop (i + 1)) + 1) ≤ T ^ i * ((b.getD i 0).toNat + T * dv (b.drop (i + 1))) := Nat.mul_le_mul_left _ (by omega)
  rw [Nat.mul_add, Nat.mul_one] at h2
  omega
theorem DCmp_l0 (a b : List Int) (ha : Dok a) (hb : Dok b) (hab : a.length = b.length) (hm : a.length ≤ 1000000) : ∀ (n k : Nat), n ≤ a.length → n < k → dv (a.drop n) = dv (b.drop n) →
    isohyetref01_Cmp.l0 k a b ((n : Int) - 1) = some (cmpN (dv a) (dv b)) := by
  intro n
  induction n with
  | zero =>
    intro k _ hk he
    obtain ⟨k, rfl⟩ : ∃ m, k = m + 1 := ⟨k - 1, by omega⟩
    simp only [isohyetref01_Cmp.l0]
    rw [if_neg (by omega)]
    simp only [List.drop_zero] at he
    simp [cmpN, he]
  | succ n ih =>
    intro k hn hk he
    obtain ⟨k, rfl⟩ : ∃ m, k = m + 1 := ⟨k - 1, by omega⟩
    simp only [isohyetref01_Cmp.l0]
    rw [show (((n + 1 : Nat) : Int) - 1) = (n : Int) from by omega, if_pos (by omega), if_pos (by omega), if_pos (by omega), if_pos (by omega), rd_cast, rd_cast, w64 (by omega) (by omega)]
    have h1 := ha.getD n
    have h2 := hb.getD n
    by_cases hlt : a.getD n 0 < b.getD n 0
    · rw [if_pos hlt]
      have := dv_lt_of_top ha he (by omega) (by omega) (by omega)
      simp [cmpN, this]
    · rw [if_neg hlt]
      by_cases hgt : a.getD n 0 > b.getD n 0
      · rw [if_pos hgt]
        have := dv_lt_of_top hb he.symm (by omega) (by omega) (by omega)
        unfold cmpN
        rw [if_neg (by omega), if_neg (by omega)]
      · have hq : a.getD n 0 = b.getD n 0 := by omega
        rw [if_neg hgt, ih k (by omega) (by omega) ?_]
        rw [List.drop_eq_getElem_cons (by omega : n < a.length), List.drop_eq_getElem_cons (by omega : n < b.length)]
        simp only [dv, he]
        have e1 : a.getD n 0 = a[n]'(by omega) := by simp [List.getD_eq_getElem?_getD, (by omega : n < a.length)]
        have e2 : b.getD n 0 = b[n]'(by omega) := by simp [List.getD_eq_getElem?_getD, (by omega : n < b.length)]
        rw [← e1, ← e2, hq]
theorem dg_length_lt {m n : Nat} (h : (dg m).length < (dg n).length) : m < n := by
  by_cases hn : n = 0
  · subst hn; rw [dg_zero] at h; simp at h
  · have h1 := pow_length_dg_le hn
    have h2 := lt_pow_length_dg m
    have h3 : T ^ (dg m).length ≤ T ^ ((dg n).length - 1) := Nat.pow_le_pow_right T_pos (by omega)
    omega
theorem DCmp_f {x y k : Nat} (hx : x < T ^ 250) (hy : y < T ^ 250) (hk : 1000 ≤ k) : isohyetref01_Cmp.f k (dg x) (dg y) = some (cmpN x y) := by
  have l1 := length_dg_le hx
  have l2 := length_dg_le hy
  unfold isohyetref01_Cmp.f
  by_cases he : ((dg x).length : Int) = ((dg y).length : Int)
  · rw [if_pos he, w64 (by omega) (by omega), DCmp_l0 _ _ (Dok_dg _) (Dok_dg _) (by omega) (by omega) _ k (Nat.le_refl _) (by omega) ?_, dv_dg, dv_dg]
    rw [List.drop_length, List.drop_of_length_le (by omega)]
  · rw [if_neg he]
    by_cases hlt : ((dg x).length : Int) < ((dg y).length : Int)
    · rw [if_pos hlt]
      have := dg_length_lt (by omega : (dg x).length < (dg y).length)
      simp [cmpN, this]
    · rw [if_neg hlt]
      have := dg_length_lt (by omega : (dg y).length < (dg x).length)
      unfold cmpN
      rw [if_neg (by omega), if_neg (by omega)]

/-! ### Sub -/
theorem dsub_val {P T' c x y o va vb z c' : Nat} (hT : T' = 10) (hz : z + y + c = x + 10 * c') (h : o + vb = va + P * c) : o + P * z + (vb + P * y) = va + P * x + P * T' * c' := by
  subst hT
  have : P * (z + y + c) = P * (x + 10 * c') := by rw [hz]
  grind
theorem DSub_l0 (a b : List Int) (ha : Dok a) (hb : Dok b) (hla : a.length ≤ 1000000) (hlb : b.length ≤ a.length) (hle : dv b ≤ dv a) (K : Nat) (hK : a.length + 2 ≤ K) : ∀ (d i k c : Nat) (out : List Int), i + d = a.length → d + K ≤ k → out.length = i → Dok out → c ≤ 1 → dv out + dv (b.take i) = dv (a.take i) + T ^ i * c →
    isohyetref01_Sub.l0 k a b out (c : Int) (i : Int) = some (dg (dv a - dv b))
  | 0, i, k, c, out, hi, hk, ho, hd, hc, he => by
    obtain ⟨k, rfl⟩ : ∃ m, k = m + 1 := ⟨k - 1, by omega⟩
    obtain rfl : i = a.length := by omega
    rw [List.take_length, List.take_of_length_le hlb] at he
    have hlt := dv_lt hd
    rw [ho] at hlt
    have hc0 : c = 0 := by
      by_cases h0 : c = 0
      · exact h0
      · obtain rfl : c = 1 := by omega
        omega
    subst hc0
    simp only [isohyetref01_Sub.l0]
    rw [if_neg (by omega), trim_f hd (by omega) (by omega), Option.bind_some]
    congr 2
    omega
  | d + 1, i, k, c, out, hi, hk, ho, hd, hc, he => by
    obtain ⟨k, rfl⟩ : ∃ m, k = m + 1 := ⟨k - 1, by omega⟩
    have h1 := ha.getD i
    have h2 := hb.getD i
    obtain ⟨x, ex⟩ : ∃ x : Nat, a.getD i 0 = (x : Int) := ⟨(a.getD i 0).toNat, by omega⟩
    obtain ⟨y, ey⟩ : ∃ y : Nat, b.getD i 0 = (y : Int) := ⟨(b.getD i 0).toNat, by omega⟩
    have gy : b.length ≤ i → y = 0 := fun h => by rw [getD_ge b h] at ey; omega
    rw [ex] at h1
    rw [ey] at h2
    have step : ∀ z c' : Nat, z < 10 → c' ≤ 1 → z + y + c = x + 10 * c' → isohyetref01_Sub.l0 k a b (out ++ [(z : Int)]) (c' : Int) ((i + 1 : Nat) : Int) = some (dg (dv a - dv b)) := by
      intro z c' hz hc' hzz
      refine DSub_l0 a b ha hb hla hlb hle K hK d (i + 1) k c' _ (by omega) (by omega) (by simp [ho]) (hd.append (Dok.cons (by omega) Dok.nil)) hc' ?_
      rw [dv_snoc, ho, dv_take_succ, dv_take_succ, ex, ey, Int.toNat_natCast, Int.toNat_natCast, Nat.pow_succ]
      exact dsub_val T_eq hzz he
    simp only [isohyetref01_Sub.l0]
    rw [if_pos (by omega), if_pos (by omega), rd_cast a i, rd_cast b i, ex, ey, wsucc (by omega), w64 (x := (x : Int) - (c : Int)) (by omega) (by omega), w64 (x := (x : Int) - (c : Int) - (y : Int)) (by omega) (by omega), w64 (x := (x : Int) - (c : Int) - (y : Int) + 10) (by omega) (by omega), w64 (x := (x : Int) - (c : Int) + 10) (by omega) (by omega)]
    by_cases q2 : (i : Int) < (b.length : Int)
    · rw [if_pos q2]
      by_cases q3 : (x : Int) - (c : Int) - (y : Int) < 0
      · rw [if_pos q3, if_pos (by omega), show (x : Int) - (c : Int) - (y : Int) + 10 = ((x + 10 - c - y : Nat) : Int) from by omega]
        exact step _ 1 (by omega) (by omega) (by omega)
      · rw [if_neg q3, if_pos (by omega), show (x : Int) - (c : Int) - (y : Int) = ((x - c - y : Nat) : Int) from by omega]
        exact step _ 0 (by omega) (by omega) (by omega)
    · have hy0 := gy (by omega)
      rw [if_neg q2]
      by_cases q3 : (x : Int) - (c : Int) < 0
      · rw [if_pos q3, if_pos (by omega), show (x : Int) - (c : Int) + 10 = ((x + 10 - c : Nat) : Int) from by omega]
        exact step _ 1 (by omega) (by omega) (by omega)
      · rw [if_neg q3, if_pos (by omega), show (x : Int) - (c : Int) = ((x - c : Nat) : Int) from by omega]
        exact step _ 0 (by omega) (by omega) (by omega)
theorem dg_length_mono {x y : Nat} (h : y ≤ x) : (dg y).length ≤ (dg x).length := by
  rcases Nat.lt_or_ge (dg x).length (dg y).length with h1 | h1
  · have := dg_length_lt h1
    omega
  · exact h1
theorem DSub_f {x y k : Nat} (hx : x < T ^ 250) (hy : y ≤ x) (hk : 1000 ≤ k) : isohyetref01_Sub.f k (dg x) (dg y) = some (dg (x - y)) := by
  have l1 := length_dg_le hx
  have h := DSub_l0 (dg x) (dg y) (Dok_dg _) (Dok_dg _) (by omega) (dg_length_mono hy) (by rw [dv_dg, dv_dg]; exact hy) 300 (by omega) (dg x).length 0 k 0 [] (by omega) (by omega) rfl Dok.nil (by omega) (by simp [dv])
  rw [dv_dg, dv_dg] at h
  exact h

/-! ### Is -/
theorem Is_f2 {n m k : Nat} (hn : n < B ^ m) (hm : m ≤ 90) (hv' : n < T ^ 250) (hk : 9000 ≤ k) : isohyetlaw01_Is.f k (ofNat n) (dg n) = some true := by
  have l1 := length_ofNat_le hn
  have hv : val (ofNat n) < T ^ 250 := by rw [val_ofNat]; exact hv'
  have hd := Digits_f (k := k) (Ok_ofNat n) (by omega) hv hk
  rw [val_ofNat] at hd hv
  unfold isohyetlaw01_Is.f
  rw [hd, Option.bind_some, DCmp_f hv hv (by omega), Option.bind_some, cmpN_self]
  by_cases h0 : ((ofNat n).length : Int) = 0
  · rw [if_pos h0]
    rfl
  · rw [if_neg h0]
    have hn0 : n ≠ 0 := fun h => h0 (by rw [h, ofNat_zero]; rfl)
    have e : wrap64 (((ofNat n).length : Int) - 1) = (((ofNat n).length - 1 : Nat) : Int) := by rw [w64 (by omega) (by omega)]; omega
    rw [e, if_pos (by omega), if_pos (by omega), rd_cast (ofNat n), if_neg (ofNat_last hn0)]
    rfl
theorem Is_f {n k : Nat} (hn : n < B ^ 10) (hk : 9000 ≤ k) : isohyetlaw01_Is.f k (ofNat n) (dg n) = some true := by
  have hT : B ^ 10 < T ^ 250 := by decide
  exact Is_f2 hn (by omega) (Nat.lt_trans hn hT) hk
end Go.Proofs.YtfkpbdapinpkdaaDoor.Mg
