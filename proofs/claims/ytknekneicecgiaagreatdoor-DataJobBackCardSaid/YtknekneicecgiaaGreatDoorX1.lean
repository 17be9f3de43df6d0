/- Magnitudes as lists of words: their values, and the words of a number. No program in sight. What the functions of package mag come to, as numbers: right, Cmp, Of, Len, Add, Sub, Mul. What mag.Mul, Len, Up and Down come to, as numbers. -/
import Derived.Test.YtknekneicecgiaaGreatDoorA1
namespace Go.Proofs.YtknekneicecgiaaGreatDoor.Mg

/-- Two to the power of 64. -/
def B : Nat := 18446744073709551616
theorem B_pos : 0 < B := by decide
/-- The number that words tell, the lowest first. -/
def val : List Int → Nat
  | [] => 0
  | x :: xs => x.toNat + B * val xs
/-- Each is a word. -/
def Ok (l : List Int) : Prop := ∀ x ∈ l, 0 ≤ x ∧ x < 18446744073709551616
theorem Ok.nil : Ok [] := fun x h => by cases h
theorem Ok.cons {x : Int} {xs : List Int} (h : 0 ≤ x ∧ x < 18446744073709551616) (hs : Ok xs) : Ok (x :: xs) := by
  intro y hy
  rcases List.mem_cons.1 hy with rfl | hy
  · exact h
  · exact hs y hy
theorem Ok.head {x : Int} {xs : List Int} (h : Ok (x :: xs)) : 0 ≤ x ∧ x < 18446744073709551616 := h x List.mem_cons_self
theorem Ok.tail {x : Int} {xs : List Int} (h : Ok (x :: xs)) : Ok xs := fun y hy => h y (List.mem_cons_of_mem _ hy)
theorem Ok.append {xs ys : List Int} (h : Ok xs) (k : Ok ys) : Ok (xs ++ ys) := by
  intro y hy
  rcases List.mem_append.1 hy with hy | hy
  · exact h y hy
  · exact k y hy
theorem Ok.take {xs : List Int} (h : Ok xs) (n : Nat) : Ok (xs.take n) := fun y hy => h y (List.mem_of_mem_take hy)
theorem Ok.drop {xs : List Int} (h : Ok xs) (n : Nat) : Ok (xs.drop n) := fun y hy => h y (List.mem_of_mem_drop hy)
theorem Ok.set {xs : List Int} (h : Ok xs) (n : Nat) {y : Int} (hy : 0 ≤ y ∧ y < 18446744073709551616) : Ok (xs.set n y) := by
  intro z hz
  rcases List.mem_or_eq_of_mem_set hz with hz | rfl
  · exact h z hz
  · exact hy
theorem Ok.replicate (n : Nat) : Ok (List.replicate n 0) := by
  intro z hz
  have := List.eq_of_mem_replicate hz
  omega
theorem Ok.getD {xs : List Int} (h : Ok xs) (n : Nat) : 0 ≤ xs.getD n 0 ∧ xs.getD n 0 < 18446744073709551616 := by
  rw [List.getD_eq_getElem?_getD]
  cases hx : xs[n]? with
  | none => simp
  | some y => exact h y (List.mem_of_getElem? hx)

theorem val_append (xs ys : List Int) : val (xs ++ ys) = val xs + B ^ xs.length * val ys := by
  induction xs with
  | nil => simp [val]
  | cons x xs ih =>
    simp only [List.cons_append, val, ih, List.length_cons, Nat.pow_succ]
    rw [Nat.mul_add, ← Nat.mul_assoc, Nat.mul_comm B (B ^ xs.length)]
    omega
theorem val_lt {xs : List Int} (h : Ok xs) : val xs < B ^ xs.length := by
  induction xs with
  | nil => simp [val]
  | cons x xs ih =>
    have h1 := ih h.tail
    have h2 := h.head
    simp only [val, List.length_cons, Nat.pow_succ]
    have h3 : x.toNat < B := by unfold B; omega
    have h4 : B * (val xs + 1) ≤ B * B ^ xs.length := Nat.mul_le_mul_left B h1
    rw [Nat.mul_comm (B ^ xs.length) B]
    rw [Nat.mul_add] at h4
    omega
theorem val_replicate (n : Nat) : val (List.replicate n 0) = 0 := by
  induction n with
  | zero => rfl
  | succ n ih => simp [List.replicate_succ, val, ih]
theorem val_take_drop (xs : List Int) (n : Nat) (hn : n ≤ xs.length) : val xs = val (xs.take n) + B ^ n * val (xs.drop n) := by
  have := val_append (xs.take n) (xs.drop n)
  rw [List.take_append_drop, List.length_take, Nat.min_eq_left hn] at this
  exact this
theorem val_getD (xs : List Int) (n : Nat) (hn : n < xs.length) : val xs = val (xs.take n) + B ^ n * ((xs.getD n 0).toNat + B * val (xs.drop (n + 1))) := by
  rw [val_take_drop xs n (by omega), List.drop_eq_getElem_cons hn]
  simp only [val, List.getD_eq_getElem?_getD, List.getElem?_eq_getElem hn, Option.getD_some]
theorem val_set (xs : List Int) (n : Nat) (y : Int) (hn : n < xs.length) : val (xs.set n y) = val (xs.take n) + B ^ n * (y.toNat + B * val (xs.drop (n + 1))) := by
  rw [val_getD (xs.set n y) n (by simpa using hn), List.take_set_of_le (Nat.le_refl _), List.drop_set_of_lt (by omega)]
  simp [List.getD_eq_getElem?_getD, hn]

/-- A number's words. -/
def ofNat (n : Nat) : List Int := if _h : n = 0 then [] else ((n % B : Nat) : Int) :: ofNat (n / B)
termination_by n
decreasing_by exact Nat.div_lt_self (Nat.pos_of_ne_zero _h) (by decide)
theorem ofNat_zero : ofNat 0 = [] := by rw [ofNat]; simp
theorem ofNat_pos {n : Nat} (h : n ≠ 0) : ofNat n = ((n % B : Nat) : Int) :: ofNat (n / B) := by rw [ofNat]; simp [h]
theorem val_ofNat (n : Nat) : val (ofNat n) = n := by
  induction n using Nat.strongRecOn with
  | _ n ih =>
    by_cases h : n = 0
    · subst h; rw [ofNat_zero]; rfl
    · rw [ofNat_pos h, val, ih _ (Nat.div_lt_self (Nat.pos_of_ne_zero h) (by decide)), Int.toNat_natCast]
      exact Nat.mod_add_div n B
theorem Ok_ofNat (n : Nat) : Ok (ofNat n) := by
  induction n using Nat.strongRecOn with
  | _ n ih =>
    by_cases h : n = 0
    · subst h; rw [ofNat_zero]; exact Ok.nil
    · rw [ofNat_pos h]
      refine Ok.cons ?_ (ih _ (Nat.div_lt_self (Nat.pos_of_ne_zero h) (by decide)))
      have := Nat.mod_lt n B_pos
      unfold B at this ⊢
      omega
theorem ofNat_eq_nil {n : Nat} : ofNat n = [] ↔ n = 0 := by
  constructor
  · intro h
    have := val_ofNat n
    rw [h] at this
    exact this.symm
  · rintro rfl; exact ofNat_zero
theorem ofNat_last {n : Nat} (h : n ≠ 0) : (ofNat n).getD ((ofNat n).length - 1) 0 ≠ 0 := by
  induction n using Nat.strongRecOn with
  | _ n ih =>
    rw [ofNat_pos h]
    by_cases h1 : n / B = 0
    · rw [h1, ofNat_zero]
      have : n < B := by
        rcases Nat.lt_or_ge n B with h2 | h2
        · exact h2
        · have := Nat.div_pos h2 B_pos; omega
      simp only [List.length_singleton]
      rw [Nat.mod_eq_of_lt this]
      simp
      omega
    · have h2 := ih _ (Nat.div_lt_self (Nat.pos_of_ne_zero h) (by decide)) h1
      have h3 : (ofNat (n / B)).length ≠ 0 := by
        intro e
        exact h1 (ofNat_eq_nil.1 (List.eq_nil_of_length_eq_zero e))
      rw [show (((n % B : Nat) : Int) :: ofNat (n / B)).length - 1 = ((ofNat (n / B)).length - 1) + 1 from by simp; omega]
      simpa using h2
theorem ofNat_val_of_last {l : List Int} (h : Ok l) (hl : l = [] ∨ l.getD (l.length - 1) 0 ≠ 0) : ofNat (val l) = l := by
  induction l with
  | nil => exact ofNat_zero
  | cons x xs ih =>
    have hx := h.head
    have hne : val (x :: xs) ≠ 0 := by
      intro e
      rcases hl with hl | hl
      · cases hl
      · apply hl
        have key : ∀ (l : List Int) (n : Nat), Ok l → val l = 0 → l.getD n 0 = 0 := by
          intro l
          induction l with
          | nil => intro n _ _; simp
          | cons y ys ih2 =>
            intro n hok hv
            simp only [val] at hv
            have hy := hok.head
            cases n with
            | zero => simp; omega
            | succ n =>
              have := ih2 n hok.tail (by
                have : B * val ys = 0 := by omega
                rcases Nat.mul_eq_zero.1 this with h | h
                · exact absurd h (by decide)
                · exact h)
              simpa using this
        exact key _ _ h e
    rw [ofNat_pos hne]
    have e1 : (x.toNat + B * val xs) % B = x.toNat := by rw [Nat.add_mul_mod_self_left, Nat.mod_eq_of_lt (by unfold B; omega)]
    have e2 : (x.toNat + B * val xs) / B = val xs := by rw [Nat.add_mul_div_left _ _ B_pos, Nat.div_eq_of_lt (by unfold B; omega)]; omega
    simp only [val, e1, e2]
    rw [ih h.tail ?_]
    · congr 1; omega
    · cases xs with
      | nil => exact .inl rfl
      | cons y ys =>
        right
        rcases hl with hl | hl
        · cases hl
        · simpa using hl
theorem length_ofNat_le {n m : Nat} (h : n < B ^ m) : (ofNat n).length ≤ m := by
  induction m generalizing n with
  | zero => 
    have : n = 0 := by simpa using h
    subst this; rw [ofNat_zero]; simp
  | succ m ih =>
    by_cases h0 : n = 0
    · subst h0; rw [ofNat_zero]; simp
    · rw [ofNat_pos h0, List.length_cons]
      have := ih (n := n / B) (by
        rw [Nat.div_lt_iff_lt_mul B_pos]
        rw [Nat.pow_succ] at h
        exact h)
      omega
theorem lt_pow_length_ofNat (n : Nat) : n < B ^ (ofNat n).length := by
  have := val_lt (Ok_ofNat n)
  rwa [val_ofNat] at this
theorem pow_length_ofNat_le {n : Nat} (h : n ≠ 0) : B ^ ((ofNat n).length - 1) ≤ n := by
  rcases Nat.lt_or_ge n (B ^ ((ofNat n).length - 1)) with h1 | h1
  · have h2 := length_ofNat_le h1
    have h3 : (ofNat n).length ≠ 0 := fun e => h (ofNat_eq_nil.1 (List.eq_nil_of_length_eq_zero e))
    omega
  · exact h1
theorem ofNat_small {n : Nat} (h0 : n ≠ 0) (h : n < B) : ofNat n = [(n : Int)] := by
  rw [ofNat_pos h0, Nat.mod_eq_of_lt h, Nat.div_eq_of_lt h, ofNat_zero]
end Go.Proofs.YtknekneicecgiaaGreatDoor.Mg
namespace Go.Proofs.YtknekneicecgiaaGreatDoor.Mg
open Go.RowKit Go.Proofs.YtknekneicecgiaaGreatDoorW.PrintWords Go.Proofs.YtknekneicecgiaaGreatDoorW.PrintMore Go.Proofs.YtknekneicecgiaaGreatDoor.MB Go.Proofs.YtknekneicecgiaaGreatDoor.M
set_option linter.unusedVariables false
set_option linter.unusedSimpArgs false

/-- How long a magnitude may be here. -/
def LEN : Nat := 1099511627776
theorem w64 {x : Int} (h0 : -9223372036854775808 ≤ x) (h1 : x ≤ 9223372036854775807) : wrap64 x = x := by
  unfold wrap64; omega
theorem rd_cast (l : List Int) (i : Nat) : rd l (i : Int) = l.getD i 0 := by simp [rd]
theorem val_take_succ (l : List Int) (i : Nat) : val (l.take (i + 1)) = val (l.take i) + B ^ i * (l.getD i 0).toNat := by
  by_cases h : i < l.length
  · have e : l.take (i + 1) = l.take i ++ [l.getD i 0] := by
      rw [List.take_succ_eq_append_getElem h]
      simp [List.getD_eq_getElem?_getD, h]
    rw [e, val_append, List.length_take, Nat.min_eq_left (by omega)]
    simp [val]
  · rw [List.take_of_length_le (by omega), List.take_of_length_le (by omega)]
    simp [List.getD_eq_getElem?_getD, List.getElem?_eq_none (Nat.le_of_not_lt h)]
theorem val_set_take_succ (l : List Int) (i : Nat) (y : Int) (h : i < l.length) : val ((l.set i y).take (i + 1)) = val (l.take i) + B ^ i * y.toNat := by
  rw [val_take_succ, List.take_set_of_le (Nat.le_refl _)]
  simp [List.getD_eq_getElem?_getD, h]
theorem addS_addC (x y c : Int) : (addS x y c).toNat + B * (addC x y c).toNat = x.toNat + y.toNat + c.toNat := by
  unfold addS addC B
  omega
theorem addS_ok (x y c : Int) : 0 ≤ addS x y c ∧ addS x y c < 18446744073709551616 := by unfold addS; omega
theorem addC_ok {x y c : Int} (hx : x < 18446744073709551616) (hy : y < 18446744073709551616) (hc : c ≤ 1) : 0 ≤ addC x y c ∧ addC x y c ≤ 1 := by unfold addC; omega
/-! ### right -/
theorem right_l0 : ∀ (n : Nat) (l : List Int) (k : Nat), l.length = n → n ≤ 4611686018427387904 → n < k → Ok l → mag_right.l0 k l = some (ofNat (val l)) := by
  intro n
  induction n with
  | zero =>
    intro l k hl _ hk _
    obtain ⟨k, rfl⟩ : ∃ m, k = m + 1 := ⟨k - 1, by omega⟩
    obtain rfl := List.eq_nil_of_length_eq_zero hl
    simp only [mag_right.l0]
    rw [if_neg (by simp)]
    simp [val, ofNat_zero]
  | succ n ih =>
    intro l k hl hm hk hok
    obtain ⟨k, rfl⟩ : ∃ m, k = m + 1 := ⟨k - 1, by omega⟩
    simp only [mag_right.l0]
    have e1 : wrap64 ((l.length : Int) - 1) = ((l.length - 1 : Nat) : Int) := by rw [w64 (by omega) (by omega)]; omega
    rw [if_pos (by omega), e1, if_pos (by omega), if_pos (by omega), rd_cast]
    by_cases hz : l.getD (l.length - 1) 0 = 0
    · rw [if_pos hz, if_pos (by omega), Int.toNat_natCast, ih (l.take (l.length - 1)) k (by rw [List.length_take]; omega) (by omega) (by omega) (hok.take _)]
      have := val_take_succ l (l.length - 1)
      rw [show l.length - 1 + 1 = l.length from by omega, List.take_length, hz] at this
      simp at this
      rw [this]
    · rw [if_neg hz, ofNat_val_of_last hok (.inr hz)]
theorem right_f {l : List Int} {k : Nat} (hl : l.length ≤ 4611686018427387904) (hk : l.length < k) (hok : Ok l) : mag_right.f k l = some (ofNat (val l)) := right_l0 _ l k rfl hl hk hok

/-! ### Of -/
theorem Of_f {k : Nat} {x : Int} (h0 : 0 ≤ x) (h1 : x < 18446744073709551616) (hk : 1 < k) : mag_Of.f k x = some (ofNat x.toNat) := by
  unfold mag_Of.f
  rw [right_f (by simp) (by simpa using hk) (Ok.cons ⟨h0, h1⟩ Ok.nil)]
  simp [val]

/-! ### Cmp -/
/-- Less, the same, more. -/
def cmpN (x y : Nat) : Int := if x < y then -1 else if x = y then 0 else 1
theorem val_lt_of_top {a b : List Int} {i : Nat} (ha : Ok a) (h : val (a.drop (i + 1)) = val (b.drop (i + 1))) (hx : (a.getD i 0).toNat < (b.getD i 0).toNat) (hia : i < a.length) (hib : i < b.length) : val a < val b := by
  rw [val_getD a i hia, val_getD b i hib, h]
  have h1 := val_lt (ha.take i)
  rw [List.length_take, Nat.min_eq_left (by omega)] at h1
  have h2 : B ^ i * ((a.getD i 0).toNat + B * val (b.drop (i + 1)) + 1) ≤ B ^ i * ((b.getD i 0).toNat + B * val (b.drop (i + 1))) := Nat.mul_le_mul_left _ (by omega)
  rw [Nat.mul_add, Nat.mul_one] at h2
  omega
theorem Cmp_l0 (a b : List Int) (ha : Ok a) (hb : Ok b) (hab : a.length = b.length) (hm : a.length ≤ 4611686018427387904) : ∀ (n k : Nat), n ≤ a.length → n < k → val (a.drop n) = val (b.drop n) →
    mag_Cmp.l0 k a b ((n : Int) - 1) = some (cmpN (val a) (val b)) := by
  intro n
  induction n with
  | zero =>
    intro k _ hk he
    obtain ⟨k, rfl⟩ : ∃ m, k = m + 1 := ⟨k - 1, by omega⟩
    simp only [mag_Cmp.l0]
    rw [if_neg (by omega)]
    simp only [List.drop_zero] at he
    simp [cmpN, he]
  | succ n ih =>
    intro k hn hk he
    obtain ⟨k, rfl⟩ : ∃ m, k = m + 1 := ⟨k - 1, by omega⟩
    simp only [mag_Cmp.l0]
    rw [show (((n + 1 : Nat) : Int) - 1) = (n : Int) from by omega, if_pos (by omega), if_pos (by omega), if_pos (by omega), if_pos (by omega), rd_cast, rd_cast, w64 (by omega) (by omega)]
    have h1 := ha.getD n
    have h2 := hb.getD n
    by_cases hq : a.getD n 0 = b.getD n 0
    · rw [if_pos hq, ih k (by omega) (by omega) ?_]
      rw [List.drop_eq_getElem_cons (by omega : n < a.length), List.drop_eq_getElem_cons (by omega : n < b.length)]
      simp only [val, he]
      have e1 : a.getD n 0 = a[n]'(by omega) := by simp [List.getD_eq_getElem?_getD, (by omega : n < a.length)]
      have e2 : b.getD n 0 = b[n]'(by omega) := by simp [List.getD_eq_getElem?_getD, (by omega : n < b.length)]
      rw [← e1, ← e2, hq]
    · rw [if_neg hq]
      by_cases hlt : a.getD n 0 < b.getD n 0
      · rw [if_pos hlt]
        have := val_lt_of_top ha he (by omega) (by omega) (by omega)
        simp [cmpN, this]
      · rw [if_neg hlt]
        have := val_lt_of_top hb he.symm (by omega) (by omega) (by omega)
        unfold cmpN
        rw [if_neg (by omega), if_neg (by omega)]
theorem ofNat_length_lt {m n : Nat} (h : (ofNat m).length < (ofNat n).length) : m < n := by
  by_cases hn : n = 0
  · subst hn; rw [ofNat_zero] at h; simp at h
  · have h1 := pow_length_ofNat_le hn
    have h2 := lt_pow_length_ofNat m
    have h3 : B ^ (ofNat m).length ≤ B ^ ((ofNat n).length - 1) := Nat.pow_le_pow_right B_pos (by omega)
    omega
theorem length_ofNat_val {l : List Int} (h : Ok l) : (ofNat (val l)).length ≤ l.length := length_ofNat_le (val_lt h)
theorem Cmp_f {a b : List Int} {k : Nat} (ha : Ok a) (hb : Ok b) (hla : a.length ≤ LEN) (hlb : b.length ≤ LEN) (hk : a.length + b.length < k) : mag_Cmp.f k a b = some (cmpN (val a) (val b)) := by
  unfold LEN at hla hlb
  unfold mag_Cmp.f
  rw [right_f (by omega) (by omega) ha, right_f (by omega) (by omega) hb]
  simp only [Option.bind_some]
  have l1 := length_ofNat_val ha
  have l2 := length_ofNat_val hb
  by_cases he : ((ofNat (val a)).length : Int) = ((ofNat (val b)).length : Int)
  · rw [if_pos he, w64 (by omega) (by omega), Cmp_l0 _ _ (Ok_ofNat _) (Ok_ofNat _) (by omega) (by omega) _ k (Nat.le_refl _) (by omega) ?_, val_ofNat, val_ofNat]
    rw [List.drop_length, List.drop_of_length_le (by omega)]
  · rw [if_neg he]
    by_cases hlt : ((ofNat (val a)).length : Int) < ((ofNat (val b)).length : Int)
    · rw [if_pos hlt]
      have := ofNat_length_lt (by omega : (ofNat (val a)).length < (ofNat (val b)).length)
      simp [cmpN, this]
    · rw [if_neg hlt]
      have := ofNat_length_lt (by omega : (ofNat (val b)).length < (ofNat (val a)).length)
      unfold cmpN
      rw [if_neg (by omega), if_neg (by omega)]

end Go.Proofs.YtknekneicecgiaaGreatDoor.Mg
namespace Go.Proofs.YtknekneicecgiaaGreatDoor.Mg
open Go.RowKit Go.Proofs.YtknekneicecgiaaGreatDoorW.PrintWords Go.Proofs.YtknekneicecgiaaGreatDoorW.PrintMore Go.Proofs.YtknekneicecgiaaGreatDoor.MB Go.Proofs.YtknekneicecgiaaGreatDoor.M
set_option linter.unusedVariables false
set_option linter.unusedSimpArgs false

theorem wu64 {x : Int} (h0 : 0 ≤ x) (h1 : x < 18446744073709551616) : IntKind.u64.wrap x = x := by
  simp only [IntKind.wrap, IntKind.signed, IntKind.bits]
  simp
  omega
theorem val_set_add (l : List Int) (p : Nat) (y : Int) (h : p < l.length) : val (l.set p y) + B ^ p * (l.getD p 0).toNat = val l + B ^ p * y.toNat := by
  rw [val_set l p y h, val_getD l p h]
  simp only [Nat.mul_add]
  omega
theorem getD_set_ne (l : List Int) {p m : Nat} (y : Int) (h : p ≠ m) : (l.set p y).getD m 0 = l.getD m 0 := by
  simp [List.getD_eq_getElem?_getD, List.getElem?_set_ne h]
theorem mul64_f {x y : Int} (hx : 0 ≤ x ∧ x < 18446744073709551616) (hy : 0 ≤ y ∧ y < 18446744073709551616) : ∃ h l : Nat, bits_Mul64.f x y = some ((h : Int), (l : Int)) ∧ 18446744073709551616 * h + l = x.toNat * y.toNat ∧ l < 18446744073709551616 := by
  refine ⟨x.toNat * y.toNat / 18446744073709551616, x.toNat * y.toNat % 18446744073709551616, ?_, Nat.div_add_mod _ _, Nat.mod_lt _ (by decide)⟩
  unfold bits_Mul64.f
  rw [if_pos ⟨⟨hx.1, by omega⟩, hy.1, by omega⟩]

theorem mul_step (P s carry x y c o v v' S bt Bi Bj : Nat) (h1 : s + B * carry = x * y + c + o) (h2 : v' + P * o = v + P * s) (h3 : v + P * c = S + x * Bi * bt) (hP : P = Bi * Bj) : v' + P * B * carry = S + x * Bi * (bt + Bj * y) := by
  have e : P * (s + B * carry) = P * (x * y + c + o) := by rw [h1]
  subst hP
  grind
theorem mul_end (P carry v v' S x Bi vb BL : Nat) (h2 : v' + P * 0 = v + P * carry) (h3 : v + P * carry = S + x * Bi * vb) (h4 : S = BL * vb) : v' = (BL + Bi * x) * vb := by
  grind
theorem mul_high {x y h : Nat} (hx : x ≤ 18446744073709551615) (hy : y ≤ 18446744073709551615) (hq : 18446744073709551616 * h ≤ x * y) : h ≤ 18446744073709551614 := by
  have h1 : x * y ≤ 18446744073709551615 * y := Nat.mul_le_mul_right y hx
  omega
theorem mul_low {x y h l : Nat} (hx : x ≤ 18446744073709551615) (hy : y ≤ 18446744073709551615) (hq : 18446744073709551616 * h + l = x * y) : h = 18446744073709551614 → l ≤ 1 := by
  intro e
  have h1 : x * y ≤ 18446744073709551615 * y := Nat.mul_le_mul_right y hx
  rw [e] at hq
  omega
theorem carry_lt {h l : Nat} {c o s1 c1 s2 c2 : Int} (hlo : h = 18446744073709551614 → l ≤ 1) (hh : h ≤ 18446744073709551614) (hl : l < 18446744073709551616) (hc : 0 ≤ c ∧ c < 18446744073709551616) (ho : 0 ≤ o ∧ o < 18446744073709551616) (b1 : 0 ≤ c1 ∧ c1 ≤ 1)
    (b2 : 0 ≤ s1 ∧ s1 < 18446744073709551616) (b3 : 0 ≤ c2 ∧ c2 ≤ 1) (b4 : 0 ≤ s2 ∧ s2 < 18446744073709551616) (a1 : s1.toNat + 18446744073709551616 * c1.toNat = (l : Int).toNat + c.toNat + Int.toNat 0) (a2 : s2.toNat + 18446744073709551616 * c2.toNat = o.toNat + s1.toNat + Int.toNat 0) :
    (h : Int) + c1 + c2 < 18446744073709551616 := by
  by_cases e : h = 18446744073709551614
  · have := hlo e
    omega
  · omega
/-- One step of the product: two words and two carries. -/
theorem mul_words {x y c o : Int} {h l : Nat} (hx : 0 ≤ x ∧ x < 18446744073709551616) (hy : 0 ≤ y ∧ y < 18446744073709551616) (hc : 0 ≤ c ∧ c < 18446744073709551616) (ho : 0 ≤ o ∧ o < 18446744073709551616)
    (hq : 18446744073709551616 * h + l = x.toNat * y.toNat) (hl : l < 18446744073709551616) :
    ∃ carry : Int, (0 ≤ carry ∧ carry < 18446744073709551616) ∧ IntKind.u64.wrap (IntKind.u64.wrap ((h : Int) + addC (l : Int) c 0) + addC o (addS (l : Int) c 0) 0) = carry ∧
      (addS o (addS (l : Int) c 0) 0).toNat + B * carry.toNat = x.toNat * y.toNat + c.toNat + o.toNat := by
  have hh : h ≤ 18446744073709551614 := mul_high (x := x.toNat) (y := y.toNat) (by omega) (by omega) (by omega)
  have hlo := mul_low (x := x.toNat) (y := y.toNat) (by omega) (by omega) hq
  rw [← hq]
  have a1 := addS_addC (l : Int) c 0
  have a2 := addS_addC o (addS (l : Int) c 0) 0
  have b1 := addC_ok (x := (l : Int)) (y := c) (c := 0) (by omega) hc.2 (by omega)
  have b2 := addS_ok (l : Int) c 0
  have b3 := addC_ok (x := o) (y := addS (l : Int) c 0) (c := 0) ho.2 b2.2 (by omega)
  have b4 := addS_ok o (addS (l : Int) c 0) 0
  generalize addS o (addS (l : Int) c 0) 0 = s2 at *
  generalize addC o (addS (l : Int) c 0) 0 = c2 at *
  generalize addC (l : Int) c 0 = c1 at *
  generalize addS (l : Int) c 0 = s1 at *
  unfold B at a1 a2 ⊢
  clear hq
  refine ⟨(h : Int) + c1 + c2, ⟨by omega, ?_⟩, ?_, ?_⟩
  · exact carry_lt hlo hh hl hc ho b1 b2 b3 b4 a1 a2
  · rw [wu64 (x := (h : Int) + c1) (by omega) (by omega), wu64 (by omega) (carry_lt hlo hh hl hc ho b1 b2 b3 b4 a1 a2)]
  · omega

/-! ### Len -/
/-- How many bits. -/
def bitsN (n : Nat) : Nat := if n = 0 then 0 else Nat.log2 n + 1
theorem bitLenAux_eq : ∀ (f x : Nat), x < 2 ^ f → Lib.bitLenAux f x = bitsN x := by
  intro f
  induction f with
  | zero =>
    intro x hx
    obtain rfl : x = 0 := by simpa using hx
    rfl
  | succ f ih =>
    intro x hx
    unfold Lib.bitLenAux
    by_cases h : x = 0
    · subst h; rfl
    · rw [if_neg h, ih (x / 2) (by rw [Nat.pow_succ] at hx; omega)]
      unfold bitsN
      rw [if_neg h]
      by_cases h2 : x / 2 = 0
      · rw [if_pos h2]
        have : x = 1 := by omega
        subst this
        rfl
      · rw [if_neg h2, Nat.log2_def x, if_pos (by omega)]
        omega
theorem bitLen_eq {x : Nat} (h : x < 18446744073709551616) : Lib.bitLen x = bitsN x := by
  unfold Lib.bitLen
  exact bitLenAux_eq 64 x (by omega)
theorem bitsN_le {n m : Nat} (h : n < 2 ^ m) : bitsN n ≤ m := by
  unfold bitsN
  split
  · omega
  · rename_i h0
    have := (Nat.log2_lt h0).2 h
    omega
theorem bitsN_lt (n : Nat) : n < 2 ^ bitsN n := by
  unfold bitsN
  split
  · rename_i h; subst h; simp
  · exact Nat.lt_log2_self
theorem bitsN_ge {n : Nat} (h : n ≠ 0) : 2 ^ (bitsN n - 1) ≤ n := by
  unfold bitsN
  rw [if_neg h, Nat.add_sub_cancel]
  exact Nat.log2_self_le h
theorem bitsN_unique {n m : Nat} (h0 : 2 ^ m ≤ n) (h1 : n < 2 ^ (m + 1)) : bitsN n = m + 1 := by
  have hn : n ≠ 0 := by have := Nat.two_pow_pos m; omega
  have h2 := bitsN_le h1
  have h3 := bitsN_lt n
  rcases Nat.lt_or_ge (bitsN n) (m + 1) with h | h
  · have : 2 ^ bitsN n ≤ 2 ^ m := Nat.pow_le_pow_right (by decide) (by omega)
    omega
  · omega
theorem B_two : B = 2 ^ 64 := by decide
theorem Len_f {a : List Int} {k : Nat} (ha : Ok a) (hla : a.length ≤ LEN) (hk : a.length < k) : mag_Len.f k a = some (bitsN (val a) : Int) := by
  have hla' := hla
  unfold LEN at hla'
  unfold mag_Len.f
  rw [right_f (by omega) hk ha]
  simp only [Option.bind_some]
  have l1 := length_ofNat_val ha
  by_cases h0 : val a = 0
  · rw [if_pos (by rw [h0, ofNat_zero]; rfl), h0]
    rfl
  · have hne : (ofNat (val a)).length ≠ 0 := fun e => h0 (ofNat_eq_nil.1 (List.eq_nil_of_length_eq_zero e))
    rw [if_neg (by omega)]
    obtain ⟨n, hn⟩ : ∃ n, (ofNat (val a)).length = n + 1 := ⟨(ofNat (val a)).length - 1, by omega⟩
    rw [w64 (x := ((ofNat (val a)).length : Int) - 1) (by omega) (by omega), hn, show (((n + 1 : Nat) : Int) - 1) = (n : Int) from by omega, if_pos (by omega), if_pos (by omega), rd_cast]
    have hw := (Ok_ofNat (val a)).getD n
    have htop := ofNat_last h0
    rw [hn, Nat.add_sub_cancel] at htop
    unfold bits_Len64.f
    rw [if_pos ⟨hw.1, by omega⟩]
    simp only [Option.bind_some]
    have hx : ((ofNat (val a)).getD n 0).toNat < 18446744073709551616 := by omega
    rw [bitLen_eq hx]
    have hb := bitsN_le (m := 64) (n := ((ofNat (val a)).getD n 0).toNat) (by omega)
    rw [w64 (x := 64 * (n : Int)) (by omega) (by omega), w64 (by omega) (by omega)]
    congr 1
    have hv := val_getD (ofNat (val a)) n (by omega)
    rw [val_ofNat, List.drop_of_length_le (by omega : (ofNat (val a)).length ≤ n + 1)] at hv
    simp only [val, Nat.mul_zero, Nat.add_zero] at hv
    have hlo := val_lt ((Ok_ofNat (val a)).take n)
    rw [List.length_take, Nat.min_eq_left (by omega)] at hlo
    generalize hxx : ((ofNat (val a)).getD n 0).toNat = x at *
    have hx0 : x ≠ 0 := by omega
    have hBn : B ^ n = 2 ^ (64 * n) := by rw [B_two, ← Nat.pow_mul]
    have e : bitsN (val a) = 64 * n + bitsN x := by
      obtain ⟨m, hm⟩ : ∃ m, bitsN x = m + 1 := ⟨bitsN x - 1, by unfold bitsN; rw [if_neg hx0]; omega⟩
      have g1 := bitsN_ge hx0
      have g2 := bitsN_lt x
      rw [hm, Nat.add_sub_cancel] at g1
      rw [hm] at g2 ⊢
      rw [show 64 * n + (m + 1) = (64 * n + m) + 1 from by omega]
      apply bitsN_unique
      · rw [Nat.pow_add, ← hBn, hv]
        have := Nat.mul_le_mul_left (B ^ n) g1
        omega
      · rw [show 64 * n + m + 1 = 64 * n + (m + 1) from by omega, Nat.pow_add, ← hBn, hv]
        have : B ^ n * (x + 1) ≤ B ^ n * 2 ^ (m + 1) := Nat.mul_le_mul_left (B ^ n) g2
        rw [Nat.mul_add] at this
        omega
    rw [e]
    omega
end Go.Proofs.YtknekneicecgiaaGreatDoor.Mg
