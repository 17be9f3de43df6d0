/- Numbers as lists of decimal digits: their values, and the digits of a number. No program in sight. The document's decimal digits as numbers: trim, Add, Digits, Cmp, Sub; 'Is': a number's digits are those that its words have. The document's product of decimal digits, as numbers. -/
import Derived.Test.YtpgmhhkkbjbpgaaX2
import Derived.Test.YtpgmhhkkbjbpgaaR1
import Derived.Test.YtpgmhhkkbjbpgaaR3
import Derived.Laws.BitsLemmas
import Derived.Laws.Bits64b
import Derived.Test.YtpgmhhkkbjbpgaaR2
namespace Go.Proofs.Ytpgmhhkkbjbpgaa.Mg

/-- Ten. -/
def T : Nat := 10
theorem T_pos : 0 < T := by decide
theorem T_eq : T = 10 := rfl

/-- The number that digits tell, the lowest first. -/
def dv : List Int → Nat
  | [] => 0
  | x :: xs => x.toNat + T * dv xs
/-- Each is a digit. -/
def Dok (l : List Int) : Prop := ∀ x ∈ l, 0 ≤ x ∧ x < 10
theorem Dok.nil : Dok [] := fun x h => by cases h
theorem Dok.cons {x : Int} {xs : List Int} (h : 0 ≤ x ∧ x < 10) (hs : Dok xs) : Dok (x :: xs) := by
  intro y hy
  rcases List.mem_cons.1 hy with rfl | hy
  · exact h
  · exact hs y hy
theorem Dok.head {x : Int} {xs : List Int} (h : Dok (x :: xs)) : 0 ≤ x ∧ x < 10 := h x List.mem_cons_self
theorem Dok.tail {x : Int} {xs : List Int} (h : Dok (x :: xs)) : Dok xs := fun y hy => h y (List.mem_cons_of_mem _ hy)
theorem Dok.append {xs ys : List Int} (h : Dok xs) (k : Dok ys) : Dok (xs ++ ys) := by
  intro y hy
  rcases List.mem_append.1 hy with hy | hy
  · exact h y hy
  · exact k y hy
theorem Dok.take {xs : List Int} (h : Dok xs) (n : Nat) : Dok (xs.take n) := fun y hy => h y (List.mem_of_mem_take hy)
theorem Dok.drop {xs : List Int} (h : Dok xs) (n : Nat) : Dok (xs.drop n) := fun y hy => h y (List.mem_of_mem_drop hy)
theorem Dok.set {xs : List Int} (h : Dok xs) (n : Nat) {y : Int} (hy : 0 ≤ y ∧ y < 10) : Dok (xs.set n y) := by
  intro z hz
  rcases List.mem_or_eq_of_mem_set hz with hz | rfl
  · exact h z hz
  · exact hy
theorem Dok.replicate (n : Nat) : Dok (List.replicate n 0) := by
  intro z hz
  have := List.eq_of_mem_replicate hz
  omega
theorem Dok.getD {xs : List Int} (h : Dok xs) (n : Nat) : 0 ≤ xs.getD n 0 ∧ xs.getD n 0 < 10 := by
  rw [List.getD_eq_getElem?_getD]
  cases hx : xs[n]? with
  | none => simp
  | some y => exact h y (List.mem_of_getElem? hx)

theorem dv_append (xs ys : List Int) : dv (xs ++ ys) = dv xs + T ^ xs.length * dv ys := by
  induction xs with
  | nil => simp [dv]
  | cons x xs ih =>
    simp only [List.cons_append, dv, ih, List.length_cons, Nat.pow_succ]
    rw [Nat.mul_add, ← Nat.mul_assoc, Nat.mul_comm T (T ^ xs.length)]
    omega
theorem dv_lt {xs : List Int} (h : Dok xs) : dv xs < T ^ xs.length := by
  induction xs with
  | nil => simp [dv]
  | cons x xs ih =>
    have h1 := ih h.tail
    have h2 := h.head
    simp only [dv, List.length_cons, Nat.pow_succ]
    have h3 : x.toNat < T := by unfold T; omega
    have h4 : T * (dv xs + 1) ≤ T * T ^ xs.length := Nat.mul_le_mul_left T h1
    rw [Nat.mul_comm (T ^ xs.length) T]
    rw [Nat.mul_add] at h4
    omega
theorem dv_replicate (n : Nat) : dv (List.replicate n 0) = 0 := by
  induction n with
  | zero => rfl
  | succ n ih => simp [List.replicate_succ, dv, ih]
theorem dv_take_drop (xs : List Int) (n : Nat) (hn : n ≤ xs.length) : dv xs = dv (xs.take n) + T ^ n * dv (xs.drop n) := by
  have := dv_append (xs.take n) (xs.drop n)
  rw [List.take_append_drop, List.length_take, Nat.min_eq_left hn] at this
  exact this
theorem dv_getD (xs : List Int) (n : Nat) (hn : n < xs.length) : dv xs = dv (xs.take n) + T ^ n * ((xs.getD n 0).toNat + T * dv (xs.drop (n + 1))) := by
  rw [dv_take_drop xs n (by omega), List.drop_eq_getElem_cons hn]
  simp only [dv, List.getD_eq_getElem?_getD, List.getElem?_eq_getElem hn, Option.getD_some]
theorem dv_set (xs : List Int) (n : Nat) (y : Int) (hn : n < xs.length) : dv (xs.set n y) = dv (xs.take n) + T ^ n * (y.toNat + T * dv (xs.drop (n + 1))) := by
  rw [dv_getD (xs.set n y) n (by simpa using hn), List.take_set_of_le (Nat.le_refl _), List.drop_set_of_lt (by omega)]
  simp [List.getD_eq_getElem?_getD, hn]

/-- A number's digits. -/
def dg (n : Nat) : List Int := if _h : n = 0 then [] else ((n % T : Nat) : Int) :: dg (n / T)
termination_by n
decreasing_by exact Nat.div_lt_self (Nat.pos_of_ne_zero _h) (by decide)
theorem dg_zero : dg 0 = [] := by rw [dg]; simp
theorem dg_pos {n : Nat} (h : n ≠ 0) : dg n = ((n % T : Nat) : Int) :: dg (n / T) := by rw [dg]; simp [h]
theorem dv_dg (n : Nat) : dv (dg n) = n := by
  induction n using Nat.strongRecOn with
  | _ n ih =>
    by_cases h : n = 0
    · subst h; rw [dg_zero]; rfl
    · rw [dg_pos h, dv, ih _ (Nat.div_lt_self (Nat.pos_of_ne_zero h) (by decide)), Int.toNat_natCast]
      exact Nat.mod_add_div n T
theorem Dok_dg (n : Nat) : Dok (dg n) := by
  induction n using Nat.strongRecOn with
  | _ n ih =>
    by_cases h : n = 0
    · subst h; rw [dg_zero]; exact Dok.nil
    · rw [dg_pos h]
      refine Dok.cons ?_ (ih _ (Nat.div_lt_self (Nat.pos_of_ne_zero h) (by decide)))
      have := Nat.mod_lt n T_pos
      unfold T at this ⊢
      omega
theorem dg_eq_nil {n : Nat} : dg n = [] ↔ n = 0 := by
  constructor
  · intro h
    have := dv_dg n
    rw [h] at this
    exact this.symm
  · rintro rfl; exact dg_zero
theorem dg_last {n : Nat} (h : n ≠ 0) : (dg n).getD ((dg n).length - 1) 0 ≠ 0 := by
  induction n using Nat.strongRecOn with
  | _ n ih =>
    rw [dg_pos h]
    by_cases h1 : n / T = 0
    · rw [h1, dg_zero]
      have : n < T := by
        rcases Nat.lt_or_ge n T with h2 | h2
        · exact h2
        · have := Nat.div_pos h2 T_pos; omega
      simp only [List.length_singleton]
      rw [Nat.mod_eq_of_lt this]
      simp
      omega
    · have h2 := ih _ (Nat.div_lt_self (Nat.pos_of_ne_zero h) (by decide)) h1
      have h3 : (dg (n / T)).length ≠ 0 := by
        intro e
        exact h1 (dg_eq_nil.1 (List.eq_nil_of_length_eq_zero e))
      rw [show (((n % T : Nat) : Int) :: dg (n / T)).length - 1 = ((dg (n / T)).length - 1) + 1 from by simp; omega]
      simpa using h2
theorem dg_dv_of_last {l : List Int} (h : Dok l) (hl : l = [] ∨ l.getD (l.length - 1) 0 ≠ 0) : dg (dv l) = l := by
  induction l with
  | nil => exact dg_zero
  | cons x xs ih =>
    have hx := h.head
    have hne : dv (x :: xs) ≠ 0 := by
      intro e
      rcases hl with hl | hl
      · cases hl
      · apply hl
        have key : ∀ (l : List Int) (n : Nat), Dok l → dv l = 0 → l.getD n 0 = 0 := by
          intro l
          induction l with
          | nil => intro n _ _; simp
          | cons y ys ih2 =>
            intro n hok hv
            simp only [dv] at hv
            have hy := hok.head
            cases n with
            | zero => simp; omega
            | succ n =>
              have := ih2 n hok.tail (by
                have : T * dv ys = 0 := by omega
                rcases Nat.mul_eq_zero.1 this with h | h
                · exact absurd h (by decide)
                · exact h)
              simpa using this
        exact key _ _ h e
    rw [dg_pos hne]
    have e1 : (x.toNat + T * dv xs) % T = x.toNat := by rw [Nat.add_mul_mod_self_left, Nat.mod_eq_of_lt (by unfold T; omega)]
    have e2 : (x.toNat + T * dv xs) / T = dv xs := by rw [Nat.add_mul_div_left _ _ T_pos, Nat.div_eq_of_lt (by unfold T; omega)]; omega
    simp only [dv, e1, e2]
    rw [ih h.tail ?_]
    · congr 1; omega
    · cases xs with
      | nil => exact .inl rfl
      | cons y ys =>
        right
        rcases hl with hl | hl
        · cases hl
        · simpa using hl
theorem dv_inj_of_dg {l : List Int} {n : Nat} (h : dv l = n) (hok : Dok l) (hl : l = [] ∨ l.getD (l.length - 1) 0 ≠ 0) : l = dg n := by rw [← h, dg_dv_of_last hok hl]
theorem length_dg_le {n m : Nat} (h : n < T ^ m) : (dg n).length ≤ m := by
  induction m generalizing n with
  | zero => 
    have : n = 0 := by simpa using h
    subst this; rw [dg_zero]; simp
  | succ m ih =>
    by_cases h0 : n = 0
    · subst h0; rw [dg_zero]; simp
    · rw [dg_pos h0, List.length_cons]
      have := ih (n := n / T) (by
        rw [Nat.div_lt_iff_lt_mul T_pos]
        rw [Nat.pow_succ] at h
        exact h)
      omega
theorem lt_pow_length_dg (n : Nat) : n < T ^ (dg n).length := by
  have := dv_lt (Dok_dg n)
  rwa [dv_dg] at this
theorem pow_length_dg_le {n : Nat} (h : n ≠ 0) : T ^ ((dg n).length - 1) ≤ n := by
  rcases Nat.lt_or_ge n (T ^ ((dg n).length - 1)) with h1 | h1
  · have h2 := length_dg_le h1
    have h3 : (dg n).length ≠ 0 := fun e => h (dg_eq_nil.1 (List.eq_nil_of_length_eq_zero e))
    omega
  · exact h1
theorem dg_small {n : Nat} (h0 : n ≠ 0) (h : n < T) : dg n = [(n : Int)] := by
  rw [dg_pos h0, Nat.mod_eq_of_lt h, Nat.div_eq_of_lt h, dg_zero]
end Go.Proofs.Ytpgmhhkkbjbpgaa.Mg
namespace Go.Proofs.Ytpgmhhkkbjbpgaa.Mg
open Go.RowKit Go.Proofs.YtpgmhhkkbjbpgaaW.PrintWords Go.Proofs.YtpgmhhkkbjbpgaaW.PrintMore Go.Proofs.Ytpgmhhkkbjbpgaa.MB Go.Proofs.Ytpgmhhkkbjbpgaa.M
set_option linter.unusedVariables false
set_option linter.unusedSimpArgs false

theorem val_drop_cons (y : List Int) (i : Nat) (h : i < y.length) : val (y.drop i) = (y.getD i 0).toNat + B * val (y.drop (i + 1)) := by
  rw [List.drop_eq_getElem_cons h]
  simp [val, List.getD_eq_getElem?_getD, h]
theorem dv_take_succ (l : List Int) (i : Nat) : dv (l.take (i + 1)) = dv (l.take i) + T ^ i * (l.getD i 0).toNat := by
  by_cases h : i < l.length
  · have e : l.take (i + 1) = l.take i ++ [l.getD i 0] := by
      rw [List.take_succ_eq_append_getElem h]
      simp [List.getD_eq_getElem?_getD, h]
    rw [e, dv_append, List.length_take, Nat.min_eq_left (by omega)]
    simp [dv]
  · rw [List.take_of_length_le (by omega), List.take_of_length_le (by omega)]
    simp [List.getD_eq_getElem?_getD, List.getElem?_eq_none (Nat.le_of_not_lt h)]
theorem dv_snoc (l : List Int) (x : Nat) : dv (l ++ [(x : Int)]) = dv l + T ^ l.length * x := by
  rw [dv_append]
  simp [dv]
theorem tm10 (n : Nat) : Int.tmod (n : Int) 10 = ((n % 10 : Nat) : Int) := by
  rw [Int.tmod_eq_emod_of_nonneg (by omega)]
  omega
theorem td10 (n : Nat) : Int.tdiv (n : Int) 10 = ((n / 10 : Nat) : Int) := by
  rw [Int.tdiv_eq_ediv_of_nonneg (by omega)]
  omega
theorem getD_ge (l : List Int) {i : Nat} (h : l.length ≤ i) : l.getD i 0 = 0 := by simp [List.getD_eq_getElem?_getD, List.getElem?_eq_none h]
theorem getD_take_last (l : List Int) {n : Nat} (h : n < l.length) : (l.take (n + 1)).getD ((l.take (n + 1)).length - 1) 0 = l.getD n 0 := by
  rw [List.length_take, Nat.min_eq_left (by omega), Nat.add_sub_cancel, List.getD_eq_getElem?_getD, List.getD_eq_getElem?_getD, List.getElem?_take_of_lt (by omega)]

/-! ### trim -/
theorem trim_l0 (l : List Int) (hok : Dok l) (hm : l.length ≤ 1000000) : ∀ (n k : Nat), n ≤ l.length → n < k → dv l = dv (l.take n) → isohyetref01_trim.l0 k l (n : Int) = some (dg (dv l))
  | 0, k, hn, hk, he => by
    obtain ⟨k, rfl⟩ : ∃ m, k = m + 1 := ⟨k - 1, by omega⟩
    simp only [isohyetref01_trim.l0]
    rw [if_neg (by omega), if_pos (by omega), if_pos (by omega), he]
    simp [dv, dg_zero]
  | n + 1, k, hn, hk, he => by
    obtain ⟨k, rfl⟩ : ∃ m, k = m + 1 := ⟨k - 1, by omega⟩
    simp only [isohyetref01_trim.l0]
    have e1 : wrap64 (((n + 1 : Nat) : Int) - 1) = (n : Int) := by rw [w64 (by omega) (by omega)]; omega
    rw [if_pos (by omega), e1, if_pos (by omega), if_pos (by omega), rd_cast]
    by_cases h : l.getD n 0 = 0
    · rw [if_pos h]
      refine trim_l0 l hok hm n k (by omega) (by omega) ?_
      rw [he, dv_take_succ, h]
      simp
    · rw [if_neg h, if_pos (by omega), if_pos (by omega), Int.toNat_natCast, he, dg_dv_of_last (hok.take _) (.inr (by rw [getD_take_last l (by omega)]; exact h))]
theorem trim_f {l : List Int} {k : Nat} (hok : Dok l) (hm : l.length ≤ 1000000) (hk : l.length < k) : isohyetref01_trim.f k l = some (dg (dv l)) := trim_l0 l hok hm l.length k (Nat.le_refl _) hk (by rw [List.take_length])

/-! ### Add -/
theorem w10 {n : Nat} (h : n < 100) : wrap64 ((n / 10 : Nat) : Int) = ((n / 10 : Nat) : Int) := by rw [w64 (x := ((n / 10 : Nat) : Int)) (by omega) (by omega)]
theorem wadd {m n : Nat} (h : m + n < 1000000000) : wrap64 ((m : Int) + (n : Int)) = ((m + n : Nat) : Int) := by rw [w64 (x := (m : Int) + (n : Int)) (by omega) (by omega)]; omega
theorem wsucc {n : Nat} (h : n < 1000000000) : wrap64 ((n : Int) + 1) = ((n + 1 : Nat) : Int) := by rw [w64 (x := (n : Int) + 1) (by omega) (by omega)]; omega
theorem DAdd_step (a b out : List Int) {c i k : Nat} (ha : Dok a) (hb : Dok b) (hi : i ≤ 1000000) (hc : c ≤ 1) (ho : out.length = i) (h : i < a.length ∨ i < b.length ∨ c = 1) :
    isohyetref01_Add.l0 (k + 2) a b out (c : Int) (i : Int) = isohyetref01_Add.l0 k a b (out ++ [(((c + (a.getD i 0).toNat + (b.getD i 0).toNat) % 10 : Nat) : Int)]) (((c + (a.getD i 0).toNat + (b.getD i 0).toNat) / 10 : Nat) : Int) ((i + 1 : Nat) : Int) := by
  have h1 := ha.getD i
  have h2 := hb.getD i
  obtain ⟨x, ex⟩ : ∃ x : Nat, a.getD i 0 = (x : Int) := ⟨(a.getD i 0).toNat, by omega⟩
  obtain ⟨y, ey⟩ : ∃ y : Nat, b.getD i 0 = (y : Int) := ⟨(b.getD i 0).toNat, by omega⟩
  have gx : a.length ≤ i → x = 0 := fun h => by rw [getD_ge a h] at ex; omega
  have gy : b.length ≤ i → y = 0 := fun h => by rw [getD_ge b h] at ey; omega
  rw [ex] at h1
  rw [ey] at h2
  have hj : isohyetref01_Add.l0 (k + 2) a b out (c : Int) (i : Int) = isohyetref01_Add.j1 (k + 1) a b out (c : Int) (i : Int) true := by
    simp only [isohyetref01_Add.l0]
    by_cases q1 : (i : Int) < (a.length : Int)
    · rw [if_pos q1]
    · rw [if_neg q1]
      by_cases q2 : (i : Int) < (b.length : Int)
      · rw [if_pos q2]
      · have hc1 : (c : Int) > 0 := by omega
        rw [if_neg q2, decide_eq_true hc1]
  have n1 : c + x < 100 := by omega
  have n2 : c + y < 100 := by omega
  have n3 : c + x + y < 100 := by omega
  have n4 : c < 100 := by omega
  have o1 : out.length < 17592186044416 := by omega
  have p1 : (0 : Int) ≤ (i : Int) := by omega
  rw [hj]
  simp only [isohyetref01_Add.j1]
  rw [if_pos trivial, rd_cast a i, rd_cast b i, ex, ey, Int.toNat_natCast x, Int.toNat_natCast y, wadd (m := c) (n := x) (by omega), wadd (m := c) (n := y) (by omega), wadd (m := c + x) (n := y) (by omega), tm10, td10, tm10, td10, tm10, td10, tm10, td10, wsucc (by omega)]
  by_cases q1 : (i : Int) < (a.length : Int)
  · rw [if_pos q1, if_pos p1]
    by_cases q2 : (i : Int) < (b.length : Int)
    · rw [if_pos q2, if_pos o1, w10 n3]
    · rw [if_neg q2, if_pos o1, w10 n1, gy (by omega)]; simp only [Nat.add_zero]
  · rw [if_neg q1]
    by_cases q2 : (i : Int) < (b.length : Int)
    · rw [if_pos q2, if_pos p1, if_pos o1, w10 n2, gx (by omega)]; simp only [Nat.add_zero]
    · rw [if_neg q2, if_pos o1, w10 n4, gx (by omega), gy (by omega)]; simp only [Nat.add_zero]
theorem dadd_val {P T' c x y o va vb : Nat} (hT : T' = 10) (h : o + P * c = va + vb) : o + P * ((c + x + y) % 10) + P * T' * ((c + x + y) / 10) = va + P * x + (vb + P * y) := by
  have e := Nat.mod_add_div (c + x + y) 10
  generalize (c + x + y) % 10 = r at *
  generalize (c + x + y) / 10 = q at *
  subst hT
  have : P * (r + 10 * q) = P * (c + x + y) := by rw [e]
  grind
theorem DAdd_end (a b out : List Int) {i k : Nat} (ha : a.length ≤ i) (hb : b.length ≤ i) (ho : out.length = i) (hi : i ≤ 1000000) (hk : i + 2 < k) (hd : Dok out) (hv : dv out = dv a + dv b) : isohyetref01_Add.l0 k a b out ((0 : Nat) : Int) (i : Int) = some (dg (dv a + dv b)) := by
  obtain ⟨k, rfl⟩ : ∃ m, k = m + 2 := ⟨k - 2, by omega⟩
  simp only [isohyetref01_Add.l0]
  rw [if_neg (by omega), if_neg (by omega), decide_eq_false (by omega)]
  simp only [isohyetref01_Add.j1]
  rw [if_neg (by decide), trim_f hd (by omega) (by omega), Option.bind_some, hv]
theorem DAdd_l0 (a b : List Int) (ha : Dok a) (hb : Dok b) (M : Nat) (hM : M ≤ 900000) (hla : a.length ≤ M) (hlb : b.length ≤ M) : ∀ (d i k c : Nat) (out : List Int), i + d = M → 2 * d + M + 10 ≤ k → out.length = i → Dok out → c ≤ 1 → dv out + T ^ i * c = dv (a.take i) + dv (b.take i) →
    isohyetref01_Add.l0 k a b out (c : Int) (i : Int) = some (dg (dv a + dv b))
  | 0, i, k, c, out, hi, hk, ho, hd, hc, he => by
    obtain rfl : i = M := by omega
    rw [List.take_of_length_le hla, List.take_of_length_le hlb] at he
    by_cases h0 : c = 0
    · subst h0
      rw [Nat.mul_zero, Nat.add_zero] at he
      exact DAdd_end a b out hla hlb ho (by omega) (by omega) hd he
    · obtain rfl : c = 1 := by omega
      obtain ⟨k, rfl⟩ : ∃ m, k = m + 2 := ⟨k - 2, by omega⟩
      rw [DAdd_step a b out ha hb (by omega) (by omega) ho (.inr (.inr rfl)), getD_ge a hla, getD_ge b hlb]
      refine DAdd_end a b _ (by omega) (by omega) (by simp [ho]) (by omega) (by omega) (hd.append (Dok.cons (by decide) Dok.nil)) ?_
      rw [dv_snoc, ho, ← he]
      rfl
  | d + 1, i, k, c, out, hi, hk, ho, hd, hc, he => by
    obtain ⟨k, rfl⟩ : ∃ m, k = m + 2 := ⟨k - 2, by omega⟩
    by_cases hlt : i < a.length ∨ i < b.length
    · rw [DAdd_step a b out ha hb (by omega) hc ho (by omega)]
      have h1 := ha.getD i
      have h2 := hb.getD i
      have hs : c + (a.getD i 0).toNat + (b.getD i 0).toNat ≤ 19 := by omega
      refine DAdd_l0 a b ha hb M hM hla hlb d (i + 1) k _ _ (by omega) (by omega) (by simp [ho]) (hd.append (Dok.cons (by omega) Dok.nil)) (by omega) ?_
      rw [dv_snoc, ho, dv_take_succ, dv_take_succ, Nat.pow_succ]
      exact dadd_val T_eq he
    · rw [List.take_of_length_le (by omega), List.take_of_length_le (by omega)] at he
      by_cases h0 : c = 0
      · subst h0
        rw [Nat.mul_zero, Nat.add_zero] at he
        exact DAdd_end a b out (by omega) (by omega) ho (by omega) (by omega) hd he
      · obtain rfl : c = 1 := by omega
        rw [DAdd_step a b out ha hb (by omega) (by omega) ho (.inr (.inr rfl)), getD_ge a (by omega), getD_ge b (by omega)]
        refine DAdd_end a b _ (by omega) (by omega) (by simp [ho]) (by omega) (by omega) (hd.append (Dok.cons (by decide) Dok.nil)) ?_
        rw [dv_snoc, ho, ← he]
        rfl
theorem DAdd_f {a b : List Int} {k : Nat} (ha : Dok a) (hb : Dok b) (hla : a.length ≤ 300) (hlb : b.length ≤ 300) (hk : 1000 ≤ k) : isohyetref01_Add.f k a b = some (dg (dv a + dv b)) :=
  DAdd_l0 a b ha hb 300 (by omega) hla hlb 300 0 k 0 [] (by omega) (by omega) rfl Dok.nil (by omega) (by simp [dv])
theorem DAdd_g {x y k : Nat} (hx : x < T ^ 250) (hy : y < T ^ 250) (hk : 1000 ≤ k) : isohyetref01_Add.f k (dg x) (dg y) = some (dg (x + y)) := by
  have h1 := length_dg_le hx
  have h2 := length_dg_le hy
  rw [DAdd_f (Dok_dg x) (Dok_dg y) (by omega) (by omega) hk, dv_dg, dv_dg]

/-! ### Digits -/
theorem dg_one : dg 1 = [1] := by rw [dg_pos (by decide)]; simp [T, dg_zero]
theorem bit_of (w s : Nat) (hw : w < 18446744073709551616) (hs : s < 64) : Go.bits .and .u64 (shr .u64 (w : Int) (IntKind.u64.wrap (s : Int))) 1 = ((w / 2 ^ s % 2 : Nat) : Int) := by
  have e1 : IntKind.u64.wrap (s : Int) = (s : Int) := wu64 (by omega) (by omega)
  have hq : w / 2 ^ s < 18446744073709551616 := Nat.lt_of_le_of_lt (Nat.div_le_self _ _) hw
  have e2 : shr .u64 (w : Int) (s : Int) = ((w / 2 ^ s : Nat) : Int) := by
    unfold shr
    simp only [IntKind.signed, IntKind.bits]
    rw [Int.toNat_natCast]
    try rw [Nat.min_eq_left (by omega)]
    norm_cast
  rw [e1, e2]
  have h := bits_and_u64_nat (w / 2 ^ s) 1 hq (by omega)
  rw [Nat.and_one_is_mod] at h
  exact h
theorem half_step (w s : Nat) : w / 2 ^ s = 2 * (w / 2 ^ (s + 1)) + w / 2 ^ s % 2 := by
  rw [Nat.pow_succ, ← Nat.div_div_eq_div_mul]
  omega
theorem val_drop_le (a : List Int) (i : Nat) (h : i ≤ a.length) : val (a.drop i) ≤ val a := by
  rw [val_take_drop a i h]
  have : 1 * val (a.drop i) ≤ B ^ i * val (a.drop i) := Nat.mul_le_mul_right _ (Nat.pow_pos B_pos)
  omega
theorem dig_le {V w s : Nat} (hs : s ≤ 64) : V * 2 ^ (64 - s) + w / 2 ^ s ≤ w + B * V := by
  have e : B = 2 ^ (64 - s) * 2 ^ s := by rw [B_two, ← Nat.pow_add, show 64 - s + s = 64 from by omega]
  have h1 := Nat.div_le_self w (2 ^ s)
  have h2 : V * 2 ^ (64 - s) * 1 ≤ V * 2 ^ (64 - s) * 2 ^ s := Nat.mul_le_mul_left _ (Nat.pow_pos (by decide))
  rw [e, Nat.mul_comm _ V, ← Nat.mul_assoc]
  omega
theorem Digits_l1 (a : List Int) (ha : Ok a) (hla : a.length ≤ 1000) (hv : val a < T ^ 250) (i w : Nat) (hi : i < a.length) (hw : a.getD i 0 = (w : Int)) (r : Option (List Int)) : ∀ (s k : Nat), s ≤ 64 → s + 1001 ≤ k →
    (∀ m, m + (s + 1) = k → isohyetref01_Digits.l0 m a (dg (val (a.drop i))) (wrap64 ((i : Int) - 1)) = r) → isohyetref01_Digits.l1 k a (dg (val (a.drop (i + 1)) * 2 ^ (64 - s) + w / 2 ^ s)) (i : Int) ((s : Int) - 1) = r
  | 0, k, hs, hk, hr => by
    obtain ⟨k, rfl⟩ : ∃ m, k = m + 1 := ⟨k - 1, by omega⟩
    simp only [isohyetref01_Digits.l1]
    have e : val (a.drop (i + 1)) * 2 ^ (64 - 0) + w / 2 ^ 0 = val (a.drop i) := by
      rw [val_drop_cons a i hi, hw, Int.toNat_natCast, Nat.mul_comm, Nat.sub_zero, ← B_two, Nat.pow_zero, Nat.div_one, Nat.add_comm]
    rw [if_neg (by omega), e]
    exact hr k (by omega)
  | s + 1, k, hs, hk, hr => by
    obtain ⟨k, rfl⟩ : ∃ m, k = m + 1 := ⟨k - 1, by omega⟩
    have hwo := ha.getD i
    rw [hw] at hwo
    have hdl := val_drop_le a i (by omega)
    have hdc := val_drop_cons a i hi
    rw [hw, Int.toNat_natCast] at hdc
    have hle : ∀ s, s ≤ 64 → val (a.drop (i + 1)) * 2 ^ (64 - s) + w / 2 ^ s < T ^ 250 := fun s hs => by
      have := dig_le (V := val (a.drop (i + 1))) (w := w) hs
      omega
    have hone : 1 < T ^ 250 := by decide
    have hb1 := hle (s + 1) hs
    have hb0 := hle s (by omega)
    have es : ((s + 1 : Nat) : Int) - 1 = (s : Int) := by omega
    have e2 : val (a.drop (i + 1)) * 2 ^ (64 - s) = 2 * (val (a.drop (i + 1)) * 2 ^ (64 - (s + 1))) := by
      rw [show 64 - s = (64 - (s + 1)) + 1 from by omega, Nat.pow_succ]
      generalize 2 ^ (64 - (s + 1)) = P
      generalize val (a.drop (i + 1)) = V
      rw [← Nat.mul_assoc, Nat.mul_comm]
    have eh := half_step w s
    have hbit := bit_of w s (by omega) (by omega)
    have ih := Digits_l1 a ha hla hv i w hi hw r s k (by omega) (by omega) (fun m hm => hr m (by omega))
    simp only [isohyetref01_Digits.l1]
    rw [es, if_pos (by omega), DAdd_g hb1 hb1 (by omega), Option.bind_some, if_pos (by omega), if_pos (by omega), if_pos (by rw [wu64 (by omega) (by omega)]; omega), rd_cast, hw, hbit, w64 (x := (s : Int) - 1) (by omega) (by omega)]
    generalize val (a.drop (i + 1)) * 2 ^ (64 - (s + 1)) = V at *
    generalize val (a.drop (i + 1)) * 2 ^ (64 - s) = V2 at *
    generalize w / 2 ^ (s + 1) = q at *
    have hm2 := Nat.mod_lt (w / 2 ^ s) (show 0 < 2 by decide)
    by_cases h1 : w / 2 ^ s % 2 = 1
    · rw [if_pos (by omega), ← dg_one, DAdd_g (by omega) hone (by omega), Option.bind_some, show V + q + (V + q) + 1 = V2 + w / 2 ^ s from by omega]
      exact ih
    · rw [if_neg (by omega), show V + q + (V + q) = V2 + w / 2 ^ s from by omega]
      exact ih
theorem Digits_l0 (a : List Int) (ha : Ok a) (hla : a.length ≤ 1000) (hv : val a < T ^ 250) : ∀ (i k : Nat), i ≤ a.length → 67 * i + 2000 ≤ k → isohyetref01_Digits.l0 k a (dg (val (a.drop i))) ((i : Int) - 1) = some (dg (val a))
  | 0, k, hi, hk => by
    obtain ⟨k, rfl⟩ : ∃ m, k = m + 1 := ⟨k - 1, by omega⟩
    simp only [isohyetref01_Digits.l0]
    rw [if_neg (by omega), List.drop_zero]
  | i + 1, k, hi, hk => by
    obtain ⟨k, rfl⟩ : ∃ m, k = m + 1 := ⟨k - 1, by omega⟩
    have hwo := ha.getD i
    obtain ⟨w, hw⟩ : ∃ x : Nat, a.getD i 0 = (x : Int) := ⟨(a.getD i 0).toNat, by omega⟩
    rw [hw] at hwo
    simp only [isohyetref01_Digits.l0]
    rw [show ((i + 1 : Nat) : Int) - 1 = (i : Int) from by omega, if_pos (by omega)]
    have h := Digits_l1 a ha hla hv i w (by omega) hw (some (dg (val a))) 64 k (by omega) (by omega) (fun m hm => by
      rw [w64 (by omega) (by omega)]
      exact Digits_l0 a ha hla hv i m (by omega) (by omega))
    have e : val (a.drop (i + 1)) * 2 ^ (64 - 64) + w / 2 ^ 64 = val (a.drop (i + 1)) := by
      rw [Nat.sub_self, Nat.pow_zero, Nat.mul_one, Nat.div_eq_of_lt (by omega), Nat.add_zero]
    rw [e] at h
    exact h
/-- The digits of a number's words. -/
theorem Digits_f {a : List Int} {k : Nat} (ha : Ok a) (hla : a.length ≤ 100) (hv : val a < T ^ 250) (hk : 9000 ≤ k) : isohyetref01_Digits.f k a = some (dg (val a)) := by
  have h := Digits_l0 a ha (by omega) hv a.length k (Nat.le_refl _) (by omega)
  unfold isohyetref01_Digits.f
  rw [w64 (by omega) (by omega)]
  rw [List.drop_length] at h
  simp only [val, dg_zero] at h
  exact h

/-! ### Cmp -/
theorem dv_lt_of_top {a b : List Int} {i : Nat} (ha : Dok a) (h : dv (a.drop (i + 1)) = dv (b.drop (i + 1))) (hx : (a.getD i 0).toNat < (b.getD i 0).toNat) (hia : i < a.length) (hib : i < b.length) : dv a < dv b := by
  rw [dv_getD a i hia, dv_getD b i hib, h]
  have h1 := dv_lt (ha.take i)
  rw [List.length_take, Nat.min_eq_left (by omega)] at h1
  have h2 : T ^ i * ((a.getD i 0).toNat + T * dv (b.drop (i + 1)) + 1) ≤ T ^ i * ((b.getD i 0).toNat + T * dv (b.drop (i + 1))) := Nat.mul_le_mul_left _ (by omega)
  rw [Nat.mul_add, Nat.mul_one] at h2
  omega
theorem DCmp_l0 (a b : List Int) (ha : Dok a) (hb : Dok b) (hab : a.length = b.length) (hm : a.length ≤ 1000000) : ∀ (n k : Nat), n ≤ a.length → n < k → dv (a.drop n) = dv (b.drop n) →
    isohyetref01_Cmp.l0 k a b ((n : Int) - 1) = some (cmpN (dv a) (dv b)) := by
  intro n
  induction n with
  | zero =>
    intro k _ hk he
    obtain ⟨k, rfl⟩ : ∃ m, k = m + 1 := ⟨k - 1, by omega⟩
    simp only [isohyetref01_Cmp.l0]
    rw [if_neg (by omega)]
    simp only [List.drop_zero] at he
    simp [cmpN, he]
  | succ n ih =>
    intro k hn hk he
    obtain ⟨k, rfl⟩ : ∃ m, k = m + 1 := ⟨k - 1, by omega⟩
    simp only [isohyetref01_Cmp.l0]
    rw [show (((n + 1 : Nat) : Int) - 1) = (n : Int) from by omega, if_pos (by omega), if_pos (by omega), if_pos (by omega), if_pos (by omega), rd_cast, rd_cast, w64 (by omega) (by omega)]
    have h1 := ha.getD n
    have h2 := hb.getD n
    by_cases hlt : a.getD n 0 < b.getD n 0
    · rw [if_pos hlt]
      have := dv_lt_of_top ha he (by omega) (by omega) (by omega)
      simp [cmpN, this]
    · rw [if_neg hlt]
      by_cases hgt : a.getD n 0 > b.getD n 0
      · rw [if_pos hgt]
        have := dv_lt_of_top hb he.symm (by omega) (by omega) (by omega)
        unfold cmpN
        rw [if_neg (by omega), if_neg (by omega)]
      · have hq : a.getD n 0 = b.getD n 0 := by omega
        rw [if_neg hgt, ih k (by omega) (by omega) ?_]
        rw [List.drop_eq_getElem_cons (by omega : n < a.length), List.drop_eq_getElem_cons (by omega : n < b.length)]
        simp only [dv, he]
        have e1 : a.getD n 0 = a[n]'(by omega) := by simp [List.getD_eq_getElem?_getD, (by omega : n < a.length)]
        have e2 : b.getD n 0 = b[n]'(by omega) := by simp [List.getD_eq_getElem?_getD, (by omega : n < b.length)]
        rw [← e1, ← e2, hq]
theorem dg_length_lt {m n : Nat} (h : (dg m).length < (dg n).length) : m < n := by
  by_cases hn : n = 0
  · subst hn; rw [dg_zero] at h; simp at h
  · have h1 := pow_length_dg_le hn
    have h2 := lt_pow_length_dg m
    have h3 : T ^ (dg m).length ≤ T ^ ((dg n).length - 1) := Nat.pow_le_pow_right T_pos (by omega)
    omega
theorem DCmp_f {x y k : Nat} (hx : x < T ^ 250) (hy : y < T ^ 250) (hk : 1000 ≤ k) : isohyetref01_Cmp.f k (dg x) (dg y) = some (cmpN x y) := by
  have l1 := length_dg_le hx
  have l2 := length_dg_le hy
  unfold isohyetref01_Cmp.f
  by_cases he : ((dg x).length : Int) = ((dg y).length : Int)
  · rw [if_pos he, w64 (by omega) (by omega), DCmp_l0 _ _ (Dok_dg _) (Dok_dg _) (by omega) (by omega) _ k (Nat.le_refl _) (by omega) ?_, dv_dg, dv_dg]
    rw [List.drop_length, List.drop_of_length_le (by omega)]
  · rw [if_neg he]
    by_cases hlt : ((dg x).length : Int) < ((dg y).length : Int)
    · rw [if_pos hlt]
      have := dg_length_lt (by omega : (dg x).length < (dg y).length)
      simp [cmpN, this]
    · rw [if_neg hlt]
      have := dg_length_lt (by omega : (dg y).length < (dg x).length)
      unfold cmpN
      rw [if_neg (by omega), if_neg (by omega)]

/-! ### Sub -/
theorem dsub_val {P T' c x y o va vb z c' : Nat} (hT : T' = 10) (hz : z + y + c = x + 10 * c') (h : o + vb = va + P * c) : o + P * z + (vb + P * y) = va + P * x + P * T' * c' := by
  subst hT
  have : P * (z + y + c) = P * (x + 10 * c') := by rw [hz]
  grind
theorem DSub_l0 (a b : List Int) (ha : Dok a) (hb : Dok b) (hla : a.length ≤ 1000000) (hlb : b.length ≤ a.length) (hle : dv b ≤ dv a) (K : Nat) (hK : a.length + 2 ≤ K) : ∀ (d i k c : Nat) (out : List Int), i + d = a.length → d + K ≤ k → out.length = i → Dok out → c ≤ 1 → dv out + dv (b.take i) = dv (a.take i) + T ^ i * c →
    isohyetref01_Sub.l0 k a b out (c : Int) (i : Int) = some (dg (dv a - dv b))
  | 0, i, k, c, out, hi, hk, ho, hd, hc, he => by
    obtain ⟨k, rfl⟩ : ∃ m, k = m + 1 := ⟨k - 1, by omega⟩
    obtain rfl : i = a.length := by omega
    rw [List.take_length, List.take_of_length_le hlb] at he
    have hlt := dv_lt hd
    rw [ho] at hlt
    have hc0 : c = 0 := by
      by_cases h0 : c = 0
      · exact h0
      · obtain rfl : c = 1 := by omega
        omega
    subst hc0
    simp only [isohyetref01_Sub.l0]
    rw [if_neg (by omega), trim_f hd (by omega) (by omega), Option.bind_some]
    congr 2
    omega
  | d + 1, i, k, c, out, hi, hk, ho, hd, hc, he => by
    obtain ⟨k, rfl⟩ : ∃ m, k = m + 1 := ⟨k - 1, by omega⟩
    have h1 := ha.getD i
    have h2 := hb.getD i
    obtain ⟨x, ex⟩ : ∃ x : Nat, a.getD i 0 = (x : Int) := ⟨(a.getD i 0).toNat, by omega⟩
    obtain ⟨y, ey⟩ : ∃ y : Nat, b.getD i 0 = (y : Int) := ⟨(b.getD i 0).toNat, by omega⟩
    have gy : b.length ≤ i → y = 0 := fun h => by rw [getD_ge b h] at ey; omega
    rw [ex] at h1
    rw [ey] at h2
    have step : ∀ z c' : Nat, z < 10 → c' ≤ 1 → z + y + c = x + 10 * c' → isohyetref01_Sub.l0 k a b (out ++ [(z : Int)]) (c' : Int) ((i + 1 : Nat) : Int) = some (dg (dv a - dv b)) := by
      intro z c' hz hc' hzz
      refine DSub_l0 a b ha hb hla hlb hle K hK d (i + 1) k c' _ (by omega) (by omega) (by simp [ho]) (hd.append (Dok.cons (by omega) Dok.nil)) hc' ?_
      rw [dv_snoc, ho, dv_take_succ, dv_take_succ, ex, ey, Int.toNat_natCast, Int.toNat_natCast, Nat.pow_succ]
      exact dsub_val T_eq hzz he
    simp only [isohyetref01_Sub.l0]
    rw [if_pos (by omega), if_pos (by omega), rd_cast a i, rd_cast b i, ex, ey, wsucc (by omega), w64 (x := (x : Int) - (c : Int)) (by omega) (by omega), w64 (x := (x : Int) - (c : Int) - (y : Int)) (by omega) (by omega), w64 (x := (x : Int) - (c : Int) - (y : Int) + 10) (by omega) (by omega), w64 (x := (x : Int) - (c : Int) + 10) (by omega) (by omega)]
    by_cases q2 : (i : Int) < (b.length : Int)
    · rw [if_pos q2]
      by_cases q3 : (x : Int) - (c : Int) - (y : Int) < 0
      · rw [if_pos q3, if_pos (by omega), show (x : Int) - (c : Int) - (y : Int) + 10 = ((x + 10 - c - y : Nat) : Int) from by omega]
        exact step _ 1 (by omega) (by omega) (by omega)
      · rw [if_neg q3, if_pos (by omega), show (x : Int) - (c : Int) - (y : Int) = ((x - c - y : Nat) : Int) from by omega]
        exact step _ 0 (by omega) (by omega) (by omega)
    · have hy0 := gy (by omega)
      rw [if_neg q2]
      by_cases q3 : (x : Int) - (c : Int) < 0
      · rw [if_pos q3, if_pos (by omega), show (x : Int) - (c : Int) + 10 = ((x + 10 - c : Nat) : Int) from by omega]
        exact step _ 1 (by omega) (by omega) (by omega)
      · rw [if_neg q3, if_pos (by omega), show (x : Int) - (c : Int) = ((x - c : Nat) : Int) from by omega]
        exact step _ 0 (by omega) (by omega) (by omega)
theorem dg_length_mono {x y : Nat} (h : y ≤ x) : (dg y).length ≤ (dg x).length := by
  rcases Nat.lt_or_ge (dg x).length (dg y).length with h1 | h1
  · have := dg_length_lt h1
    omega
  · exact h1
theorem DSub_f {x y k : Nat} (hx : x < T ^ 250) (hy : y ≤ x) (hk : 1000 ≤ k) : isohyetref01_Sub.f k (dg x) (dg y) = some (dg (x - y)) := by
  have l1 := length_dg_le hx
  have h := DSub_l0 (dg x) (dg y) (Dok_dg _) (Dok_dg _) (by omega) (dg_length_mono hy) (by rw [dv_dg, dv_dg]; exact hy) 300 (by omega) (dg x).length 0 k 0 [] (by omega) (by omega) rfl Dok.nil (by omega) (by simp [dv])
  rw [dv_dg, dv_dg] at h
  exact h

/-! ### Is -/
theorem Is_f2 {n m k : Nat} (hn : n < B ^ m) (hm : m ≤ 90) (hv' : n < T ^ 250) (hk : 9000 ≤ k) : isohyetlaw01_Is.f k (ofNat n) (dg n) = some true := by
  have l1 := length_ofNat_le hn
  have hv : val (ofNat n) < T ^ 250 := by rw [val_ofNat]; exact hv'
  have hd := Digits_f (k := k) (Ok_ofNat n) (by omega) hv hk
  rw [val_ofNat] at hd hv
  unfold isohyetlaw01_Is.f
  rw [hd, Option.bind_some, DCmp_f hv hv (by omega), Option.bind_some, cmpN_self]
  by_cases h0 : ((ofNat n).length : Int) = 0
  · rw [if_pos h0]
    rfl
  · rw [if_neg h0]
    have hn0 : n ≠ 0 := fun h => h0 (by rw [h, ofNat_zero]; rfl)
    have e : wrap64 (((ofNat n).length : Int) - 1) = (((ofNat n).length - 1 : Nat) : Int) := by rw [w64 (by omega) (by omega)]; omega
    rw [e, if_pos (by omega), if_pos (by omega), rd_cast (ofNat n), if_neg (ofNat_last hn0)]
    rfl
theorem Is_f {n k : Nat} (hn : n < B ^ 10) (hk : 9000 ≤ k) : isohyetlaw01_Is.f k (ofNat n) (dg n) = some true := by
  have hT : B ^ 10 < T ^ 250 := by decide
  exact Is_f2 hn (by omega) (Nat.lt_trans hn hT) hk
end Go.Proofs.Ytpgmhhkkbjbpgaa.Mg
namespace Go.Proofs.Ytpgmhhkkbjbpgaa.Mg
open Go.RowKit Go.Proofs.YtpgmhhkkbjbpgaaW.PrintWords Go.Proofs.YtpgmhhkkbjbpgaaW.PrintMore Go.Proofs.Ytpgmhhkkbjbpgaa.MB Go.Proofs.Ytpgmhhkkbjbpgaa.M
set_option linter.unusedVariables false
set_option linter.unusedSimpArgs false

theorem dv_set_add (l : List Int) (p : Nat) (y : Int) (h : p < l.length) : dv (l.set p y) + T ^ p * (l.getD p 0).toNat = dv l + T ^ p * y.toNat := by
  rw [dv_set l p y h, dv_getD l p h]
  simp only [Nat.mul_add]
  omega
theorem dmul_step (P s carry x y c o v v' S bt Bi Bj : Nat) (h1 : s + T * carry = x * y + c + o) (h2 : v' + P * o = v + P * s) (h3 : v + P * c = S + x * Bi * bt) (hP : P = Bi * Bj) : v' + P * T * carry = S + x * Bi * (bt + Bj * y) := by
  have e : P * (s + T * carry) = P * (x * y + c + o) := by rw [h1]
  subst hP
  generalize T = D at *
  grind
theorem dmul_end (P carry v v' S x Bi vb BL : Nat) (h2 : v' + P * 0 = v + P * carry) (h3 : v + P * carry = S + x * Bi * vb) (h4 : S = BL * vb) : v' = (BL + Bi * x) * vb := by
  grind
theorem wmul99 {o x y c : Nat} (ho : o < 10) (hx : x < 10) (hy : y < 10) (hc : c < 10) : wrap64 (wrap64 ((o : Int) + wrap64 ((x : Int) * (y : Int))) + (c : Int)) = ((o + x * y + c : Nat) : Int) ∧ o + x * y + c < 100 := by
  have h := Nat.mul_le_mul (show x ≤ 9 by omega) (show y ≤ 9 by omega)
  rw [show (x : Int) * (y : Int) = ((x * y : Nat) : Int) from by norm_cast]
  generalize x * y = p at *
  refine ⟨?_, by omega⟩
  rw [w64 (x := (p : Int)) (by omega) (by omega), w64 (x := (o : Int) + (p : Int)) (by omega) (by omega), w64 (x := (o : Int) + (p : Int) + (c : Int)) (by omega) (by omega)]
  omega
theorem DMul_l1 (a b : List Int) (ha : Dok a) (hb : Dok b) (hla : a.length ≤ 1000) (hlb : b.length ≤ 1000) (i : Nat) (hi : i < a.length) (S : Nat) (R : Option (List Int)) (K : Nat)
    (hnext : ∀ (k : Nat) (out : List Int) (c : Nat), K ≤ k → out.length = a.length + b.length → Dok out → c < 10 → (∀ m, i + b.length ≤ m → out.getD m 0 = 0) →
      dv out + T ^ (i + b.length) * c = S + (a.getD i 0).toNat * T ^ i * dv b → isohyetref01_Mul.l0 k a b (out.set (i + b.length) (c : Int)) ((i + 1 : Nat) : Int) = R) :
    ∀ (d j k : Nat) (out : List Int) (c : Nat), j + d = b.length → d + K + 1 ≤ k → out.length = a.length + b.length → Dok out → c < 10 → (∀ m, i + b.length ≤ m → out.getD m 0 = 0) →
      dv out + T ^ (i + j) * c = S + (a.getD i 0).toNat * T ^ i * dv (b.take j) →
      isohyetref01_Mul.l1 k a b out (i : Int) (c : Int) (j : Int) = R := by
  intro d
  induction d with
  | zero =>
    intro j k out c hj hk hl ho hc hz he
    obtain ⟨k, rfl⟩ : ∃ m, k = m + 1 := ⟨k - 1, by omega⟩
    obtain rfl : j = b.length := by omega
    have hz0 := hz (i + b.length) (Nat.le_refl _)
    simp only [isohyetref01_Mul.l1]
    rw [if_neg (by omega), wadd (m := i) (n := b.length) (by omega), if_pos (by omega), if_pos (by omega), Int.toNat_natCast (i + b.length), rd_cast out (i + b.length), hz0, Int.zero_add, w64 (x := (c : Int)) (by omega) (by omega), wsucc (by omega)]
    rw [List.take_length] at he
    exact hnext k out c (by omega) hl ho hc hz he
  | succ d ih =>
    intro j k out c hj hk hl ho hc hz he
    obtain ⟨k, rfl⟩ : ∃ m, k = m + 1 := ⟨k - 1, by omega⟩
    simp only [isohyetref01_Mul.l1]
    have hx := ha.getD i
    have hy := hb.getD j
    have hoo := ho.getD (i + j)
    obtain ⟨x, ex⟩ : ∃ x : Nat, a.getD i 0 = (x : Int) := ⟨(a.getD i 0).toNat, by omega⟩
    obtain ⟨y, ey⟩ : ∃ y : Nat, b.getD j 0 = (y : Int) := ⟨(b.getD j 0).toNat, by omega⟩
    obtain ⟨o, eo⟩ : ∃ o : Nat, out.getD (i + j) 0 = (o : Int) := ⟨(out.getD (i + j) 0).toNat, by omega⟩
    rw [ex] at hx
    rw [ey] at hy
    rw [eo] at hoo
    have hn2 : o + x * y + c < 100 := (wmul99 (o := o) (x := x) (y := y) (c := c) (by omega) (by omega) (by omega) hc).2
    rw [if_pos (by omega), wadd (m := i) (n := j) (by omega), if_pos (by omega), if_pos (by omega), if_pos (by omega), if_pos (by omega), if_pos (by omega), Int.toNat_natCast (i + j), rd_cast out (i + j), rd_cast a i, rd_cast b j, ex, ey, eo, (wmul99 (o := o) (x := x) (y := y) (c := c) (by omega) (by omega) (by omega) hc).1, tm10, td10, w10 hn2, wsucc (by omega)]
    have hdm := Nat.mod_add_div (o + x * y + c) 10
    have hr := Nat.mod_lt (o + x * y + c) (show 0 < 10 by decide)
    generalize hs : (o + x * y + c) % 10 = s at *
    generalize hq : (o + x * y + c) / 10 = q at *
    refine ih (j + 1) k _ q (by omega) (by omega) (by simpa using hl) (ho.set _ (by omega)) (by omega) ?_ ?_
    · intro m hm
      rw [getD_set_ne _ _ (by omega)]
      exact hz m hm
    · have h2 := dv_set_add out (i + j) (s : Int) (by omega)
      rw [eo, Int.toNat_natCast, Int.toNat_natCast] at h2
      rw [ex, Int.toNat_natCast] at he ⊢
      have := dmul_step (T ^ (i + j)) s q x y c o _ _ S (dv (b.take j)) (T ^ i) (T ^ j) (by rw [T_eq]; omega) h2 he (Nat.pow_add ..)
      rw [dv_take_succ, ey, Int.toNat_natCast, show i + (j + 1) = (i + j) + 1 from by omega, Nat.pow_succ]
      exact this
theorem DMul_l0 (a b : List Int) (ha : Dok a) (hb : Dok b) (hla : a.length ≤ 1000) (hlb : b.length ≤ 1000) : ∀ (d i k : Nat) (out : List Int), i + d = a.length → d * (b.length + 2) + a.length + b.length + 2 ≤ k → out.length = a.length + b.length → Dok out → (∀ m, i + b.length ≤ m → out.getD m 0 = 0) →
    dv out = dv (a.take i) * dv b → isohyetref01_Mul.l0 k a b out (i : Int) = some (dg (dv a * dv b)) := by
  intro d
  induction d with
  | zero =>
    intro i k out hi hk hl ho hz he
    obtain ⟨k, rfl⟩ : ∃ m, k = m + 1 := ⟨k - 1, by omega⟩
    obtain rfl : i = a.length := by omega
    simp only [isohyetref01_Mul.l0]
    rw [if_neg (by omega), trim_f ho (by omega) (by omega), Option.bind_some, he, List.take_length]
  | succ d ih =>
    intro i k out hi hk hl ho hz he
    obtain ⟨k, rfl⟩ : ∃ m, k = m + 1 := ⟨k - 1, by omega⟩
    simp only [isohyetref01_Mul.l0]
    rw [if_pos (by omega)]
    have hk' : d * (b.length + 2) + (b.length + 2) + a.length + b.length + 2 ≤ k + 1 := by
      rw [Nat.succ_mul] at hk
      exact hk
    refine DMul_l1 a b ha hb hla hlb i (by omega) (dv out) _ (d * (b.length + 2) + a.length + b.length + 2) ?_ b.length 0 k out 0 (by omega) (by omega) hl ho (by omega) hz (by simp [dv])
    intro k2 out2 c hk2 hl2 ho2 hc hz2 he2
    refine ih (i + 1) k2 _ (by omega) hk2 (by simpa using hl2) (ho2.set _ (by omega)) ?_ ?_
    · intro m hm
      rw [getD_set_ne _ _ (by omega)]
      exact hz2 m (by omega)
    · have h2 := dv_set_add out2 (i + b.length) (c : Int) (by omega)
      rw [hz2 _ (Nat.le_refl _), Int.toNat_natCast] at h2
      rw [dv_take_succ]
      exact dmul_end _ _ _ _ _ _ _ _ _ h2 he2 he
theorem DMul_f {x y k : Nat} (hx : x < T ^ 120) (hy : y < T ^ 120) (hk : 15000 ≤ k) : isohyetref01_Mul.f k (dg x) (dg y) = some (dg (x * y)) := by
  have l1 := length_dg_le hx
  have l2 := length_dg_le hy
  have hm := Nat.mul_le_mul l1 (show (dg y).length + 2 ≤ 122 by omega)
  unfold isohyetref01_Mul.f
  rw [wadd (m := (dg x).length) (n := (dg y).length) (by omega), if_pos (by omega), Int.toNat_natCast, if_pos (by omega)]
  have h := DMul_l0 (dg x) (dg y) (Dok_dg x) (Dok_dg y) (by omega) (by omega) (dg x).length 0 k (List.replicate ((dg x).length + (dg y).length) 0) (by omega) (by omega) (by simp) (Dok.replicate _) ?_ (by simp [dv, dv_replicate])
  · rw [dv_dg, dv_dg] at h
    exact h
  · intro m _
    rw [List.getD_eq_getElem?_getD, List.getElem?_replicate]
    split <;> rfl
end Go.Proofs.Ytpgmhhkkbjbpgaa.Mg
