/- Numbers as lists of decimal digits: their values, and the digits of a number. No program in sight. -/
namespace Go.Proofs.YtfkpbdapinpkdaaDoor.Mg

/-- Ten. -/
def T : Nat := 10
theorem T_pos : 0 < T := by decide
theorem T_eq : T = 10 := rfl

/-- The number that digits tell, the lowest first. -/
def dv : List Int → Nat
  | [] => 0
  | x :: xs => x.toNat + T * dv xs
/-- Each is a digit. -/
def Dok (l : List Int) : Prop := ∀ x ∈ l, 0 ≤ x ∧ x < 10
theorem Dok.nil : Dok [] := fun x h => by cases h
theorem Dok.cons {x : Int} {xs : List Int} (h : 0 ≤ x ∧ x < 10) (hs : Dok xs) : Dok (x :: xs) := by
  intro y hy
  rcases List.mem_cons.1 hy with rfl | hy
  · exact h
  · exact hs y hy
theorem Dok.head {x : Int} {xs : List Int} (h : Dok (x :: xs)) : 0 ≤ x ∧ x < 10 := h x List.mem_cons_self
theorem Dok.tail {x : Int} {xs : List Int} (h : Dok (x :: xs)) : Dok xs := fun y hy => h y (List.mem_cons_of_mem _ hy)
theorem Dok.append {xs ys : List Int} (h : Dok xs) (k : Dok ys) : Dok (xs ++ ys) := by
  intro y hy
  rcases List.mem_append.1 hy with hy | hy
  · exact h y hy
  · exact k y hy
theorem Dok.take {xs : List Int} (h : Dok xs) (n : Nat) : Dok (xs.take n) := fun y hy => h y (List.mem_of_mem_take hy)
theorem Dok.drop {xs : List Int} (h : Dok xs) (n : Nat) : Dok (xs.drop n) := fun y hy => h y (List.mem_of_mem_drop hy)
theorem Dok.set {xs : List Int} (h : Dok xs) (n : Nat) {y : Int} (hy : 0 ≤ y ∧ y < 10) : Dok (xs.set n y) := by
  intro z hz
  rcases List.mem_or_eq_of_mem_set hz with hz | rfl
  · exact h z hz
  · exact hy
theorem Dok.replicate (n : Nat) : Dok (List.replicate n 0) := by
  intro z hz
  have := List.eq_of_mem_replicate hz
  omega
theorem Dok.getD {xs : List Int} (h : Dok xs) (n : Nat) : 0 ≤ xs.getD n 0 ∧ xs.getD n 0 < 10 := by
  rw [List.getD_eq_getElem?_getD]
  cases hx : xs[n]? with
  | none => simp
  | some y => exact h y (List.mem_of_getElem? hx)

theorem dv_append (xs ys : List Int) : dv (xs ++ ys) = dv xs + T ^ xs.length * dv ys := by
  induction xs with
  | nil => simp [dv]
  | cons x xs ih =>
    simp only [List.cons_append, dv, ih, List.length_cons, Nat.pow_succ]
    rw [Nat.mul_add, ← Nat.mul_assoc, Nat.mul_comm T (T ^ xs.length)]
    omega
theorem dv_lt {xs : List Int} (h : Dok xs) : dv xs < T ^ xs.length := by
  induction xs with
  | nil => simp [dv]
  | cons x xs ih =>
    have h1 := ih h.tail
    have h2 := h.head
    simp only [dv, List.length_cons, Nat.pow_succ]
    have h3 : x.toNat < T := by unfold T; omega
    have h4 : T * (dv xs + 1) ≤ T * T ^ xs.length := Nat.mul_le_mul_left T h1
    rw [Nat.mul_comm (T ^ xs.length) T]
    rw [Nat.mul_add] at h4
    omega
theorem dv_replicate (n : Nat) : dv (List.replicate n 0) = 0 := by
  induction n with
  | zero => rfl
  | succ n ih => simp [List.replicate_succ, dv, ih]
theorem dv_take_drop (xs : List Int) (n : Nat) (hn : n ≤ xs.length) : dv xs = dv (xs.take n) + T ^ n * dv (xs.drop n) := by
  have := dv_append (xs.take n) (xs.drop n)
  rw [List.take_append_drop, List.length_take, Nat.min_eq_left hn] at this
  exact this
theorem dv_getD (xs : List Int) (n : Nat) (hn : n < xs.length) : dv xs = dv (xs.take n) + T ^ n * ((xs.getD n 0).toNat + T * dv (xs.drop (n + 1))) := by
  rw [dv_take_drop xs n (by omega), List.drop_eq_getElem_cons hn]
  simp only [dv, List.getD_eq_getElem?_getD, List.getElem?_eq_getElem hn, Option.getD_some]
theorem dv_set (xs : List Int) (n : Nat) (y : Int) (hn : n < xs.length) : dv (xs.set n y) = dv (xs.take n) + T ^ n * (y.toNat + T * dv (xs.drop (n + 1))) := by
  rw [dv_getD (xs.set n y) n (by simpa using hn), List.take_set_of_le (Nat.le_refl _), List.drop_set_of_lt (by omega)]
  simp [List.getD_eq_getElem?_getD, hn]

/-- A number's digits. -/
def dg (n : Nat) : List Int := if _h : n = 0 then [] else ((n % T : Nat) : Int) :: dg (n / T)
termination_by n
decreasing_by exact Nat.div_lt_self (Nat.pos_of_ne_zero _h) (by decide)
theorem dg_zero : dg 0 = [] := by rw [dg]; simp
theorem dg_pos {n : Nat} (h : n ≠ 0) : dg n = ((n % T : Nat) : Int) :: dg (n / T) := by rw [dg]; simp [h]
theorem dv_dg (n : Nat) : dv (dg n) = n := by
  induction n using Nat.strongRecOn with
  | _ n ih =>
    by_cases h : n = 0
    · subst h; rw [dg_zero]; rfl
    · rw [dg_pos h, dv, ih _ (Nat.div_lt_self (Nat.pos_of_ne_zero h) (by decide)), Int.toNat_natCast]
      exact Nat.mod_add_div n T
theorem Dok_dg (n : Nat) : Dok (dg n) := by
  induction n using Nat.strongRecOn with
  | _ n ih =>
    by_cases h : n = 0
    · subst h; rw [dg_zero]; exact Dok.nil
    · rw [dg_pos h]
      refine Dok.cons ?_ (ih _ (Nat.div_lt_self (Nat.pos_of_ne_zero h) (by decide)))
      have := Nat.mod_lt n T_pos
      unfold T at this ⊢
      omega
theorem dg_eq_nil {n : Nat} : dg n = [] ↔ n = 0 := by
  constructor
  · intro h
    have := dv_dg n
    rw [h] at this
    exact this.symm
  · rintro rfl; exact dg_zero
theorem dg_last {n : Nat} (h : n ≠ 0) : (dg n).getD ((dg n).length - 1) 0 ≠ 0 := by
  induction n using Nat.strongRecOn with
  | _ n ih =>
    rw [dg_pos h]
    by_cases h1 : n / T = 0
    · rw [h1, dg_zero]
      have : n < T := by
        rcases Nat.lt_or_ge n T with h2 | h2
        · exact h2
        · have := Nat.div_pos h2 T_pos; omega
      simp only [List.length_singleton]
      rw [Nat.mod_eq_of_lt this]
      simp
      omega
    · have h2 := ih _ (Nat.div_lt_self (Nat.pos_of_ne_zero h) (by decide)) h1
      have h3 : (dg (n / T)).length ≠ 0 := by
        intro e
        exact h1 (dg_eq_nil.1 (List.eq_nil_of_length_eq_zero e))
      rw [show (((n % T : Nat) : Int) :: dg (n / T)).length - 1 = ((dg (n / T)).length - 1) + 1 from by simp; omega]
      simpa using h2
theorem dg_dv_of_last {l : List Int} (h : Dok l) (hl : l = [] ∨ l.getD (l.length - 1) 0 ≠ 0) : dg (dv l) = l := by
  induction l with
  | nil => exact dg_zero
  | cons x xs ih =>
    have hx := h.head
    have hne : dv (x :: xs) ≠ 0 := by
      intro e
      rcases hl with hl | hl
      · cases hl
      · apply hl
        have key : ∀ (l : List Int) (n : Nat), Dok l → dv l = 0 → l.getD n 0 = 0 := by
          intro l
          induction l with
          | nil => intro n _ _; simp
          | cons y ys ih2 =>
            intro n hok hv
            simp only [dv] at hv
            have hy := hok.head
            cases n with
            | zero => simp; omega
            | succ n =>
              have := ih2 n hok.tail (by
                have : T * dv ys = 0 := by omega
                rcases Nat.mul_eq_zero.1 this with h | h
                · exact absurd h (by decide)
                · exact h)
              simpa using this
        exact key _ _ h e
    rw [dg_pos hne]
    have e1 : (x.toNat + T * dv xs) % T = x.toNat := by rw [Nat.add_mul_mod_self_left, Nat.mod_eq_of_lt (by unfold T; omega)]
    have e2 : (x.toNat + T * dv xs) / T = dv xs := by rw [Nat.add_mul_div_left _ _ T_pos, Nat.div_eq_of_lt (by unfold T; omega)]; omega
    simp only [dv, e1, e2]
    rw [ih h.tail ?_]
    · congr 1; omega
    · cases xs with
      | nil => exact .inl rfl
      | cons y ys =>
        right
        rcases hl with hl | hl
        · cases hl
        · simpa using hl
theorem dv_inj_of_dg {l : List Int} {n : Nat} (h : dv l = n) (hok : Dok l) (hl : l = [] ∨ l.getD (l.length - 1) 0 ≠ 0) : l = dg n := by rw [← h, dg_dv_of_last hok hl]
theorem length_dg_le {n m : Nat} (h : n < T ^ m) : (dg n).length ≤ m := by
  induction m generalizing n with
  | zero => 
    have : n = 0 := by simpa using h
    subst this; rw [dg_zero]; simp
  | succ m ih =>
    by_cases h0 : n = 0
    · subst h0; rw [dg_zero]; simp
    · rw [dg_pos h0, List.length_cons]
      have := ih (n := n / T) (by
        rw [Nat.div_lt_iff_lt_mul T_pos]
        rw [Nat.pow_succ] at h
        exact h)
      omega
theorem lt_pow_length_dg (n : Nat) : n < T ^ (dg n).length := by
  have := dv_lt (Dok_dg n)
  rwa [dv_dg] at this
theorem pow_length_dg_le {n : Nat} (h : n ≠ 0) : T ^ ((dg n).length - 1) ≤ n := by
  rcases Nat.lt_or_ge n (T ^ ((dg n).length - 1)) with h1 | h1
  · have h2 := length_dg_le h1
    have h3 : (dg n).length ≠ 0 := fun e => h (dg_eq_nil.1 (List.eq_nil_of_length_eq_zero e))
    omega
  · exact h1
theorem dg_small {n : Nat} (h0 : n ≠ 0) (h : n < T) : dg n = [(n : Int)] := by
  rw [dg_pos h0, Nat.mod_eq_of_lt h, Nat.div_eq_of_lt h, dg_zero]
end Go.Proofs.YtfkpbdapinpkdaaDoor.Mg
