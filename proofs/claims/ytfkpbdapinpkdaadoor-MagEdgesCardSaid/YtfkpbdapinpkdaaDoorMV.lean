/- Magnitudes as lists of words: their values, and the words of a number. No program in sight. -/
namespace Go.Proofs.YtfkpbdapinpkdaaDoor.Mg

/-- Two to the power of 64. -/
def B : Nat := 18446744073709551616
theorem B_pos : 0 < B := by decide
theorem B_eq : B = 18446744073709551616 := rfl

/-- The number that words tell, the lowest first. -/
def val : List Int → Nat
  | [] => 0
  | x :: xs => x.toNat + B * val xs
/-- Each is a word. -/
def Ok (l : List Int) : Prop := ∀ x ∈ l, 0 ≤ x ∧ x < 18446744073709551616
theorem Ok.nil : Ok [] := fun x h => by cases h
theorem Ok.cons {x : Int} {xs : List Int} (h : 0 ≤ x ∧ x < 18446744073709551616) (hs : Ok xs) : Ok (x :: xs) := by
  intro y hy
  rcases List.mem_cons.1 hy with rfl | hy
  · exact h
  · exact hs y hy
theorem Ok.head {x : Int} {xs : List Int} (h : Ok (x :: xs)) : 0 ≤ x ∧ x < 18446744073709551616 := h x List.mem_cons_self
theorem Ok.tail {x : Int} {xs : List Int} (h : Ok (x :: xs)) : Ok xs := fun y hy => h y (List.mem_cons_of_mem _ hy)
theorem Ok.append {xs ys : List Int} (h : Ok xs) (k : Ok ys) : Ok (xs ++ ys) := by
  intro y hy
  rcases List.mem_append.1 hy with hy | hy
  · exact h y hy
  · exact k y hy
theorem Ok.take {xs : List Int} (h : Ok xs) (n : Nat) : Ok (xs.take n) := fun y hy => h y (List.mem_of_mem_take hy)
theorem Ok.drop {xs : List Int} (h : Ok xs) (n : Nat) : Ok (xs.drop n) := fun y hy => h y (List.mem_of_mem_drop hy)
theorem Ok.set {xs : List Int} (h : Ok xs) (n : Nat) {y : Int} (hy : 0 ≤ y ∧ y < 18446744073709551616) : Ok (xs.set n y) := by
  intro z hz
  rcases List.mem_or_eq_of_mem_set hz with hz | rfl
  · exact h z hz
  · exact hy
theorem Ok.replicate (n : Nat) : Ok (List.replicate n 0) := by
  intro z hz
  have := List.eq_of_mem_replicate hz
  omega
theorem Ok.getD {xs : List Int} (h : Ok xs) (n : Nat) : 0 ≤ xs.getD n 0 ∧ xs.getD n 0 < 18446744073709551616 := by
  rw [List.getD_eq_getElem?_getD]
  cases hx : xs[n]? with
  | none => simp
  | some y => exact h y (List.mem_of_getElem? hx)

theorem val_append (xs ys : List Int) : val (xs ++ ys) = val xs + B ^ xs.length * val ys := by
  induction xs with
  | nil => simp [val]
  | cons x xs ih =>
    simp only [List.cons_append, val, ih, List.length_cons, Nat.pow_succ]
    rw [Nat.mul_add, ← Nat.mul_assoc, Nat.mul_comm B (B ^ xs.length)]
    omega
theorem val_lt {xs : List Int} (h : Ok xs) : val xs < B ^ xs.length := by
  induction xs with
  | nil => simp [val]
  | cons x xs ih =>
    have h1 := ih h.tail
    have h2 := h.head
    simp only [val, List.length_cons, Nat.pow_succ]
    have h3 : x.toNat < B := by unfold B; omega
    have h4 : B * (val xs + 1) ≤ B * B ^ xs.length := Nat.mul_le_mul_left B h1
    rw [Nat.mul_comm (B ^ xs.length) B]
    rw [Nat.mul_add] at h4
    omega
theorem val_replicate (n : Nat) : val (List.replicate n 0) = 0 := by
  induction n with
  | zero => rfl
  | succ n ih => simp [List.replicate_succ, val, ih]
theorem val_take_drop (xs : List Int) (n : Nat) (hn : n ≤ xs.length) : val xs = val (xs.take n) + B ^ n * val (xs.drop n) := by
  have := val_append (xs.take n) (xs.drop n)
  rw [List.take_append_drop, List.length_take, Nat.min_eq_left hn] at this
  exact this
theorem val_getD (xs : List Int) (n : Nat) (hn : n < xs.length) : val xs = val (xs.take n) + B ^ n * ((xs.getD n 0).toNat + B * val (xs.drop (n + 1))) := by
  rw [val_take_drop xs n (by omega), List.drop_eq_getElem_cons hn]
  simp only [val, List.getD_eq_getElem?_getD, List.getElem?_eq_getElem hn, Option.getD_some]
theorem val_set (xs : List Int) (n : Nat) (y : Int) (hn : n < xs.length) : val (xs.set n y) = val (xs.take n) + B ^ n * (y.toNat + B * val (xs.drop (n + 1))) := by
  rw [val_getD (xs.set n y) n (by simpa using hn), List.take_set_of_le (Nat.le_refl _), List.drop_set_of_lt (by omega)]
  simp [List.getD_eq_getElem?_getD, hn]

/-- A number's words. -/
def ofNat (n : Nat) : List Int := if _h : n = 0 then [] else ((n % B : Nat) : Int) :: ofNat (n / B)
termination_by n
decreasing_by exact Nat.div_lt_self (Nat.pos_of_ne_zero _h) (by decide)
theorem ofNat_zero : ofNat 0 = [] := by rw [ofNat]; simp
theorem ofNat_pos {n : Nat} (h : n ≠ 0) : ofNat n = ((n % B : Nat) : Int) :: ofNat (n / B) := by rw [ofNat]; simp [h]
theorem val_ofNat (n : Nat) : val (ofNat n) = n := by
  induction n using Nat.strongRecOn with
  | _ n ih =>
    by_cases h : n = 0
    · subst h; rw [ofNat_zero]; rfl
    · rw [ofNat_pos h, val, ih _ (Nat.div_lt_self (Nat.pos_of_ne_zero h) (by decide)), Int.toNat_natCast]
      exact Nat.mod_add_div n B
theorem Ok_ofNat (n : Nat) : Ok (ofNat n) := by
  induction n using Nat.strongRecOn with
  | _ n ih =>
    by_cases h : n = 0
    · subst h; rw [ofNat_zero]; exact Ok.nil
    · rw [ofNat_pos h]
      refine Ok.cons ?_ (ih _ (Nat.div_lt_self (Nat.pos_of_ne_zero h) (by decide)))
      have := Nat.mod_lt n B_pos
      unfold B at this ⊢
      omega
theorem ofNat_eq_nil {n : Nat} : ofNat n = [] ↔ n = 0 := by
  constructor
  · intro h
    have := val_ofNat n
    rw [h] at this
    exact this.symm
  · rintro rfl; exact ofNat_zero
theorem ofNat_last {n : Nat} (h : n ≠ 0) : (ofNat n).getD ((ofNat n).length - 1) 0 ≠ 0 := by
  induction n using Nat.strongRecOn with
  | _ n ih =>
    rw [ofNat_pos h]
    by_cases h1 : n / B = 0
    · rw [h1, ofNat_zero]
      have : n < B := by
        rcases Nat.lt_or_ge n B with h2 | h2
        · exact h2
        · have := Nat.div_pos h2 B_pos; omega
      simp only [List.length_singleton]
      rw [Nat.mod_eq_of_lt this]
      simp
      omega
    · have h2 := ih _ (Nat.div_lt_self (Nat.pos_of_ne_zero h) (by decide)) h1
      have h3 : (ofNat (n / B)).length ≠ 0 := by
        intro e
        exact h1 (ofNat_eq_nil.1 (List.eq_nil_of_length_eq_zero e))
      rw [show (((n % B : Nat) : Int) :: ofNat (n / B)).length - 1 = ((ofNat (n / B)).length - 1) + 1 from by simp; omega]
      simpa using h2
theorem ofNat_val_of_last {l : List Int} (h : Ok l) (hl : l = [] ∨ l.getD (l.length - 1) 0 ≠ 0) : ofNat (val l) = l := by
  induction l with
  | nil => exact ofNat_zero
  | cons x xs ih =>
    have hx := h.head
    have hne : val (x :: xs) ≠ 0 := by
      intro e
      rcases hl with hl | hl
      · cases hl
      · apply hl
        have key : ∀ (l : List Int) (n : Nat), Ok l → val l = 0 → l.getD n 0 = 0 := by
          intro l
          induction l with
          | nil => intro n _ _; simp
          | cons y ys ih2 =>
            intro n hok hv
            simp only [val] at hv
            have hy := hok.head
            cases n with
            | zero => simp; omega
            | succ n =>
              have := ih2 n hok.tail (by
                have : B * val ys = 0 := by omega
                rcases Nat.mul_eq_zero.1 this with h | h
                · exact absurd h (by decide)
                · exact h)
              simpa using this
        exact key _ _ h e
    rw [ofNat_pos hne]
    have e1 : (x.toNat + B * val xs) % B = x.toNat := by rw [Nat.add_mul_mod_self_left, Nat.mod_eq_of_lt (by unfold B; omega)]
    have e2 : (x.toNat + B * val xs) / B = val xs := by rw [Nat.add_mul_div_left _ _ B_pos, Nat.div_eq_of_lt (by unfold B; omega)]; omega
    simp only [val, e1, e2]
    rw [ih h.tail ?_]
    · congr 1; omega
    · cases xs with
      | nil => exact .inl rfl
      | cons y ys =>
        right
        rcases hl with hl | hl
        · cases hl
        · simpa using hl
theorem val_inj_of_ofNat {l : List Int} {n : Nat} (h : val l = n) (hok : Ok l) (hl : l = [] ∨ l.getD (l.length - 1) 0 ≠ 0) : l = ofNat n := by rw [← h, ofNat_val_of_last hok hl]
theorem length_ofNat_le {n m : Nat} (h : n < B ^ m) : (ofNat n).length ≤ m := by
  induction m generalizing n with
  | zero => 
    have : n = 0 := by simpa using h
    subst this; rw [ofNat_zero]; simp
  | succ m ih =>
    by_cases h0 : n = 0
    · subst h0; rw [ofNat_zero]; simp
    · rw [ofNat_pos h0, List.length_cons]
      have := ih (n := n / B) (by
        rw [Nat.div_lt_iff_lt_mul B_pos]
        rw [Nat.pow_succ] at h
        exact h)
      omega
theorem lt_pow_length_ofNat (n : Nat) : n < B ^ (ofNat n).length := by
  have := val_lt (Ok_ofNat n)
  rwa [val_ofNat] at this
theorem pow_length_ofNat_le {n : Nat} (h : n ≠ 0) : B ^ ((ofNat n).length - 1) ≤ n := by
  rcases Nat.lt_or_ge n (B ^ ((ofNat n).length - 1)) with h1 | h1
  · have h2 := length_ofNat_le h1
    have h3 : (ofNat n).length ≠ 0 := fun e => h (ofNat_eq_nil.1 (List.eq_nil_of_length_eq_zero e))
    omega
  · exact h1
theorem ofNat_small {n : Nat} (h0 : n ≠ 0) (h : n < B) : ofNat n = [(n : Int)] := by
  rw [ofNat_pos h0, Nat.mod_eq_of_lt h, Nat.div_eq_of_lt h, ofNat_zero]
end Go.Proofs.YtfkpbdapinpkdaaDoor.Mg
