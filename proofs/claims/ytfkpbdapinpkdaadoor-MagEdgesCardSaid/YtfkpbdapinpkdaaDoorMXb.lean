/- What the rounds of 'take' and 'give' leave. -/
import Derived.Test.YtfkpbdapinpkdaaDoorMU
import Derived.Test.YtfkpbdapinpkdaaDoorME
namespace Go.Proofs.YtfkpbdapinpkdaaDoor.Mg
open Go.RowKit Go.Proofs.YtfkpbdapinpkdaaDoorW.PrintWords Go.Proofs.YtfkpbdapinpkdaaDoorW.PrintMore Go.Proofs.YtfkpbdapinpkdaaDoor.MB Go.Proofs.YtfkpbdapinpkdaaDoor.M Go.Proofs.YtfkpbdapinpkdaaDoor.MD
set_option linter.unusedVariables false
set_option linter.unusedSimpArgs false

/-! ### take, give -/
theorem hilo {x y : Int} (hx : 0 ≤ x ∧ x < 18446744073709551616) (hy : 0 ≤ y ∧ y < 18446744073709551616) : ∃ h l : Nat, hiW x y = (h : Int) ∧ loW x y = (l : Int) ∧ 18446744073709551616 * h + l = x.toNat * y.toNat ∧ l < 18446744073709551616 :=
  ⟨_, _, rfl, rfl, Nat.div_add_mod _ _, Nat.mod_lt _ (by decide)⟩
theorem val_take_set (l : List Int) (p m : Nat) (y : Int) (h : p < l.length) (hm : p < m) : val ((l.set p y).take m) + B ^ p * (l.getD p 0).toNat = val (l.take m) + B ^ p * y.toNat := by
  have := val_set_add (l.take m) p y (by rw [List.length_take]; omega)
  rw [← List.take_set] at this
  have e : (l.take m).getD p 0 = l.getD p 0 := by
    simp [List.getD_eq_getElem?_getD, List.getElem?_take, hm]
  rw [e] at this
  exact this
/-- One word of 'take': what is taken, and what is carried. -/
theorem take_word {q x c b y : Int} (hq : 0 ≤ q ∧ q < 18446744073709551616) (hx : 0 ≤ x ∧ x < 18446744073709551616) (hc : 0 ≤ c ∧ c < 18446744073709551616) (hb : 0 ≤ b ∧ b ≤ 1) (hy : 0 ≤ y ∧ y < 18446744073709551616) :
    ∃ c1 : Int, IntKind.u64.wrap (hiW q x + addC (loW q x) c 0) = c1 ∧ (0 ≤ c1 ∧ c1 < 18446744073709551616) ∧
      (subS y (addS (loW q x) c 0) b).toNat + q.toNat * x.toNat + c.toNat + b.toNat = y.toNat + B * (c1.toNat + (subC y (addS (loW q x) c 0) b).toNat) := by
  obtain ⟨h, l, e1, e2, hhl, hl⟩ := hilo hq hx
  have hh : h ≤ 18446744073709551614 := mul_high (x := q.toNat) (y := x.toNat) (by omega) (by omega) (by omega)
  rw [e1, e2, ← hhl]
  have a1 := addS_addC (l : Int) c 0
  have b1 := addC_ok (x := (l : Int)) (y := c) (c := 0) (by omega) hc.2 (by omega)
  have b2 := addS_ok (l : Int) c 0
  have a2 := subS_subC (x := y) (y := addS (l : Int) c 0) (c := b) hy.2 b2.2 hb.2
  have b3 := subC_ok y (addS (l : Int) c 0) b
  have b4 := subS_ok y (addS (l : Int) c 0) b
  refine ⟨(h : Int) + addC (l : Int) c 0, wu64 (by omega) (by omega), by omega, ?_⟩
  generalize subS y (addS (l : Int) c 0) b = s at *
  generalize subC y (addS (l : Int) c 0) b = s2 at *
  generalize addC (l : Int) c 0 = s3 at *
  generalize addS (l : Int) c 0 = s4 at *
  unfold B at a1 a2 ⊢
  omega
theorem take_val_step (Pp Pm s q x c b y C1 V X0 X1 X2 E : Nat) (h1 : s + q * x + c + b = y + B * C1) (h2 : X2 + Pp * B * (q * V) + Pp * B * C1 = X1 + E) (h3 : X1 + Pp * y = X0 + Pp * s) : X2 + Pp * (q * (x + B * V)) + Pp * (c + b) = X0 + E := by
  generalize B = D at *
  have e : Pp * (s + q * x + c + b) = Pp * (y + D * C1) := by rw [h1]
  grind
theorem takeL_val (q : Int) (hq : 0 ≤ q ∧ q < 18446744073709551616) : ∀ (v us : List Int) (p : Nat) (c b : Int), Ok v → Ok us → p + v.length ≤ us.length → (0 ≤ c ∧ c < 18446744073709551616) → (0 ≤ b ∧ b ≤ 1) →
    val ((takeL q v us p c b).1.take (p + v.length)) + B ^ p * (q.toNat * val v) + B ^ p * (c.toNat + b.toNat) = val (us.take (p + v.length)) + B ^ (p + v.length) * ((takeL q v us p c b).2.1.toNat + (takeL q v us p c b).2.2.toNat) ∧
      (takeL q v us p c b).1.drop (p + v.length) = us.drop (p + v.length) ∧ Ok (takeL q v us p c b).1 ∧ (0 ≤ (takeL q v us p c b).2.1 ∧ (takeL q v us p c b).2.1 < 18446744073709551616) ∧ (0 ≤ (takeL q v us p c b).2.2 ∧ (takeL q v us p c b).2.2 ≤ 1)
  | [], us, p, c, b, _, ho, hl, hc, hb => by
    simp only [takeL, List.length_nil, Nat.add_zero, val, Nat.mul_zero]
    exact ⟨trivial, trivial, ho, hc, hb⟩
  | x :: v, us, p, c, b, hv, ho, hl, hc, hb => by
    simp only [List.length_cons] at hl
    have hy := ho.getD p
    obtain ⟨c1, e1, hc1, hw⟩ := take_word hq hv.head hc hb hy
    simp only [takeL]
    rw [e1]
    have b3 := subC_ok (us.getD p 0) (addS (loW q x) c 0) b
    have b4 := subS_ok (us.getD p 0) (addS (loW q x) c 0) b
    obtain ⟨h1, h2, h3, h4, h5⟩ := takeL_val q hq v (us.set p (subS (us.getD p 0) (addS (loW q x) c 0) b)) (p + 1) c1 (subC (us.getD p 0) (addS (loW q x) c 0) b) hv.tail (ho.set _ b4) (by simp; omega) hc1 b3
    rw [List.length_cons, show p + (v.length + 1) = p + 1 + v.length from by omega]
    refine ⟨?_, ?_, h3, h4, h5⟩
    · have h6 := val_take_set us p (p + 1 + v.length) (subS (us.getD p 0) (addS (loW q x) c 0) b) (by omega) (by omega)
      rw [Nat.pow_succ] at h1
      simp only [val]
      exact take_val_step (B ^ p) 0 _ _ _ _ _ _ _ _ _ _ _ _ hw h1 h6
    · rw [h2, List.drop_set_of_lt (by omega)]
theorem take_fin (Pp Pn s c b y bo X0 X1 X2 qV : Nat) (h1 : X1 + Pp * qV + Pp * 0 = X0 + Pn * (c + b)) (h2 : s + c + b = y + B * bo) : (X1 + Pn * s) + Pp * qV = (X0 + Pn * y) + Pn * B * bo := by
  generalize B = D at *
  have e : Pn * (s + c + b) = Pn * (y + D * bo) := by rw [h2]
  grind
theorem takeL_pre (q : Int) : ∀ (v us : List Int) (p : Nat) (c b : Int), (takeL q v us p c b).1.take p = us.take p
  | [], us, p, c, b => rfl
  | x :: v, us, p, c, b => by
    simp only [takeL]
    have e := congrArg (List.take p) (takeL_pre q v (us.set p (subS (us.getD p 0) (addS (loW q x) c 0) b)) (p + 1) (IntKind.u64.wrap (hiW q x + addC (loW q x) c 0)) (subC (us.getD p 0) (addS (loW q x) c 0) b))
    rw [List.take_take, List.take_take, Nat.min_eq_left (by omega), List.take_set_of_le (Nat.le_refl _)] at e
    exact e
theorem getD_of_drop {a b : List Int} {n : Nat} (h : a.drop n = b.drop n) : a.getD n 0 = b.getD n 0 := by
  have := congrArg (fun l : List Int => l.getD 0 0) h
  simpa [List.getD_eq_getElem?_getD] using this
theorem drop_of_drop {a b : List Int} {n : Nat} (h : a.drop n = b.drop n) : a.drop (n + 1) = b.drop (n + 1) := by
  have := congrArg (List.drop 1) h
  simpa [List.drop_drop] using this
/-- The last word of 'take'. -/
theorem take_last (us us1 : List Int) (c b : Int) (p n qV : Nat) (hl : n < us.length) (hlen : us1.length = us.length) (ho : Ok us1) (hc : 0 ≤ c ∧ c < 18446744073709551616) (hb : 0 ≤ b ∧ b ≤ 1) (hp : p ≤ n)
    (h1 : val (us1.take n) + B ^ p * qV = val (us.take n) + B ^ n * (c.toNat + b.toNat)) (h2 : us1.drop n = us.drop n) (h3 : us1.take p = us.take p) :
    val ((us1.set n (subS (us1.getD n 0) c b)).take (n + 1)) + B ^ p * qV = val (us.take (n + 1)) + B ^ (n + 1) * (subC (us1.getD n 0) c b).toNat ∧
      (us1.set n (subS (us1.getD n 0) c b)).drop (n + 1) = us.drop (n + 1) ∧ Ok (us1.set n (subS (us1.getD n 0) c b)) ∧ (us1.set n (subS (us1.getD n 0) c b)).length = us.length ∧ (0 ≤ subC (us1.getD n 0) c b ∧ subC (us1.getD n 0) c b ≤ 1) ∧ (us1.set n (subS (us1.getD n 0) c b)).take p = us.take p := by
  have hy := ho.getD n
  have b3 := subC_ok (us1.getD n 0) c b
  have b4 := subS_ok (us1.getD n 0) c b
  have a2 := subS_subC (x := us1.getD n 0) (y := c) (c := b) hy.2 hc.2 hb.2
  refine ⟨?_, ?_, ho.set _ b4, by rw [List.length_set]; exact hlen, b3, ?_⟩
  · rw [val_set_take_succ _ _ _ (by omega), val_take_succ us, ← getD_of_drop h2, Nat.pow_succ]
    exact take_fin _ _ _ _ _ _ _ _ _ 0 _ (by rw [Nat.mul_zero, Nat.add_zero]; exact h1) a2
  · rw [List.drop_set_of_lt (by omega)]
    exact drop_of_drop h2
  · rw [List.take_set_of_le (by omega)]
    exact h3
/-- 'take', whole. -/
theorem takeF_val (q : Int) (hq : 0 ≤ q ∧ q < 18446744073709551616) (v us : List Int) (p : Nat) (hv : Ok v) (ho : Ok us) (hl : p + v.length + 1 ≤ us.length) :
    val ((takeF q v us p).1.take (p + v.length + 1)) + B ^ p * (q.toNat * val v) = val (us.take (p + v.length + 1)) + B ^ (p + v.length + 1) * (takeF q v us p).2.toNat ∧
      (takeF q v us p).1.drop (p + v.length + 1) = us.drop (p + v.length + 1) ∧ Ok (takeF q v us p).1 ∧ (takeF q v us p).1.length = us.length ∧ (0 ≤ (takeF q v us p).2 ∧ (takeF q v us p).2 ≤ 1) ∧ (takeF q v us p).1.take p = us.take p := by
  obtain ⟨h1, h2, h3, h4, h5⟩ := takeL_val q hq v us p 0 0 hv ho (by omega) ⟨by omega, by omega⟩ ⟨by omega, by omega⟩
  rw [Int.toNat_zero, Nat.add_zero, Nat.mul_zero, Nat.add_zero] at h1
  exact take_last us _ _ _ p (p + v.length) _ (by omega) (takeL_length q v us p 0 0) h3 h4 h5 (by omega) h1 h2 (takeL_pre q v us p 0 0)

theorem give_val_step (Pp s x c y C1 V X0 X1 X2 E : Nat) (h1 : s + B * C1 = y + x + c) (h2 : X2 + E = X1 + Pp * B * V + Pp * B * C1) (h3 : X1 + Pp * y = X0 + Pp * s) : X2 + E = X0 + Pp * (x + B * V) + Pp * c := by
  generalize B = D at *
  have e : Pp * (s + D * C1) = Pp * (y + x + c) := by rw [h1]
  grind
theorem giveL_val : ∀ (v us : List Int) (p : Nat) (c : Int), Ok v → Ok us → p + v.length ≤ us.length → (0 ≤ c ∧ c ≤ 1) →
    val ((giveL v us p c).1.take (p + v.length)) + B ^ (p + v.length) * (giveL v us p c).2.toNat = val (us.take (p + v.length)) + B ^ p * val v + B ^ p * c.toNat ∧
      (giveL v us p c).1.drop (p + v.length) = us.drop (p + v.length) ∧ Ok (giveL v us p c).1 ∧ (0 ≤ (giveL v us p c).2 ∧ (giveL v us p c).2 ≤ 1) ∧ (giveL v us p c).1.take p = us.take p
  | [], us, p, c, _, ho, hl, hc => by
    simp only [giveL, List.length_nil, Nat.add_zero, val, Nat.mul_zero]
    exact ⟨trivial, trivial, ho, hc, trivial⟩
  | x :: v, us, p, c, hv, ho, hl, hc => by
    simp only [List.length_cons] at hl
    have hy := ho.getD p
    have hw := addS_addC (us.getD p 0) x c
    have b3 := addC_ok hy.2 hv.head.2 hc.2
    have b4 := addS_ok (us.getD p 0) x c
    simp only [giveL]
    obtain ⟨h1, h2, h3, h4, h5⟩ := giveL_val v (us.set p (addS (us.getD p 0) x c)) (p + 1) (addC (us.getD p 0) x c) hv.tail (ho.set _ b4) (by simp; omega) b3
    rw [List.length_cons, show p + (v.length + 1) = p + 1 + v.length from by omega]
    refine ⟨?_, ?_, h3, h4, ?_⟩
    · have h6 := val_take_set us p (p + 1 + v.length) (addS (us.getD p 0) x c) (by omega) (by omega)
      rw [Nat.pow_succ B p] at h1
      simp only [val]
      exact give_val_step (B ^ p) _ _ _ _ _ _ _ _ _ _ hw h1 h6
    · rw [h2, List.drop_set_of_lt (by omega)]
    · have e := congrArg (List.take p) h5
      rw [List.take_take, List.take_take, Nat.min_eq_left (by omega), List.take_set_of_le (Nat.le_refl _)] at e
      exact e
theorem give_fin (Pp Pn s c y o X0 X1 V : Nat) (h1 : X1 + Pn * c = X0 + Pp * V + Pp * 0) (h2 : s + B * o = y + c) : (X1 + Pn * s) + Pn * B * o = (X0 + Pn * y) + Pp * V := by
  generalize B = D at *
  have e : Pn * (s + D * o) = Pn * (y + c) := by rw [h2]
  grind
/-- The last word of 'give'. -/
theorem give_last (us us1 : List Int) (c : Int) (p n V : Nat) (hl : n < us.length) (hlen : us1.length = us.length) (ho : Ok us1) (hc : 0 ≤ c ∧ c ≤ 1) (hp : p ≤ n)
    (h1 : val (us1.take n) + B ^ n * c.toNat = val (us.take n) + B ^ p * V) (h2 : us1.drop n = us.drop n) (h3 : us1.take p = us.take p) :
    ∃ o : Nat, o ≤ 1 ∧ val ((us1.set n (IntKind.u64.wrap (us1.getD n 0 + c))).take (n + 1)) + B ^ (n + 1) * o = val (us.take (n + 1)) + B ^ p * V ∧
      (us1.set n (IntKind.u64.wrap (us1.getD n 0 + c))).drop (n + 1) = us.drop (n + 1) ∧ Ok (us1.set n (IntKind.u64.wrap (us1.getD n 0 + c))) ∧ (us1.set n (IntKind.u64.wrap (us1.getD n 0 + c))).length = us.length ∧ (us1.set n (IntKind.u64.wrap (us1.getD n 0 + c))).take p = us.take p := by
  have hy := ho.getD n
  obtain ⟨o, s, hs, ho1, hso, hs2⟩ : ∃ (o s : Nat), IntKind.u64.wrap (us1.getD n 0 + c) = (s : Int) ∧ o ≤ 1 ∧ s + B * o = (us1.getD n 0).toNat + c.toNat ∧ s < 18446744073709551616 := by
    rw [wu64_mod]
    refine ⟨((us1.getD n 0).toNat + c.toNat) / B, ((us1.getD n 0).toNat + c.toNat) % B, ?_, ?_, ?_, ?_⟩ <;> unfold B <;> omega
  rw [hs]
  refine ⟨o, ho1, ?_, ?_, ho.set _ ⟨by omega, by omega⟩, by rw [List.length_set]; exact hlen, ?_⟩
  · rw [val_set_take_succ _ _ _ (by omega), val_take_succ us, ← getD_of_drop h2, Nat.pow_succ, Int.toNat_natCast]
    exact give_fin _ _ _ _ _ _ _ _ _ (by rw [Nat.mul_zero, Nat.add_zero]; exact h1) hso
  · rw [List.drop_set_of_lt (by omega)]
    exact drop_of_drop h2
  · rw [List.take_set_of_le (by omega)]
    exact h3
/-- 'give', whole. -/
theorem giveF_val (v us : List Int) (p : Nat) (hv : Ok v) (ho : Ok us) (hl : p + v.length + 1 ≤ us.length) : ∃ o : Nat, o ≤ 1 ∧
    val ((giveF v us p).take (p + v.length + 1)) + B ^ (p + v.length + 1) * o = val (us.take (p + v.length + 1)) + B ^ p * val v ∧
      (giveF v us p).drop (p + v.length + 1) = us.drop (p + v.length + 1) ∧ Ok (giveF v us p) ∧ (giveF v us p).length = us.length ∧ (giveF v us p).take p = us.take p := by
  obtain ⟨h1, h2, h3, h4, h5⟩ := giveL_val v us p 0 hv ho (by omega) ⟨by omega, by omega⟩
  rw [Int.toNat_zero, Nat.mul_zero, Nat.add_zero] at h1
  exact give_last us _ _ p (p + v.length) _ (by omega) (giveL_length v us p 0) h3 h4 (by omega) h1 h2 h5
end Go.Proofs.YtfkpbdapinpkdaaDoor.Mg
