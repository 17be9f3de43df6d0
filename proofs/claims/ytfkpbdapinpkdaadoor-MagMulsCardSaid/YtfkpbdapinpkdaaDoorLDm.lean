/- The document's product of decimal digits, as numbers. -/
import Derived.Test.YtfkpbdapinpkdaaDoorLD
import Derived.Test.YtfkpbdapinpkdaaDoorR2
namespace Go.Proofs.YtfkpbdapinpkdaaDoor.Mg
open Go.RowKit Go.Proofs.YtfkpbdapinpkdaaDoorW.PrintWords Go.Proofs.YtfkpbdapinpkdaaDoorW.PrintMore Go.Proofs.YtfkpbdapinpkdaaDoor.MB Go.Proofs.YtfkpbdapinpkdaaDoor.M Go.Proofs.YtfkpbdapinpkdaaDoor.MD
set_option linter.unusedVariables false
set_option linter.unusedSimpArgs false

theorem dv_set_add (l : List Int) (p : Nat) (y : Int) (h : p < l.length) : dv (l.set p y) + T ^ p * (l.getD p 0).toNat = dv l + T ^ p * y.toNat := by
  rw [dv_set l p y h, dv_getD l p h]
  simp only [Nat.mul_add]
  omega
theorem dmul_step (P s carry x y c o v v' S bt Bi Bj : Nat) (h1 : s + T * carry = x * y + c + o) (h2 : v' + P * o = v + P * s) (h3 : v + P * c = S + x * Bi * bt) (hP : P = Bi * Bj) : v' + P * T * carry = S + x * Bi * (bt + Bj * y) := by
  have e : P * (s + T * carry) = P * (x * y + c + o) := by rw [h1]
  subst hP
  generalize T = D at *
  grind
theorem dmul_end (P carry v v' S x Bi vb BL : Nat) (h2 : v' + P * 0 = v + P * carry) (h3 : v + P * carry = S + x * Bi * vb) (h4 : S = BL * vb) : v' = (BL + Bi * x) * vb := by
  grind
theorem wmul99 {o x y c : Nat} (ho : o < 10) (hx : x < 10) (hy : y < 10) (hc : c < 10) : wrap64 (wrap64 ((o : Int) + wrap64 ((x : Int) * (y : Int))) + (c : Int)) = ((o + x * y + c : Nat) : Int) ∧ o + x * y + c < 100 := by
  have h := Nat.mul_le_mul (show x ≤ 9 by omega) (show y ≤ 9 by omega)
  rw [show (x : Int) * (y : Int) = ((x * y : Nat) : Int) from by norm_cast]
  generalize x * y = p at *
  refine ⟨?_, by omega⟩
  rw [w64 (x := (p : Int)) (by omega) (by omega), w64 (x := (o : Int) + (p : Int)) (by omega) (by omega), w64 (x := (o : Int) + (p : Int) + (c : Int)) (by omega) (by omega)]
  omega
theorem DMul_l1 (a b : List Int) (ha : Dok a) (hb : Dok b) (hla : a.length ≤ 1000) (hlb : b.length ≤ 1000) (i : Nat) (hi : i < a.length) (S : Nat) (R : Option (List Int)) (K : Nat)
    (hnext : ∀ (k : Nat) (out : List Int) (c : Nat), K ≤ k → out.length = a.length + b.length → Dok out → c < 10 → (∀ m, i + b.length ≤ m → out.getD m 0 = 0) →
      dv out + T ^ (i + b.length) * c = S + (a.getD i 0).toNat * T ^ i * dv b → isohyetref01_Mul.l0 k a b (out.set (i + b.length) (c : Int)) ((i + 1 : Nat) : Int) = R) :
    ∀ (d j k : Nat) (out : List Int) (c : Nat), j + d = b.length → d + K + 1 ≤ k → out.length = a.length + b.length → Dok out → c < 10 → (∀ m, i + b.length ≤ m → out.getD m 0 = 0) →
      dv out + T ^ (i + j) * c = S + (a.getD i 0).toNat * T ^ i * dv (b.take j) →
      isohyetref01_Mul.l1 k a b out (i : Int) (c : Int) (j : Int) = R := by
  intro d
  induction d with
  | zero =>
    intro j k out c hj hk hl ho hc hz he
    obtain ⟨k, rfl⟩ : ∃ m, k = m + 1 := ⟨k - 1, by omega⟩
    obtain rfl : j = b.length := by omega
    have hz0 := hz (i + b.length) (Nat.le_refl _)
    simp only [isohyetref01_Mul.l1]
    rw [if_neg (by omega), wadd (m := i) (n := b.length) (by omega), if_pos (by omega), if_pos (by omega), Int.toNat_natCast (i + b.length), rd_cast out (i + b.length), hz0, Int.zero_add, w64 (x := (c : Int)) (by omega) (by omega), wsucc (by omega)]
    rw [List.take_length] at he
    exact hnext k out c (by omega) hl ho hc hz he
  | succ d ih =>
    intro j k out c hj hk hl ho hc hz he
    obtain ⟨k, rfl⟩ : ∃ m, k = m + 1 := ⟨k - 1, by omega⟩
    simp only [isohyetref01_Mul.l1]
    have hx := ha.getD i
    have hy := hb.getD j
    have hoo := ho.getD (i + j)
    obtain ⟨x, ex⟩ : ∃ x : Nat, a.getD i 0 = (x : Int) := ⟨(a.getD i 0).toNat, by omega⟩
    obtain ⟨y, ey⟩ : ∃ y : Nat, b.getD j 0 = (y : Int) := ⟨(b.getD j 0).toNat, by omega⟩
    obtain ⟨o, eo⟩ : ∃ o : Nat, out.getD (i + j) 0 = (o : Int) := ⟨(out.getD (i + j) 0).toNat, by omega⟩
    rw [ex] at hx
    rw [ey] at hy
    rw [eo] at hoo
    have hn2 : o + x * y + c < 100 := (wmul99 (o := o) (x := x) (y := y) (c := c) (by omega) (by omega) (by omega) hc).2
    rw [if_pos (by omega), wadd (m := i) (n := j) (by omega), if_pos (by omega), if_pos (by omega), if_pos (by omega), if_pos (by omega), if_pos (by omega), Int.toNat_natCast (i + j), rd_cast out (i + j), rd_cast a i, rd_cast b j, ex, ey, eo, (wmul99 (o := o) (x := x) (y := y) (c := c) (by omega) (by omega) (by omega) hc).1, tm10, td10, w10 hn2, wsucc (by omega)]
    have hdm := Nat.mod_add_div (o + x * y + c) 10
    have hr := Nat.mod_lt (o + x * y + c) (show 0 < 10 by decide)
    generalize hs : (o + x * y + c) % 10 = s at *
    generalize hq : (o + x * y + c) / 10 = q at *
    refine ih (j + 1) k _ q (by omega) (by omega) (by simpa using hl) (ho.set _ (by omega)) (by omega) ?_ ?_
    · intro m hm
      rw [getD_set_ne _ _ (by omega)]
      exact hz m hm
    · have h2 := dv_set_add out (i + j) (s : Int) (by omega)
      rw [eo, Int.toNat_natCast, Int.toNat_natCast] at h2
      rw [ex, Int.toNat_natCast] at he ⊢
      have := dmul_step (T ^ (i + j)) s q x y c o _ _ S (dv (b.take j)) (T ^ i) (T ^ j) (by rw [T_eq]; omega) h2 he (Nat.pow_add ..)
      rw [dv_take_succ, ey, Int.toNat_natCast, show i + (j + 1) = (i + j) + 1 from by omega, Nat.pow_succ]
      exact this
theorem DMul_l0 (a b : List Int) (ha : Dok a) (hb : Dok b) (hla : a.length ≤ 1000) (hlb : b.length ≤ 1000) : ∀ (d i k : Nat) (out : List Int), i + d = a.length → d * (b.length + 2) + a.length + b.length + 2 ≤ k → out.length = a.length + b.length → Dok out → (∀ m, i + b.length ≤ m → out.getD m 0 = 0) →
    dv out = dv (a.take i) * dv b → isohyetref01_Mul.l0 k a b out (i : Int) = some (dg (dv a * dv b)) := by
  intro d
  induction d with
  | zero =>
    intro i k out hi hk hl ho hz he
    obtain ⟨k, rfl⟩ : ∃ m, k = m + 1 := ⟨k - 1, by omega⟩
    obtain rfl : i = a.length := by omega
    simp only [isohyetref01_Mul.l0]
    rw [if_neg (by omega), trim_f ho (by omega) (by omega), Option.bind_some, he, List.take_length]
  | succ d ih =>
    intro i k out hi hk hl ho hz he
    obtain ⟨k, rfl⟩ : ∃ m, k = m + 1 := ⟨k - 1, by omega⟩
    simp only [isohyetref01_Mul.l0]
    rw [if_pos (by omega)]
    have hk' : d * (b.length + 2) + (b.length + 2) + a.length + b.length + 2 ≤ k + 1 := by
      rw [Nat.succ_mul] at hk
      exact hk
    refine DMul_l1 a b ha hb hla hlb i (by omega) (dv out) _ (d * (b.length + 2) + a.length + b.length + 2) ?_ b.length 0 k out 0 (by omega) (by omega) hl ho (by omega) hz (by simp [dv])
    intro k2 out2 c hk2 hl2 ho2 hc hz2 he2
    refine ih (i + 1) k2 _ (by omega) hk2 (by simpa using hl2) (ho2.set _ (by omega)) ?_ ?_
    · intro m hm
      rw [getD_set_ne _ _ (by omega)]
      exact hz2 m (by omega)
    · have h2 := dv_set_add out2 (i + b.length) (c : Int) (by omega)
      rw [hz2 _ (Nat.le_refl _), Int.toNat_natCast] at h2
      rw [dv_take_succ]
      exact dmul_end _ _ _ _ _ _ _ _ _ h2 he2 he
theorem DMul_f {x y k : Nat} (hx : x < T ^ 120) (hy : y < T ^ 120) (hk : 15000 ≤ k) : isohyetref01_Mul.f k (dg x) (dg y) = some (dg (x * y)) := by
  have l1 := length_dg_le hx
  have l2 := length_dg_le hy
  have hm := Nat.mul_le_mul l1 (show (dg y).length + 2 ≤ 122 by omega)
  unfold isohyetref01_Mul.f
  rw [wadd (m := (dg x).length) (n := (dg y).length) (by omega), if_pos (by omega), Int.toNat_natCast, if_pos (by omega)]
  have h := DMul_l0 (dg x) (dg y) (Dok_dg x) (Dok_dg y) (by omega) (by omega) (dg x).length 0 k (List.replicate ((dg x).length + (dg y).length) 0) (by omega) (by omega) (by simp) (Dok.replicate _) ?_ (by simp [dv, dv_replicate])
  · rw [dv_dg, dv_dg] at h
    exact h
  · intro m _
    rw [List.getD_eq_getElem?_getD, List.getElem?_replicate]
    split <;> rfl
end Go.Proofs.YtfkpbdapinpkdaaDoor.Mg
