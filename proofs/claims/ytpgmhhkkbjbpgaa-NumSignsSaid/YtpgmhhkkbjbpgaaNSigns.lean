/- NumSigns answers true, over whole numbers: turned round twice a number is itself; the sign of a product is the product of the signs; a number and itself turned round are nothing. -/
import Derived.Test.YtpgmhhkkbjbpgaaNA
import Derived.Test.YtpgmhhkkbjbpgaaNM
import Derived.Test.YtpgmhhkkbjbpgaaND
import Derived.Test.YtpgmhhkkbjbpgaaKSigns
namespace Go.Proofs.Ytpgmhhkkbjbpgaa.Mg
open Go.RowKit Go.Proofs.YtpgmhhkkbjbpgaaW.PrintWords Go.Proofs.YtpgmhhkkbjbpgaaW.PrintMore Go.Proofs.Ytpgmhhkkbjbpgaa.MB Go.Proofs.Ytpgmhhkkbjbpgaa.M Go.Proofs.Ytpgmhhkkbjbpgaa.MD
set_option linter.unusedVariables false
set_option linter.unusedSimpArgs false

theorem sgn_self (x : Int) : sgn (x - x) = 0 := by rw [Int.sub_self]; rfl
theorem sgn_neg (x : Int) : sgn (-x) = wrap64 (-sgn x) := by
  rcases sgn_cases x with ⟨p, e⟩ | ⟨p, e⟩ | ⟨p, e⟩ <;> rcases sgn_cases (-x) with ⟨p2, e2⟩ | ⟨p2, e2⟩ | ⟨p2, e2⟩ <;> rw [e, e2] <;> first | (exfalso; omega) | (rw [w64 (by omega) (by omega)] <;> decide)
theorem sgn_neg1 {x : Int} (h : x < 0) : sgn x = -1 := by unfold sgn; rw [if_pos h]
theorem sgn_pos1 {x : Int} (h : 0 < x) : sgn x = 1 := by unfold sgn; rw [if_neg (by omega), if_neg (by omega)]
theorem sgn_mul (x y : Int) : sgn (x * y) = wrap64 (sgn x * sgn y) := by
  rcases sgn_cases x with ⟨p, e⟩ | ⟨p, e⟩ | ⟨p, e⟩
  · rcases sgn_cases y with ⟨p2, e2⟩ | ⟨p2, e2⟩ | ⟨p2, e2⟩
    · rw [e, e2, sgn_pos1 (Int.mul_pos_of_neg_of_neg p p2)]; rw [w64 (by omega) (by omega)] <;> decide
    · rw [e, e2, p2, Int.mul_zero]; rw [w64 (by omega) (by omega)] <;> decide
    · rw [e, e2, sgn_neg1 (Int.mul_neg_of_neg_of_pos p p2)]; rw [w64 (by omega) (by omega)] <;> decide
  · rw [e, p, Int.zero_mul, Int.zero_mul]; rw [w64 (by omega) (by omega)] <;> decide
  · rcases sgn_cases y with ⟨p2, e2⟩ | ⟨p2, e2⟩ | ⟨p2, e2⟩
    · rw [e, e2, sgn_neg1 (Int.mul_neg_of_pos_of_neg p p2)]; rw [w64 (by omega) (by omega)] <;> decide
    · rw [e, e2, p2, Int.mul_zero]; rw [w64 (by omega) (by omega)] <;> decide
    · rw [e, e2, sgn_pos1 (Int.mul_pos p p2)]; rw [w64 (by omega) (by omega)] <;> decide
theorem NumSigns_f {m n : Bool} {a b : List Int} {k : Nat} (ha : Ok a) (hb : Ok b) (hk : 20002 ≤ k) : isohyetlaw02_NumSigns.f k m a n b = some true := by
  unfold isohyetlaw02_NumSigns.f
  obtain ⟨t, hs, hr⟩ := short_2 (k := k) 12 ⟨m, a⟩ ⟨n, b⟩ (by omega)
  rw [fit_z (by omega), Option.bind_some, if_pos rfl, hs, Option.bind_some]
  cases t with
  | false => rw [if_neg (by decide)]
  | true =>
    obtain ⟨la, lb⟩ := hr rfl
    dsimp only at la lb
    rw [if_pos rfl]
    have Ha := HZ.of (m := m) ha (by omega)
    have Hb := HZ.of (m := n) hb (by omega)
    have hx : (nv m (val a)).natAbs < B ^ 12 := by rw [nv_abs]; exact val_lt_of_len ha (by omega)
    have hy : (nv n (val b)).natAbs < B ^ 12 := by rw [nv_abs]; exact val_lt_of_len hb (by omega)
    generalize nv m (val a) = x at Ha hx
    generalize nv n (val b) = y at Hb hy
    have hB : B ^ 24 < B ^ 64 := by decide
    have hp : x.natAbs * y.natAbs < B ^ 24 := pow_mul_lt hx hy
    have hm : (-x).natAbs < B ^ 12 := by omega
    have Hm := HZ.z hm (by omega)
    have Hx : HZ (zb (- -x)) (zl (- -x)) (- -x) := HZ.z (m := 12) (by omega) (by omega)
    have h1 : (x + -x).natAbs < B ^ 64 := by
      rw [Int.add_right_neg]
      exact Nat.pow_pos B_pos
    have hxy : (x * y).natAbs < B ^ 24 := by rw [Int.natAbs_mul]; exact hp
    have hxy2 : ((x.natAbs : Int) * (y.natAbs : Int)).natAbs < B ^ 24 := by rw [Int.natAbs_mul, Int.natAbs_natCast, Int.natAbs_natCast]; exact hp
    have hxy3 : (-x * y).natAbs < B ^ 24 := by rw [Int.natAbs_mul, Int.natAbs_neg]; exact hp
    have Hax : HZ (zb (x.natAbs : Int)) (zl (x.natAbs : Int)) (x.natAbs : Int) := HZ.z (m := 12) (by omega) (by omega)
    have Hay : HZ (zb (y.natAbs : Int)) (zl (y.natAbs : Int)) (y.natAbs : Int) := HZ.z (m := 12) (by omega) (by omega)
    have Hp := HZ.z hxy (by omega)
    have Hp2 := HZ.z hxy2 (by omega)
    have Hp3 := HZ.z hxy3 (by omega)
    have Hap : HZ (zb ((x * y).natAbs : Int)) (zl ((x * y).natAbs : Int)) ((x * y).natAbs : Int) := HZ.z (m := 24) (by omega) (by omega)
    have Hnp : HZ (zb (-(x * y))) (zl (-(x * y))) (-(x * y)) := HZ.z (m := 24) (by omega) (by omega)
    have z1 : sgn (x + -x) = 0 := by rw [Int.add_right_neg]; rfl
    have z2 : sgn (((x * y).natAbs : Int) - (x.natAbs : Int) * (y.natAbs : Int)) = 0 := by
      rw [Int.natAbs_mul, Int.natCast_mul]
      exact sgn_self _
    have z3 : sgn (-x * y - -(x * y)) = 0 := by
      rw [Int.neg_mul]
      exact sgn_self _
    have z4 : sgn (- -x - x) = 0 := by
      rw [Int.neg_neg]
      exact sgn_self _
    obtain ⟨k, rfl⟩ : ∃ j, k = j + 1 := ⟨k - 1, by omega⟩
    rw [Neg_z Ha (by omega), Option.bind_some]
    dsimp only
    rw [Right_z hm (by omega), Option.bind_some, if_pos rfl, Neg_z Hm (by omega), Option.bind_some]
    dsimp only
    rw [Cmp_z Hx Ha (by omega), Option.bind_some, if_pos z4, Add_z Ha Hm h1 (by omega), Option.bind_some]
    dsimp only
    rw [Sign_z (HZ.z h1 (by omega)) (by omega), Option.bind_some, if_pos z1, Sign_z Hm (by omega), Option.bind_some, Sign_z Ha (by omega), Option.bind_some, sgn_neg, bne_self_eq_false]
    simp only [isohyetlaw02_NumSigns.j0]
    rw [if_neg (by decide), Mul_z Ha Hb (by omega) (by omega), Option.bind_some]
    dsimp only
    rw [Sign_z Hp (by omega), Option.bind_some, Sign_z Ha (by omega), Option.bind_some, Sign_z Hb (by omega), Option.bind_some, if_pos (sgn_mul x y), Abs_z Hp (by omega), Option.bind_some]
    dsimp only
    rw [Abs_z Ha (by omega), Option.bind_some]
    dsimp only
    rw [Abs_z Hb (by omega), Option.bind_some]
    dsimp only
    rw [Mul_z Hax Hay (by omega) (by omega), Option.bind_some]
    dsimp only
    rw [Cmp_z Hap Hp2 (by omega), Option.bind_some, if_pos z2, Mul_z Hm Hb (by omega) (by omega), Option.bind_some]
    dsimp only
    rw [Neg_z Hp (by omega), Option.bind_some]
    dsimp only
    rw [Cmp_z Hp3 Hnp (by omega), Option.bind_some, if_pos z3, Right_z hxy (by omega), Option.bind_some]
end Go.Proofs.Ytpgmhhkkbjbpgaa.Mg
namespace Go.Proofs.Ytpgmhhkkbjbpgaa.Pure
open Go.Proofs.Ytpgmhhkkbjbpgaa.M
theorem NumSigns : ∀ (a0 : Bool) (l0 : List Int) (a1 : Bool) (l1 : List Int), l0.length ≤ maxLen → l0.length * 8 ≤ 140737488351232 → (∀ x ∈ l0, (Lit.int .u64 x).wf = true) → l1.length ≤ maxLen → l1.length * 8 ≤ 140737488351232 → (∀ x ∈ l1, (Lit.int .u64 x).wf = true) → ∃ k, isohyetlaw02_NumSigns.f k a0 l0 a1 l1 = some true := by
  intro a0 l0 a1 l1 _ _ h0 _ _ h1
  exact ⟨20002, Mg.NumSigns_f (Mg.ok_of_wf h0) (Mg.ok_of_wf h1) (Nat.le_refl _)⟩
end Go.Proofs.Ytpgmhhkkbjbpgaa.Pure
