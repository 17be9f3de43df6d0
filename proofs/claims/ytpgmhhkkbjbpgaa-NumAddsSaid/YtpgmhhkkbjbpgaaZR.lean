/- NumAdds answers true: sums, differences and products, and which number is more, are what the decimal digits say. -/
import Derived.Test.YtpgmhhkkbjbpgaaZF
import Derived.Test.YtpgmhhkkbjbpgaaX3
import Derived.Test.YtpgmhhkkbjbpgaaX2
import Derived.Test.YtpgmhhkkbjbpgaaR4
import Derived.Test.YtpgmhhkkbjbpgaaKAdds
namespace Go.Proofs.Ytpgmhhkkbjbpgaa.Mg
open Go.RowKit Go.Proofs.YtpgmhhkkbjbpgaaW.PrintWords Go.Proofs.YtpgmhhkkbjbpgaaW.PrintMore Go.Proofs.Ytpgmhhkkbjbpgaa.MB Go.Proofs.Ytpgmhhkkbjbpgaa.M
set_option linter.unusedVariables false
set_option linter.unusedSimpArgs false

theorem dg_nil {n : Nat} : (dg n).length = 0 ↔ n = 0 := by
  constructor
  · intro h
    by_cases h0 : n = 0
    · exact h0
    · rw [dg_pos h0] at h
      simp at h
  · rintro rfl
    rw [dg_zero]
    rfl
theorem ROf (m : Bool) (n : Nat) : isohyetref02_Of.f m (dg n) = some (zb (nv m n), dg n) := by
  have hn := dg_nil (n := n)
  unfold isohyetref02_Of.f zb
  cases m with
  | false => rw [if_neg (by decide), nv_false, decide_eq_false (by omega)]
  | true =>
    rw [if_pos rfl, nv_true]
    by_cases h : n = 0
    · have := hn.2 h
      rw [decide_eq_false (by omega), decide_eq_false (by omega)]
    · have : (dg n).length ≠ 0 := fun e => h (hn.1 e)
      rw [decide_eq_true (by omega), decide_eq_true (by omega)]
theorem of_z {m : Bool} {l : List Int} {z : Int} {k : Nat} (h : HZ m l z) (hv : z.natAbs < T ^ 250) (hk : 9000 ≤ k) : isohyetlaw02_of.f k m l = some (zb z, dg z.natAbs) := by
  have hh := h.has
  have hval : val l = z.natAbs := hh.val
  have hlen := hh.len
  unfold isohyetlaw02_of.f
  rw [Digits_f h.ok (by omega) (by rw [hval]; exact hv) hk, Option.bind_some, hval, ROf, Option.bind_some, h.nv]
theorem RNeg (z : Int) : isohyetref02_Neg.f (zb z) (dg z.natAbs) = some (zb (-z), dg (-z).natAbs) := by
  unfold isohyetref02_Neg.f
  rw [ROf, Option.bind_some, nv_not, nv_zb, Int.natAbs_neg]
theorem RAdd {x y : Int} {k : Nat} (hx : x.natAbs < T ^ 250) (hy : y.natAbs < T ^ 250) (hk : 1000 ≤ k) : isohyetref02_Add.f k (zb x) (dg x.natAbs) (zb y) (dg y.natAbs) = some (zb (x + y), dg (x + y).natAbs) := by
  have e1 := nv_zb x
  have e2 := nv_zb y
  generalize zb x = m at *
  generalize zb y = n at *
  generalize hX : x.natAbs = X at *
  generalize hY : y.natAbs = Y at *
  unfold isohyetref02_Add.f
  by_cases hmn : m = n
  · subst hmn
    have e : nv m (X + Y) = x + y := by rw [← e1, ← e2]; cases m <;> simp [nv] <;> omega
    have en : (x + y).natAbs = X + Y := by rw [← e, nv_abs]
    rw [if_pos (beq_self_eq_true m), DAdd_g hx hy hk, Option.bind_some, ROf, Option.bind_some, e, en]
  · rw [if_neg (by rw [beq_iff_eq]; exact hmn), DCmp_f hx hy hk, Option.bind_some]
    by_cases hc : cmpN X Y ≥ 0
    · have hle : Y ≤ X := by
        rcases cmpN_cases X Y with ⟨q, e⟩ | ⟨q, e⟩ | ⟨q, e⟩ <;> rw [e] at hc <;> omega
      have e : nv m (X - Y) = x + y := by rw [← e1, ← e2]; cases m <;> cases n <;> simp [nv] at hmn ⊢ <;> omega
      have en : (x + y).natAbs = X - Y := by rw [← e, nv_abs]
      rw [if_pos hc, DSub_f hx hle hk, Option.bind_some, ROf, Option.bind_some, e, en]
    · have hle : X < Y := by
        rcases cmpN_cases X Y with ⟨q, e⟩ | ⟨q, e⟩ | ⟨q, e⟩ <;> rw [e] at hc <;> omega
      have e : nv n (Y - X) = x + y := by rw [← e1, ← e2]; cases m <;> cases n <;> simp [nv] at hmn ⊢ <;> omega
      have en : (x + y).natAbs = Y - X := by rw [← e, nv_abs]
      rw [if_neg hc, DSub_f hy (Nat.le_of_lt hle) hk, Option.bind_some, ROf, Option.bind_some, e, en]
theorem RMul {x y : Int} {k : Nat} (hx : x.natAbs < T ^ 120) (hy : y.natAbs < T ^ 120) (hk : 15000 ≤ k) : isohyetref02_Mul.f k (zb x) (dg x.natAbs) (zb y) (dg y.natAbs) = some (zb (x * y), dg (x * y).natAbs) := by
  unfold isohyetref02_Mul.f
  rw [DMul_f hx hy hk, Option.bind_some, ROf, Option.bind_some, nv_mul, nv_zb, nv_zb, Int.natAbs_mul]
theorem RSign (z : Int) : isohyetref02_Sign.f (zb z) (dg z.natAbs) = some (sgn z) := by
  have hn := dg_nil (n := z.natAbs)
  unfold isohyetref02_Sign.f zb
  rcases sgn_cases z with ⟨q, e⟩ | ⟨q, e⟩ | ⟨q, e⟩ <;> rw [e]
  · have : (dg z.natAbs).length ≠ 0 := fun h => by have := hn.1 h; omega
    rw [if_neg (by omega), if_pos (decide_eq_true q)]
  · have : (dg z.natAbs).length = 0 := hn.2 (by omega)
    rw [if_pos (by omega)]
  · have : (dg z.natAbs).length ≠ 0 := fun h => by have := hn.1 h; omega
    rw [if_neg (by omega), if_neg (by rw [decide_eq_false (by omega)]; decide)]
theorem is_z {z : Int} {m k : Nat} (h : z.natAbs < B ^ m) (hm : m ≤ 90) (hv : z.natAbs < T ^ 250) (hk : 9000 ≤ k) : isohyetlaw02_is.f k (zb z) (zl z) (zb z) (dg z.natAbs) = some true := by
  unfold isohyetlaw02_is.f zl
  rw [if_pos (beq_self_eq_true _), Is_f2 h hm hv hk, Option.bind_some]
theorem NumAdds_f {a0 : Bool} {l0 : List Int} {a1 : Bool} {l1 : List Int} {k : Nat} (h0 : Ok l0) (h1 : Ok l1) (hk : 20001 ≤ k) : isohyetlaw02_NumAdds.f k a0 l0 a1 l1 = some true := by
  unfold isohyetlaw02_NumAdds.f
  obtain ⟨r, hs, hr⟩ := short_2 (k := k) 4 ⟨a0, l0⟩ ⟨a1, l1⟩ (by omega)
  rw [fit_z (by omega), Option.bind_some, if_pos rfl, hs, Option.bind_some]
  cases r with
  | false => rw [if_neg (by decide)]
  | true =>
    obtain ⟨la, lb⟩ := hr rfl
    have la : (l0.length : Int) ≤ 4 := la
    have lb : (l1.length : Int) ≤ 4 := lb
    have hT1 : B ^ 4 < T ^ 120 := by decide
    have hT2 : T ^ 120 < T ^ 250 := by decide
    have hT3 : B ^ 5 < T ^ 250 := by decide
    have hT4 : B ^ 8 < T ^ 250 := by decide
    have hx0 := val_lt_of_len (m := 4) h0 (by omega)
    have hy0 := val_lt_of_len (m := 4) h1 (by omega)
    have Hx := HZ.of (m := a0) h0 (by omega)
    have Hy := HZ.of (m := a1) h1 (by omega)
    have hx : (nv a0 (val l0)).natAbs < B ^ 4 := by rw [nv_abs]; exact hx0
    have hy : (nv a1 (val l1)).natAbs < B ^ 4 := by rw [nv_abs]; exact hy0
    generalize nv a0 (val l0) = x at *
    generalize nv a1 (val l1) = y at *
    have hadd : x.natAbs + y.natAbs < B ^ 5 := pow_add_lt hx hy
    have hmul := pow_mul_lt hx hy
    have e45 : (4 + 4 : Nat) = 8 := rfl
    rw [← Int.natAbs_mul, e45] at hmul
    have hxy : (x + y).natAbs < B ^ 5 := by
      have : (x + y).natAbs ≤ x.natAbs + y.natAbs := Int.natAbs_add_le x y
      omega
    have hxs : (x - y).natAbs < B ^ 5 := by
      have := Int.natAbs_sub_le x y
      omega
    have p5 := pow_le (n := 64) hxy (by omega)
    have p6 := pow_le (n := 64) hxs (by omega)
    have p8 := pow_le (n := 64) hmul (by omega)
    have hny : (-y).natAbs < T ^ 250 := by rw [Int.natAbs_neg]; omega
    have hsub : x + -y = x - y := by omega
    have hneg : (-x).natAbs < B ^ 4 := by rw [Int.natAbs_neg]; exact hx
    have habs : ((x.natAbs : Int)).natAbs < B ^ 4 := by rw [Int.natAbs_natCast]; exact hx
    obtain ⟨k, rfl⟩ : ∃ m, k = m + 1 := ⟨k - 1, by omega⟩
    rw [if_pos rfl, of_z Hx (by omega) (by omega), Option.bind_some, of_z Hy (by omega) (by omega), Option.bind_some]
    dsimp only
    rw [RNeg y, Option.bind_some]
    dsimp only
    rw [RAdd (x := x) (y := -y) (by omega) hny (by omega), Option.bind_some, Add_z Hx Hy p5 (by omega), Option.bind_some]
    dsimp only
    rw [RAdd (x := x) (y := y) (by omega) (by omega) (by omega), Option.bind_some]
    dsimp only
    rw [is_z hxy (by omega) (by omega) (by omega), Option.bind_some, if_pos rfl, Sub_z Hx Hy p6 (by omega), Option.bind_some]
    dsimp only
    rw [hsub, is_z hxs (by omega) (by omega) (by omega), Option.bind_some, if_pos rfl, Mul_z Hx Hy p8 (by omega), Option.bind_some]
    dsimp only
    rw [RMul (x := x) (y := y) (by omega) (by omega) (by omega), Option.bind_some]
    dsimp only
    rw [is_z hmul (by omega) (by omega) (by omega), Option.bind_some]
    simp only [isohyetlaw02_NumAdds.j0]
    rw [if_neg (by decide), Cmp_z Hx Hy (by omega), Option.bind_some, RSign (x - y), Option.bind_some, if_pos rfl, Sign_z Hx (by omega), Option.bind_some, RSign x, Option.bind_some, if_pos rfl, Neg_z Hx (by omega), Option.bind_some]
    dsimp only
    rw [RNeg x, Option.bind_some]
    dsimp only
    rw [is_z hneg (by omega) (by omega) (by omega), Option.bind_some, if_pos rfl, Abs_z Hx (by omega), Option.bind_some]
    dsimp only
    have ho := ROf false x.natAbs
    rw [nv_false] at ho
    have hi := is_z (z := (x.natAbs : Int)) (k := k) habs (by omega) (by omega) (by omega)
    rw [Int.natAbs_natCast] at hi
    rw [ho, Option.bind_some]
    dsimp only
    rw [hi, Option.bind_some]
end Go.Proofs.Ytpgmhhkkbjbpgaa.Mg
namespace Go.Proofs.Ytpgmhhkkbjbpgaa.Pure
open Go.Proofs.Ytpgmhhkkbjbpgaa.M
theorem NumAdds : ∀ (a0 : Bool) (l0 : List Int) (a1 : Bool) (l1 : List Int), l0.length ≤ maxLen → l0.length * 8 ≤ 140737488351232 → (∀ x ∈ l0, (Lit.int .u64 x).wf = true) → l1.length ≤ maxLen → l1.length * 8 ≤ 140737488351232 → (∀ x ∈ l1, (Lit.int .u64 x).wf = true) → ∃ k, isohyetlaw02_NumAdds.f k a0 l0 a1 l1 = some true := fun _ _ _ _ _ _ h0 _ _ h1 => ⟨20001, Mg.NumAdds_f (Mg.ok_of_wf h0) (Mg.ok_of_wf h1) (Nat.le_refl _)⟩
end Go.Proofs.Ytpgmhhkkbjbpgaa.Pure
