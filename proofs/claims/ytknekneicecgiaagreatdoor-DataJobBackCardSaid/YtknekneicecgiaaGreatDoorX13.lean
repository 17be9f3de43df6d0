/- mag.Add over lists: the sum. mag.Mul over lists: the product. -/
import Derived.Test.YtknekneicecgiaaGreatDoorX1
import Derived.Test.YtknekneicecgiaaGreatDoorB1
import Derived.Test.YtknekneicecgiaaGreatDoorB3
namespace Go.Proofs.YtknekneicecgiaaGreatDoor.Mg
open Go.RowKit Go.Proofs.YtknekneicecgiaaGreatDoorW.PrintWords Go.Proofs.YtknekneicecgiaaGreatDoorW.PrintMore Go.Proofs.YtknekneicecgiaaGreatDoor.MB Go.Proofs.YtknekneicecgiaaGreatDoor.M
set_option linter.unusedVariables false
set_option linter.unusedSimpArgs false

/-! ### Add -/
theorem Add_l0 (a b : List Int) (ha : Ok a) (hb : Ok b) (hab : b.length ≤ a.length) (hm : a.length ≤ LEN) (K : Nat) (hK : a.length + 2 < K) : ∀ (d i k : Nat) (out : List Int) (c : Int), i + d = a.length → d + K ≤ k → out.length = a.length + 1 → Ok out → 0 ≤ c → c ≤ 1 →
    val (out.take i) + B ^ i * c.toNat = val (a.take i) + val (b.take i) → mag_Add.l0 k a b out c a (a.length : Int) (i : Int) = some (ofNat (val a + val b)) := by
  unfold LEN at hm
  intro d
  induction d with
  | zero =>
    intro i k out c hi hk hl ho h0 h1 he
    obtain ⟨k, rfl⟩ : ∃ m, k = m + 1 := ⟨k - 1, by omega⟩
    obtain rfl : i = a.length := by omega
    simp only [mag_Add.l0]
    rw [if_neg (by omega), if_pos (by omega), if_pos (by omega), Int.toNat_natCast, right_f (by simp; omega) (by simp; omega) (ho.set _ ⟨h0, by omega⟩)]
    simp only [Option.bind_some]
    have e := val_set_take_succ out a.length c (by omega)
    rw [List.take_of_length_le (by simp; omega)] at e
    rw [e, he, List.take_length, List.take_of_length_le hab]
  | succ d ih =>
    intro i k out c hi hk hl ho h0 h1 he
    obtain ⟨k, rfl⟩ : ∃ m, k = m + 1 := ⟨k - 1, by omega⟩
    simp only [mag_Add.l0]
    have hxa := ha.getD i
    have hxb := hb.getD i
    have step : ∀ y : Int, y = b.getD i 0 → mag_Add.l0 k a b (out.set i (addS (a.getD i 0) y c)) (addC (a.getD i 0) y c) a (a.length : Int) (wrap64 ((i : Int) + 1)) = some (ofNat (val a + val b)) := by
      intro y hy
      subst hy
      rw [w64 (by omega) (by omega), show ((i : Int) + 1) = ((i + 1 : Nat) : Int) from by omega]
      have hC := addC_ok hxa.2 hxb.2 h1
      refine ih (i + 1) k _ _ (by omega) (by omega) (by simp; omega) (ho.set _ (addS_ok _ _ _)) hC.1 hC.2 ?_
      rw [val_set_take_succ _ _ _ (by omega), val_take_succ, val_take_succ]
      have hs := addS_addC (a.getD i 0) (b.getD i 0) c
      have e2 : B ^ i * ((addS (a.getD i 0) (b.getD i 0) c).toNat + B * (addC (a.getD i 0) (b.getD i 0) c).toNat) = B ^ i * ((a.getD i 0).toNat + (b.getD i 0).toNat + c.toNat) := by rw [hs]
      rw [Nat.pow_succ]
      rw [Nat.mul_add, Nat.mul_add, Nat.mul_add, ← Nat.mul_assoc] at e2
      omega
    rw [if_pos (by omega), if_pos (by omega), if_pos (by omega), rd_cast, rd_cast]
    by_cases hib : (i : Int) < (b.length : Int)
    · rw [if_pos hib, if_pos h1, if_pos (by omega), Int.toNat_natCast]
      exact step _ rfl
    · rw [if_neg hib, if_pos h1, if_pos (by omega), Int.toNat_natCast]
      exact step 0 (by simp [List.getD_eq_getElem?_getD, List.getElem?_eq_none (by omega : b.length ≤ i)])
theorem Add_j0 {a b : List Int} {k : Nat} (ha : Ok a) (hb : Ok b) (hab : b.length ≤ a.length) (hm : a.length ≤ LEN) (hk : 2 * a.length + 4 < k) : mag_Add.j0 k a b = some (ofNat (val a + val b)) := by
  unfold LEN at hm
  obtain ⟨k, rfl⟩ : ∃ m, k = m + 1 := ⟨k - 1, by omega⟩
  simp only [mag_Add.j0]
  rw [w64 (by omega) (by omega), if_pos (by omega), show ((a.length : Int) + 1).toNat = a.length + 1 from by omega, if_pos (by omega)]
  exact Add_l0 a b ha hb hab (by unfold LEN; omega) (a.length + 3) (by omega) a.length 0 k _ 0 (by omega) (by omega) (by simp) (Ok.replicate _) (by omega) (by omega) (by simp [val])
theorem Add_f {a b : List Int} {k : Nat} (ha : Ok a) (hb : Ok b) (hla : a.length ≤ LEN) (hlb : b.length ≤ LEN) (hk : 2 * (a.length + b.length) + 4 < k) : mag_Add.f k a b = some (ofNat (val a + val b)) := by
  unfold mag_Add.f
  by_cases h : (a.length : Int) < (b.length : Int)
  · rw [if_pos h, Add_j0 hb ha (by omega) hlb (by omega), Nat.add_comm]
  · rw [if_neg h, Add_j0 ha hb (by omega) hla (by omega)]

end Go.Proofs.YtknekneicecgiaaGreatDoor.Mg
namespace Go.Proofs.YtknekneicecgiaaGreatDoor.Mg
open Go.RowKit Go.Proofs.YtknekneicecgiaaGreatDoorW.PrintWords Go.Proofs.YtknekneicecgiaaGreatDoorW.PrintMore Go.Proofs.YtknekneicecgiaaGreatDoor.MB Go.Proofs.YtknekneicecgiaaGreatDoor.M
set_option linter.unusedVariables false
set_option linter.unusedSimpArgs false

/-! ### Mul -/
theorem Mul_l1 (a b : List Int) (ha : Ok a) (hb : Ok b) (hla : a.length ≤ LEN) (hlb : b.length ≤ LEN) (i : Nat) (hi : i < a.length) (S : Nat) (R : Option (List Int)) (K : Nat)
    (hnext : ∀ (k : Nat) (out : List Int) (c : Int), K ≤ k → out.length = a.length + b.length → Ok out → 0 ≤ c ∧ c < 18446744073709551616 → (∀ m, i + b.length ≤ m → out.getD m 0 = 0) →
      val out + B ^ (i + b.length) * c.toNat = S + (a.getD i 0).toNat * B ^ i * val b → mag_Mul.l0 k b (out.set (i + b.length) c) a (a.length : Int) (wrap64 ((i : Int) + 1)) = R) :
    ∀ (d j k : Nat) (out : List Int) (c : Int), j + d = b.length → d + K + 1 ≤ k → out.length = a.length + b.length → Ok out → 0 ≤ c ∧ c < 18446744073709551616 → (∀ m, i + b.length ≤ m → out.getD m 0 = 0) →
      val out + B ^ (i + j) * c.toNat = S + (a.getD i 0).toNat * B ^ i * val (b.take j) →
      mag_Mul.l1 k b out (i : Int) (a.getD i 0) c a (a.length : Int) (i : Int) b (b.length : Int) (j : Int) = R := by
  unfold LEN at hla hlb
  intro d
  induction d with
  | zero =>
    intro j k out c hj hk hl ho hc hz he
    obtain ⟨k, rfl⟩ : ∃ m, k = m + 1 := ⟨k - 1, by omega⟩
    obtain rfl : j = b.length := by omega
    simp only [mag_Mul.l1]
    rw [if_neg (by omega), w64 (by omega) (by omega), if_pos (by omega), if_pos (by omega), show ((i : Int) + (b.length : Int)).toNat = i + b.length from by omega]
    rw [List.take_length] at he
    exact hnext k out c (by omega) hl ho hc hz he
  | succ d ih =>
    intro j k out c hj hk hl ho hc hz he
    obtain ⟨k, rfl⟩ : ∃ m, k = m + 1 := ⟨k - 1, by omega⟩
    simp only [mag_Mul.l1]
    have hx := ha.getD i
    have hy := hb.getD j
    have hoo := ho.getD (i + j)
    obtain ⟨h, l, hm, hq, hlw⟩ := mul64_f hx hy
    rw [if_pos (by omega), if_pos (by omega), if_pos (by omega), rd_cast b j, hm, Option.bind_some]
    dsimp only
    rw [w64 (x := (i : Int) + (j : Int)) (by omega) (by omega), if_pos (by omega), if_pos (by omega), show ((i : Int) + (j : Int)) = ((i + j : Nat) : Int) from by omega, Int.toNat_natCast, rd_cast out (i + j), w64 (x := (j : Int) + 1) (by omega) (by omega), show ((j : Int) + 1) = ((j + 1 : Nat) : Int) from by omega]
    obtain ⟨carry, hcar, hw, hsum⟩ := mul_words hx hy hc hoo hq hlw
    rw [hw]
    refine ih (j + 1) k _ _ (by omega) (by omega) (by simpa using hl) (ho.set _ (addS_ok _ _ _)) hcar ?_ ?_
    · intro m hm
      rw [getD_set_ne _ _ (by omega)]
      exact hz m hm
    · have h2 := val_set_add out (i + j) (addS (out.getD (i + j) 0) (addS (l : Int) c 0) 0) (by omega)
      have := mul_step (B ^ (i + j)) _ carry.toNat _ _ c.toNat _ _ _ S (val (b.take j)) (B ^ i) (B ^ j) hsum h2 he (Nat.pow_add ..)
      rw [val_take_succ, show i + (j + 1) = (i + j) + 1 from by omega, Nat.pow_succ]
      exact this
theorem Mul_l0 (a b : List Int) (ha : Ok a) (hb : Ok b) (hla : a.length ≤ LEN) (hlb : b.length ≤ LEN) : ∀ (d i k : Nat) (out : List Int), i + d = a.length → d * (b.length + 2) + a.length + b.length + 2 ≤ k → out.length = a.length + b.length → Ok out → (∀ m, i + b.length ≤ m → out.getD m 0 = 0) →
    val out = val (a.take i) * val b → mag_Mul.l0 k b out a (a.length : Int) (i : Int) = some (ofNat (val a * val b)) := by
  have hla' := hla
  have hlb' := hlb
  unfold LEN at hla' hlb'
  intro d
  induction d with
  | zero =>
    intro i k out hi hk hl ho hz he
    obtain ⟨k, rfl⟩ : ∃ m, k = m + 1 := ⟨k - 1, by omega⟩
    obtain rfl : i = a.length := by omega
    simp only [mag_Mul.l0]
    rw [if_neg (by omega), right_f (by omega) (by omega) ho]
    simp only [Option.bind_some]
    rw [he, List.take_length]
  | succ d ih =>
    intro i k out hi hk hl ho hz he
    obtain ⟨k, rfl⟩ : ∃ m, k = m + 1 := ⟨k - 1, by omega⟩
    simp only [mag_Mul.l0]
    rw [if_pos (by omega), if_pos (by omega), if_pos (by omega), rd_cast a i]
    have hk' : d * (b.length + 2) + (b.length + 2) + a.length + b.length + 2 ≤ k + 1 := by
      rw [Nat.succ_mul] at hk
      exact hk
    refine Mul_l1 a b ha hb hla hlb i (by omega) (val out) _ (d * (b.length + 2) + a.length + b.length + 2) ?_ b.length 0 k out 0 (by omega) (by omega) hl ho (by omega) hz (by simp [val])
    intro k2 out2 c hk2 hl2 ho2 hc hz2 he2
    rw [w64 (by omega) (by omega), show ((i : Int) + 1) = ((i + 1 : Nat) : Int) from by omega]
    refine ih (i + 1) k2 _ (by omega) hk2 (by simpa using hl2) (ho2.set _ hc) ?_ ?_
    · intro m hm
      rw [getD_set_ne _ _ (by omega)]
      exact hz2 m (by omega)
    · have h2 := val_set_add out2 (i + b.length) c (by omega)
      rw [hz2 _ (Nat.le_refl _)] at h2
      rw [val_take_succ]
      exact mul_end _ _ _ _ _ _ _ _ _ h2 he2 he
theorem Mul_f {a b : List Int} {k : Nat} (ha : Ok a) (hb : Ok b) (hla : a.length ≤ LEN) (hlb : b.length ≤ LEN) (hk : a.length * (b.length + 2) + a.length + b.length + 2 ≤ k) : mag_Mul.f k a b = some (ofNat (val a * val b)) := by
  have hla' := hla
  have hlb' := hlb
  unfold LEN at hla' hlb'
  unfold mag_Mul.f
  rw [w64 (by omega) (by omega), if_pos (by omega), show ((a.length : Int) + (b.length : Int)).toNat = a.length + b.length from by omega, if_pos (by omega)]
  refine Mul_l0 a b ha hb hla hlb a.length 0 k _ (by omega) hk (by simp) (Ok.replicate _) ?_ (by simp [val, val_replicate])
  intro m _
  rw [List.getD_eq_getElem?_getD, List.getElem?_replicate]
  split <;> rfl

end Go.Proofs.YtknekneicecgiaaGreatDoor.Mg
