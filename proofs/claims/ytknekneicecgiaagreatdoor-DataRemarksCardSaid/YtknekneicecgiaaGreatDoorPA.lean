/- mag.Add over lists: the sum. -/
import Derived.Test.YtknekneicecgiaaGreatDoorX1
import Derived.Test.YtknekneicecgiaaGreatDoorB1
namespace Go.Proofs.YtknekneicecgiaaGreatDoor.Mg
open Go.RowKit Go.Proofs.YtknekneicecgiaaGreatDoorW.PrintWords Go.Proofs.YtknekneicecgiaaGreatDoorW.PrintMore Go.Proofs.YtknekneicecgiaaGreatDoor.MB Go.Proofs.YtknekneicecgiaaGreatDoor.M
set_option linter.unusedVariables false
set_option linter.unusedSimpArgs false

/-! ### Add -/
theorem Add_l0 (a b : List Int) (ha : Ok a) (hb : Ok b) (hab : b.length ≤ a.length) (hm : a.length ≤ LEN) (K : Nat) (hK : a.length + 2 < K) : ∀ (d i k : Nat) (out : List Int) (c : Int), i + d = a.length → d + K ≤ k → out.length = a.length + 1 → Ok out → 0 ≤ c → c ≤ 1 →
    val (out.take i) + B ^ i * c.toNat = val (a.take i) + val (b.take i) → mag_Add.l0 k a b out c a (a.length : Int) (i : Int) = some (ofNat (val a + val b)) := by
  unfold LEN at hm
  intro d
  induction d with
  | zero =>
    intro i k out c hi hk hl ho h0 h1 he
    obtain ⟨k, rfl⟩ : ∃ m, k = m + 1 := ⟨k - 1, by omega⟩
    obtain rfl : i = a.length := by omega
    simp only [mag_Add.l0]
    rw [if_neg (by omega), if_pos (by omega), if_pos (by omega), Int.toNat_natCast, right_f (by simp; omega) (by simp; omega) (ho.set _ ⟨h0, by omega⟩)]
    simp only [Option.bind_some]
    have e := val_set_take_succ out a.length c (by omega)
    rw [List.take_of_length_le (by simp; omega)] at e
    rw [e, he, List.take_length, List.take_of_length_le hab]
  | succ d ih =>
    intro i k out c hi hk hl ho h0 h1 he
    obtain ⟨k, rfl⟩ : ∃ m, k = m + 1 := ⟨k - 1, by omega⟩
    simp only [mag_Add.l0]
    have hxa := ha.getD i
    have hxb := hb.getD i
    have step : ∀ y : Int, y = b.getD i 0 → mag_Add.l0 k a b (out.set i (addS (a.getD i 0) y c)) (addC (a.getD i 0) y c) a (a.length : Int) (wrap64 ((i : Int) + 1)) = some (ofNat (val a + val b)) := by
      intro y hy
      subst hy
      rw [w64 (by omega) (by omega), show ((i : Int) + 1) = ((i + 1 : Nat) : Int) from by omega]
      have hC := addC_ok hxa.2 hxb.2 h1
      refine ih (i + 1) k _ _ (by omega) (by omega) (by simp; omega) (ho.set _ (addS_ok _ _ _)) hC.1 hC.2 ?_
      rw [val_set_take_succ _ _ _ (by omega), val_take_succ, val_take_succ]
      have hs := addS_addC (a.getD i 0) (b.getD i 0) c
      have e2 : B ^ i * ((addS (a.getD i 0) (b.getD i 0) c).toNat + B * (addC (a.getD i 0) (b.getD i 0) c).toNat) = B ^ i * ((a.getD i 0).toNat + (b.getD i 0).toNat + c.toNat) := by rw [hs]
      rw [Nat.pow_succ]
      rw [Nat.mul_add, Nat.mul_add, Nat.mul_add, ← Nat.mul_assoc] at e2
      omega
    rw [if_pos (by omega), if_pos (by omega), if_pos (by omega), rd_cast, rd_cast]
    by_cases hib : (i : Int) < (b.length : Int)
    · rw [if_pos hib, if_pos h1, if_pos (by omega), Int.toNat_natCast]
      exact step _ rfl
    · rw [if_neg hib, if_pos h1, if_pos (by omega), Int.toNat_natCast]
      exact step 0 (by simp [List.getD_eq_getElem?_getD, List.getElem?_eq_none (by omega : b.length ≤ i)])
theorem Add_j0 {a b : List Int} {k : Nat} (ha : Ok a) (hb : Ok b) (hab : b.length ≤ a.length) (hm : a.length ≤ LEN) (hk : 2 * a.length + 4 < k) : mag_Add.j0 k a b = some (ofNat (val a + val b)) := by
  unfold LEN at hm
  obtain ⟨k, rfl⟩ : ∃ m, k = m + 1 := ⟨k - 1, by omega⟩
  simp only [mag_Add.j0]
  rw [w64 (by omega) (by omega), if_pos (by omega), show ((a.length : Int) + 1).toNat = a.length + 1 from by omega, if_pos (by omega)]
  exact Add_l0 a b ha hb hab (by unfold LEN; omega) (a.length + 3) (by omega) a.length 0 k _ 0 (by omega) (by omega) (by simp) (Ok.replicate _) (by omega) (by omega) (by simp [val])
theorem Add_f {a b : List Int} {k : Nat} (ha : Ok a) (hb : Ok b) (hla : a.length ≤ LEN) (hlb : b.length ≤ LEN) (hk : 2 * (a.length + b.length) + 4 < k) : mag_Add.f k a b = some (ofNat (val a + val b)) := by
  unfold mag_Add.f
  by_cases h : (a.length : Int) < (b.length : Int)
  · rw [if_pos h, Add_j0 hb ha (by omega) hlb (by omega), Nat.add_comm]
  · rw [if_neg h, Add_j0 ha hb (by omega) hla (by omega)]

end Go.Proofs.YtknekneicecgiaaGreatDoor.Mg
