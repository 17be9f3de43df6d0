/- Decimal texts as lists of bytes: a number's digits, a text's sign, its parts; what deci's digits, signed and magnitude come to. -/
import Derived.Test.YtpdgjhaimfpacaaDoorYI
import Derived.Test.YtpdgjhaimfpacaaDoorE1
import Derived.Test.YtpdgjhaimfpacaaDoorE2
import Derived.Lib.IndexMore
import Derived.Lib.TrimByte
import Derived.Lib.Repeat
import Derived.Lib.PathFns
namespace Go.Proofs.YtpdgjhaimfpacaaDoor.Mg
open Go.RowKit Go.Proofs.YtpdgjhaimfpacaaDoorW.PrintWords Go.Proofs.YtpdgjhaimfpacaaDoorW.PrintMore Go.Proofs.YtpdgjhaimfpacaaDoor.MB Go.Proofs.YtpdgjhaimfpacaaDoor.M
set_option linter.unusedVariables false
set_option linter.unusedSimpArgs false

def isDg (c : UInt8) : Bool := decide (48 ≤ c.toNat ∧ c.toNat ≤ 57)
def allD (l : List UInt8) : Bool := l.all isDg
def dvl (l : List UInt8) : Nat := l.foldl (fun a c => 10 * a + (c.toNat - 48)) 0
theorem dvl_foldl (b : List UInt8) : ∀ v : Nat, b.foldl (fun a c => 10 * a + (c.toNat - 48)) v = v * 10 ^ b.length + dvl b := by
  induction b with
  | nil => intro v; simp [dvl]
  | cons c b ih =>
    intro v
    have h0 := ih (10 * 0 + (c.toNat - 48))
    simp only [dvl, List.foldl_cons, List.length_cons, Nat.pow_succ]
    rw [ih, h0]
    generalize 10 ^ b.length = P
    generalize c.toNat - 48 = d
    generalize dvl b = D
    grind
theorem dvl_append (a b : List UInt8) : dvl (a ++ b) = dvl a * 10 ^ b.length + dvl b := by
  have h := dvl_foldl b (dvl a)
  unfold dvl at h ⊢
  rw [List.foldl_append]
  exact h
theorem dvl_snoc (l : List UInt8) (c : UInt8) : dvl (l ++ [c]) = 10 * dvl l + (c.toNat - 48) := by
  unfold dvl
  rw [List.foldl_append]
  rfl
theorem allD_append (a b : List UInt8) : allD (a ++ b) = (allD a && allD b) := by simp [allD]
theorem allD_mem {l : List UInt8} (h : allD l = true) {c : UInt8} (hc : c ∈ l) : 48 ≤ c.toNat ∧ c.toNat ≤ 57 := by
  have := List.all_eq_true.1 h c hc
  simpa [isDg] using this
theorem dvl_lt : ∀ {l : List UInt8}, allD l = true → dvl l < 10 ^ l.length := by
  intro l
  induction l with
  | nil => intro _; simp [dvl]
  | cons c l ih =>
    intro h
    have hc := allD_mem h List.mem_cons_self
    have hl : allD l = true := by
      simp only [allD, List.all_cons, Bool.and_eq_true] at h
      exact h.2
    have h1 := ih hl
    have h2 := dvl_append [c] l
    have h3 : dvl [c] = c.toNat - 48 := by simp [dvl]
    rw [show [c] ++ l = c :: l from rfl, h3] at h2
    rw [h2, List.length_cons, Nat.pow_succ]
    have h4 : (c.toNat - 48) * 10 ^ l.length ≤ 9 * 10 ^ l.length := Nat.mul_le_mul_right _ (by omega)
    omega
/-- A byte of a text. -/
theorem bt_cast (s : ByteArray) (i : Nat) (h : i < s.size) : bt s (i : Int) = ((s.data.toList.getD i 0).toNat : Int) := by
  have h' : i < s.data.toList.length := by simpa using h
  unfold bt
  rw [dif_pos (by simpa using h)]
  rw [List.getD_eq_getElem?_getD, List.getElem?_eq_getElem h']
  rfl
theorem size_len (s : ByteArray) : s.data.toList.length = s.size := rfl
theorem size_mk (l : List UInt8) : (⟨l.toArray⟩ : ByteArray).size = l.length := rfl
theorem drop_getD (l : List UInt8) (i : Nat) (h : i < l.length) : l.drop i = l.getD i 0 :: l.drop (i + 1) := by
  rw [List.drop_eq_getElem_cons h]
  simp [List.getD_eq_getElem?_getD, h]
theorem take_getD (l : List UInt8) (i : Nat) (h : i < l.length) : l.take (i + 1) = l.take i ++ [l.getD i 0] := by
  rw [List.take_succ_eq_append_getElem h]
  simp [List.getD_eq_getElem?_getD, h]

/-! ### digits -/
theorem digits_l0 (s : ByteArray) (hs : s.size ≤ 1000000) : ∀ (d i k : Nat), i + d = s.size → d < k → deci_digits.l0 k s (s.size : Int) (i : Int) = some (allD (s.data.toList.drop i) && decide (s.data.toList ≠ []))
  | 0, i, k, hi, hk => by
    obtain ⟨k, rfl⟩ : ∃ m, k = m + 1 := ⟨k - 1, by omega⟩
    simp only [deci_digits.l0]
    have hl := size_len s
    rw [if_neg (by omega), List.drop_of_length_le (by omega), Lib.toList_data]
    cases s.data.toList <;> rfl
  | d + 1, i, k, hi, hk => by
    obtain ⟨k, rfl⟩ : ∃ m, k = m + 1 := ⟨k - 1, by omega⟩
    have hl := size_len s
    have ih := digits_l0 s hs d (i + 1) k (by omega) (by omega)
    simp only [deci_digits.l0]
    rw [if_pos (by omega), if_pos (by omega), if_pos (by omega), bt_cast s i (by omega), drop_getD _ i (by omega), w64 (x := (i : Int) + 1) (by omega) (by omega)]
    generalize s.data.toList.getD i 0 = c
    have e : allD (c :: s.data.toList.drop (i + 1)) = (isDg c && allD (s.data.toList.drop (i + 1))) := rfl
    rw [e]
    by_cases h1 : (c.toNat : Int) < 48
    · have : isDg c = false := decide_eq_false (by omega)
      rw [if_pos h1, this]
      rfl
    · rw [if_neg h1]
      by_cases h2 : (c.toNat : Int) > 57
      · have : isDg c = false := decide_eq_false (by omega)
        rw [if_pos h2, this]
        rfl
      · have : isDg c = true := decide_eq_true (by omega)
        rw [if_neg h2, this, Bool.true_and]
        exact ih
theorem digits_f {s : ByteArray} {k : Nat} (hs : s.size ≤ 1000000) (hk : s.size < k) : deci_digits.f k s = some (allD s.data.toList && decide (s.data.toList ≠ [])) := by
  have h := digits_l0 s hs s.size 0 k (by omega) hk
  rw [List.drop_zero] at h
  exact h

/-! ### magnitude -/
theorem mag_l1 (s : ByteArray) (hd : allD s.data.toList = true) (o : List Int) (m : Nat) (hm : m ≤ 18) (hms : m ≤ s.size) (r : Option (List Int)) : ∀ (d i k : Nat), i + d = m → d + 1 ≤ k →
    (∀ k', k' + (d + 1) = k → ((mag_Mul.f k' o [((10 ^ m : Nat) : Int)]).bind fun t => (mag_Add.f k' t [((dvl (s.data.toList.take m) : Nat) : Int)]).bind fun u => if 0 ≤ (m : Int) then (if (m : Int) ≤ (s.size : Int) then deci_magnitude.l0 k' (s.extract (m : Int).toNat s.size) u else none) else none) = r) →
    deci_magnitude.l1 k s o (m : Int) ((dvl (s.data.toList.take i) : Nat) : Int) ((10 ^ i : Nat) : Int) (m : Int) (i : Int) = r
  | 0, i, k, hi, hk, hr => by
    obtain ⟨k, rfl⟩ : ∃ m, k = m + 1 := ⟨k - 1, by omega⟩
    obtain rfl : i = m := by omega
    simp only [deci_magnitude.l1]
    rw [if_neg (by omega)]
    exact hr k (by omega)
  | d + 1, i, k, hi, hk, hr => by
    obtain ⟨k, rfl⟩ : ∃ m, k = m + 1 := ⟨k - 1, by omega⟩
    have hl := size_len s
    have ih := mag_l1 s hd o m hm hms r d (i + 1) k (by omega) (by omega) (fun k' hk' => hr k' (by omega))
    simp only [deci_magnitude.l1]
    have hmem : s.data.toList.getD i 0 ∈ s.data.toList := by
      rw [List.getD_eq_getElem?_getD, List.getElem?_eq_getElem (by omega)]
      exact List.getElem_mem _
    have hc := allD_mem hd hmem
    have ht : allD (s.data.toList.take i) = true := List.all_eq_true.2 fun x hx => List.all_eq_true.1 hd x (List.mem_of_mem_take hx)
    have hlt := dvl_lt ht
    rw [List.length_take, Nat.min_eq_left (by omega)] at hlt
    have hp : 10 ^ i ≤ 10 ^ 17 := Nat.pow_le_pow_right (by decide) (by omega)
    have hp17 : 10 ^ 17 = 100000000000000000 := by decide
    rw [take_getD _ i (by omega), dvl_snoc, Nat.pow_succ] at ih
    rw [if_pos (by omega), if_pos (by omega), if_pos (by omega), bt_cast s i (by omega)]
    generalize s.data.toList.getD i 0 = c at *
    generalize dvl (s.data.toList.take i) = v at *
    generalize 10 ^ i = P at *
    rw [show ((c.toNat : Int) - 48) % 256 = ((c.toNat - 48 : Nat) : Int) from by omega, wu64 (x := 10 * (v : Int)) (by omega) (by omega), wu64 (x := 10 * (v : Int) + ((c.toNat - 48 : Nat) : Int)) (by omega) (by omega), wu64 (x := (P : Int) * 10) (by omega) (by omega), w64 (x := (i : Int) + 1) (by omega) (by omega)]
    rw [show (10 * (v : Int) + ((c.toNat - 48 : Nat) : Int)) = ((10 * v + (c.toNat - 48) : Nat) : Int) from by omega, show (P : Int) * 10 = ((P * 10 : Nat) : Int) from by omega]
    exact ih
theorem has_one {x : Nat} (h : x < 18446744073709551616) : Has [(x : Int)] x := ⟨Ok.cons (by omega) Ok.nil, by simp, by simp [val]⟩
theorem mag_l0 : ∀ (n : Nat) (s : ByteArray) (v k : Nat), s.size = n → n ≤ 1000000 → allD s.data.toList = true → (v + 1) * 10 ^ n ≤ B ^ 60 → 20 * n + 21000 ≤ k → deci_magnitude.l0 k s (ofNat v) = some (ofNat (v * 10 ^ n + dvl s.data.toList)) := by
  intro n
  induction n using Nat.strongRecOn with
  | _ n ih =>
    intro s v k hs hn hd hv hk
    obtain ⟨k, rfl⟩ : ∃ m, k = m + 1 := ⟨k - 1, by omega⟩
    have hl := size_len s
    simp only [deci_magnitude.l0]
    by_cases h0 : n = 0
    · have hnil : s.data.toList = [] := List.eq_nil_of_length_eq_zero (by omega)
      rw [if_neg (by omega), h0, hnil]
      simp [dvl]
    · obtain ⟨m, hm, hm1, hm2, hm3⟩ : ∃ m : Nat, wrap64 (Int.tmod (wrap64 ((s.size : Int) - 1)) 18 + 1) = (m : Int) ∧ 1 ≤ m ∧ m ≤ 18 ∧ m ≤ n := by
        refine ⟨(n - 1) % 18 + 1, ?_, by omega, by omega, by omega⟩
        rw [hs, w64 (x := (n : Int) - 1) (by omega) (by omega), Int.tmod_eq_emod_of_nonneg (by omega), w64 (by omega) (by omega)]
        omega
      rw [if_pos (by omega), hm]
      have he : s.data.toList.take 0 = [] := rfl
      have h10 : (1 : Int) = ((10 ^ 0 : Nat) : Int) := rfl
      have hacc : (0 : Int) = ((dvl (s.data.toList.take 0) : Nat) : Int) := rfl
      have hi0 : (0 : Int) = ((0 : Nat) : Int) := rfl
      have key := mag_l1 s hd (ofNat v) m hm2 (by omega) (some (ofNat (v * 10 ^ n + dvl s.data.toList))) m 0 k (by omega) (by omega) ?_
      · exact key
      · intro k' hk'
        have hp18 : 10 ^ m ≤ 10 ^ 18 := Nat.pow_le_pow_right (by decide) hm2
        have hp18' : 10 ^ 18 = 1000000000000000000 := by decide
        have ht : allD (s.data.toList.take m) = true := List.all_eq_true.2 fun x hx => List.all_eq_true.1 hd x (List.mem_of_mem_take hx)
        have hdr : allD (s.data.toList.drop m) = true := List.all_eq_true.2 fun x hx => List.all_eq_true.1 hd x (List.mem_of_mem_drop hx)
        have hlt := dvl_lt ht
        rw [List.length_take, Nat.min_eq_left (by omega)] at hlt
        have hpow : 10 ^ n = 10 ^ m * 10 ^ (n - m) := by rw [← Nat.pow_add, show m + (n - m) = n from by omega]
        have hpos : 1 ≤ 10 ^ (n - m) := Nat.pow_pos (by decide)
        have hstep : (v * 10 ^ m + dvl (s.data.toList.take m) + 1) * 10 ^ (n - m) ≤ B ^ 60 := by
          refine Nat.le_trans ?_ hv
          rw [hpow, ← Nat.mul_assoc]
          refine Nat.mul_le_mul_right _ ?_
          rw [Nat.add_mul]
          omega
        have hb : v * 10 ^ m + dvl (s.data.toList.take m) < B ^ 60 := by
          have : (v * 10 ^ m + dvl (s.data.toList.take m) + 1) * 1 ≤ (v * 10 ^ m + dvl (s.data.toList.take m) + 1) * 10 ^ (n - m) := Nat.mul_le_mul_left _ hpos
          omega
        have hvm : v * 10 ^ m < B ^ 60 := by omega
        have hv1 : v < B ^ 60 := by
          have : v * 1 ≤ v * 10 ^ m := Nat.mul_le_mul_left _ (Nat.pow_pos (by decide))
          omega
        have Hv := Has.nat hv1 (show 60 ≤ 64 by omega)
        have Hvm := Has.nat hvm (show 60 ≤ 64 by omega)
        have hex : (s.extract m s.size).data.toList = s.data.toList.drop m := Lib.extract_to_end s m
        have hsz : (s.extract m s.size).size = n - m := by rw [← size_len, hex, List.length_drop]; omega
        rw [Mul_g Hv (has_one (by omega)) (by omega), Option.bind_some, Add_g Hvm (has_one (by omega)) (by omega), Option.bind_some, if_pos (by omega), if_pos (by omega), Int.toNat_natCast m]
        have := ih (n - m) (by omega) (s.extract m s.size) (v * 10 ^ m + dvl (s.data.toList.take m)) k' hsz (by omega) (by rw [hex]; exact hdr) hstep (by omega)
        rw [this, hex]
        congr 2
        have hap := dvl_append (s.data.toList.take m) (s.data.toList.drop m)
        rw [List.take_append_drop, List.length_drop] at hap
        rw [hap, hpow, hl, hs]
        generalize 10 ^ m = P
        generalize 10 ^ (n - m) = Q
        grind
theorem ten_B {a b : Nat} (h : 10 ^ a ≤ B ^ b) : 10 ^ (2 * a) ≤ B ^ (2 * b) := by
  have h1 := Nat.mul_le_mul h h
  rw [← Nat.pow_add, ← Nat.pow_add, ← Nat.two_mul, ← Nat.two_mul] at h1
  exact h1
theorem ten_w {a b n : Nat} (h : 10 ^ a ≤ B ^ b) (hn : n ≤ 2 * a) : (0 + 1) * 10 ^ n ≤ B ^ (2 * b) := by
  have h3 : 10 ^ n ≤ 10 ^ (2 * a) := Nat.pow_le_pow_right (by decide) hn
  rw [Nat.zero_add, Nat.one_mul]
  exact Nat.le_trans h3 (ten_B h)
theorem ten_s {n : Nat} (h : n ≤ 500) : (0 + 1) * 10 ^ n ≤ B ^ 60 :=
  ten_w (a := 250) (b := 30) (by decide) h
theorem mag_f {s : ByteArray} {k : Nat} (hs : s.size ≤ 500) (hd : allD s.data.toList = true) (hk : 40000 ≤ k) : deci_magnitude.f k s = some (ofNat (dvl s.data.toList)) := by
  have hb : (0 + 1) * 10 ^ s.size ≤ B ^ 60 := ten_s hs
  have h := mag_l0 s.size s 0 k rfl (by omega) hd hb (by omega)
  rw [Nat.zero_mul, Nat.zero_add, ofNat_zero] at h
  exact h
end Go.Proofs.YtpdgjhaimfpacaaDoor.Mg
