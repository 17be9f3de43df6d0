/- Decimal texts as lists of bytes: a number's digits, a text's sign, its parts; what deci's digits, signed and magnitude come to. deci.Parse over bytes: the sign, the parts before and behind the point, and what they come to. -/
import Derived.Test.YtknekneicecgiaaGreatDoorX2
import Derived.Test.YtknekneicecgiaaGreatDoorE1
import Derived.Test.YtknekneicecgiaaGreatDoorE2
import Derived.Lib.IndexMore
import Derived.Lib.TrimByte
import Derived.Lib.Repeat
import Derived.Lib.PathFns
import Derived.Test.YtknekneicecgiaaGreatDoorE3
namespace Go.Proofs.YtknekneicecgiaaGreatDoor.Mg
open Go.RowKit Go.Proofs.YtknekneicecgiaaGreatDoorW.PrintWords Go.Proofs.YtknekneicecgiaaGreatDoorW.PrintMore Go.Proofs.YtknekneicecgiaaGreatDoor.MB Go.Proofs.YtknekneicecgiaaGreatDoor.M
set_option linter.unusedVariables false
set_option linter.unusedSimpArgs false

def isDg (c : UInt8) : Bool := decide (48 ≤ c.toNat ∧ c.toNat ≤ 57)
def allD (l : List UInt8) : Bool := l.all isDg
def dvl (l : List UInt8) : Nat := l.foldl (fun a c => 10 * a + (c.toNat - 48)) 0
theorem dvl_foldl (b : List UInt8) : ∀ v : Nat, b.foldl (fun a c => 10 * a + (c.toNat - 48)) v = v * 10 ^ b.length + dvl b := by
  induction b with
  | nil => intro v; simp [dvl]
  | cons c b ih =>
    intro v
    have h0 := ih (10 * 0 + (c.toNat - 48))
    simp only [dvl, List.foldl_cons, List.length_cons, Nat.pow_succ]
    rw [ih, h0]
    generalize 10 ^ b.length = P
    generalize c.toNat - 48 = d
    generalize dvl b = D
    grind
theorem dvl_append (a b : List UInt8) : dvl (a ++ b) = dvl a * 10 ^ b.length + dvl b := by
  have h := dvl_foldl b (dvl a)
  unfold dvl at h ⊢
  rw [List.foldl_append]
  exact h
theorem dvl_snoc (l : List UInt8) (c : UInt8) : dvl (l ++ [c]) = 10 * dvl l + (c.toNat - 48) := by
  unfold dvl
  rw [List.foldl_append]
  rfl
theorem allD_append (a b : List UInt8) : allD (a ++ b) = (allD a && allD b) := by simp [allD]
theorem allD_mem {l : List UInt8} (h : allD l = true) {c : UInt8} (hc : c ∈ l) : 48 ≤ c.toNat ∧ c.toNat ≤ 57 := by
  have := List.all_eq_true.1 h c hc
  simpa [isDg] using this
theorem dvl_lt : ∀ {l : List UInt8}, allD l = true → dvl l < 10 ^ l.length := by
  intro l
  induction l with
  | nil => intro _; simp [dvl]
  | cons c l ih =>
    intro h
    have hc := allD_mem h List.mem_cons_self
    have hl : allD l = true := by
      simp only [allD, List.all_cons, Bool.and_eq_true] at h
      exact h.2
    have h1 := ih hl
    have h2 := dvl_append [c] l
    have h3 : dvl [c] = c.toNat - 48 := by simp [dvl]
    rw [show [c] ++ l = c :: l from rfl, h3] at h2
    rw [h2, List.length_cons, Nat.pow_succ]
    have h4 : (c.toNat - 48) * 10 ^ l.length ≤ 9 * 10 ^ l.length := Nat.mul_le_mul_right _ (by omega)
    omega
/-- A byte of a text. -/
theorem bt_cast (s : ByteArray) (i : Nat) (h : i < s.size) : bt s (i : Int) = ((s.data.toList.getD i 0).toNat : Int) := by
  have h' : i < s.data.toList.length := by simpa using h
  unfold bt
  rw [dif_pos (by simpa using h)]
  rw [List.getD_eq_getElem?_getD, List.getElem?_eq_getElem h']
  rfl
theorem size_len (s : ByteArray) : s.data.toList.length = s.size := rfl
theorem size_mk (l : List UInt8) : (⟨l.toArray⟩ : ByteArray).size = l.length := rfl
theorem drop_getD (l : List UInt8) (i : Nat) (h : i < l.length) : l.drop i = l.getD i 0 :: l.drop (i + 1) := by
  rw [List.drop_eq_getElem_cons h]
  simp [List.getD_eq_getElem?_getD, h]
theorem take_getD (l : List UInt8) (i : Nat) (h : i < l.length) : l.take (i + 1) = l.take i ++ [l.getD i 0] := by
  rw [List.take_succ_eq_append_getElem h]
  simp [List.getD_eq_getElem?_getD, h]

/-! ### digits -/
theorem digits_l0 (s : ByteArray) (hs : s.size ≤ 1000000) : ∀ (d i k : Nat), i + d = s.size → d < k → deci_digits.l0 k s (s.size : Int) (i : Int) = some (allD (s.data.toList.drop i) && decide (s.data.toList ≠ []))
  | 0, i, k, hi, hk => by
    obtain ⟨k, rfl⟩ : ∃ m, k = m + 1 := ⟨k - 1, by omega⟩
    simp only [deci_digits.l0]
    have hl := size_len s
    rw [if_neg (by omega), List.drop_of_length_le (by omega), Lib.toList_data]
    cases s.data.toList <;> rfl
  | d + 1, i, k, hi, hk => by
    obtain ⟨k, rfl⟩ : ∃ m, k = m + 1 := ⟨k - 1, by omega⟩
    have hl := size_len s
    have ih := digits_l0 s hs d (i + 1) k (by omega) (by omega)
    simp only [deci_digits.l0]
    rw [if_pos (by omega), if_pos (by omega), if_pos (by omega), bt_cast s i (by omega), drop_getD _ i (by omega), w64 (x := (i : Int) + 1) (by omega) (by omega)]
    generalize s.data.toList.getD i 0 = c
    have e : allD (c :: s.data.toList.drop (i + 1)) = (isDg c && allD (s.data.toList.drop (i + 1))) := rfl
    rw [e]
    by_cases h1 : (c.toNat : Int) < 48
    · have : isDg c = false := decide_eq_false (by omega)
      rw [if_pos h1, this]
      rfl
    · rw [if_neg h1]
      by_cases h2 : (c.toNat : Int) > 57
      · have : isDg c = false := decide_eq_false (by omega)
        rw [if_pos h2, this]
        rfl
      · have : isDg c = true := decide_eq_true (by omega)
        rw [if_neg h2, this, Bool.true_and]
        exact ih
theorem digits_f {s : ByteArray} {k : Nat} (hs : s.size ≤ 1000000) (hk : s.size < k) : deci_digits.f k s = some (allD s.data.toList && decide (s.data.toList ≠ [])) := by
  have h := digits_l0 s hs s.size 0 k (by omega) hk
  rw [List.drop_zero] at h
  exact h

/-! ### magnitude -/
theorem mag_l1 (s : ByteArray) (hd : allD s.data.toList = true) (o : List Int) (m : Nat) (hm : m ≤ 18) (hms : m ≤ s.size) (r : Option (List Int)) : ∀ (d i k : Nat), i + d = m → d + 1 ≤ k →
    (∀ k', k' + (d + 1) = k → ((mag_Mul.f k' o [((10 ^ m : Nat) : Int)]).bind fun t => (mag_Add.f k' t [((dvl (s.data.toList.take m) : Nat) : Int)]).bind fun u => if 0 ≤ (m : Int) then (if (m : Int) ≤ (s.size : Int) then deci_magnitude.l0 k' (s.extract (m : Int).toNat s.size) u else none) else none) = r) →
    deci_magnitude.l1 k s o (m : Int) ((dvl (s.data.toList.take i) : Nat) : Int) ((10 ^ i : Nat) : Int) (m : Int) (i : Int) = r
  | 0, i, k, hi, hk, hr => by
    obtain ⟨k, rfl⟩ : ∃ m, k = m + 1 := ⟨k - 1, by omega⟩
    obtain rfl : i = m := by omega
    simp only [deci_magnitude.l1]
    rw [if_neg (by omega)]
    exact hr k (by omega)
  | d + 1, i, k, hi, hk, hr => by
    obtain ⟨k, rfl⟩ : ∃ m, k = m + 1 := ⟨k - 1, by omega⟩
    have hl := size_len s
    have ih := mag_l1 s hd o m hm hms r d (i + 1) k (by omega) (by omega) (fun k' hk' => hr k' (by omega))
    simp only [deci_magnitude.l1]
    have hmem : s.data.toList.getD i 0 ∈ s.data.toList := by
      rw [List.getD_eq_getElem?_getD, List.getElem?_eq_getElem (by omega)]
      exact List.getElem_mem _
    have hc := allD_mem hd hmem
    have ht : allD (s.data.toList.take i) = true := List.all_eq_true.2 fun x hx => List.all_eq_true.1 hd x (List.mem_of_mem_take hx)
    have hlt := dvl_lt ht
    rw [List.length_take, Nat.min_eq_left (by omega)] at hlt
    have hp : 10 ^ i ≤ 10 ^ 17 := Nat.pow_le_pow_right (by decide) (by omega)
    have hp17 : 10 ^ 17 = 100000000000000000 := by decide
    rw [take_getD _ i (by omega), dvl_snoc, Nat.pow_succ] at ih
    rw [if_pos (by omega), if_pos (by omega), if_pos (by omega), bt_cast s i (by omega)]
    generalize s.data.toList.getD i 0 = c at *
    generalize dvl (s.data.toList.take i) = v at *
    generalize 10 ^ i = P at *
    rw [show ((c.toNat : Int) - 48) % 256 = ((c.toNat - 48 : Nat) : Int) from by omega, wu64 (x := 10 * (v : Int)) (by omega) (by omega), wu64 (x := 10 * (v : Int) + ((c.toNat - 48 : Nat) : Int)) (by omega) (by omega), wu64 (x := (P : Int) * 10) (by omega) (by omega), w64 (x := (i : Int) + 1) (by omega) (by omega)]
    rw [show (10 * (v : Int) + ((c.toNat - 48 : Nat) : Int)) = ((10 * v + (c.toNat - 48) : Nat) : Int) from by omega, show (P : Int) * 10 = ((P * 10 : Nat) : Int) from by omega]
    exact ih
theorem has_one {x : Nat} (h : x < 18446744073709551616) : Has [(x : Int)] x := ⟨Ok.cons (by omega) Ok.nil, by simp, by simp [val]⟩
theorem mag_l0 : ∀ (n : Nat) (s : ByteArray) (v k : Nat), s.size = n → n ≤ 1000000 → allD s.data.toList = true → (v + 1) * 10 ^ n ≤ B ^ 60 → 20 * n + 21000 ≤ k → deci_magnitude.l0 k s (ofNat v) = some (ofNat (v * 10 ^ n + dvl s.data.toList)) := by
  intro n
  induction n using Nat.strongRecOn with
  | _ n ih =>
    intro s v k hs hn hd hv hk
    obtain ⟨k, rfl⟩ : ∃ m, k = m + 1 := ⟨k - 1, by omega⟩
    have hl := size_len s
    simp only [deci_magnitude.l0]
    by_cases h0 : n = 0
    · have hnil : s.data.toList = [] := List.eq_nil_of_length_eq_zero (by omega)
      rw [if_neg (by omega), h0, hnil]
      simp [dvl]
    · obtain ⟨m, hm, hm1, hm2, hm3⟩ : ∃ m : Nat, wrap64 (Int.tmod (wrap64 ((s.size : Int) - 1)) 18 + 1) = (m : Int) ∧ 1 ≤ m ∧ m ≤ 18 ∧ m ≤ n := by
        refine ⟨(n - 1) % 18 + 1, ?_, by omega, by omega, by omega⟩
        rw [hs, w64 (x := (n : Int) - 1) (by omega) (by omega), Int.tmod_eq_emod_of_nonneg (by omega), w64 (by omega) (by omega)]
        omega
      rw [if_pos (by omega), hm]
      have he : s.data.toList.take 0 = [] := rfl
      have h10 : (1 : Int) = ((10 ^ 0 : Nat) : Int) := rfl
      have hacc : (0 : Int) = ((dvl (s.data.toList.take 0) : Nat) : Int) := rfl
      have hi0 : (0 : Int) = ((0 : Nat) : Int) := rfl
      have key := mag_l1 s hd (ofNat v) m hm2 (by omega) (some (ofNat (v * 10 ^ n + dvl s.data.toList))) m 0 k (by omega) (by omega) ?_
      · exact key
      · intro k' hk'
        have hp18 : 10 ^ m ≤ 10 ^ 18 := Nat.pow_le_pow_right (by decide) hm2
        have hp18' : 10 ^ 18 = 1000000000000000000 := by decide
        have ht : allD (s.data.toList.take m) = true := List.all_eq_true.2 fun x hx => List.all_eq_true.1 hd x (List.mem_of_mem_take hx)
        have hdr : allD (s.data.toList.drop m) = true := List.all_eq_true.2 fun x hx => List.all_eq_true.1 hd x (List.mem_of_mem_drop hx)
        have hlt := dvl_lt ht
        rw [List.length_take, Nat.min_eq_left (by omega)] at hlt
        have hpow : 10 ^ n = 10 ^ m * 10 ^ (n - m) := by rw [← Nat.pow_add, show m + (n - m) = n from by omega]
        have hpos : 1 ≤ 10 ^ (n - m) := Nat.pow_pos (by decide)
        have hstep : (v * 10 ^ m + dvl (s.data.toList.take m) + 1) * 10 ^ (n - m) ≤ B ^ 60 := by
          refine Nat.le_trans ?_ hv
          rw [hpow, ← Nat.mul_assoc]
          refine Nat.mul_le_mul_right _ ?_
          rw [Nat.add_mul]
          omega
        have hb : v * 10 ^ m + dvl (s.data.toList.take m) < B ^ 60 := by
          have : (v * 10 ^ m + dvl (s.data.toList.take m) + 1) * 1 ≤ (v * 10 ^ m + dvl (s.data.toList.take m) + 1) * 10 ^ (n - m) := Nat.mul_le_mul_left _ hpos
          omega
        have hvm : v * 10 ^ m < B ^ 60 := by omega
        have hv1 : v < B ^ 60 := by
          have : v * 1 ≤ v * 10 ^ m := Nat.mul_le_mul_left _ (Nat.pow_pos (by decide))
          omega
        have Hv := Has.nat hv1 (show 60 ≤ 64 by omega)
        have Hvm := Has.nat hvm (show 60 ≤ 64 by omega)
        have hex : (s.extract m s.size).data.toList = s.data.toList.drop m := Lib.extract_to_end s m
        have hsz : (s.extract m s.size).size = n - m := by rw [← size_len, hex, List.length_drop]; omega
        rw [Mul_g Hv (has_one (by omega)) (by omega), Option.bind_some, Add_g Hvm (has_one (by omega)) (by omega), Option.bind_some, if_pos (by omega), if_pos (by omega), Int.toNat_natCast m]
        have := ih (n - m) (by omega) (s.extract m s.size) (v * 10 ^ m + dvl (s.data.toList.take m)) k' hsz (by omega) (by rw [hex]; exact hdr) hstep (by omega)
        rw [this, hex]
        congr 2
        have hap := dvl_append (s.data.toList.take m) (s.data.toList.drop m)
        rw [List.take_append_drop, List.length_drop] at hap
        rw [hap, hpow, hl, hs]
        generalize 10 ^ m = P
        generalize 10 ^ (n - m) = Q
        grind
theorem ten_B {a b : Nat} (h : 10 ^ a ≤ B ^ b) : 10 ^ (2 * a) ≤ B ^ (2 * b) := by
  have h1 := Nat.mul_le_mul h h
  rw [← Nat.pow_add, ← Nat.pow_add, ← Nat.two_mul, ← Nat.two_mul] at h1
  exact h1
theorem ten_w {a b n : Nat} (h : 10 ^ a ≤ B ^ b) (hn : n ≤ 2 * a) : (0 + 1) * 10 ^ n ≤ B ^ (2 * b) := by
  have h3 : 10 ^ n ≤ 10 ^ (2 * a) := Nat.pow_le_pow_right (by decide) hn
  rw [Nat.zero_add, Nat.one_mul]
  exact Nat.le_trans h3 (ten_B h)
theorem ten_s {n : Nat} (h : n ≤ 500) : (0 + 1) * 10 ^ n ≤ B ^ 60 :=
  ten_w (a := 250) (b := 30) (by decide) h
theorem mag_f {s : ByteArray} {k : Nat} (hs : s.size ≤ 500) (hd : allD s.data.toList = true) (hk : 40000 ≤ k) : deci_magnitude.f k s = some (ofNat (dvl s.data.toList)) := by
  have hb : (0 + 1) * 10 ^ s.size ≤ B ^ 60 := ten_s hs
  have h := mag_l0 s.size s 0 k rfl (by omega) hd hb (by omega)
  rw [Nat.zero_mul, Nat.zero_add, ofNat_zero] at h
  exact h
end Go.Proofs.YtknekneicecgiaaGreatDoor.Mg
namespace Go.Proofs.YtknekneicecgiaaGreatDoor.Mg
open Go.RowKit Go.Proofs.YtknekneicecgiaaGreatDoorW.PrintWords Go.Proofs.YtknekneicecgiaaGreatDoorW.PrintMore Go.Proofs.YtknekneicecgiaaGreatDoor.MB Go.Proofs.YtknekneicecgiaaGreatDoor.M
set_option linter.unusedVariables false
set_option linter.unusedSimpArgs false

/-- A text without its sign, and whether that is a minus. -/
def strip : List UInt8 → Bool × List UInt8
  | [] => (false, [])
  | c :: t => if c = 45 then (true, t) else if c = 43 then (false, t) else (false, c :: t)
/-- What stands before the first point, behind it, and whether there is one. -/
def cutP : List UInt8 → List UInt8 × List UInt8 × Bool
  | [] => ([], [], false)
  | b :: l => if b = 46 then ([], l, true) else (b :: (cutP l).1, (cutP l).2)
theorem cut_one (b : UInt8) (l : List UInt8) : Lib.cut (b :: l) [46] = if b = 46 then ([], l, true) else (b :: (Lib.cut l [46]).1, (Lib.cut l [46]).2) := by
  have hge := Lib.indexByte_ge l 46
  unfold Lib.cut
  rw [Lib.index_one, Lib.index_one]
  by_cases hb : b = 46
  · subst hb
    rw [if_pos rfl]
    simp [Lib.indexByte]
  · rw [if_neg hb]
    have e : (b == 46) = false := beq_eq_false_iff_ne.2 hb
    simp only [Lib.indexByte, e]
    by_cases h1 : Lib.indexByte l 46 = -1
    · simp [h1]
    · have e1 : (Lib.indexByte l 46 == -1) = false := beq_eq_false_iff_ne.2 h1
      obtain ⟨n, hn⟩ : ∃ n : Nat, Lib.indexByte l 46 = n := ⟨(Lib.indexByte l 46).toNat, by omega⟩
      rw [hn] at e1 ⊢
      simp only [e1]
      have h2 : (0 : Int) ≤ (n : Int) + 1 := by omega
      have h3 : ((n : Int) + 1).toNat = n + 1 := by omega
      simp [h2, h3]
theorem cut_eq : ∀ l : List UInt8, Lib.cut l [46] = cutP l
  | [] => rfl
  | b :: l => by rw [cut_one, cut_eq l]; rfl
theorem cutP_len : ∀ l : List UInt8, (cutP l).1.length ≤ l.length ∧ (cutP l).2.1.length ≤ l.length ∧ ((cutP l).2.2 = false → (cutP l).2.1 = [])
  | [] => ⟨Nat.le_refl _, Nat.le_refl _, fun _ => rfl⟩
  | b :: l => by
    obtain ⟨h1, h2, h3⟩ := cutP_len l
    unfold cutP
    by_cases hb : b = 46
    · rw [if_pos hb]
      exact ⟨by simp, by simp, fun h => by cases h⟩
    · rw [if_neg hb]
      exact ⟨by simpa using h1, by simp; omega, h3⟩
theorem strip_len (l : List UInt8) : (strip l).2.length ≤ l.length := by
  cases l with
  | nil => exact Nat.le_refl _
  | cons c t =>
    by_cases h1 : c = 45
    · simp [strip, h1]
    · by_cases h2 : c = 43
      · simp [strip, h2]
      · simp [strip, h1, h2]
theorem signed_f (s : ByteArray) : deci_signed.f s = some (⟨(strip s.data.toList).2.toArray⟩, (strip s.data.toList).1) := by
  have hl := size_len s
  have ex : ∀ h : 1 ≤ s.size, s.extract 1 s.size = ⟨(s.data.toList.drop 1).toArray⟩ := fun h => by
    apply ByteArray.ext
    apply Array.ext'
    rw [Lib.extract_to_end]
  unfold deci_signed.f strings_HasPrefix.f
  rw [Option.bind_some]
  generalize hL : s.data.toList = L at *
  cases L with
  | nil =>
    have hs : s = ⟨#[]⟩ := ByteArray.ext (Array.ext' hL)
    rw [hs]
    rfl
  | cons c t =>
    have hsz : 1 ≤ s.size := by rw [← hl]; simp
    have hp : ∀ d : UInt8, Lib.hasPrefix (c :: t) [d] = decide (c = d) := fun d => by
      unfold Lib.hasPrefix
      by_cases h : c = d
      · subst h; simp
      · have e : (d == c) = false := beq_eq_false_iff_ne.2 (Ne.symm h)
        simp [List.isPrefixOf, e, h]
    show (if Lib.hasPrefix (c :: t) [45] = true then _ else _) = _
    have es : strip (c :: t) = if c = 45 then (true, t) else if c = 43 then (false, t) else (false, c :: t) := rfl
    rw [hp 45, es]
    by_cases h1 : c = 45
    · rw [if_pos (decide_eq_true h1), if_pos h1, if_pos (by omega), ex hsz]
      rfl
    · rw [if_neg (by rw [decide_eq_false h1]; decide), if_neg h1, Option.bind_some]
      show (if Lib.hasPrefix (c :: t) [43] = true then _ else _) = _
      rw [hp 43]
      by_cases h2 : c = 43
      · rw [if_pos (decide_eq_true h2), if_pos h2, if_pos (by omega), ex hsz]
        rfl
      · rw [if_neg (by rw [decide_eq_false h2]; decide), if_neg h2]
        congr 2
        exact ByteArray.ext (Array.ext' hL)

/-- Nought bytes alone. -/
def allZ (l : List UInt8) : Bool := l.all (· == 48)
theorem trim_nil (l : List UInt8) : Lib.trimB l 48 = [] ↔ allZ l = true := by
  have hd : ∀ l : List UInt8, l.dropWhile (· == (48 : UInt8)) = [] ↔ allZ l = true := fun l => by
    induction l with
    | nil => simp [allZ]
    | cons c l ih =>
      by_cases hc : c = 48
      · subst hc
        simpa [allZ, List.dropWhile_cons] using ih
      · simp [allZ, List.dropWhile_cons, hc]
  have hr : ∀ l : List UInt8, allZ l.reverse = allZ l := fun l => by
    apply Bool.eq_iff_iff.2
    simp [allZ, List.all_eq_true]
  have hsub : ∀ l : List UInt8, allZ l = true → allZ (l.dropWhile (· == (48 : UInt8))) = true := fun l h => by
    rw [(hd l).2 h]
    rfl
  have hback : ∀ l : List UInt8, allZ (l.dropWhile (· == (48 : UInt8))) = true → allZ l = true := fun l h => by
    induction l with
    | nil => rfl
    | cons c l ih =>
      by_cases hc : c = 48
      · subst hc
        rw [List.dropWhile_cons, if_pos (by simp)] at h
        have := ih h
        simpa [allZ] using this
      · rw [List.dropWhile_cons, if_neg (by simp [hc])] at h
        exact h
  unfold Lib.trimB Lib.trimLeftB Lib.trimRightB
  rw [hd, hr]
  constructor
  · intro h
    rw [← hr]
    exact hback _ h
  · intro h
    rw [← hr] at h
    exact hsub _ h
/-- What the parts of a text come to: units, and an error. -/
def spec2 (m : Bool) (K : Nat) (w p : List UInt8) (pt : Bool) : Int × Int :=
  if (allD w && decide (w ≠ [])) = false then (0, 1)
  else if pt = true ∧ (allD p && decide (p ≠ [])) = false then (0, 1)
  else if allZ (p.drop K) = false then (0, 3)
  else if dvl (w ++ p.take K) * 10 ^ (K - p.length) > 2147483648 then (0, 4)
  else (nv m (dvl (w ++ p.take K) * 10 ^ (K - p.length)), 0)
theorem zeros_val (l : List UInt8) (n : Nat) : dvl (l ++ Lib.repeatL [48] n) = dvl l * 10 ^ n ∧ allD (Lib.repeatL [48] n) = true := by
  have h0 : ∀ n, dvl (Lib.repeatL [48] n) = 0 ∧ allD (Lib.repeatL [48] n) = true := fun n => by
    induction n with
    | zero => exact ⟨rfl, rfl⟩
    | succ n ih =>
      refine ⟨?_, ?_⟩
      · have := dvl_append [48] (Lib.repeatL [48] n)
        rw [ih.1] at this
        show dvl ([48] ++ Lib.repeatL [48] n) = 0
        rw [this]
        have : dvl [48] = 0 := rfl
        rw [this, Nat.zero_mul]
      · show allD ([48] ++ Lib.repeatL [48] n) = true
        rw [allD_append, ih.2]
        rfl
  have hl := Lib.repeatL_length [48] n
  refine ⟨?_, (h0 n).2⟩
  rw [dvl_append, (h0 n).1, hl]
  simp
theorem Parse_j1 (m : Bool) (K : Nat) (hK : K ≤ 9) (w q : ByteArray) {k : Nat} (hw : allD w.data.toList = true) (hq : allD q.data.toList = true) (hlen : w.size + q.size ≤ 450) (hqK : q.size ≤ K) (hk : 50001 ≤ k) :
    deci_Parse.j1 k (K : Int) m w q = some (if dvl (w.data.toList ++ q.data.toList) * 10 ^ (K - q.size) > 2147483648 then (0, 4) else (nv m (dvl (w.data.toList ++ q.data.toList) * 10 ^ (K - q.size)), 0)) := by
  obtain ⟨k, rfl⟩ : ∃ j, k = j + 1 := ⟨k - 1, by omega⟩
  obtain ⟨z1, z2⟩ := zeros_val (w.data.toList ++ q.data.toList) (K - q.size)
  have hrl := Lib.repeatL_length [48] (K - q.size)
  simp only [deci_Parse.j1]
  unfold strings_Repeat.f
  rw [w64 (x := (K : Int) - (q.size : Int)) (by omega) (by omega), if_pos ⟨by decide, by omega, by omega⟩, Option.bind_some, show ((K : Int) - (q.size : Int)).toNat = K - q.size from by omega]
  have hz : (⟨#[48]⟩ : ByteArray).data.toList = [48] := rfl
  rw [hz]
  have hsz : (⟨(Lib.repeatL [48] (K - q.size)).toArray⟩ : ByteArray).size = K - q.size := by rw [size_mk, hrl]; simp
  have hsz2 : (q ++ (⟨(Lib.repeatL [48] (K - q.size)).toArray⟩ : ByteArray)).size = q.size + (K - q.size) := by rw [ByteArray.size_append, hsz]
  have hdata : (w ++ (q ++ (⟨(Lib.repeatL [48] (K - q.size)).toArray⟩ : ByteArray))).data.toList = w.data.toList ++ q.data.toList ++ Lib.repeatL [48] (K - q.size) := by simp [ByteArray.data_append]
  have hsz3 : (w ++ (q ++ (⟨(Lib.repeatL [48] (K - q.size)).toArray⟩ : ByteArray))).size = w.size + (q.size + (K - q.size)) := by rw [ByteArray.size_append, hsz2]
  rw [hsz, if_pos (by omega), hsz2, if_pos (by omega), mag_f (by rw [hsz3]; omega) (by rw [hdata, allD_append, allD_append, hw, hq, z2]; rfl) (by omega), Option.bind_some, hdata, z1]
  have hadd : allD (w.data.toList ++ q.data.toList ++ Lib.repeatL [48] (K - q.size)) = true := by rw [allD_append, allD_append, hw, hq, z2]; rfl
  have hlt := dvl_lt hadd
  rw [z1, List.length_append, List.length_append, hrl, size_len, size_len] at hlt
  have hb : dvl (w.data.toList ++ q.data.toList) * 10 ^ (K - q.size) < B ^ 60 := by
    have h1 := ten_s (n := w.size + q.size + (K - q.size) * [(48 : UInt8)].length) (by simp; omega)
    rw [Nat.zero_add, Nat.one_mul] at h1
    exact Nat.lt_of_lt_of_le hlt h1
  generalize dvl (w.data.toList ++ q.data.toList) * 10 ^ (K - q.size) = x at *
  have Hx := Has.nat hb (show 60 ≤ 64 by omega)
  rw [Make_z Hx (by omega), Option.bind_some]
  have hzz : (nv m x).natAbs < B ^ 60 := by rw [nv_abs]; exact hb
  have hna := nv_abs m x
  dsimp only
  rw [Int_z (HZ.z hzz (by omega)) (by omega)]
  generalize hz : nv m x = z at *
  by_cases h1 : x > 2147483648
  · rw [if_pos h1]
    by_cases h2 : -9223372036854775808 ≤ z ∧ z ≤ 9223372036854775807
    · rw [if_pos h2, Option.bind_some]
      dsimp only
      rw [if_pos rfl]
      by_cases h3 : z > 2147483648
      · rw [if_pos h3]
      · rw [if_neg h3, if_pos (by omega)]
    · rw [if_neg h2, Option.bind_some]
      dsimp only
      rw [if_neg (by decide)]
  · rw [if_neg h1, if_pos (by omega), Option.bind_some]
    dsimp only
    rw [if_pos rfl, if_neg (by omega), if_neg (by omega)]
theorem Parse_f {s : ByteArray} {a1 : Int} {k : Nat} (hs : s.size ≤ 400) (hk : 60000 ≤ k) :
    deci_Parse.f k s a1 = some (spec2 (strip s.data.toList).1 (mn (mx a1 0) 9).toNat (cutP (strip s.data.toList).2).1 (cutP (strip s.data.toList).2).2.1 (cutP (strip s.data.toList).2).2.2) := by
  obtain ⟨K, hK, hK9⟩ : ∃ K : Nat, mn (mx a1 0) 9 = (K : Int) ∧ K ≤ 9 := by
    refine ⟨(mn (mx a1 0) 9).toNat, ?_, ?_⟩ <;> unfold mn mx <;> split <;> split <;> omega
  unfold deci_Parse.f deci_scaled.f
  rw [Option.bind_some, hK, if_neg (by omega), signed_f, Option.bind_some, Int.toNat_natCast]
  have hsl := strip_len s.data.toList
  rw [size_len] at hsl
  generalize (strip s.data.toList).1 = m at *
  generalize (strip s.data.toList).2 = t at *
  dsimp only
  unfold strings_Cut.f
  rw [if_pos (by rw [size_mk]; omega), Option.bind_some]
  have h46 : (⟨#[46]⟩ : ByteArray).data.toList = [46] := rfl
  have ht : (⟨t.toArray⟩ : ByteArray).data.toList = t := by simp
  rw [h46, ht, cut_eq]
  obtain ⟨c1, c2, c3⟩ := cutP_len t
  generalize (cutP t).1 = w at *
  generalize (cutP t).2.1 = p at *
  generalize (cutP t).2.2 = pt at *
  dsimp only
  have hwl : (⟨w.toArray⟩ : ByteArray).data.toList = w := by simp
  have hpl : (⟨p.toArray⟩ : ByteArray).data.toList = p := by simp
  rw [digits_f (by rw [size_mk]; omega) (by rw [size_mk]; omega), Option.bind_some, hwl]
  obtain ⟨k, rfl⟩ : ∃ j, k = j + 1 := ⟨k - 1, by omega⟩
  unfold spec2
  by_cases hw : (allD w && decide (w ≠ [])) = false
  · rw [if_neg (by rw [hw]; decide), if_pos hw]
    simp only [deci_Parse.j0]
    rw [if_pos trivial]
  · have hw' : (allD w && decide (w ≠ [])) = true := by simpa using hw
    have hwd : allD w = true := by
      rw [Bool.and_eq_true] at hw'
      exact hw'.1
    rw [if_pos hw', if_neg hw]
    have main : allD p = true → deci_Parse.j0 (k + 1) (K : Int) m ⟨w.toArray⟩ ⟨p.toArray⟩ false = some (if allZ (p.drop K) = false then (0, 3) else if dvl (w ++ p.take K) * 10 ^ (K - p.length) > 2147483648 then (0, 4) else (nv m (dvl (w ++ p.take K) * 10 ^ (K - p.length)), 0)) := fun hpd => by
      simp only [deci_Parse.j0]
      rw [if_neg (by decide), size_mk]
      by_cases hgt : (p.length : Int) > (K : Int)
      · have hex : ((⟨p.toArray⟩ : ByteArray).extract (K : Int).toNat p.length).data.toList = p.drop K := by
          have := Lib.extract_to_end (⟨p.toArray⟩ : ByteArray) K
          rw [size_mk, hpl] at this
          rw [Int.toNat_natCast]
          exact this
        have hex2 : ((⟨p.toArray⟩ : ByteArray).extract 0 (K : Int).toNat).data.toList = p.take K := by
          have := Lib.Pa.extract_upto_list (⟨p.toArray⟩ : ByteArray) K
          rw [hpl] at this
          rw [Int.toNat_natCast]
          exact this
        have hsz2 : ((⟨p.toArray⟩ : ByteArray).extract 0 (K : Int).toNat).size = K := by rw [← size_len, hex2, List.length_take]; omega
        have hsz1 : ((⟨p.toArray⟩ : ByteArray).extract (K : Int).toNat p.length).size = p.length - K := by rw [← size_len, hex, List.length_drop]
        rw [if_pos hgt, if_pos (by omega), if_pos (by omega)]
        unfold strings_Trim.f
        rw [if_pos ⟨by rw [hsz1]; omega, rfl⟩, Option.bind_some, hex, Lib.toList_data]
        have e : (⟨(Lib.trimB (p.drop K) 48).toArray⟩ : ByteArray).data.toList = Lib.trimB (p.drop K) 48 := by simp
        rw [e]
        by_cases hz : allZ (p.drop K) = true
        · have hq : allD (p.take K) = true := List.all_eq_true.2 fun x hx => List.all_eq_true.1 hpd x (List.mem_of_mem_take hx)
          have hj := Parse_j1 m K hK9 ⟨w.toArray⟩ ((⟨p.toArray⟩ : ByteArray).extract 0 (K : Int).toNat) (k := k) (by rw [hwl]; exact hwd) (by rw [hex2]; exact hq) (by rw [hsz2, size_mk]; omega) (by omega) (by omega)
          rw [hsz2, hex2, hwl] at hj
          rw [if_pos ((trim_nil _).2 hz), if_neg (by rw [hz]; decide), hj, show K - K = K - p.length from by omega]
        · have hz' : allZ (p.drop K) = false := by simpa using hz
          rw [if_neg (fun h => hz ((trim_nil _).1 h)), if_pos hz']
      · have hj := Parse_j1 m K hK9 ⟨w.toArray⟩ ⟨p.toArray⟩ (k := k) (by rw [hwl]; exact hwd) (by rw [hpl]; exact hpd) (by rw [size_mk, size_mk]; omega) (by rw [size_mk]; omega) (by omega)
        rw [hwl, hpl, size_mk] at hj
        rw [if_neg hgt, hj, List.drop_of_length_le (by omega), List.take_of_length_le (by omega), show allZ [] = true from rfl, if_neg (show ¬ (true = false) from by decide)]
    cases pt with
    | false =>
      rw [if_neg (by decide), if_neg (by rintro ⟨h, _⟩; cases h)]
      have := c3 rfl
      subst this
      exact main rfl
    | true =>
      rw [if_pos rfl, digits_f (by rw [size_mk]; omega) (by rw [size_mk]; omega), Option.bind_some, hpl]
      by_cases hp : (allD p && decide (p ≠ [])) = false
      · rw [hp, if_pos ⟨rfl, rfl⟩]
        simp only [deci_Parse.j0]
        rw [if_pos (by decide)]
      · have hp' : (allD p && decide (p ≠ [])) = true := by simpa using hp
        rw [hp', if_neg (by rintro ⟨_, h⟩; cases h)]
        rw [Bool.and_eq_true] at hp'
        exact main hp'.1
end Go.Proofs.YtknekneicecgiaaGreatDoor.Mg
