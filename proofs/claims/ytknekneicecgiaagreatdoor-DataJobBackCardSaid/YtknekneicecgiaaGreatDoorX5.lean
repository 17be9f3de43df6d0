/- A number's decimal text: its bytes, highest digit first; and deci.Digits. deci.Fixed and Text: so many units, digit by digit. -/
import Derived.Test.YtknekneicecgiaaGreatDoorX6
import Derived.Test.YtknekneicecgiaaGreatDoorX4
import Derived.Test.YtknekneicecgiaaGreatDoorE4
import Derived.Test.YtknekneicecgiaaGreatDoorE5
namespace Go.Proofs.YtknekneicecgiaaGreatDoor.Mg
open Go.RowKit Go.Proofs.YtknekneicecgiaaGreatDoorW.PrintWords Go.Proofs.YtknekneicecgiaaGreatDoorW.PrintMore Go.Proofs.YtknekneicecgiaaGreatDoor.MB Go.Proofs.YtknekneicecgiaaGreatDoor.M
set_option linter.unusedVariables false
set_option linter.unusedSimpArgs false

/-- A digit's byte. -/
def dch (n : Nat) : UInt8 := UInt8.ofNat (48 + n % 10)
theorem dch_toNat (n : Nat) : (dch n).toNat = 48 + n % 10 := by
  unfold dch
  rw [UInt8.toNat_ofNat']
  omega
theorem dch_isDg (n : Nat) : isDg (dch n) = true := decide_eq_true (by rw [dch_toNat]; omega)
/-- The digits of a number, none of 0. -/
def dec (n : Nat) : List UInt8 := if _h : n = 0 then [] else dec (n / 10) ++ [dch n]
termination_by n
decreasing_by omega
theorem dec_zero : dec 0 = [] := by rw [dec]; simp
theorem dec_pos {n : Nat} (h : n ≠ 0) : dec n = dec (n / 10) ++ [dch n] := by rw [dec]; simp [h]
theorem dec_spec (n : Nat) : allD (dec n) = true ∧ dvl (dec n) = n := by
  induction n using Nat.strongRecOn with
  | _ n ih =>
    by_cases h : n = 0
    · subst h; rw [dec_zero]; exact ⟨rfl, rfl⟩
    · obtain ⟨h1, h2⟩ := ih (n / 10) (by omega)
      rw [dec_pos h, allD_append, dvl_snoc, h1, h2, dch_toNat]
      refine ⟨by simp [allD, dch_isDg], by omega⟩
theorem dec_nil {n : Nat} : dec n = [] ↔ n = 0 := by
  constructor
  · intro h
    have := (dec_spec n).2
    rw [h] at this
    exact this.symm
  · rintro rfl; exact dec_zero
theorem snoc_cases (l : List UInt8) : l = [] ∨ ∃ l' c, l = l' ++ [c] := by
  rcases List.eq_nil_or_concat l with h | ⟨l', c, h⟩
  · exact .inl h
  · exact .inr ⟨l', c, by rw [h]; simp⟩
/-- Digits of which the first isn't 0 are those of their number. -/
theorem dec_of : ∀ (n : Nat) (l : List UInt8), l.length = n → allD l = true → l.head? ≠ some 48 → dec (dvl l) = l := by
  intro n
  induction n with
  | zero =>
    intro l hl _ _
    obtain rfl := List.eq_nil_of_length_eq_zero hl
    exact dec_zero
  | succ n ih =>
    intro l hl hd hh
    rcases snoc_cases l with rfl | ⟨l', c, rfl⟩
    · simp at hl
    · rw [allD_append, Bool.and_eq_true] at hd
      obtain ⟨hd1, hd2⟩ := hd
      have hc := allD_mem hd2 (List.mem_singleton.2 rfl)
      have hlen : l'.length = n := by simpa using hl
      have hh' : l'.head? ≠ some 48 := by
        cases l' with
        | nil => simp
        | cons a t => simpa using hh
      have ih := ih l' hlen hd1 hh'
      rw [dvl_snoc]
      have hne : 10 * dvl l' + (c.toNat - 48) ≠ 0 := by
        intro h0
        have hv : dvl l' = 0 := by omega
        rw [hv, dec_zero] at ih
        rw [← ih] at hh
        apply hh
        have : c = 48 := UInt8.toNat_inj.1 (by show c.toNat = 48; omega)
        rw [this]
        rfl
      rw [dec_pos hne, show (10 * dvl l' + (c.toNat - 48)) / 10 = dvl l' from by omega, ih]
      congr 2
      apply UInt8.toNat_inj.1
      rw [dch_toNat]
      omega
theorem trimLeft_dec (l : List UInt8) (h : allD l = true) : Lib.trimLeftB l 48 = dec (dvl l) := by
  unfold Lib.trimLeftB
  induction l with
  | nil => exact dec_zero.symm
  | cons c l ih =>
    have hl : allD l = true := by
      simp only [allD, List.all_cons, Bool.and_eq_true] at h
      exact h.2
    by_cases hc : c = 48
    · subst hc
      have h2 := dvl_append [48] l
      have h3 : dvl [48] = 0 := rfl
      rw [h3, Nat.zero_mul, Nat.zero_add] at h2
      rw [List.dropWhile_cons, if_pos (by simp), ih hl, show (48 : UInt8) :: l = [48] ++ l from rfl, h2]
    · rw [List.dropWhile_cons, if_neg (by simp [hc])]
      exact (dec_of _ (c :: l) rfl h (by simpa using hc)).symm
/-- A number's text. -/
def txt (n : Nat) : List UInt8 := if n = 0 then [48] else dec n
def ztxt (z : Int) : List UInt8 := if z < 0 then 45 :: txt z.natAbs else txt z.natAbs
theorem strOf_one {n : Nat} (h : n < 256) : (strOfNums [(n : Int)]).data.toList = [UInt8.ofNat n] := by
  simp [strOfNums]
theorem Dig_l1 (m : Bool) (l : List Int) (q : List Int) (out : ByteArray) (r : Option ByteArray) (x : Nat) (hx : x < 1000000000000000000) (hout : out.size ≤ 2000) : ∀ (d i k : Nat) (p : ByteArray), i + d = 18 → d + 2 ≤ k → p.size = i → allD p.data.toList = true → x % 10 ^ i = dvl p.data.toList →
    (∀ (k' : Nat) (p' : ByteArray), k' + (d + 1) = k → p'.size = 18 → allD p'.data.toList = true → dvl p'.data.toList = x → deci_Digits.l0 k' q (p' ++ out) m l = r) →
    deci_Digits.l1 k out q ((x / 10 ^ i : Nat) : Int) p (i : Int) m l = r
  | 0, i, k, p, hi, hk, hp, hd, hv, hr => by
    obtain ⟨k, rfl⟩ : ∃ n, k = n + 1 := ⟨k - 1, by omega⟩
    obtain rfl : i = 18 := by omega
    have h18 : 10 ^ 18 = 1000000000000000000 := by decide
    rw [h18, Nat.mod_eq_of_lt hx] at hv
    simp only [deci_Digits.l1]
    rw [if_neg (by omega), if_pos (by omega)]
    exact hr k p (by omega) hp hd hv.symm
  | d + 1, i, k, p, hi, hk, hp, hd, hv, hr => by
    obtain ⟨k, rfl⟩ : ∃ n, k = n + 1 := ⟨k - 1, by omega⟩
    have hq : x / 10 ^ i < 1000000000000000000 := Nat.lt_of_le_of_lt (Nat.div_le_self _ _) hx
    have hdd : x / 10 ^ (i + 1) = x / 10 ^ i / 10 := by rw [Nat.pow_succ, Nat.div_div_eq_div_mul]
    have hmm : x % 10 ^ (i + 1) = x % 10 ^ i + 10 ^ i * (x / 10 ^ i % 10) := by rw [Nat.pow_succ, Nat.mod_mul]
    generalize hQ : x / 10 ^ i = Q at *
    have e1 : (IntKind.u64.wrap (48 + Int.tmod ((Q : Nat) : Int) 10)) % 256 = ((48 + Q % 10 : Nat) : Int) := by
      rw [Int.tmod_eq_emod_of_nonneg (by omega), wu64 (by omega) (by omega)]
      omega
    have e2 : IntKind.u64.wrap (Int.tdiv ((Q : Nat) : Int) 10) = ((Q / 10 : Nat) : Int) := by
      rw [Int.tdiv_eq_ediv_of_nonneg (by omega), wu64 (by omega) (by omega)]
      omega
    have hs1 := strOf_one (n := 48 + Q % 10) (by omega)
    have hdc : UInt8.ofNat (48 + Q % 10) = dch Q := rfl
    rw [hdc] at hs1
    have hsz : (strOfNums [((48 + Q % 10 : Nat) : Int)]).size = 1 := by rw [← size_len, hs1]; rfl
    have hsz2 : (strOfNums [((48 + Q % 10 : Nat) : Int)] ++ p).size = i + 1 := by rw [ByteArray.size_append, hsz, hp]; omega
    have hda : (strOfNums [((48 + Q % 10 : Nat) : Int)] ++ p).data.toList = dch Q :: p.data.toList := by
      rw [ByteArray.data_append, Array.toList_append, hs1]
      rfl
    have hal : allD (dch Q :: p.data.toList) = true := by
      show allD ([dch Q] ++ p.data.toList) = true
      rw [allD_append, hd]
      simp [allD, dch_isDg]
    have hdv : dvl (dch Q :: p.data.toList) = x % 10 ^ (i + 1) := by
      have := dvl_append [dch Q] p.data.toList
      have h1 : dvl [dch Q] = Q % 10 := by
        show 10 * 0 + ((dch Q).toNat - 48) = _
        rw [dch_toNat]
        omega
      rw [h1, size_len, hp] at this
      show dvl ([dch Q] ++ p.data.toList) = _
      rw [this, hmm, hv, Nat.mul_comm]
      omega
    have ih := Dig_l1 m l q out r x hx hout d (i + 1) k (strOfNums [((48 + Q % 10 : Nat) : Int)] ++ p) (by omega) (by omega) hsz2 (by rw [hda]; exact hal) (by rw [hda]; exact hdv.symm) (fun k' p' h1 h2 h3 h4 => hr k' p' (by omega) h2 h3 h4)
    rw [hdd] at ih
    simp only [deci_Digits.l1]
    rw [if_pos (by omega), e1, e2, Option.bind_some, if_pos (by rw [hsz]; omega), w64 (x := (i : Int) + 1) (by omega) (by omega)]
    exact ih
theorem Dig_l0 (m : Bool) (l : List Int) : ∀ (c x k : Nat) (xs : List Int) (out : ByteArray), Has xs x → x < 10 ^ (18 * c) → x < B ^ 60 → out.size + 18 * c ≤ 1500 → 30 * c + 21000 ≤ k → allD out.data.toList = true →
    deci_Digits.l0 k xs out m l = some ⟨(if x * 10 ^ out.size + dvl out.data.toList = 0 then [48] else if m = true then 45 :: dec (x * 10 ^ out.size + dvl out.data.toList) else dec (x * 10 ^ out.size + dvl out.data.toList)).toArray⟩ := by
  have fin : ∀ (k : Nat) (xs : List Int) (out : ByteArray), Has xs 0 → out.size ≤ 1500 → 21000 ≤ k → allD out.data.toList = true → deci_Digits.l0 k xs out m l = some ⟨(if dvl out.data.toList = 0 then [48] else if m = true then 45 :: dec (dvl out.data.toList) else dec (dvl out.data.toList)).toArray⟩ := by
    intro k xs out H0 ho hk hd
    obtain ⟨k, rfl⟩ : ∃ n, k = n + 1 := ⟨k - 1, by omega⟩
    simp only [deci_Digits.l0]
    rw [Len_g H0 (by omega), Option.bind_some, if_neg (show ¬ (((bitsN 0 : Nat) : Int) > 0) from by decide)]
    unfold strings_TrimLeft.f
    rw [if_pos rfl, Option.bind_some, trimLeft_dec _ hd, Lib.toList_data]
    have e : (⟨(dec (dvl out.data.toList)).toArray⟩ : ByteArray).data.toList = dec (dvl out.data.toList) := by simp
    rw [e]
    have hlen : (dec (dvl out.data.toList)).length ≤ out.size := by
      rw [← trimLeft_dec _ hd, ← size_len]
      unfold Lib.trimLeftB
      exact (List.dropWhile_sublist _).length_le
    by_cases h0 : dvl out.data.toList = 0
    · rw [if_pos (dec_nil.2 h0), if_pos h0]
    · rw [if_neg (fun h => h0 (dec_nil.1 h)), if_neg h0]
      cases m with
      | false => rw [if_neg (by decide), if_neg (by decide)]
      | true =>
        rw [if_pos rfl, if_pos rfl, size_mk, if_pos (by omega)]
        congr 1
  intro c
  induction c with
  | zero =>
    intro x k xs out H hx _ ho hk hd
    obtain rfl : x = 0 := by simpa using hx
    rw [Nat.zero_mul, Nat.zero_add]
    exact fin k xs out H (by omega) (by omega) hd
  | succ c ih =>
    intro x k xs out H hx hxB ho hk hd
    by_cases h0 : x = 0
    · subst h0
      rw [Nat.zero_mul, Nat.zero_add]
      exact fin k xs out H (by omega) (by omega) hd
    · obtain ⟨k, rfl⟩ : ∃ n, k = n + 2 := ⟨k - 2, by omega⟩
      have hbn : ((bitsN x : Nat) : Int) > 0 := by
        have : bitsN x ≠ 0 := fun h => h0 (bitsN_eq_zero.1 h)
        omega
      have hq : x / 1000000000000000000 < 10 ^ (18 * c) := by
        rw [Nat.div_lt_iff_lt_mul (by decide)]
        have e : 10 ^ (18 * (c + 1)) = 10 ^ (18 * c) * 1000000000000000000 := by rw [show 18 * (c + 1) = 18 * c + 18 from by omega, Nat.pow_add]
        rw [← e]
        exact hx
      have hqB : x / 1000000000000000000 < B ^ 60 := Nat.lt_of_le_of_lt (Nat.div_le_self _ _) hxB
      have hr := Nat.mod_lt x (show 0 < 1000000000000000000 by decide)
      have hsplit := Nat.div_add_mod x 1000000000000000000
      have key : ∀ y : Nat, y = x % 1000000000000000000 → deci_Digits.j1 (k + 1) out (ofNat (x / 1000000000000000000)) (y : Int) ⟨#[]⟩ m l = some ⟨(if x * 10 ^ out.size + dvl out.data.toList = 0 then [48] else if m = true then 45 :: dec (x * 10 ^ out.size + dvl out.data.toList) else dec (x * 10 ^ out.size + dvl out.data.toList)).toArray⟩ := by
        intro y hy
        simp only [deci_Digits.j1]
        have := Dig_l1 m l (ofNat (x / 1000000000000000000)) out (some ⟨(if x * 10 ^ out.size + dvl out.data.toList = 0 then [48] else if m = true then 45 :: dec (x * 10 ^ out.size + dvl out.data.toList) else dec (x * 10 ^ out.size + dvl out.data.toList)).toArray⟩) y (by omega) (by omega) 18 0 k ⟨#[]⟩ (by omega) (by omega) rfl rfl (by rw [Nat.pow_zero, Nat.mod_one]; rfl) ?_
        · rw [Nat.pow_zero, Nat.div_one] at this
          exact this
        · intro k' p' hk' hp' hd' hv'
          have hda : (p' ++ out).data.toList = p'.data.toList ++ out.data.toList := by rw [ByteArray.data_append, Array.toList_append]
          have hsz : (p' ++ out).size = 18 + out.size := by rw [ByteArray.size_append, hp']
          have hdv : dvl (p' ++ out).data.toList = y * 10 ^ out.size + dvl out.data.toList := by rw [hda, dvl_append, hv', size_len]
          have ih := ih (x / 1000000000000000000) k' (ofNat (x / 1000000000000000000)) (p' ++ out) (Has.nat hqB (show 60 ≤ 64 by omega)) hq hqB (by omega) (by omega) (by rw [hda, allD_append, hd', hd]; rfl)
          have hx2 : x / 1000000000000000000 * 10 ^ (18 + out.size) + (y * 10 ^ out.size + dvl out.data.toList) = x * 10 ^ out.size + dvl out.data.toList := by
            rw [Nat.pow_add, hy]
            have h18 : 10 ^ 18 = 1000000000000000000 := by decide
            rw [h18]
            generalize x / 1000000000000000000 = u at *
            generalize x % 1000000000000000000 = v at *
            generalize 10 ^ out.size = P
            subst hsplit
            grind
          rw [hsz, hdv, hx2] at ih
          exact ih
      simp only [deci_Digits.l0]
      rw [Len_g H (by omega), Option.bind_some, if_pos hbn, show ([1000000000000000000] : List Int) = [((1000000000000000000 : Nat) : Int)] from rfl, Div_one H (by decide) (by decide) (by omega), Option.bind_some]
      dsimp only
      by_cases hr0 : x % 1000000000000000000 = 0
      · rw [hr0, ofNat_zero, if_neg (by decide)]
        exact key 0 hr0.symm
      · have hl1 := len_small hr0 (by omega)
        have hrd : rd (ofNat (x % 1000000000000000000)) 0 = ((x % 1000000000000000000 : Nat) : Int) := by rw [ofNat_small hr0 (by unfold B; omega)]; rfl
        rw [if_pos (by omega), if_pos (by omega), hrd]
        exact key _ rfl
end Go.Proofs.YtknekneicecgiaaGreatDoor.Mg
namespace Go.Proofs.YtknekneicecgiaaGreatDoor.Mg
open Go.RowKit Go.Proofs.YtknekneicecgiaaGreatDoorW.PrintWords Go.Proofs.YtknekneicecgiaaGreatDoorW.PrintMore Go.Proofs.YtknekneicecgiaaGreatDoor.MB Go.Proofs.YtknekneicecgiaaGreatDoor.M
set_option linter.unusedVariables false
set_option linter.unusedSimpArgs false

theorem txt_spec (n : Nat) : allD (txt n) = true ∧ dvl (txt n) = n := by
  unfold txt
  by_cases h : n = 0
  · rw [if_pos h, h]; exact ⟨rfl, rfl⟩
  · rw [if_neg h]; exact dec_spec n
/-- The digits of a magnitude are no more than so many. -/
theorem dec_len : ∀ (c n : Nat), n < 10 ^ c → (dec n).length ≤ c := by
  intro c
  induction c with
  | zero =>
    intro n h
    obtain rfl : n = 0 := by simpa using h
    rw [dec_zero]; simp
  | succ c ih =>
    intro n h
    by_cases h0 : n = 0
    · subst h0; rw [dec_zero]; simp
    · rw [dec_pos h0, List.length_append, List.length_singleton]
      have := ih (n / 10) (by rw [Nat.div_lt_iff_lt_mul (by decide)]; rw [Nat.pow_succ] at h; exact h)
      omega
theorem txt_len {c n : Nat} (h : n < 10 ^ c) : (txt n).length ≤ c + 1 := by
  unfold txt
  by_cases h0 : n = 0
  · rw [if_pos h0]; simp
  · rw [if_neg h0]; have := dec_len c n h; omega
/-- deci.Digits, of a magnitude of no more than 48 words. -/
theorem Digits_z {m : Bool} {l : List Int} {z : Int} {k c : Nat} (h : HZ m l z) (hc : c ≤ 52) (hl : z.natAbs < 10 ^ (18 * c)) (hB : z.natAbs < B ^ 60) (hk : 23000 ≤ k) : deci_Digits.f k m l = some ⟨(ztxt z).toArray⟩ := by
  have hv := h.nv
  have := Dig_l0 m l c z.natAbs k l ⟨#[]⟩ h.has hl hB (by show 0 + 18 * c ≤ 1500; omega) (by omega) rfl
  have h0 : (⟨#[]⟩ : ByteArray).size = 0 := rfl
  have h1 : dvl (⟨#[]⟩ : ByteArray).data.toList = 0 := rfl
  rw [h0, h1, Nat.pow_zero, Nat.mul_one, Nat.add_zero] at this
  unfold deci_Digits.f
  rw [this]
  congr 2
  unfold ztxt txt
  by_cases hz : z.natAbs = 0
  · rw [if_pos hz, if_pos hz, if_neg (by omega)]
  · rw [if_neg hz, if_neg hz]
    cases m with
    | true =>
      rw [nv_true] at hv
      rw [if_pos rfl, if_pos (by omega)]
    | false =>
      rw [nv_false] at hv
      rw [if_neg (by decide), if_neg (by omega)]
/-- With noughts ahead, so that one digit stands before the point. -/
def padT (n K : Nat) : List UInt8 := if (txt n).length ≤ K then Lib.repeatL [48] (K + 1 - (txt n).length) ++ txt n else txt n
/-- So many units' text, without a sign. -/
def fixT (n K : Nat) : List UInt8 := if 0 < K then (padT n K).take ((padT n K).length - K) ++ [46] ++ (padT n K).drop ((padT n K).length - K) else padT n K
def fixZ (z : Int) (K : Nat) : List UInt8 := if z < 0 then 45 :: fixT z.natAbs K else fixT z.natAbs K
theorem zeros_front (n : Nat) (l : List UInt8) (h : allD l = true) : allD (Lib.repeatL [48] n ++ l) = true ∧ dvl (Lib.repeatL [48] n ++ l) = dvl l := by
  obtain ⟨h1, h2⟩ := zeros_val [] n
  rw [List.nil_append] at h1
  have h3 : dvl [] = 0 := rfl
  rw [h3, Nat.zero_mul] at h1
  refine ⟨by rw [allD_append, h2, h]; rfl, by rw [dvl_append, h1, Nat.zero_mul, Nat.zero_add]⟩
theorem padT_spec (n K : Nat) : allD (padT n K) = true ∧ dvl (padT n K) = n ∧ K < (padT n K).length := by
  obtain ⟨h1, h2⟩ := txt_spec n
  unfold padT
  by_cases h : (txt n).length ≤ K
  · rw [if_pos h]
    obtain ⟨z1, z2⟩ := zeros_front (K + 1 - (txt n).length) (txt n) h1
    refine ⟨z1, by rw [z2, h2], ?_⟩
    rw [List.length_append, Lib.repeatL_length]
    simp
    omega
  · rw [if_neg h]
    exact ⟨h1, h2, by omega⟩
theorem ba_ext {a b : ByteArray} (h : a.data.toList = b.data.toList) : a = b := ByteArray.ext (Array.ext' h)
theorem fixed_j0 {m : Bool} {l : List Int} {z : Int} {k K : Nat} (h : HZ m l z) (s : ByteArray) (hs : K < s.size) (hsz : s.size ≤ 2000) (hk : 20001 ≤ k) :
    deci_Fixed.j0 k (K : Int) s m l = some ⟨(let t := if 0 < K then s.data.toList.take (s.size - K) ++ [46] ++ s.data.toList.drop (s.size - K) else s.data.toList; if z < 0 then 45 :: t else t).toArray⟩ := by
  obtain ⟨k, rfl⟩ : ∃ n, k = n + 1 := ⟨k - 1, by omega⟩
  have hsg : (sgn z < 0) ↔ z < 0 := by rcases sgn_cases z with ⟨p, e⟩ | ⟨p, e⟩ | ⟨p, e⟩ <;> rw [e] <;> omega
  simp only [deci_Fixed.j0]
  rw [Sign_z h (by omega)]
  by_cases hK : 0 < K
  · have e1 : wrap64 ((s.size : Int) - (K : Int)) = ((s.size - K : Nat) : Int) := by rw [w64 (by omega) (by omega)]; omega
    have d1 : (s.extract 0 (s.size - K)).data.toList = s.data.toList.take (s.size - K) := Lib.Pa.extract_upto_list s (s.size - K)
    have d2 : (s.extract (s.size - K) s.size).data.toList = s.data.toList.drop (s.size - K) := Lib.extract_to_end s (s.size - K)
    have z1 : (s.extract 0 (s.size - K)).size = s.size - K := by rw [← size_len, d1, List.length_take, size_len]; omega
    have z2 : (s.extract (s.size - K) s.size).size = K := by rw [← size_len, d2, List.length_drop, size_len]; omega
    have d3 : (s.extract 0 (s.size - K) ++ (⟨#[46]⟩ : ByteArray) ++ s.extract (s.size - K) s.size).data.toList = s.data.toList.take (s.size - K) ++ [46] ++ s.data.toList.drop (s.size - K) := by
      rw [ByteArray.data_append, Array.toList_append, ByteArray.data_append, Array.toList_append, d1, d2]
    have z46 : (⟨#[46]⟩ : ByteArray).size = 1 := rfl
    have z3 : (s.extract 0 (s.size - K) ++ (⟨#[46]⟩ : ByteArray)).size = s.size - K + 1 := by rw [ByteArray.size_append, z1, z46]
    have z4 : (s.extract 0 (s.size - K) ++ (⟨#[46]⟩ : ByteArray) ++ s.extract (s.size - K) s.size).size = s.size - K + 1 + K := by rw [ByteArray.size_append, z3, z2]
    rw [if_pos (by omega), e1, if_pos (by omega), if_pos (by omega), Int.toNat_natCast, if_pos (by rw [z1]; omega), if_pos (by rw [z3, z2]; omega), Option.bind_some, if_pos hK]
    by_cases hz : z < 0
    · rw [if_pos (hsg.2 hz), if_pos (by rw [z4]; omega)]
      congr 1
      apply ba_ext
      dsimp only
      rw [if_pos hz, ByteArray.data_append, Array.toList_append, d3]
      rfl
    · rw [if_neg (fun e => hz (hsg.1 e))]
      congr 1
      apply ba_ext
      dsimp only
      rw [if_neg hz, d3]
  · rw [if_neg (by omega), Option.bind_some, if_neg hK]
    by_cases hz : z < 0
    · rw [if_pos (hsg.2 hz), if_pos (by omega)]
      congr 1
      apply ba_ext
      dsimp only
      rw [if_pos hz, ByteArray.data_append, Array.toList_append]
      rfl
    · rw [if_neg (fun e => hz (hsg.1 e))]
      congr 1
      apply ba_ext
      dsimp only
      rw [if_neg hz]
theorem Fixed_z {m : Bool} {l : List Int} {z a1 : Int} {k K c : Nat} (h : HZ m l z) (hK : mn (mx a1 0) 9 = (K : Int)) (hK9 : K ≤ 9) (hc : c ≤ 52) (hl : z.natAbs < 10 ^ (18 * c)) (hB : z.natAbs < B ^ 60) (hk : 23000 ≤ k) : deci_Fixed.f k m l a1 = some ⟨(fixZ z K).toArray⟩ := by
  have hA : HZ (zb (z.natAbs : Int)) (zl (z.natAbs : Int)) (z.natAbs : Int) := HZ.z (m := 60) (by rw [Int.natAbs_natCast]; exact hB) (by omega)
  have hab : num_Abs.f k m l = some (zb (z.natAbs : Int), zl (z.natAbs : Int)) := by
    unfold num_Abs.f
    rw [Make_z h.has (by omega), Option.bind_some, nv_false]
  have hD := Digits_z (k := k) hA hc (by rw [Int.natAbs_natCast]; exact hl) (by rw [Int.natAbs_natCast]; exact hB) hk
  have htx : ztxt (z.natAbs : Int) = txt z.natAbs := by
    unfold ztxt
    rw [if_neg (by omega), Int.natAbs_natCast]
  rw [htx] at hD
  have hlen := txt_len hl
  unfold deci_Fixed.f deci_scaled.f
  rw [hK, Option.bind_some, hab, Option.bind_some]
  dsimp only
  rw [hD, Option.bind_some, size_mk]
  have hda : ∀ l : List UInt8, (⟨l.toArray⟩ : ByteArray).data.toList = l := fun l => by simp
  obtain ⟨p1, p2, p3⟩ := padT_spec z.natAbs K
  by_cases hle : ((txt z.natAbs).length : Int) ≤ (K : Int)
  · have hp : padT z.natAbs K = Lib.repeatL [48] (K + 1 - (txt z.natAbs).length) ++ txt z.natAbs := by unfold padT; rw [if_pos (by omega)]
    have hrl := Lib.repeatL_length [48] (K + 1 - (txt z.natAbs).length)
    have hrl1 : (Lib.repeatL [48] (K + 1 - (txt z.natAbs).length)).length = K + 1 - (txt z.natAbs).length := by rw [hrl]; simp
    unfold strings_Repeat.f
    rw [if_pos hle, w64 (x := (K : Int) + 1) (by omega) (by omega), w64 (by omega) (by omega), if_pos ⟨by decide, by omega, by omega⟩, Option.bind_some, show ((K : Int) + 1 - ((txt z.natAbs).length : Int)).toNat = K + 1 - (txt z.natAbs).length from by omega]
    have h48 : (⟨#[48]⟩ : ByteArray).data.toList = [48] := rfl
    rw [h48, size_mk, hrl1, if_pos (by omega)]
    have hda2 : ((⟨(Lib.repeatL [48] (K + 1 - (txt z.natAbs).length)).toArray⟩ : ByteArray) ++ (⟨(txt z.natAbs).toArray⟩ : ByteArray)).data.toList = padT z.natAbs K := by rw [ByteArray.data_append, Array.toList_append, hda, hda, hp]
    have hsz2 : ((⟨(Lib.repeatL [48] (K + 1 - (txt z.natAbs).length)).toArray⟩ : ByteArray) ++ (⟨(txt z.natAbs).toArray⟩ : ByteArray)).size = (padT z.natAbs K).length := by rw [← size_len, hda2]
    have hpl : (padT z.natAbs K).length ≤ 2000 := by rw [hp, List.length_append, hrl1]; omega
    rw [fixed_j0 h _ (by rw [hsz2]; exact p3) (by rw [hsz2]; exact hpl) (by omega), hda2, hsz2]
    rfl
  · have hp : padT z.natAbs K = txt z.natAbs := by unfold padT; rw [if_neg (by omega)]
    rw [if_neg hle, fixed_j0 h _ (by rw [size_mk]; omega) (by rw [size_mk]; omega) (by omega), hda, size_mk]
    unfold fixZ fixT
    rw [hp]
end Go.Proofs.YtknekneicecgiaaGreatDoor.Mg
