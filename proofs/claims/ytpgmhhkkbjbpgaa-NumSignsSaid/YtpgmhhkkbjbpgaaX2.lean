/- What mag.Up and mag.Down come to, as numbers. What mag.Down comes to, as a number. -/
import Derived.Test.YtpgmhhkkbjbpgaaX1
import Derived.Test.YtpgmhhkkbjbpgaaA2
import Derived.Laws.Bits64b
namespace Go.Proofs.Ytpgmhhkkbjbpgaa.Mg
open Go.RowKit Go.Proofs.YtpgmhhkkbjbpgaaW.PrintWords Go.Proofs.YtpgmhhkkbjbpgaaW.PrintMore Go.Proofs.Ytpgmhhkkbjbpgaa.MB Go.Proofs.Ytpgmhhkkbjbpgaa.M
set_option linter.unusedVariables false
set_option linter.unusedSimpArgs false

/-- By how many bits a number is shifted. -/
def clampN (n : Int) : Nat := min n.toNat 8192
theorem clamp_eq (n : Int) : mn (mx n 0) 8192 = (clampN n : Int) := by
  unfold mn mx clampN
  split <;> split <;> omega
theorem clampN_le (n : Int) : clampN n ≤ 8192 := by unfold clampN; omega

theorem wu64_cast (n : Nat) : IntKind.u64.wrap (n : Int) = ((n % 18446744073709551616 : Nat) : Int) := by
  simp only [IntKind.wrap, IntKind.signed, IntKind.bits]
  simp
theorem or_add {o t k : Nat} (ho : o < 2 ^ k) (hk : k < 64) (ht : 2 ^ k * t < 18446744073709551616) : Go.bits .or .u64 (o : Int) ((2 ^ k * t : Nat) : Int) = ((o + 2 ^ k * t : Nat) : Int) := by
  have h2 : 2 ^ k ≤ 2 ^ 63 := Nat.pow_le_pow_right (by decide) (by omega)
  rw [bits_or_u64_nat o (2 ^ k * t) (by omega) ht, Nat.or_comm, ← Nat.two_pow_add_eq_or_of_lt ho, Nat.add_comm]
theorem shl_word (x k : Nat) (hk : k < 64) : x * 2 ^ k % 18446744073709551616 = 2 ^ k * (x % 2 ^ (64 - k)) := by
  have e : (18446744073709551616 : Nat) = 2 ^ k * 2 ^ (64 - k) := by rw [← Nat.pow_add, show k + (64 - k) = 64 from by omega]
  rw [e, Nat.mul_comm x, Nat.mul_mod_mul_left]
theorem shl_high (x k : Nat) (hk : k < 64) : x * 2 ^ k / 18446744073709551616 = x / 2 ^ (64 - k) := by
  have e : (18446744073709551616 : Nat) = 2 ^ k * 2 ^ (64 - k) := by rw [← Nat.pow_add, show k + (64 - k) = 64 from by omega]
  rw [e, Nat.mul_comm x, Nat.mul_div_mul_left _ _ (Nat.two_pow_pos k)]
theorem high_lt {x k : Nat} (hx : x < 18446744073709551616) (hk : k < 64) : x / 2 ^ (64 - k) < 2 ^ k := by
  rw [Nat.div_lt_iff_lt_mul (Nat.two_pow_pos _), ← Nat.pow_add, show k + (64 - k) = 64 from by omega]
  exact hx
theorem cast_pow (K : Nat) : ((2 : Int) ^ K) = ((2 ^ K : Nat) : Int) := by norm_cast

theorem up_val (Bs Bi V p q x v K b : Nat) (hs : x * K = p + b * q) (hv : v = Bs * (V * K) + Bs * Bi * p + Bs * Bi * b * q) : v = Bs * ((V + Bi * x) * K) := by
  have e : Bs * Bi * (x * K) = Bs * Bi * (p + b * q) := by rw [hs]
  grind
theorem Up_l0 (a : List Int) (ha : Ok a) (hla : a.length ≤ LEN) (m s k0 : Nat) (hs : s = m / 64) (hk0 : k0 = m % 64) (hm : m ≤ 8192) (R : Nat) (hR : s + a.length + 2 < R) : ∀ (d i k : Nat) (out : List Int), i + d = a.length → d + R ≤ k → out.length = s + a.length + 1 → Ok out →
    (∀ j, s + i + 1 ≤ j → out.getD j 0 = 0) → out.getD (s + i) 0 < ((2 ^ k0 : Nat) : Int) → val out = B ^ s * (val (a.take i) * 2 ^ k0) →
    mag_Up.l0 k (m : Int) out (k0 : Int) a (a.length : Int) (i : Int) = some (ofNat (B ^ s * (val a * 2 ^ k0))) := by
  unfold LEN at hla
  have hk64 : k0 < 64 := by omega
  intro d
  induction d with
  | zero =>
    intro i k out hi hk hl ho hz hh he
    obtain ⟨k, rfl⟩ : ∃ m, k = m + 1 := ⟨k - 1, by omega⟩
    obtain rfl : i = a.length := by omega
    simp only [mag_Up.l0]
    rw [if_neg (by omega), right_f (by omega) (by omega) ho, Option.bind_some, he, List.take_length]
  | succ d ih =>
    intro i k out hi hk hl ho hz hh he
    obtain ⟨k, rfl⟩ : ∃ m, k = m + 1 := ⟨k - 1, by omega⟩
    simp only [mag_Up.l0]
    have hx := ha.getD i
    have hoo := ho.getD (s + i)
    obtain ⟨x, hxe⟩ : ∃ x : Nat, a.getD i 0 = (x : Int) := ⟨(a.getD i 0).toNat, by omega⟩
    obtain ⟨o, hoe⟩ : ∃ o : Nat, out.getD (s + i) 0 = (o : Int) := ⟨(out.getD (s + i) 0).toNat, by omega⟩
    have e64 : ((m : Int) / 64) = (s : Int) := by omega
    rw [if_pos (by omega), if_pos (by omega), if_pos (by omega), e64, w64 (x := (s : Int) + (i : Int)) (by omega) (by omega), if_pos (by omega), if_pos (by omega), show ((s : Int) + (i : Int)) = ((s + i : Nat) : Int) from by omega, rd_cast a i, rd_cast out (s + i), Int.toNat_natCast, Int.toNat_natCast, hxe, hoe, cast_pow,
      show ((x : Int) * ((2 ^ k0 : Nat) : Int)) = ((x * 2 ^ k0 : Nat) : Int) from by norm_cast, wu64_cast, shl_word x k0 hk64]
    rw [hxe] at hx
    rw [hoe] at hoo hh
    have hxw : x < 18446744073709551616 := by omega
    have ho2 : o < 2 ^ k0 := by omega
    have hlow : 2 ^ k0 * (x % 2 ^ (64 - k0)) < 18446744073709551616 := by
      rw [← shl_word x k0 hk64]; exact Nat.mod_lt _ (by decide)
    rw [or_add ho2 hk64 hlow, Option.bind_some]
    have hsum : o + 2 ^ k0 * (x % 2 ^ (64 - k0)) < 18446744073709551616 := by
      have h1 : x % 2 ^ (64 - k0) + 1 ≤ 2 ^ (64 - k0) := Nat.mod_lt _ (Nat.two_pow_pos _)
      have h2 : 2 ^ k0 * (x % 2 ^ (64 - k0) + 1) ≤ 2 ^ k0 * 2 ^ (64 - k0) := Nat.mul_le_mul_left _ h1
      rw [← Nat.pow_add, show k0 + (64 - k0) = 64 from by omega, Nat.mul_add] at h2
      omega
    have hv := val_set_add out (s + i) ((o + 2 ^ k0 * (x % 2 ^ (64 - k0)) : Nat) : Int) (by omega)
    rw [hoe, Int.toNat_natCast, Int.toNat_natCast] at hv
    have hsplit : x * 2 ^ k0 = 2 ^ k0 * (x % 2 ^ (64 - k0)) + B * (x / 2 ^ (64 - k0)) := by
      rw [← shl_word x k0 hk64, ← shl_high x k0 hk64]
      unfold B
      exact (Nat.mod_add_div _ _).symm
    have hval : ∀ v : Nat, v + 0 = B ^ s * (val (a.take i) * 2 ^ k0) + B ^ (s + i) * (2 ^ k0 * (x % 2 ^ (64 - k0))) + B ^ (s + i + 1) * (x / 2 ^ (64 - k0)) → v = B ^ s * (val (a.take (i + 1)) * 2 ^ k0) := by
      intro v hv
      rw [val_take_succ, hxe, Int.toNat_natCast]
      refine up_val _ _ _ _ _ _ _ _ _ hsplit ?_
      rw [Nat.add_zero, Nat.pow_succ, Nat.pow_add] at hv
      exact hv
    by_cases hk : (k0 : Int) > 0
    · rw [if_pos hk, w64 (x := ((s + i : Nat) : Int) + 1) (by omega) (by omega), if_pos (by omega), if_pos (by simp; omega), show (((s + i : Nat) : Int) + 1) = ((s + i + 1 : Nat) : Int) from by omega, Int.toNat_natCast, show ((64 : Int) - (k0 : Int)).toNat = 64 - k0 from by omega, cast_pow,
        show ((x : Int) / ((2 ^ (64 - k0) : Nat) : Int)) = ((x / 2 ^ (64 - k0) : Nat) : Int) from by norm_cast, w64 (x := (i : Int) + 1) (by omega) (by omega), show ((i : Int) + 1) = ((i + 1 : Nat) : Int) from by omega]
      have hq := high_lt hxw hk64
      have hq2 : x / 2 ^ (64 - k0) < 18446744073709551616 := by
        have : 2 ^ k0 ≤ 2 ^ 63 := Nat.pow_le_pow_right (by decide) (by omega)
        omega
      have hz1 : (out.set (s + i) ((o + 2 ^ k0 * (x % 2 ^ (64 - k0)) : Nat) : Int)).getD (s + i + 1) 0 = 0 := by rw [getD_set_ne _ _ (by omega)]; exact hz _ (by omega)
      have hv2 := val_set_add (out.set (s + i) ((o + 2 ^ k0 * (x % 2 ^ (64 - k0)) : Nat) : Int)) (s + i + 1) ((x / 2 ^ (64 - k0) : Nat) : Int) (by simp; omega)
      rw [hz1, Int.toNat_natCast] at hv2
      refine ih (i + 1) k _ (by omega) (by omega) (by simpa using hl) ((ho.set _ (by omega)).set _ ⟨Int.natCast_nonneg _, Int.ofNat_lt.2 hq2⟩) ?_ ?_ ?_
      · intro j hj
        rw [getD_set_ne _ _ (by omega), getD_set_ne _ _ (by omega)]
        exact hz j (by omega)
      · rw [show s + (i + 1) = s + i + 1 from by omega]
        rw [List.getD_eq_getElem?_getD, List.getElem?_set_self (by simp; omega)]
        simp only [Option.getD_some]
        omega
      · apply hval
        rw [← he]
        rw [Nat.mul_add] at hv
        simp only [Int.toNat_zero, Nat.mul_zero] at hv2
        omega
    · have hk00 : k0 = 0 := by omega
      rw [if_neg hk, w64 (x := (i : Int) + 1) (by omega) (by omega), show ((i : Int) + 1) = ((i + 1 : Nat) : Int) from by omega]
      have hq := high_lt hxw hk64
      have hq0 : x / 2 ^ (64 - k0) = 0 := by
        have e1 : 2 ^ k0 = 1 := by rw [hk00]
        rw [e1] at hq
        exact Nat.lt_one_iff.1 hq
      refine ih (i + 1) k _ (by omega) (by omega) (by simpa using hl) (ho.set _ (by omega)) ?_ ?_ ?_
      · intro j hj
        rw [getD_set_ne _ _ (by omega)]
        exact hz j (by omega)
      · rw [getD_set_ne _ _ (by omega), hz _ (by omega)]
        have := Nat.two_pow_pos k0
        omega
      · apply hval
        rw [hq0, ← he]
        rw [Nat.mul_add] at hv
        omega
theorem pow_split (m : Nat) : 2 ^ m = B ^ (m / 64) * 2 ^ (m % 64) := by
  rw [B_two, ← Nat.pow_mul, ← Nat.pow_add, Nat.div_add_mod]
theorem Up_f {a : List Int} {k : Nat} {n : Int} (ha : Ok a) (hla : a.length ≤ LEN) (hk : 2 * a.length + 300 ≤ k) : mag_Up.f k a n = some (ofNat (val a * 2 ^ clampN n)) := by
  have hla' := hla
  unfold LEN at hla'
  have hcl := clampN_le n
  have l1 := length_ofNat_val ha
  unfold mag_Up.f
  rw [clamp_eq, right_f (by omega) (by omega) ha, Option.bind_some]
  generalize clampN n = m at *
  by_cases h0 : val a = 0
  · rw [h0, ofNat_zero, if_pos (by rfl)]
    rw [Nat.zero_mul, ofNat_zero]
  · have hne : (ofNat (val a)).length ≠ 0 := fun e => h0 (ofNat_eq_nil.1 (List.eq_nil_of_length_eq_zero e))
    have e64 : ((m : Int) / 64) = ((m / 64 : Nat) : Int) := by omega
    have e65 : ((m : Int) % 64) = ((m % 64 : Nat) : Int) := by omega
    rw [if_neg (by omega), e64, e65, w64 (x := ((m / 64 : Nat) : Int) + _) (by omega) (by omega), w64 (by omega) (by omega), if_pos (by omega), show ((((m / 64 : Nat) : Int) + ((ofNat (val a)).length : Int)) + 1).toNat = m / 64 + (ofNat (val a)).length + 1 from by omega, if_pos (by omega)]
    have := Up_l0 (ofNat (val a)) (Ok_ofNat _) (by unfold LEN; omega) m (m / 64) (m % 64) rfl rfl hcl (m / 64 + (ofNat (val a)).length + 3) (by omega) (ofNat (val a)).length 0 k (List.replicate (m / 64 + (ofNat (val a)).length + 1) 0) (by omega) (by omega) (by simp) (Ok.replicate _)
      (fun j _ => by rw [List.getD_eq_getElem?_getD, List.getElem?_replicate]; split <;> rfl)
      (by rw [List.getD_eq_getElem?_getD, List.getElem?_replicate, if_pos (by omega)]; have := Nat.two_pow_pos (m % 64); simp only [Option.getD_some]; omega) (by simp [val, val_replicate])
    rw [val_ofNat] at this
    rw [show ((0 : Int)) = ((0 : Nat) : Int) from rfl] at *
    rw [this]
    congr 2
    rw [pow_split m]
    grind
end Go.Proofs.Ytpgmhhkkbjbpgaa.Mg
namespace Go.Proofs.Ytpgmhhkkbjbpgaa.Mg
open Go.RowKit Go.Proofs.YtpgmhhkkbjbpgaaW.PrintWords Go.Proofs.YtpgmhhkkbjbpgaaW.PrintMore Go.Proofs.Ytpgmhhkkbjbpgaa.MB Go.Proofs.Ytpgmhhkkbjbpgaa.M
set_option linter.unusedVariables false
set_option linter.unusedSimpArgs false

theorem or_add2 {w r k : Nat} (hk0 : 0 < k) (hk : k < 64) (hw : w < 2 ^ (64 - k)) (hr : r < 2 ^ k) : Go.bits .or .u64 (w : Int) ((2 ^ (64 - k) * r : Nat) : Int) = ((w + 2 ^ (64 - k) * r : Nat) : Int) := by
  have h1 : 2 ^ (64 - k) * (r + 1) ≤ 2 ^ (64 - k) * 2 ^ k := Nat.mul_le_mul_left _ hr
  rw [← Nat.pow_add, show 64 - k + k = 64 from by omega, Nat.mul_add] at h1
  have h2 : 2 ^ (64 - k) ≤ 2 ^ 63 := Nat.pow_le_pow_right (by decide) (by omega)
  have h3 := Nat.two_pow_pos (64 - k)
  rw [bits_or_u64_nat w (2 ^ (64 - k) * r) (by omega) (by omega), Nat.or_comm, ← Nat.two_pow_add_eq_or_of_lt hw, Nat.add_comm]
/-- A number, divided by a power of two below a word: its lowest word, and the others. -/
theorem div_pow_word {x y1 V k : Nat} (hk : k < 64) (hx : x < B) : (x + B * (y1 + B * V)) / 2 ^ k = (x / 2 ^ k + 2 ^ (64 - k) * (y1 % 2 ^ k)) + B * ((y1 + B * V) / 2 ^ k) := by
  have e : B = 2 ^ k * 2 ^ (64 - k) := by rw [← Nat.pow_add, show k + (64 - k) = 64 from by omega]; exact B_two
  have hp := Nat.two_pow_pos k
  have h1 : (x + B * (y1 + B * V)) / 2 ^ k = x / 2 ^ k + 2 ^ (64 - k) * (y1 + B * V) := by
    rw [show x + B * (y1 + B * V) = x + 2 ^ k * (2 ^ (64 - k) * (y1 + B * V)) from by rw [← Nat.mul_assoc, ← e], Nat.add_mul_div_left _ _ hp]
  have h2 : (y1 + B * V) % 2 ^ k = y1 % 2 ^ k := by
    rw [show y1 + B * V = y1 + 2 ^ k * (2 ^ (64 - k) * V) from by rw [← Nat.mul_assoc, ← e], Nat.add_mul_mod_self_left]
  have h3 := Nat.div_add_mod (y1 + B * V) (2 ^ k)
  rw [h2] at h3
  rw [h1]
  generalize (y1 + B * V) / 2 ^ k = q at *
  generalize y1 % 2 ^ k = r at *
  rw [← h3, e]
  generalize 2 ^ k = P at *
  generalize 2 ^ (64 - k) = Q at *
  grind
theorem val_drop_cons (y : List Int) (i : Nat) (h : i < y.length) : val (y.drop i) = (y.getD i 0).toNat + B * val (y.drop (i + 1)) := by
  rw [List.drop_eq_getElem_cons h]
  simp [val, List.getD_eq_getElem?_getD, h]
theorem val_drop_two (y : List Int) (i : Nat) : val (y.drop i) = (y.getD i 0).toNat + B * val (y.drop (i + 1)) := by
  by_cases h : i < y.length
  · exact val_drop_cons y i h
  · rw [List.drop_of_length_le (by omega), List.drop_of_length_le (by omega)]
    simp [val, List.getD_eq_getElem?_getD, List.getElem?_eq_none (Nat.le_of_not_lt h)]
/-- The word that stands at a place of what is shifted down. -/
theorem down_word (y : List Int) (hy : Ok y) (i k : Nat) (hk : k < 64) : val (y.drop i) / 2 ^ k = ((y.getD i 0).toNat / 2 ^ k + 2 ^ (64 - k) * ((y.getD (i + 1) 0).toNat % 2 ^ k)) + B * (val (y.drop (i + 1)) / 2 ^ k) := by
  have h1 := val_drop_two y i
  have h2 := val_drop_two y (i + 1)
  have hx := hy.getD i
  have := div_pow_word (x := (y.getD i 0).toNat) (y1 := (y.getD (i + 1) 0).toNat) (V := val (y.drop (i + 1 + 1))) hk (by unfold B; omega)
  rw [h1]
  rw [← h2] at this
  exact this

theorem down_step (P v w V Q : Nat) (b : Nat) (e : V = w + b * Q) (R : Nat) (he : v + P * V = R) : v + P * w + P * b * Q = R := by
  subst e
  grind
theorem Down_l0 (y : List Int) (hy : Ok y) (hly : y.length ≤ LEN) (k0 : Nat) (hk0 : k0 < 64) (R : Nat) (hR : y.length + 1 < R) : ∀ (d i k : Nat) (out : List Int), i + d = y.length → d + R ≤ k → out.length = y.length → Ok out →
    val (out.take i) + B ^ i * (val (y.drop i) / 2 ^ k0) = val y / 2 ^ k0 →
    mag_Down.l0 k y (k0 : Int) out y (y.length : Int) (i : Int) = some (ofNat (val y / 2 ^ k0)) := by
  unfold LEN at hly
  intro d
  induction d with
  | zero =>
    intro i k out hi hk hl ho he
    obtain ⟨k, rfl⟩ : ∃ m, k = m + 1 := ⟨k - 1, by omega⟩
    obtain rfl : i = y.length := by omega
    simp only [mag_Down.l0]
    rw [if_neg (by omega), right_f (by omega) (by omega) ho, Option.bind_some]
    rw [List.take_of_length_le (by omega), List.drop_length] at he
    simp only [val, Nat.zero_div, Nat.mul_zero, Nat.add_zero] at he
    rw [he]
  | succ d ih =>
    intro i k out hi hk hl ho he
    obtain ⟨k, rfl⟩ : ∃ m, k = m + 1 := ⟨k - 1, by omega⟩
    simp only [mag_Down.l0]
    have hx := hy.getD i
    have hx1 := hy.getD (i + 1)
    obtain ⟨x, hxe⟩ : ∃ x : Nat, y.getD i 0 = (x : Int) := ⟨(y.getD i 0).toNat, by omega⟩
    obtain ⟨x1, hxe1⟩ : ∃ x : Nat, y.getD (i + 1) 0 = (x : Int) := ⟨(y.getD (i + 1) 0).toNat, by omega⟩
    have hw := down_word y hy i k0 hk0
    rw [hxe, hxe1, Int.toNat_natCast, Int.toNat_natCast] at hw
    have hpk := Nat.two_pow_pos k0
    have hxw : x < 18446744073709551616 := by omega
    have hx1w : x1 < 18446744073709551616 := by omega
    have hxk : x / 2 ^ k0 < 2 ^ (64 - k0) := by
      rw [Nat.div_lt_iff_lt_mul hpk, ← Nat.pow_add, show 64 - k0 + k0 = 64 from by omega]
      exact hxw
    have hr : x1 % 2 ^ k0 < 2 ^ k0 := Nat.mod_lt _ hpk
    have hsum : x / 2 ^ k0 + 2 ^ (64 - k0) * (x1 % 2 ^ k0) < 18446744073709551616 := by
      have h2 : 2 ^ (64 - k0) * (x1 % 2 ^ k0 + 1) ≤ 2 ^ (64 - k0) * 2 ^ k0 := Nat.mul_le_mul_left _ hr
      rw [← Nat.pow_add, show 64 - k0 + k0 = 64 from by omega, Nat.mul_add] at h2
      omega
    have hxq : x / 2 ^ k0 < 18446744073709551616 := by omega
    have fin : ∀ (out2 : List Int), out2.length = y.length → Ok out2 → val (out2.take (i + 1)) = val (out.take i) + B ^ i * (x / 2 ^ k0 + 2 ^ (64 - k0) * (x1 % 2 ^ k0)) →
        mag_Down.l0 k y (k0 : Int) out2 y (y.length : Int) (wrap64 ((i : Int) + 1)) = some (ofNat (val y / 2 ^ k0)) := by
      intro out2 h1 h2 h3
      rw [w64 (x := (i : Int) + 1) (by omega) (by omega), show ((i : Int) + 1) = ((i + 1 : Nat) : Int) from by omega]
      refine ih (i + 1) k out2 (by omega) (by omega) h1 h2 ?_
      rw [h3, Nat.pow_succ]
      exact down_step _ _ _ _ _ _ hw _ he
    rw [if_pos (by omega), if_pos (by omega), if_pos (by omega), if_pos (by omega), rd_cast y i, Int.toNat_natCast, hxe, Int.toNat_natCast, cast_pow, show ((x : Int) / ((2 ^ k0 : Nat) : Int)) = ((x / 2 ^ k0 : Nat) : Int) from by norm_cast, Option.bind_some]
    have hv1 := val_set_take_succ out i ((x / 2 ^ k0 : Nat) : Int) (by omega)
    rw [Int.toNat_natCast] at hv1
    by_cases hk : (k0 : Int) > 0
    · rw [if_pos hk]
      by_cases hi1 : wrap64 ((i : Int) + 1) < (y.length : Int)
      · rw [if_pos hi1]
        rw [w64 (x := (i : Int) + 1) (by omega) (by omega)] at hi1
        rw [if_pos (by rw [w64 (x := (i : Int) + 1) (by omega) (by omega)]; omega)]
        have e1 : rd (out.set i ((x / 2 ^ k0 : Nat) : Int)) (i : Int) = ((x / 2 ^ k0 : Nat) : Int) := by
          rw [rd_cast, List.getD_eq_getElem?_getD, List.getElem?_set_self (by omega), Option.getD_some]
        have e2 : rd y (wrap64 ((i : Int) + 1)) = (x1 : Int) := by
          rw [w64 (x := (i : Int) + 1) (by omega) (by omega), show ((i : Int) + 1) = ((i + 1 : Nat) : Int) from by omega, rd_cast, hxe1]
        have e3 : shl .u64 (x1 : Int) (64 - (k0 : Int)) = ((2 ^ (64 - k0) * (x1 % 2 ^ k0) : Nat) : Int) := by
          unfold shl
          rw [show min (64 - (k0 : Int)).toNat (IntKind.u64).bits = 64 - k0 from by simp only [IntKind.bits]; omega, cast_pow, show ((x1 : Int) * ((2 ^ (64 - k0) : Nat) : Int)) = ((x1 * 2 ^ (64 - k0) : Nat) : Int) from by norm_cast, wu64_cast, shl_word x1 (64 - k0) (by omega), show 64 - (64 - k0) = k0 from by omega]
        rw [e1, e2, e3, or_add2 (by omega) hk0 hxk hr, List.set_set]
        refine fin _ (by simpa using hl) (ho.set _ ⟨Int.natCast_nonneg _, Int.ofNat_lt.2 hsum⟩) ?_
        rw [val_set_take_succ _ _ _ (by omega), Int.toNat_natCast]
      · rw [if_neg hi1]
        rw [w64 (x := (i : Int) + 1) (by omega) (by omega)] at hi1
        refine fin _ (by simpa using hl) (ho.set _ ⟨Int.natCast_nonneg _, Int.ofNat_lt.2 hxq⟩) ?_
        have e0 : x1 = 0 := by
          rw [List.getD_eq_getElem?_getD, List.getElem?_eq_none (by omega)] at hxe1
          simpa using hxe1.symm
        rw [hv1, e0, Nat.zero_mod, Nat.mul_zero, Nat.add_zero]
    · have hk00 : k0 = 0 := by omega
      rw [if_neg hk]
      refine fin _ (by simpa using hl) (ho.set _ ⟨Int.natCast_nonneg _, Int.ofNat_lt.2 hxq⟩) ?_
      rw [hv1]
      have e1 : 2 ^ k0 = 1 := by rw [hk00]
      rw [e1, Nat.mod_one, Nat.mul_zero, Nat.add_zero]
theorem Down_f {a : List Int} {k : Nat} {n : Int} (ha : Ok a) (hla : a.length ≤ LEN) (hk : 2 * a.length + 300 ≤ k) : mag_Down.f k a n = some (ofNat (val a / 2 ^ clampN n)) := by
  have hla' := hla
  unfold LEN at hla'
  have hcl := clampN_le n
  have l1 := length_ofNat_val ha
  unfold mag_Down.f
  rw [clamp_eq, right_f (by omega) (by omega) ha, Option.bind_some]
  generalize clampN n = m at *
  have e64 : ((m : Int) / 64) = ((m / 64 : Nat) : Int) := by omega
  have e65 : ((m : Int) % 64) = ((m % 64 : Nat) : Int) := by omega
  rw [e64, e65]
  have hvlt := lt_pow_length_ofNat (val a)
  have hd : val a / 2 ^ m = val ((ofNat (val a)).drop (m / 64)) / 2 ^ (m % 64) := by
    rw [pow_split m, ← Nat.div_div_eq_div_mul]
    congr 1
    by_cases h : m / 64 ≤ (ofNat (val a)).length
    · have h1 := val_take_drop (ofNat (val a)) (m / 64) h
      rw [val_ofNat] at h1
      have h2 := val_lt ((Ok_ofNat (val a)).take (m / 64))
      rw [List.length_take, Nat.min_eq_left h] at h2
      generalize hV : val ((ofNat (val a)).drop (m / 64)) = V at *
      rw [h1, Nat.add_mul_div_left _ _ (Nat.pow_pos B_pos), Nat.div_eq_of_lt h2, Nat.zero_add]
    · rw [List.drop_of_length_le (by omega)]
      simp only [val]
      apply Nat.div_eq_of_lt
      exact Nat.lt_of_lt_of_le hvlt (Nat.pow_le_pow_right B_pos (by omega))
  by_cases h : ((m / 64 : Nat) : Int) ≥ ((ofNat (val a)).length : Int)
  · rw [if_pos h, hd, List.drop_of_length_le (by omega)]
    simp [val, ofNat_zero]
  · rw [if_neg h, if_pos (by omega), if_pos (by omega), Int.toNat_natCast, Option.bind_some, if_pos (by omega), Int.toNat_natCast, if_pos (by rw [List.length_drop]; omega)]
    have hlen : ((ofNat (val a)).drop (m / 64)).length ≤ (ofNat (val a)).length := by rw [List.length_drop]; omega
    have := Down_l0 ((ofNat (val a)).drop (m / 64)) ((Ok_ofNat _).drop _) (by unfold LEN; omega) (m % 64) (by omega) (((ofNat (val a)).drop (m / 64)).length + 2) (by omega) ((ofNat (val a)).drop (m / 64)).length 0 k (List.replicate ((ofNat (val a)).drop (m / 64)).length 0) (by omega) (by omega) (by simp) (Ok.replicate _) (by simp [val])
    rw [hd]
    exact this
end Go.Proofs.Ytpgmhhkkbjbpgaa.Mg
