/- deci.Fixed and Text: so many units, digit by digit. -/
import Derived.Test.YtpdgjhaimfpacaaDoorDT
import Derived.Test.YtpdgjhaimfpacaaDoorE5
namespace Go.Proofs.YtpdgjhaimfpacaaDoor.Mg
open Go.RowKit Go.Proofs.YtpdgjhaimfpacaaDoorW.PrintWords Go.Proofs.YtpdgjhaimfpacaaDoorW.PrintMore Go.Proofs.YtpdgjhaimfpacaaDoor.MB Go.Proofs.YtpdgjhaimfpacaaDoor.M
set_option linter.unusedVariables false
set_option linter.unusedSimpArgs false

theorem txt_ne (n : Nat) : txt n ≠ [] := by
  unfold txt
  by_cases h : n = 0
  · rw [if_pos h]; simp
  · rw [if_neg h]; exact fun e => h (dec_nil.1 e)
theorem txt_spec (n : Nat) : allD (txt n) = true ∧ dvl (txt n) = n := by
  unfold txt
  by_cases h : n = 0
  · rw [if_pos h, h]; exact ⟨rfl, rfl⟩
  · rw [if_neg h]; exact dec_spec n
/-- The digits of a magnitude are no more than so many. -/
theorem dec_len : ∀ (c n : Nat), n < 10 ^ c → (dec n).length ≤ c := by
  intro c
  induction c with
  | zero =>
    intro n h
    obtain rfl : n = 0 := by simpa using h
    rw [dec_zero]; simp
  | succ c ih =>
    intro n h
    by_cases h0 : n = 0
    · subst h0; rw [dec_zero]; simp
    · rw [dec_pos h0, List.length_append, List.length_singleton]
      have := ih (n / 10) (by rw [Nat.div_lt_iff_lt_mul (by decide)]; rw [Nat.pow_succ] at h; exact h)
      omega
theorem txt_len {c n : Nat} (h : n < 10 ^ c) : (txt n).length ≤ c + 1 := by
  unfold txt
  by_cases h0 : n = 0
  · rw [if_pos h0]; simp
  · rw [if_neg h0]; have := dec_len c n h; omega
/-- deci.Digits, of a magnitude of no more than 48 words. -/
theorem Digits_z {m : Bool} {l : List Int} {z : Int} {k c : Nat} (h : HZ m l z) (hc : c ≤ 52) (hl : z.natAbs < 10 ^ (18 * c)) (hB : z.natAbs < B ^ 60) (hk : 23000 ≤ k) (hcan : l = ofNat z.natAbs) : deci_Digits.f k m l = some ⟨(ztxt z).toArray⟩ := by
  have hv := h.nv
  have := Dig_l0 m l c z.natAbs k ⟨#[]⟩ hl hB (by show 0 + 18 * c ≤ 1500; omega) (by omega) rfl
  have h0 : (⟨#[]⟩ : ByteArray).size = 0 := rfl
  have h1 : dvl (⟨#[]⟩ : ByteArray).data.toList = 0 := rfl
  rw [h0, h1, Nat.pow_zero, Nat.mul_one, Nat.add_zero] at this
  unfold deci_Digits.f
  rw [← hcan] at this
  rw [this]
  congr 2
  unfold ztxt txt
  by_cases hz : z.natAbs = 0
  · rw [if_pos hz, if_pos hz, if_neg (by omega)]
  · rw [if_neg hz, if_neg hz]
    cases m with
    | true =>
      rw [nv_true] at hv
      rw [if_pos rfl, if_pos (by omega)]
    | false =>
      rw [nv_false] at hv
      rw [if_neg (by decide), if_neg (by omega)]
/-- With noughts ahead, so that one digit stands before the point. -/
def padT (n K : Nat) : List UInt8 := if (txt n).length ≤ K then Lib.repeatL [48] (K + 1 - (txt n).length) ++ txt n else txt n
/-- So many units' text, without a sign. -/
def fixT (n K : Nat) : List UInt8 := if 0 < K then (padT n K).take ((padT n K).length - K) ++ [46] ++ (padT n K).drop ((padT n K).length - K) else padT n K
def fixZ (z : Int) (K : Nat) : List UInt8 := if z < 0 then 45 :: fixT z.natAbs K else fixT z.natAbs K
theorem zeros_front (n : Nat) (l : List UInt8) (h : allD l = true) : allD (Lib.repeatL [48] n ++ l) = true ∧ dvl (Lib.repeatL [48] n ++ l) = dvl l := by
  obtain ⟨h1, h2⟩ := zeros_val [] n
  rw [List.nil_append] at h1
  have h3 : dvl [] = 0 := rfl
  rw [h3, Nat.zero_mul] at h1
  refine ⟨by rw [allD_append, h2, h]; rfl, by rw [dvl_append, h1, Nat.zero_mul, Nat.zero_add]⟩
theorem padT_spec (n K : Nat) : allD (padT n K) = true ∧ dvl (padT n K) = n ∧ K < (padT n K).length := by
  obtain ⟨h1, h2⟩ := txt_spec n
  unfold padT
  by_cases h : (txt n).length ≤ K
  · rw [if_pos h]
    obtain ⟨z1, z2⟩ := zeros_front (K + 1 - (txt n).length) (txt n) h1
    refine ⟨z1, by rw [z2, h2], ?_⟩
    rw [List.length_append, Lib.repeatL_length]
    simp
    omega
  · rw [if_neg h]
    exact ⟨h1, h2, by omega⟩
theorem ba_ext {a b : ByteArray} (h : a.data.toList = b.data.toList) : a = b := ByteArray.ext (Array.ext' h)
theorem fixed_j0 {m : Bool} {l : List Int} {z : Int} {k K : Nat} (h : HZ m l z) (s : ByteArray) (hs : K < s.size) (hsz : s.size ≤ 2000) (hk : 20001 ≤ k) :
    deci_Fixed.j0 k (K : Int) s m l = some ⟨(let t := if 0 < K then s.data.toList.take (s.size - K) ++ [46] ++ s.data.toList.drop (s.size - K) else s.data.toList; if z < 0 then 45 :: t else t).toArray⟩ := by
  obtain ⟨k, rfl⟩ : ∃ n, k = n + 1 := ⟨k - 1, by omega⟩
  have hsg : (sgn z < 0) ↔ z < 0 := by rcases sgn_cases z with ⟨p, e⟩ | ⟨p, e⟩ | ⟨p, e⟩ <;> rw [e] <;> omega
  simp only [deci_Fixed.j0]
  rw [Sign_z h (by omega)]
  by_cases hK : 0 < K
  · have e1 : wrap64 ((s.size : Int) - (K : Int)) = ((s.size - K : Nat) : Int) := by rw [w64 (by omega) (by omega)]; omega
    have d1 : (s.extract 0 (s.size - K)).data.toList = s.data.toList.take (s.size - K) := Lib.Pa.extract_upto_list s (s.size - K)
    have d2 : (s.extract (s.size - K) s.size).data.toList = s.data.toList.drop (s.size - K) := Lib.extract_to_end s (s.size - K)
    have z1 : (s.extract 0 (s.size - K)).size = s.size - K := by rw [← size_len, d1, List.length_take, size_len]; omega
    have z2 : (s.extract (s.size - K) s.size).size = K := by rw [← size_len, d2, List.length_drop, size_len]; omega
    have d3 : (s.extract 0 (s.size - K) ++ (⟨#[46]⟩ : ByteArray) ++ s.extract (s.size - K) s.size).data.toList = s.data.toList.take (s.size - K) ++ [46] ++ s.data.toList.drop (s.size - K) := by
      rw [ByteArray.data_append, Array.toList_append, ByteArray.data_append, Array.toList_append, d1, d2]
    have z46 : (⟨#[46]⟩ : ByteArray).size = 1 := rfl
    have z3 : (s.extract 0 (s.size - K) ++ (⟨#[46]⟩ : ByteArray)).size = s.size - K + 1 := by rw [ByteArray.size_append, z1, z46]
    have z4 : (s.extract 0 (s.size - K) ++ (⟨#[46]⟩ : ByteArray) ++ s.extract (s.size - K) s.size).size = s.size - K + 1 + K := by rw [ByteArray.size_append, z3, z2]
    rw [if_pos (by omega), e1, if_pos (by omega), if_pos (by omega), Int.toNat_natCast, if_pos (by rw [z1]; omega), if_pos (by rw [z3, z2]; omega), Option.bind_some, if_pos hK]
    by_cases hz : z < 0
    · rw [if_pos (hsg.2 hz), if_pos (by rw [z4]; omega)]
      congr 1
      apply ba_ext
      dsimp only
      rw [if_pos hz, ByteArray.data_append, Array.toList_append, d3]
      rfl
    · rw [if_neg (fun e => hz (hsg.1 e))]
      congr 1
      apply ba_ext
      dsimp only
      rw [if_neg hz, d3]
  · rw [if_neg (by omega), Option.bind_some, if_neg hK]
    by_cases hz : z < 0
    · rw [if_pos (hsg.2 hz), if_pos (by omega)]
      congr 1
      apply ba_ext
      dsimp only
      rw [if_pos hz, ByteArray.data_append, Array.toList_append]
      rfl
    · rw [if_neg (fun e => hz (hsg.1 e))]
      congr 1
      apply ba_ext
      dsimp only
      rw [if_neg hz]
theorem Fixed_z {m : Bool} {l : List Int} {z a1 : Int} {k K c : Nat} (h : HZ m l z) (hK : mn (mx a1 0) 9 = (K : Int)) (hK9 : K ≤ 9) (hc : c ≤ 52) (hl : z.natAbs < 10 ^ (18 * c)) (hB : z.natAbs < B ^ 60) (hk : 23000 ≤ k) : deci_Fixed.f k m l a1 = some ⟨(fixZ z K).toArray⟩ := by
  have hA : HZ (zb (z.natAbs : Int)) (zl (z.natAbs : Int)) (z.natAbs : Int) := HZ.z (m := 60) (by rw [Int.natAbs_natCast]; exact hB) (by omega)
  have hab : num_Abs.f k m l = some (zb (z.natAbs : Int), zl (z.natAbs : Int)) := by
    unfold num_Abs.f
    rw [Make_z h.has (by omega), Option.bind_some, nv_false]
  have hD := Digits_z (k := k) hA hc (by rw [Int.natAbs_natCast]; exact hl) (by rw [Int.natAbs_natCast]; exact hB) hk rfl
  have htx : ztxt (z.natAbs : Int) = txt z.natAbs := by
    unfold ztxt
    rw [if_neg (by omega), Int.natAbs_natCast]
  rw [htx] at hD
  have hlen := txt_len hl
  unfold deci_Fixed.f deci_scaled.f
  rw [hK, Option.bind_some, hab, Option.bind_some]
  dsimp only
  rw [hD, Option.bind_some, size_mk]
  have hda : ∀ l : List UInt8, (⟨l.toArray⟩ : ByteArray).data.toList = l := fun l => by simp
  obtain ⟨p1, p2, p3⟩ := padT_spec z.natAbs K
  by_cases hle : ((txt z.natAbs).length : Int) ≤ (K : Int)
  · have hp : padT z.natAbs K = Lib.repeatL [48] (K + 1 - (txt z.natAbs).length) ++ txt z.natAbs := by unfold padT; rw [if_pos (by omega)]
    have hrl := Lib.repeatL_length [48] (K + 1 - (txt z.natAbs).length)
    have hrl1 : (Lib.repeatL [48] (K + 1 - (txt z.natAbs).length)).length = K + 1 - (txt z.natAbs).length := by rw [hrl]; simp
    unfold strings_Repeat.f
    rw [if_pos hle, w64 (x := (K : Int) + 1) (by omega) (by omega), w64 (by omega) (by omega), if_pos ⟨by decide, by omega, by omega⟩, Option.bind_some, show ((K : Int) + 1 - ((txt z.natAbs).length : Int)).toNat = K + 1 - (txt z.natAbs).length from by omega]
    have h48 : (⟨#[48]⟩ : ByteArray).data.toList = [48] := rfl
    rw [h48, size_mk, hrl1, if_pos (by omega)]
    have hda2 : ((⟨(Lib.repeatL [48] (K + 1 - (txt z.natAbs).length)).toArray⟩ : ByteArray) ++ (⟨(txt z.natAbs).toArray⟩ : ByteArray)).data.toList = padT z.natAbs K := by rw [ByteArray.data_append, Array.toList_append, hda, hda, hp]
    have hsz2 : ((⟨(Lib.repeatL [48] (K + 1 - (txt z.natAbs).length)).toArray⟩ : ByteArray) ++ (⟨(txt z.natAbs).toArray⟩ : ByteArray)).size = (padT z.natAbs K).length := by rw [← size_len, hda2]
    have hpl : (padT z.natAbs K).length ≤ 2000 := by rw [hp, List.length_append, hrl1]; omega
    rw [fixed_j0 h _ (by rw [hsz2]; exact p3) (by rw [hsz2]; exact hpl) (by omega), hda2, hsz2]
    rfl
  · have hp : padT z.natAbs K = txt z.natAbs := by unfold padT; rw [if_neg (by omega)]
    rw [if_neg hle, fixed_j0 h _ (by rw [size_mk]; omega) (by rw [size_mk]; omega) (by omega), hda, size_mk]
    unfold fixZ fixT
    rw [hp]
end Go.Proofs.YtpdgjhaimfpacaaDoor.Mg
