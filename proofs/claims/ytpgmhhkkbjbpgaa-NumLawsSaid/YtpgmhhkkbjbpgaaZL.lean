/- NumLaws answers true: sums and products don't hang on their order; a product of a sum is the sum of the products; sums of many are sums of sums. -/
import Derived.Test.YtpgmhhkkbjbpgaaZF
import Derived.Test.YtpgmhhkkbjbpgaaX2
import Derived.Test.YtpgmhhkkbjbpgaaC8
import Derived.Test.YtpgmhhkkbjbpgaaE1
namespace Go.Proofs.Ytpgmhhkkbjbpgaa.Mg
open Go.RowKit Go.Proofs.YtpgmhhkkbjbpgaaW.PrintWords Go.Proofs.YtpgmhhkkbjbpgaaW.PrintMore Go.Proofs.Ytpgmhhkkbjbpgaa.MB Go.Proofs.Ytpgmhhkkbjbpgaa.M
set_option linter.unusedVariables false
set_option linter.unusedSimpArgs false

theorem HZ.nil : HZ false [] 0 := ⟨Ok.nil, by simp, rfl⟩
theorem Sum_step {ls : List S25} {s : Int} {i k : Nat} {z : Int} (hi : i < ls.length) (hl : ls.length ≤ 100) (hs : s.natAbs < B ^ 60) (hz : HZ (ls.getD i z25).f0 (ls.getD i z25).f1 z) (h : (s + z).natAbs < B ^ 60) (hk : 20000 ≤ k) :
    num_Sum.l0 (k + 1) ls (ls.length : Int) (i : Int) (zb s) (zl s) = num_Sum.l0 k ls (ls.length : Int) ((i + 1 : Nat) : Int) (zb (s + z)) (zl (s + z)) := by
  have e : rd_T25 ls (i : Int) = ls.getD i z25 := by unfold rd_T25; rw [Int.toNat_natCast]
  have hw : wrap64 ((i : Int) + 1) = ((i + 1 : Nat) : Int) := by
    rw [w64 (by omega) (by omega)]
    omega
  simp only [num_Sum.l0]
  rw [if_pos (by omega), if_pos (by omega), if_pos (by omega), e, Add_z (HZ.z hs (by omega)) hz (pow_le (n := 64) h (by omega)) hk, Option.bind_some, hw]
theorem Sum_end {ls : List S25} {m : Bool} {l : List Int} {k : Nat} : num_Sum.l0 (k + 1) ls (ls.length : Int) ((ls.length : Nat) : Int) m l = some (m, l) := by
  simp only [num_Sum.l0]
  rw [if_neg (by omega)]
theorem zb0 : zb 0 = false := rfl
theorem zl0 : zl 0 = [] := by unfold zl; exact ofNat_zero
theorem Sum_0 {k : Nat} (hk : 1 ≤ k) : num_Sum.f k [] = some (zb 0, zl 0) := by
  obtain ⟨k, rfl⟩ : ∃ j, k = j + 1 := ⟨k - 1, by omega⟩
  unfold num_Sum.f
  rw [zb0, zl0]
  exact Sum_end (ls := [])
theorem Sum_2 {m n : Bool} {a b : List Int} {x y : Int} {k : Nat} (ha : HZ m a x) (hb : HZ n b y) (hx : x.natAbs < B ^ 60) (hxy : (x + y).natAbs < B ^ 60) (hk : 20003 ≤ k) : num_Sum.f k [⟨m, a⟩, ⟨n, b⟩] = some (zb (x + y), zl (x + y)) := by
  obtain ⟨k, rfl⟩ : ∃ j, k = j + 3 := ⟨k - 3, by omega⟩
  have h0 : (0 : Int).natAbs < B ^ 60 := Nat.pow_pos B_pos
  have s1 := Sum_step (ls := [⟨m, a⟩, ⟨n, b⟩]) (s := 0) (i := 0) (k := k + 2) (z := x) (by simp) (by simp) h0 ha (by rw [Int.zero_add]; exact hx) (by omega)
  rw [Int.zero_add] at s1
  have s2 := Sum_step (ls := [⟨m, a⟩, ⟨n, b⟩]) (s := x) (i := 1) (k := k + 1) (z := y) (by simp) (by simp) hx hb hxy (by omega)
  have s3 := Sum_end (ls := [⟨m, a⟩, ⟨n, b⟩]) (m := zb (x + y)) (l := zl (x + y)) (k := k)
  unfold num_Sum.f
  rw [← zb0, ← zl0]
  exact s1.trans (s2.trans s3)
theorem Sum_3 {m n p : Bool} {a b c : List Int} {x y z : Int} {k : Nat} (ha : HZ m a x) (hb : HZ n b y) (hc : HZ p c z) (hx : x.natAbs < B ^ 60) (hxy : (x + y).natAbs < B ^ 60) (hxyz : (x + y + z).natAbs < B ^ 60) (hk : 20004 ≤ k) :
    num_Sum.f k [⟨m, a⟩, ⟨n, b⟩, ⟨p, c⟩] = some (zb (x + y + z), zl (x + y + z)) := by
  obtain ⟨k, rfl⟩ : ∃ j, k = j + 4 := ⟨k - 4, by omega⟩
  have h0 : (0 : Int).natAbs < B ^ 60 := Nat.pow_pos B_pos
  have s1 := Sum_step (ls := [⟨m, a⟩, ⟨n, b⟩, ⟨p, c⟩]) (s := 0) (i := 0) (k := k + 3) (z := x) (by simp) (by simp) h0 ha (by rw [Int.zero_add]; exact hx) (by omega)
  rw [Int.zero_add] at s1
  have s2 := Sum_step (ls := [⟨m, a⟩, ⟨n, b⟩, ⟨p, c⟩]) (s := x) (i := 1) (k := k + 2) (z := y) (by simp) (by simp) hx hb hxy (by omega)
  have s3 := Sum_step (ls := [⟨m, a⟩, ⟨n, b⟩, ⟨p, c⟩]) (s := x + y) (i := 2) (k := k + 1) (z := z) (by simp) (by simp) hxy hc hxyz (by omega)
  have s4 := Sum_end (ls := [⟨m, a⟩, ⟨n, b⟩, ⟨p, c⟩]) (m := zb (x + y + z)) (l := zl (x + y + z)) (k := k)
  unfold num_Sum.f
  rw [← zb0, ← zl0]
  exact s1.trans (s2.trans (s3.trans s4))
theorem NumLaws_f {a0 : Bool} {l0 : List Int} {a1 : Bool} {l1 : List Int} {a2 : Bool} {l2 : List Int} {k : Nat} (h0 : Ok l0) (h1 : Ok l1) (h2 : Ok l2) (hk : 20010 ≤ k) : isohyetlaw02_NumLaws.f k a0 l0 a1 l1 a2 l2 = some true := by
  unfold isohyetlaw02_NumLaws.f
  obtain ⟨r, hs, hr⟩ := short_3 (k := k) 20 ⟨a0, l0⟩ ⟨a1, l1⟩ ⟨a2, l2⟩ (by omega)
  rw [fit_z (by omega), Option.bind_some, if_pos rfl, hs, Option.bind_some]
  cases r with
  | false => rw [if_neg (by decide)]
  | true =>
    obtain ⟨la, lb, lc⟩ := hr rfl
    have la : (l0.length : Int) ≤ 20 := la
    have lb : (l1.length : Int) ≤ 20 := lb
    have lc : (l2.length : Int) ≤ 20 := lc
    have Hx := HZ.of (m := a0) h0 (by omega)
    have Hy := HZ.of (m := a1) h1 (by omega)
    have Hz := HZ.of (m := a2) h2 (by omega)
    have hx : (nv a0 (val l0)).natAbs < B ^ 20 := by rw [nv_abs]; exact val_lt_of_len h0 (by omega)
    have hy : (nv a1 (val l1)).natAbs < B ^ 20 := by rw [nv_abs]; exact val_lt_of_len h1 (by omega)
    have hz : (nv a2 (val l2)).natAbs < B ^ 20 := by rw [nv_abs]; exact val_lt_of_len h2 (by omega)
    generalize nv a0 (val l0) = x at *
    generalize nv a1 (val l1) = y at *
    generalize nv a2 (val l2) = z at *
    have add : ∀ (u v : Int) (m : Nat), u.natAbs < B ^ m → v.natAbs < B ^ m → (u + v).natAbs < B ^ (m + 1) := fun u v m hu hv => by
      have a1 := Int.natAbs_add_le u v
      have a2 := pow_add_lt hu hv
      omega
    have mul : ∀ (u v : Int) (m n : Nat), u.natAbs < B ^ m → v.natAbs < B ^ n → (u * v).natAbs < B ^ (m + n) := fun u v m n hu hv => by
      rw [Int.natAbs_mul]
      exact pow_mul_lt hu hv
    have yz := add y z 20 hy hz
    have one := mul x (y + z) 20 21 hx yz
    have zx := mul z x 20 20 hz hx
    have yx := mul y x 20 20 hy hx
    have two := add (z * x) (y * x) 40 zx yx
    have xy := add x y 20 hx hy
    have s := add (x + y) z 21 xy (pow_le hz (by omega))
    have byx := add y x 20 hy hx
    have zyx := add z (y + x) 21 (pow_le hz (by omega)) byx
    have d1 : x * (y + z) - (z * x + y * x) = 0 := by rw [Int.mul_add, Int.mul_comm x y, Int.mul_comm x z]; omega
    have d2 : x + y + z - (z + (y + x)) = 0 := by omega
    have d3 : x + y + z - z = x + y := by omega
    have d4 : x + y - (y + x) = 0 := by omega
    have z0 : sgn 0 = 0 := by decide
    have hZ : ∀ (u : Int) (m : Nat), u.natAbs < B ^ m → m ≤ 64 → HZ (zb u) (zl u) u := fun u m h hm => HZ.z h hm
    rw [if_pos rfl, Add_z Hy Hz (pow_le (n := 64) yz (by omega)) (by omega), Option.bind_some]
    dsimp only
    rw [Mul_z Hx (hZ _ _ yz (by omega)) (pow_le (n := 64) one (by omega)) (by omega), Option.bind_some]
    dsimp only
    rw [Mul_z Hz Hx (pow_le (n := 64) zx (by omega)) (by omega), Option.bind_some]
    dsimp only
    rw [Mul_z Hy Hx (pow_le (n := 64) yx (by omega)) (by omega), Option.bind_some]
    dsimp only
    rw [Add_z (hZ _ _ zx (by omega)) (hZ _ _ yx (by omega)) (pow_le (n := 64) two (by omega)) (by omega), Option.bind_some]
    dsimp only
    rw [Sum_3 Hx Hy Hz (pow_le (n := 60) hx (by omega)) (pow_le (n := 60) xy (by omega)) (pow_le (n := 60) s (by omega)) (by omega), Option.bind_some]
    dsimp only
    rw [Cmp_z (hZ _ _ one (by omega)) (hZ _ _ two (by omega)) (by omega), Option.bind_some, d1, z0, if_pos rfl, Right_z one (by omega), Option.bind_some, if_pos rfl, Right_z s (by omega), Option.bind_some, if_pos rfl, Add_z Hy Hx (pow_le (n := 64) byx (by omega)) (by omega), Option.bind_some]
    dsimp only
    rw [Add_z Hz (hZ _ _ byx (by omega)) (pow_le (n := 64) zyx (by omega)) (by omega), Option.bind_some]
    dsimp only
    rw [Cmp_z (hZ _ _ s (by omega)) (hZ _ _ zyx (by omega)) (by omega), Option.bind_some, d2, z0, if_pos rfl, Sub_z (hZ _ _ s (by omega)) Hz (by rw [d3]; exact pow_le (n := 64) xy (by omega)) (by omega), Option.bind_some]
    dsimp only
    rw [d3, Sum_2 Hy Hx (pow_le (n := 60) hy (by omega)) (pow_le (n := 60) byx (by omega)) (by omega), Option.bind_some]
    dsimp only
    rw [Cmp_z (hZ _ _ xy (by omega)) (hZ _ _ byx (by omega)) (by omega), Option.bind_some, d4, z0, if_pos rfl, Sum_0 (by omega), Option.bind_some]
    dsimp only
    rw [Sign_z (hZ 0 60 (Nat.pow_pos B_pos) (by omega)) (by omega), Option.bind_some, z0]
    rfl
end Go.Proofs.Ytpgmhhkkbjbpgaa.Mg
namespace Go.Proofs.Ytpgmhhkkbjbpgaa.Pure
open Go.Proofs.Ytpgmhhkkbjbpgaa.M
theorem NumLaws : ∀ (a0 : Bool) (l0 : List Int) (a1 : Bool) (l1 : List Int) (a2 : Bool) (l2 : List Int), l0.length ≤ maxLen → l0.length * 8 ≤ 140737488351232 → (∀ x ∈ l0, (Lit.int .u64 x).wf = true) → l1.length ≤ maxLen → l1.length * 8 ≤ 140737488351232 → (∀ x ∈ l1, (Lit.int .u64 x).wf = true) → l2.length ≤ maxLen → l2.length * 8 ≤ 140737488351232 → (∀ x ∈ l2, (Lit.int .u64 x).wf = true) → ∃ k, isohyetlaw02_NumLaws.f k a0 l0 a1 l1 a2 l2 = some true := fun _ _ _ _ _ _ _ _ h0 _ _ h1 _ _ h2 => ⟨20010, Mg.NumLaws_f (Mg.ok_of_wf h0) (Mg.ok_of_wf h1) (Mg.ok_of_wf h2) (Nat.le_refl _)⟩
end Go.Proofs.Ytpgmhhkkbjbpgaa.Pure
