/- isohyetlaw02's fit is true: its printed functions run in the kernel; short. -/
import Derived.Test.YtpgmhhkkbjbpgaaX2
import Derived.Test.YtpgmhhkkbjbpgaaA6
import Derived.Test.YtpgmhhkkbjbpgaaA8
import Derived.KernelRfl
namespace Go.Proofs.Ytpgmhhkkbjbpgaa.Mg
open Go.RowKit Go.Proofs.YtpgmhhkkbjbpgaaW.PrintWords Go.Proofs.YtpgmhhkkbjbpgaaW.PrintMore Go.Proofs.Ytpgmhhkkbjbpgaa.MB Go.Proofs.Ytpgmhhkkbjbpgaa.M
set_option linter.unusedVariables false
set_option linter.unusedSimpArgs false
theorem fit_100 : isohyetlaw02_fit.f 100 = some true := by kernel_rfl
theorem fit_z {k : Nat} (hk : 100 ≤ k) : isohyetlaw02_fit.f k = some true := by
  obtain ⟨d, rfl⟩ : ∃ d, k = 100 + d := ⟨k - 100, by omega⟩
  induction d with
  | zero => exact fit_100
  | succ d ih => exact isohyetlaw02_fit.mono (100 + d) true (ih (by omega))
theorem short_l0 (n : Int) (ls : List S25) (hls : ls.length ≤ 1000) : ∀ (d i k : Nat), i + d = ls.length → d < k →
    ∃ b, isohyetlaw02_short.l0 k n ls (ls.length : Int) (i : Int) = some b ∧ (b = true → ∀ j, i ≤ j → j < ls.length → ((ls.getD j z25).f1.length : Int) ≤ n)
  | 0, i, k, hi, hk => by
    obtain ⟨k, rfl⟩ : ∃ m, k = m + 1 := ⟨k - 1, by omega⟩
    simp only [isohyetlaw02_short.l0]
    rw [if_neg (by omega)]
    exact ⟨true, rfl, fun _ j h1 h2 => by omega⟩
  | d + 1, i, k, hi, hk => by
    obtain ⟨k, rfl⟩ : ∃ m, k = m + 1 := ⟨k - 1, by omega⟩
    simp only [isohyetlaw02_short.l0]
    rw [if_pos (by omega), if_pos (by omega), if_pos (by omega), w64 (x := (i : Int) + 1) (by omega) (by omega)]
    have e : rd_T25 ls (i : Int) = ls.getD i z25 := by unfold rd_T25; rw [Int.toNat_natCast]
    rw [e]
    by_cases h : ((ls.getD i z25).f1.length : Int) > n
    · rw [if_pos h]
      exact ⟨false, rfl, fun h => by cases h⟩
    · rw [if_neg h]
      obtain ⟨b, hb, hall⟩ := short_l0 n ls hls d (i + 1) k (by omega) (by omega)
      refine ⟨b, hb, fun ht j h1 h2 => ?_⟩
      rcases Nat.lt_or_ge i j with hij | hij
      · exact hall ht j hij h2
      · obtain rfl : j = i := by omega
        omega
theorem short_f {k : Nat} (n : Int) (ls : List S25) (hls : ls.length ≤ 1000) (hk : ls.length < k) : ∃ b, isohyetlaw02_short.f k n ls = some b ∧ (b = true → ∀ j, j < ls.length → ((ls.getD j z25).f1.length : Int) ≤ n) := by
  obtain ⟨b, hb, hall⟩ := short_l0 n ls hls ls.length 0 k (by omega) hk
  exact ⟨b, hb, fun ht j hj => hall ht j (Nat.zero_le _) hj⟩
theorem short_1 {k : Nat} (n : Int) (a : S25) (hk : 1 < k) : ∃ b, isohyetlaw02_short.f k n [a] = some b ∧ (b = true → (a.f1.length : Int) ≤ n) := by
  obtain ⟨b, hb, h⟩ := short_f n [a] (by simp) (by simpa using hk)
  exact ⟨b, hb, fun ht => h ht 0 (by simp)⟩
theorem short_2 {k : Nat} (n : Int) (a b : S25) (hk : 2 < k) : ∃ r, isohyetlaw02_short.f k n [a, b] = some r ∧ (r = true → (a.f1.length : Int) ≤ n ∧ (b.f1.length : Int) ≤ n) := by
  obtain ⟨r, hb, h⟩ := short_f n [a, b] (by simp) (by simpa using hk)
  exact ⟨r, hb, fun ht => ⟨h ht 0 (by simp), h ht 1 (by simp)⟩⟩
theorem short_3 {k : Nat} (n : Int) (a b c : S25) (hk : 3 < k) : ∃ r, isohyetlaw02_short.f k n [a, b, c] = some r ∧ (r = true → (a.f1.length : Int) ≤ n ∧ (b.f1.length : Int) ≤ n ∧ (c.f1.length : Int) ≤ n) := by
  obtain ⟨r, hb, h⟩ := short_f n [a, b, c] (by simp) (by simpa using hk)
  exact ⟨r, hb, fun ht => ⟨h ht 0 (by simp), h ht 1 (by simp), h ht 2 (by simp)⟩⟩
end Go.Proofs.Ytpgmhhkkbjbpgaa.Mg
