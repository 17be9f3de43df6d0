/- The two carrying words of math/bits, Add64 and Sub64, as the model runs them. -/
import Derived.Test.YtpgmhhkkbjbpgaaProg
import Derived.Laws.Externs
import Derived.Tactics
import Derived.KernelRfl
import Derived.Test.YtpgmhhkkbjbpgaaShelf
import Derived.Test.YtpgmhhkkbjbpgaaWWords
namespace Go.Proofs.Ytpgmhhkkbjbpgaa.MB
/-- The sum of two words and a carry. -/
def addS (x y c : Int) : Int := ((x.toNat + y.toNat + c.toNat) % 18446744073709551616 : Nat)
/-- The carry of that sum. -/
def addC (x y c : Int) : Int := ((x.toNat + y.toNat + c.toNat) / 18446744073709551616 : Nat)
/-- The difference of two words and a borrow. -/
def subS (x y b : Int) : Int := ((x.toNat + 18446744073709551616 - y.toNat - b.toNat) % 18446744073709551616 : Nat)
/-- The borrow of that difference. -/
def subC (x y b : Int) : Int := ((if x.toNat < y.toNat + b.toNat then 1 else 0 : Nat) : Nat)

def add64Row : Array Value → Sem Value := fun args => do
  let (x, y, c) ← Extern.MathBitsCarry.three "Add64" args
  pure (Extern.MathBitsCarry.pair ((x + y + c) % Extern.MathBitsCarry.m64) ((x + y + c) / Extern.MathBitsCarry.m64))
def sub64Row : Array Value → Sem Value := fun args => do
  let (x, y, b) ← Extern.MathBitsCarry.three "Sub64" args
  pure (Extern.MathBitsCarry.pair ((x + Extern.MathBitsCarry.m64 - y - b) % Extern.MathBitsCarry.m64) (if x < y + b then 1 else 0))

theorem run_add64Row {P : Program} (x y c : Int) (hc : c ≤ 1) (w : World) :
    (add64Row #[.int .u64 x, .int .u64 y, .int .u64 c]).run P w = .ok (.tuple #[.int .u64 (addS x y c), .int .u64 (addC x y c)]) w := by
  have hk : ¬ (c.toNat > 1) := by omega
  have h1 : (add64Row #[.int .u64 x, .int .u64 y, .int .u64 c]).run P w =
      (do
        if c.toNat > 1 then unsupported (.noEntry ("extern/math/bits." ++ "Add64" ++ ": a carry that is neither 0 nor 1"))
        pure (Extern.MathBitsCarry.pair ((x.toNat + y.toNat + c.toNat) % Extern.MathBitsCarry.m64) ((x.toNat + y.toNat + c.toNat) / Extern.MathBitsCarry.m64)) : Sem Value).run P w := by
    show (do
        let z ← (do
          if c.toNat > 1 then unsupported (.noEntry ("extern/math/bits." ++ "Add64" ++ ": a carry that is neither 0 nor 1"))
          pure (x.toNat, y.toNat, c.toNat) : Sem (Nat × Nat × Nat))
        pure (let (x, y, c) := z; Extern.MathBitsCarry.pair ((x + y + c) % Extern.MathBitsCarry.m64) ((x + y + c) / Extern.MathBitsCarry.m64)) : Sem Value).run P w = _
    rw [if_neg hk, if_neg hk]
    rfl
  rw [h1, if_neg hk]
  rfl
theorem run_sub64Row {P : Program} (x y c : Int) (hc : c ≤ 1) (w : World) :
    (sub64Row #[.int .u64 x, .int .u64 y, .int .u64 c]).run P w = .ok (.tuple #[.int .u64 (subS x y c), .int .u64 (subC x y c)]) w := by
  have hk : ¬ (c.toNat > 1) := by omega
  have h1 : (sub64Row #[.int .u64 x, .int .u64 y, .int .u64 c]).run P w =
      (do
        if c.toNat > 1 then unsupported (.noEntry ("extern/math/bits." ++ "Sub64" ++ ": a carry that is neither 0 nor 1"))
        pure (Extern.MathBitsCarry.pair ((x.toNat + Extern.MathBitsCarry.m64 - y.toNat - c.toNat) % Extern.MathBitsCarry.m64) (if x.toNat < y.toNat + c.toNat then 1 else 0)) : Sem Value).run P w := by
    show (do
        let z ← (do
          if c.toNat > 1 then unsupported (.noEntry ("extern/math/bits." ++ "Sub64" ++ ": a carry that is neither 0 nor 1"))
          pure (x.toNat, y.toNat, c.toNat) : Sem (Nat × Nat × Nat))
        pure (let (x, y, c) := z; Extern.MathBitsCarry.pair ((x + Extern.MathBitsCarry.m64 - y - c) % Extern.MathBitsCarry.m64) (if x < y + c then 1 else 0)) : Sem Value).run P w = _
    rw [if_neg hk, if_neg hk]
    rfl
  rw [h1, if_neg hk]
  rfl

theorem add64_run (x y c : Int) (hc : c ≤ 1) (w : World) : (callFunc 46 #[.int .u64 x, .int .u64 y, .int .u64 c]).run Try.prog w =
    .ok (.value (.tuple #[.int .u64 (addS x y c), .int .u64 (addC x y c)])) w := by
  rw [run_callFunc_extern Try.func46 (by kernel_rfl) (by kernel_rfl) (by kernel_rfl) (e := add64Row) (by kernel_rfl), run_add64Row x y c hc]
  rfl
theorem sub64_run (x y c : Int) (hc : c ≤ 1) (w : World) : (callFunc 47 #[.int .u64 x, .int .u64 y, .int .u64 c]).run Try.prog w =
    .ok (.value (.tuple #[.int .u64 (subS x y c), .int .u64 (subC x y c)])) w := by
  rw [run_callFunc_extern Try.func47 (by kernel_rfl) (by kernel_rfl) (by kernel_rfl) (e := sub64Row) (by kernel_rfl), run_sub64Row x y c hc]
  rfl

open Go.Proofs.YtpgmhhkkbjbpgaaW.PrintWords
/-- bits.Len64, by the shelf's contract. -/
def bits_Len64.f (x : Int) : Option Int := if 0 ≤ x ∧ x ≤ 18446744073709551615 then some (Lib.bitLen x.toNat : Int) else none
theorem bits_Len64.calls (x : Int) (r : Int) (w : World) (h : bits_Len64.f x = some r) :
    Calls Try.prog 45 #[.int .u64 x] w fun e w' => e = .returned (.int .i64 r) ∧ Drawn0 w w' := by
  unfold bits_Len64.f at h
  split at h
  · rename_i h0
    obtain rfl := Option.some.inj h
    refine (Try.bits_Len64 x w h0.1 h0.2).mono ?_
    rintro e w' ⟨rfl, rfl⟩
    exact ⟨rfl, Drawn0.refl _⟩
  · cases h
/-- bits.LeadingZeros64, by the shelf's contract. -/
def bits_LeadingZeros64.f (x : Int) : Option Int := if 0 ≤ x ∧ x ≤ 18446744073709551615 then some (64 - (Lib.bitLen x.toNat : Int)) else none
theorem bits_LeadingZeros64.calls (x : Int) (r : Int) (w : World) (h : bits_LeadingZeros64.f x = some r) :
    Calls Try.prog 57 #[.int .u64 x] w fun e w' => e = .returned (.int .i64 r) ∧ Drawn0 w w' := by
  unfold bits_LeadingZeros64.f at h
  split at h
  · rename_i h0
    obtain rfl := Option.some.inj h
    refine (Try.bits_LeadingZeros64 x w h0.1 h0.2).mono ?_
    rintro e w' ⟨rfl, rfl⟩
    exact ⟨rfl, Drawn0.refl _⟩
  · cases h
/-- bits.Mul64, by the shelf's contract. -/
def bits_Mul64.f (x y : Int) : Option (Int × Int) := if (0 ≤ x ∧ x ≤ 18446744073709551615) ∧ 0 ≤ y ∧ y ≤ 18446744073709551615 then some (((x.toNat * y.toNat / 18446744073709551616 : Nat) : Int), ((x.toNat * y.toNat % 18446744073709551616 : Nat) : Int)) else none
theorem bits_Mul64.calls (x y : Int) (r1 r2 : Int) (w : World) (h : bits_Mul64.f x y = some (r1, r2)) :
    Calls Try.prog 54 #[.int .u64 x, .int .u64 y] w fun e w' => e = .returned (.tuple #[.int .u64 r1, .int .u64 r2]) ∧ Drawn0 w w' := by
  unfold bits_Mul64.f at h
  split at h
  · rename_i h0
    obtain ⟨⟨a0, a1⟩, b0, b1⟩ := h0
    obtain ⟨x, rfl⟩ := Int.eq_ofNat_of_zero_le a0
    obtain ⟨y, rfl⟩ := Int.eq_ofNat_of_zero_le b0
    have h := Option.some.inj h
    simp only [Int.toNat_natCast, Prod.mk.injEq] at h
    obtain ⟨rfl, rfl⟩ := h
    refine (Try.bits_Mul64 x y (by omega) (by omega) w).mono ?_
    rintro e w' ⟨rfl, rfl⟩
    exact ⟨rfl, Drawn0.refl _⟩
  · cases h
end Go.Proofs.Ytpgmhhkkbjbpgaa.MB
