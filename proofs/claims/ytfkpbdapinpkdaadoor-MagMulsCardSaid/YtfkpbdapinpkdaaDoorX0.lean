/- The two carrying words of math/bits, Add64 and Sub64, as the model runs them. math/bits.TrailingZeros64, where its table lies as it is laid. -/
import Derived.Test.YtfkpbdapinpkdaaDoorProg
import Derived.Laws.Externs
import Derived.Tactics
import Derived.KernelRfl
import Derived.Test.YtfkpbdapinpkdaaDoorShelf
import Derived.Test.YtfkpbdapinpkdaaDoorWWords
import Derived.Test.YtfkpbdapinpkdaaDoorWMore
import Derived.Shelf.Spec.TrailingZeros
import Derived.WalkKit
import Derived.Below
namespace Go.Proofs.YtfkpbdapinpkdaaDoor.MB
/-- The sum of two words and a carry. -/
def addS (x y c : Int) : Int := ((x.toNat + y.toNat + c.toNat) % 18446744073709551616 : Nat)
/-- The carry of that sum. -/
def addC (x y c : Int) : Int := ((x.toNat + y.toNat + c.toNat) / 18446744073709551616 : Nat)
/-- The difference of two words and a borrow. -/
def subS (x y b : Int) : Int := ((x.toNat + 18446744073709551616 - y.toNat - b.toNat) % 18446744073709551616 : Nat)
/-- The borrow of that difference. -/
def subC (x y b : Int) : Int := ((if x.toNat < y.toNat + b.toNat then 1 else 0 : Nat) : Nat)

def add64Row : Array Value → Sem Value := fun args => do
  let (x, y, c) ← Extern.MathBitsCarry.three "Add64" args
  pure (Extern.MathBitsCarry.pair ((x + y + c) % Extern.MathBitsCarry.m64) ((x + y + c) / Extern.MathBitsCarry.m64))
def sub64Row : Array Value → Sem Value := fun args => do
  let (x, y, b) ← Extern.MathBitsCarry.three "Sub64" args
  pure (Extern.MathBitsCarry.pair ((x + Extern.MathBitsCarry.m64 - y - b) % Extern.MathBitsCarry.m64) (if x < y + b then 1 else 0))

theorem run_add64Row {P : Program} (x y c : Int) (hc : c ≤ 1) (w : World) :
    (add64Row #[.int .u64 x, .int .u64 y, .int .u64 c]).run P w = .ok (.tuple #[.int .u64 (addS x y c), .int .u64 (addC x y c)]) w := by
  have hk : ¬ (c.toNat > 1) := by omega
  have h1 : (add64Row #[.int .u64 x, .int .u64 y, .int .u64 c]).run P w =
      (do
        if c.toNat > 1 then unsupported (.noEntry ("extern/math/bits." ++ "Add64" ++ ": a carry that is neither 0 nor 1"))
        pure (Extern.MathBitsCarry.pair ((x.toNat + y.toNat + c.toNat) % Extern.MathBitsCarry.m64) ((x.toNat + y.toNat + c.toNat) / Extern.MathBitsCarry.m64)) : Sem Value).run P w := by
    show (do
        let z ← (do
          if c.toNat > 1 then unsupported (.noEntry ("extern/math/bits." ++ "Add64" ++ ": a carry that is neither 0 nor 1"))
          pure (x.toNat, y.toNat, c.toNat) : Sem (Nat × Nat × Nat))
        pure (let (x, y, c) := z; Extern.MathBitsCarry.pair ((x + y + c) % Extern.MathBitsCarry.m64) ((x + y + c) / Extern.MathBitsCarry.m64)) : Sem Value).run P w = _
    rw [if_neg hk, if_neg hk]
    rfl
  rw [h1, if_neg hk]
  rfl
theorem run_sub64Row {P : Program} (x y c : Int) (hc : c ≤ 1) (w : World) :
    (sub64Row #[.int .u64 x, .int .u64 y, .int .u64 c]).run P w = .ok (.tuple #[.int .u64 (subS x y c), .int .u64 (subC x y c)]) w := by
  have hk : ¬ (c.toNat > 1) := by omega
  have h1 : (sub64Row #[.int .u64 x, .int .u64 y, .int .u64 c]).run P w =
      (do
        if c.toNat > 1 then unsupported (.noEntry ("extern/math/bits." ++ "Sub64" ++ ": a carry that is neither 0 nor 1"))
        pure (Extern.MathBitsCarry.pair ((x.toNat + Extern.MathBitsCarry.m64 - y.toNat - c.toNat) % Extern.MathBitsCarry.m64) (if x.toNat < y.toNat + c.toNat then 1 else 0)) : Sem Value).run P w := by
    show (do
        let z ← (do
          if c.toNat > 1 then unsupported (.noEntry ("extern/math/bits." ++ "Sub64" ++ ": a carry that is neither 0 nor 1"))
          pure (x.toNat, y.toNat, c.toNat) : Sem (Nat × Nat × Nat))
        pure (let (x, y, c) := z; Extern.MathBitsCarry.pair ((x + Extern.MathBitsCarry.m64 - y - c) % Extern.MathBitsCarry.m64) (if x < y + c then 1 else 0)) : Sem Value).run P w = _
    rw [if_neg hk, if_neg hk]
    rfl
  rw [h1, if_neg hk]
  rfl

theorem add64_run (x y c : Int) (hc : c ≤ 1) (w : World) : (callFunc 36 #[.int .u64 x, .int .u64 y, .int .u64 c]).run Tryd.prog w =
    .ok (.value (.tuple #[.int .u64 (addS x y c), .int .u64 (addC x y c)])) w := by
  rw [run_callFunc_extern Tryd.func36 (by kernel_rfl) (by kernel_rfl) (by kernel_rfl) (e := add64Row) (by kernel_rfl), run_add64Row x y c hc]
  rfl
theorem sub64_run (x y c : Int) (hc : c ≤ 1) (w : World) : (callFunc 38 #[.int .u64 x, .int .u64 y, .int .u64 c]).run Tryd.prog w =
    .ok (.value (.tuple #[.int .u64 (subS x y c), .int .u64 (subC x y c)])) w := by
  rw [run_callFunc_extern Tryd.func38 (by kernel_rfl) (by kernel_rfl) (by kernel_rfl) (e := sub64Row) (by kernel_rfl), run_sub64Row x y c hc]
  rfl

open Go.Proofs.YtfkpbdapinpkdaaDoorW.PrintWords
/-- bits.Len64, by the shelf's contract. -/
def bits_Len64.f (x : Int) : Option Int := if 0 ≤ x ∧ x ≤ 18446744073709551615 then some (Lib.bitLen x.toNat : Int) else none
theorem bits_Len64.calls (x : Int) (r : Int) (w : World) (h : bits_Len64.f x = some r) :
    Calls Tryd.prog 34 #[.int .u64 x] w fun e w' => e = .returned (.int .i64 r) ∧ Drawn0 w w' := by
  unfold bits_Len64.f at h
  split at h
  · rename_i h0
    obtain rfl := Option.some.inj h
    refine (Tryd.bits_Len64 x w h0.1 h0.2).mono ?_
    rintro e w' ⟨rfl, rfl⟩
    exact ⟨rfl, Drawn0.refl _⟩
  · cases h
/-- bits.LeadingZeros64, by the shelf's contract. -/
def bits_LeadingZeros64.f (x : Int) : Option Int := if 0 ≤ x ∧ x ≤ 18446744073709551615 then some (64 - (Lib.bitLen x.toNat : Int)) else none
theorem bits_LeadingZeros64.calls (x : Int) (r : Int) (w : World) (h : bits_LeadingZeros64.f x = some r) :
    Calls Tryd.prog 45 #[.int .u64 x] w fun e w' => e = .returned (.int .i64 r) ∧ Drawn0 w w' := by
  unfold bits_LeadingZeros64.f at h
  split at h
  · rename_i h0
    obtain rfl := Option.some.inj h
    refine (Tryd.bits_LeadingZeros64 x w h0.1 h0.2).mono ?_
    rintro e w' ⟨rfl, rfl⟩
    exact ⟨rfl, Drawn0.refl _⟩
  · cases h
/-- bits.Mul64, by the shelf's contract. -/
def bits_Mul64.f (x y : Int) : Option (Int × Int) := if (0 ≤ x ∧ x ≤ 18446744073709551615) ∧ 0 ≤ y ∧ y ≤ 18446744073709551615 then some (((x.toNat * y.toNat / 18446744073709551616 : Nat) : Int), ((x.toNat * y.toNat % 18446744073709551616 : Nat) : Int)) else none
theorem bits_Mul64.calls (x y : Int) (r1 r2 : Int) (w : World) (h : bits_Mul64.f x y = some (r1, r2)) :
    Calls Tryd.prog 35 #[.int .u64 x, .int .u64 y] w fun e w' => e = .returned (.tuple #[.int .u64 r1, .int .u64 r2]) ∧ Drawn0 w w' := by
  unfold bits_Mul64.f at h
  split at h
  · rename_i h0
    obtain ⟨⟨a0, a1⟩, b0, b1⟩ := h0
    obtain ⟨x, rfl⟩ := Int.eq_ofNat_of_zero_le a0
    obtain ⟨y, rfl⟩ := Int.eq_ofNat_of_zero_le b0
    have h := Option.some.inj h
    simp only [Int.toNat_natCast, Prod.mk.injEq] at h
    obtain ⟨rfl, rfl⟩ := h
    refine (Tryd.bits_Mul64 x y (by omega) (by omega) w).mono ?_
    rintro e w' ⟨rfl, rfl⟩
    exact ⟨rfl, Drawn0.refl _⟩
  · cases h
end Go.Proofs.YtfkpbdapinpkdaaDoor.MB
namespace Go.Proofs.YtfkpbdapinpkdaaDoor.MB
open Go.RowKit Go.Proofs.YtfkpbdapinpkdaaDoorW.PrintWords
/-- The table of TrailingZeros64 lies in its variable. -/
def TabW (w : World) : Prop := TabAt 0 Lib.deBruijn64tab w ∧ 0 < w.heap.size
theorem tab_cells {w w' : World} (h : TabW w) (hs : w.heap.size ≤ w'.heap.size) (hc : ∀ j, w'.cell? ⟨0, j, none⟩ = w.cell? ⟨0, j, none⟩) : TabW w' :=
  ⟨fun j hj => by rw [hc]; exact h.1 j hj, Nat.lt_of_lt_of_le h.2 hs⟩
theorem tab_below {w w' : World} (h : TabW w) (hb : Below w.heap.size w w') : TabW w' :=
  tab_cells h hb.size fun _ => hb.cell h.2
theorem tab_drawn {w w' : World} (h : TabW w) (hb : Drawn0 w w') : TabW w' := tab_below h hb.below
set_option maxHeartbeats 400000 in
theorem tz64_core (x k idx : Nat) (w : World) (hx0 : ((x : Int) == 0) = false)
    (key : IntKind.u64.wrap (bits BinOp.and IntKind.u64 (x : Int) (IntKind.u64.wrap (-(x : Int))) * 285870213051353865) / 288230376151711744 = (idx : Int))
    (hi : idx < 64) (hk : k < 64) (hcell : w.cell? ⟨0, idx, none⟩ = some (.int .u8 k)) :
    Calls Tryd.prog 43 #[.int .u64 x] w fun e w' => e = .returned (.int .i64 k) ∧ w' = w := by
  go_enter Tryd.func43, Tryd.ntmps43
  go_wp2_with (simp only [key])
  go_ret
  exact ⟨rfl, rfl⟩
theorem tz64_zero (w : World) : Calls Tryd.prog 43 #[.int .u64 0] w fun e w' => e = .returned (.int .i64 64) ∧ w' = w := by
  go_enter Tryd.func43, Tryd.ntmps43
  go_wp2
  go_ret
  exact ⟨rfl, rfl⟩
/-- bits.TrailingZeros64. -/
def bits_TrailingZeros64.f (x : Int) : Option Int := if 0 ≤ x ∧ x ≤ 18446744073709551615 then some (Lib.ctz 64 x.toNat : Int) else none
theorem bits_TrailingZeros64.calls (x : Int) (r : Int) (w : World) (HT0 : TabW w) (h : bits_TrailingZeros64.f x = some r) :
    Calls Tryd.prog 43 #[.int .u64 x] w fun e w' => e = .returned (.int .i64 r) ∧ Drawn0 w w' := by
  unfold bits_TrailingZeros64.f at h
  split at h
  · rename_i h0
    obtain ⟨x, rfl⟩ := Int.eq_ofNat_of_zero_le h0.1
    obtain rfl := Option.some.inj h
    rw [Int.toNat_natCast]
    by_cases hx0 : x = 0
    · subst hx0
      refine (tz64_zero w).mono ?_
      rintro e w' ⟨rfl, rfl⟩
      exact ⟨rfl, Drawn0.refl _⟩
    · obtain ⟨hlow, hk⟩ := Lib.lowest_bit 64 x hx0 (by omega)
      obtain ⟨hi, htab⟩ := Lib.deBruijn64_at _ hk
      have hcell := HT0.1 _ hi
      rw [htab] at hcell
      refine (tz64_core x _ _ w (by simp; omega) (tz64_key x _ (by omega) hx0 hlow) hi hk hcell).mono ?_
      rintro e w' ⟨rfl, rfl⟩
      exact ⟨rfl, Drawn0.refl _⟩
  · cases h
end Go.Proofs.YtfkpbdapinpkdaaDoor.MB
