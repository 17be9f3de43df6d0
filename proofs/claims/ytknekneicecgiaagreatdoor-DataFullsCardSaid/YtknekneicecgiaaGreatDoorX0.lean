/- The two carrying words of math/bits, Add64 and Sub64, as the model runs them. Go's strings functions that package deci calls, by the shelf's contracts, in the printed texts' form. strings.Split and Join, by the shelf's contracts, in the printed texts' form. -/
import Derived.Test.YtknekneicecgiaaGreatDoorProg
import Derived.Laws.Externs
import Derived.Tactics
import Derived.KernelRfl
import Derived.Test.YtknekneicecgiaaGreatDoorShelf
import Derived.Test.YtknekneicecgiaaGreatDoorWWords
import Derived.Test.YtknekneicecgiaaGreatDoorWMore
import Derived.WalkKit
import Derived.Below
import Derived.Shelf.Vars
import Derived.Test.YtknekneicecgiaaGreatDoorWKept
import Derived.Lib.OwnBridge
import Derived.Lib.SplitLaws
namespace Go.Proofs.YtknekneicecgiaaGreatDoor.MB
/-- The sum of two words and a carry. -/
def addS (x y c : Int) : Int := ((x.toNat + y.toNat + c.toNat) % 18446744073709551616 : Nat)
/-- The carry of that sum. -/
def addC (x y c : Int) : Int := ((x.toNat + y.toNat + c.toNat) / 18446744073709551616 : Nat)
/-- The difference of two words and a borrow. -/
def subS (x y b : Int) : Int := ((x.toNat + 18446744073709551616 - y.toNat - b.toNat) % 18446744073709551616 : Nat)
/-- The borrow of that difference. -/
def subC (x y b : Int) : Int := ((if x.toNat < y.toNat + b.toNat then 1 else 0 : Nat) : Nat)

def add64Row : Array Value → Sem Value := fun args => do
  let (x, y, c) ← Extern.MathBitsCarry.three "Add64" args
  pure (Extern.MathBitsCarry.pair ((x + y + c) % Extern.MathBitsCarry.m64) ((x + y + c) / Extern.MathBitsCarry.m64))
def sub64Row : Array Value → Sem Value := fun args => do
  let (x, y, b) ← Extern.MathBitsCarry.three "Sub64" args
  pure (Extern.MathBitsCarry.pair ((x + Extern.MathBitsCarry.m64 - y - b) % Extern.MathBitsCarry.m64) (if x < y + b then 1 else 0))

theorem run_add64Row {P : Program} (x y c : Int) (hc : c ≤ 1) (w : World) :
    (add64Row #[.int .u64 x, .int .u64 y, .int .u64 c]).run P w = .ok (.tuple #[.int .u64 (addS x y c), .int .u64 (addC x y c)]) w := by
  have hk : ¬ (c.toNat > 1) := by omega
  have h1 : (add64Row #[.int .u64 x, .int .u64 y, .int .u64 c]).run P w =
      (do
        if c.toNat > 1 then unsupported (.noEntry ("extern/math/bits." ++ "Add64" ++ ": a carry that is neither 0 nor 1"))
        pure (Extern.MathBitsCarry.pair ((x.toNat + y.toNat + c.toNat) % Extern.MathBitsCarry.m64) ((x.toNat + y.toNat + c.toNat) / Extern.MathBitsCarry.m64)) : Sem Value).run P w := by
    show (do
        let z ← (do
          if c.toNat > 1 then unsupported (.noEntry ("extern/math/bits." ++ "Add64" ++ ": a carry that is neither 0 nor 1"))
          pure (x.toNat, y.toNat, c.toNat) : Sem (Nat × Nat × Nat))
        pure (let (x, y, c) := z; Extern.MathBitsCarry.pair ((x + y + c) % Extern.MathBitsCarry.m64) ((x + y + c) / Extern.MathBitsCarry.m64)) : Sem Value).run P w = _
    rw [if_neg hk, if_neg hk]
    rfl
  rw [h1, if_neg hk]
  rfl
theorem run_sub64Row {P : Program} (x y c : Int) (hc : c ≤ 1) (w : World) :
    (sub64Row #[.int .u64 x, .int .u64 y, .int .u64 c]).run P w = .ok (.tuple #[.int .u64 (subS x y c), .int .u64 (subC x y c)]) w := by
  have hk : ¬ (c.toNat > 1) := by omega
  have h1 : (sub64Row #[.int .u64 x, .int .u64 y, .int .u64 c]).run P w =
      (do
        if c.toNat > 1 then unsupported (.noEntry ("extern/math/bits." ++ "Sub64" ++ ": a carry that is neither 0 nor 1"))
        pure (Extern.MathBitsCarry.pair ((x.toNat + Extern.MathBitsCarry.m64 - y.toNat - c.toNat) % Extern.MathBitsCarry.m64) (if x.toNat < y.toNat + c.toNat then 1 else 0)) : Sem Value).run P w := by
    show (do
        let z ← (do
          if c.toNat > 1 then unsupported (.noEntry ("extern/math/bits." ++ "Sub64" ++ ": a carry that is neither 0 nor 1"))
          pure (x.toNat, y.toNat, c.toNat) : Sem (Nat × Nat × Nat))
        pure (let (x, y, c) := z; Extern.MathBitsCarry.pair ((x + Extern.MathBitsCarry.m64 - y - c) % Extern.MathBitsCarry.m64) (if x < y + c then 1 else 0)) : Sem Value).run P w = _
    rw [if_neg hk, if_neg hk]
    rfl
  rw [h1, if_neg hk]
  rfl

theorem add64_run (x y c : Int) (hc : c ≤ 1) (w : World) : (callFunc 99 #[.int .u64 x, .int .u64 y, .int .u64 c]).run Tryz.prog w =
    .ok (.value (.tuple #[.int .u64 (addS x y c), .int .u64 (addC x y c)])) w := by
  rw [run_callFunc_extern Tryz.func99 (by kernel_rfl) (by kernel_rfl) (by kernel_rfl) (e := add64Row) (by kernel_rfl), run_add64Row x y c hc]
  rfl
theorem sub64_run (x y c : Int) (hc : c ≤ 1) (w : World) : (callFunc 128 #[.int .u64 x, .int .u64 y, .int .u64 c]).run Tryz.prog w =
    .ok (.value (.tuple #[.int .u64 (subS x y c), .int .u64 (subC x y c)])) w := by
  rw [run_callFunc_extern Tryz.func128 (by kernel_rfl) (by kernel_rfl) (by kernel_rfl) (e := sub64Row) (by kernel_rfl), run_sub64Row x y c hc]
  rfl

open Go.Proofs.YtknekneicecgiaaGreatDoorW.PrintWords
/-- bits.Len64, by the shelf's contract. -/
def bits_Len64.f (x : Int) : Option Int := if 0 ≤ x ∧ x ≤ 18446744073709551615 then some (Lib.bitLen x.toNat : Int) else none
theorem bits_Len64.calls (x : Int) (r : Int) (w : World) (h : bits_Len64.f x = some r) :
    Calls Tryz.prog 98 #[.int .u64 x] w fun e w' => e = .returned (.int .i64 r) ∧ Drawn0 w w' := by
  unfold bits_Len64.f at h
  split at h
  · rename_i h0
    obtain rfl := Option.some.inj h
    refine (Tryz.bits_Len64 x w h0.1 h0.2).mono ?_
    rintro e w' ⟨rfl, rfl⟩
    exact ⟨rfl, Drawn0.refl _⟩
  · cases h
/-- bits.Mul64, by the shelf's contract. -/
def bits_Mul64.f (x y : Int) : Option (Int × Int) := if (0 ≤ x ∧ x ≤ 18446744073709551615) ∧ 0 ≤ y ∧ y ≤ 18446744073709551615 then some (((x.toNat * y.toNat / 18446744073709551616 : Nat) : Int), ((x.toNat * y.toNat % 18446744073709551616 : Nat) : Int)) else none
theorem bits_Mul64.calls (x y : Int) (r1 r2 : Int) (w : World) (h : bits_Mul64.f x y = some (r1, r2)) :
    Calls Tryz.prog 97 #[.int .u64 x, .int .u64 y] w fun e w' => e = .returned (.tuple #[.int .u64 r1, .int .u64 r2]) ∧ Drawn0 w w' := by
  unfold bits_Mul64.f at h
  split at h
  · rename_i h0
    obtain ⟨⟨a0, a1⟩, b0, b1⟩ := h0
    obtain ⟨x, rfl⟩ := Int.eq_ofNat_of_zero_le a0
    obtain ⟨y, rfl⟩ := Int.eq_ofNat_of_zero_le b0
    have h := Option.some.inj h
    simp only [Int.toNat_natCast, Prod.mk.injEq] at h
    obtain ⟨rfl, rfl⟩ := h
    refine (Tryz.bits_Mul64 x y (by omega) (by omega) w).mono ?_
    rintro e w' ⟨rfl, rfl⟩
    exact ⟨rfl, Drawn0.refl _⟩
  · cases h
end Go.Proofs.YtknekneicecgiaaGreatDoor.MB
namespace Go.Proofs.YtknekneicecgiaaGreatDoor.MB
open Go.RowKit Go.Proofs.YtknekneicecgiaaGreatDoorW.PrintWords
/-- The methods' words. -/
def mths : List ByteArray := [⟨#[115, 105, 98, 115, 111, 110]⟩, ⟨#[108, 97, 112, 108, 97, 99, 101]⟩, ⟨#[116, 105, 110]⟩]
/-- The cell of bytealg.MaxLen holds some int; the methods' table holds their words. -/
def TabW (w : World) : Prop := (∃ m, w.cell? ⟨2, 0, none⟩ = some (.int .i64 m)) ∧ 2 < w.heap.size ∧ ∀ i x, mths[i]? = some x → w.cell? ⟨0, i, none⟩ = some (.string x)
theorem tab_below {w w' : World} (h : TabW w) (hb : Below w.heap.size w w') : TabW w' := by
  obtain ⟨⟨m, hm⟩, h0, hs⟩ := h
  exact ⟨⟨m, (hb.cell h0).trans hm⟩, Nat.lt_of_lt_of_le h0 hb.size, fun i x hi => (hb.cell (p := ⟨0, i, none⟩) (by show 0 < w.heap.size; omega)).trans (hs i x hi)⟩
/-- Its blocks stay. -/
theorem tab_move {w w1 : World} (h : TabW w) (hs : w.heap.size ≤ w1.heap.size) (hb : w1.heap[2]? = w.heap[2]?) (hb0 : w1.heap[0]? = w.heap[0]?) : TabW w1 := by
  obtain ⟨⟨m, hm⟩, h0, h1⟩ := h
  refine ⟨⟨m, ?_⟩, Nat.lt_of_lt_of_le h0 hs, fun i x hi => ?_⟩
  · rw [← hm]
    unfold World.cell?
    simp only [hb]
  · rw [← h1 i x hi]
    unfold World.cell?
    simp only [hb0]
def strings_HasPrefix.f (a b : ByteArray) : Option Bool := some (Lib.hasPrefix a.data.toList b.data.toList)
theorem strings_HasPrefix.calls (a b : ByteArray) (r : Bool) (w : World) (h : strings_HasPrefix.f a b = some r) :
    Calls Tryz.prog 39 #[.string a, .string b] w fun e w' => e = .returned (.bool r) ∧ Drawn0 w w' := by
  obtain rfl := Option.some.inj h
  refine (Tryz.strings_HasPrefix a b w).mono ?_
  rintro e w' ⟨rfl, rfl⟩
  exact ⟨rfl, Drawn0.refl _⟩
def strings_Cut.f (a b : ByteArray) : Option (ByteArray × ByteArray × Bool) := if a.size < 4294967281 then some (⟨(Lib.cut a.data.toList b.data.toList).1.toArray⟩, ⟨(Lib.cut a.data.toList b.data.toList).2.1.toArray⟩, (Lib.cut a.data.toList b.data.toList).2.2) else none
theorem strings_Cut.calls (a b r1 r2 : ByteArray) (r3 : Bool) (w : World) (HT0 : TabW w) (h : strings_Cut.f a b = some (r1, r2, r3)) :
    Calls Tryz.prog 42 #[.string a, .string b] w fun e w' => e = .returned (.tuple #[.string r1, .string r2, .bool r3]) ∧ Drawn0 w w' := by
  unfold strings_Cut.f at h
  split at h
  · rename_i hs
    obtain ⟨⟨m, hm⟩, _⟩ := HT0
    have h' := Option.some.inj h
    simp only [Prod.mk.injEq] at h'
    obtain ⟨rfl, rfl, rfl⟩ := h'
    refine (Tryz.strings_Cut a b m w hs hm).mono ?_
    rintro e w' ⟨rfl, n, rfl⟩
    exact ⟨rfl, ⟨n, rfl⟩⟩
  · cases h
def strings_Trim.f (a b : ByteArray) : Option ByteArray := if a.size ≤ 9223372036854775807 ∧ b = ⟨#[48]⟩ then some ⟨(Lib.trimB a.data.toList 48).toArray⟩ else none
theorem strings_Trim.calls (a b r : ByteArray) (w : World) (h : strings_Trim.f a b = some r) :
    Calls Tryz.prog 44 #[.string a, .string b] w fun e w' => e = .returned (.string r) ∧ Drawn0 w w' := by
  unfold strings_Trim.f at h
  split at h
  · rename_i hs
    obtain ⟨hs, rfl⟩ := hs
    obtain rfl := Option.some.inj h
    refine (Tryz.strings_Trim_one a 48 (by decide) w hs).mono ?_
    rintro e w' ⟨rfl, rfl | rfl⟩
    · exact ⟨rfl, Drawn0.refl _⟩
    · exact ⟨rfl, ⟨1, rfl⟩⟩
  · cases h
def strings_Repeat.f (a : ByteArray) (n : Int) : Option ByteArray := if a.size ≤ 100 ∧ 0 ≤ n ∧ n ≤ 1000000 then some ⟨(Lib.repeatL a.data.toList n.toNat).toArray⟩ else none
theorem strings_Repeat.calls (a : ByteArray) (n : Int) (r : ByteArray) (w : World) (h : strings_Repeat.f a n = some r) :
    Calls Tryz.prog 45 #[.string a, .int .i64 n] w fun e w' => e = .returned (.string r) ∧ Below w.heap.size w w' := by
  unfold strings_Repeat.f at h
  split at h
  · rename_i hs
    obtain ⟨hs, h0, h1⟩ := hs
    obtain ⟨c, rfl⟩ := Int.eq_ofNat_of_zero_le h0
    rw [Int.toNat_natCast] at h
    obtain rfl := Option.some.inj h
    have hm : a.size * c ≤ 100 * 1000000 := Nat.mul_le_mul hs (by omega)
    exact Tryz.strings_Repeat a c w (by omega) (by omega)
  · cases h
end Go.Proofs.YtknekneicecgiaaGreatDoor.MB
namespace Go.Proofs.YtknekneicecgiaaGreatDoor.MB
open Go.RowKit Go.Sort Go.Proofs.YtknekneicecgiaaGreatDoorW.PrintWords
set_option linter.unusedVariables false
theorem spot_none {w : World} {a : Addr} {v : Value} (h : w.cell? a = some v) : a.spot = none := by
  unfold World.cell? at h
  split at h
  · split at h
    · cases h
    · rename_i hs
      cases hsp : a.spot with
      | none => rfl
      | some s => rw [hsp] at hs; exact absurd rfl hs
  · cases h
theorem addr_add (b o i : Nat) : (⟨b, o, none⟩ : Addr).add i = ⟨b, o + i, none⟩ := by
  unfold Addr.add
  split
  · rename_i h; subst h; rfl
  · rfl
/-- The cells of a row of scalars that is read. -/
theorem C_cells {α : Type} {enc : α → Value} {h1 : ∀ x, (enc x).oneCell' = true} {w : World} {A : Option Addr} {xs : List α} (h : (Kd.scalar enc h1).C w A xs.length xs) (hn : 0 < xs.length) :
    ∃ b o, A = some ⟨b, o, none⟩ ∧ ∀ j x, xs[j]? = some x → w.cell? ⟨b, o + j, none⟩ = some (enc x) := by
  obtain ⟨_, _, hc⟩ := h
  obtain ⟨ad, e, hc⟩ := hc hn
  have key : ∀ j x, xs[j]? = some x → w.cell? (ad.add j) = some (enc x) := fun j x hj => by
    obtain ⟨c, hl, hr, hcell⟩ := hc j x hj
    have hr : c = [enc x] := hr
    subst hr
    have h2 : w.cell? (ad.add (j * 1 + 0)) = some (enc x) := hcell 0 _ rfl
    rwa [Nat.mul_one, Nat.add_zero] at h2
  have h0 := key 0 _ (List.getElem?_eq_getElem hn)
  have hs : ad.spot = none := spot_none h0
  obtain ⟨b, o, s⟩ := ad
  have hs : s = none := hs
  subst hs
  refine ⟨b, o, e, fun j x hj => ?_⟩
  have := key j x hj
  rwa [addr_add] at this
end Go.Proofs.YtknekneicecgiaaGreatDoor.MB
