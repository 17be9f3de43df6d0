/- The two carrying words of math/bits, Add64 and Sub64, as the model runs them. Go's strings functions that package deci calls, by the shelf's contracts, in the printed texts' form. strings.Split and Join, by the shelf's contracts, in the printed texts' form. slices.Sort and Compact of ints, by the shelf's contracts, in the printed texts' form. -/
import Derived.Test.YtknekneicecgiaaGreatDoorProg
import Derived.Laws.Externs
import Derived.Tactics
import Derived.KernelRfl
import Derived.Test.YtknekneicecgiaaGreatDoorShelf
import Derived.Test.YtknekneicecgiaaGreatDoorWWords
import Derived.Test.YtknekneicecgiaaGreatDoorWMore
import Derived.WalkKit
import Derived.Below
import Derived.Shelf.Vars
import Derived.Lib.OwnBridge
import Derived.Lib.SplitLaws
namespace Go.Proofs.YtknekneicecgiaaGreatDoor.MB
/-- The sum of two words and a carry. -/
def addS (x y c : Int) : Int := ((x.toNat + y.toNat + c.toNat) % 18446744073709551616 : Nat)
/-- The carry of that sum. -/
def addC (x y c : Int) : Int := ((x.toNat + y.toNat + c.toNat) / 18446744073709551616 : Nat)
/-- The difference of two words and a borrow. -/
def subS (x y b : Int) : Int := ((x.toNat + 18446744073709551616 - y.toNat - b.toNat) % 18446744073709551616 : Nat)
/-- The borrow of that difference. -/
def subC (x y b : Int) : Int := ((if x.toNat < y.toNat + b.toNat then 1 else 0 : Nat) : Nat)

def add64Row : Array Value → Sem Value := fun args => do
  let (x, y, c) ← Extern.MathBitsCarry.three "Add64" args
  pure (Extern.MathBitsCarry.pair ((x + y + c) % Extern.MathBitsCarry.m64) ((x + y + c) / Extern.MathBitsCarry.m64))
def sub64Row : Array Value → Sem Value := fun args => do
  let (x, y, b) ← Extern.MathBitsCarry.three "Sub64" args
  pure (Extern.MathBitsCarry.pair ((x + Extern.MathBitsCarry.m64 - y - b) % Extern.MathBitsCarry.m64) (if x < y + b then 1 else 0))

theorem run_add64Row {P : Program} (x y c : Int) (hc : c ≤ 1) (w : World) :
    (add64Row #[.int .u64 x, .int .u64 y, .int .u64 c]).run P w = .ok (.tuple #[.int .u64 (addS x y c), .int .u64 (addC x y c)]) w := by
  have hk : ¬ (c.toNat > 1) := by omega
  have h1 : (add64Row #[.int .u64 x, .int .u64 y, .int .u64 c]).run P w =
      (do
        if c.toNat > 1 then unsupported (.noEntry ("extern/math/bits." ++ "Add64" ++ ": a carry that is neither 0 nor 1"))
        pure (Extern.MathBitsCarry.pair ((x.toNat + y.toNat + c.toNat) % Extern.MathBitsCarry.m64) ((x.toNat + y.toNat + c.toNat) / Extern.MathBitsCarry.m64)) : Sem Value).run P w := by
    show (do
        let z ← (do
          if c.toNat > 1 then unsupported (.noEntry ("extern/math/bits." ++ "Add64" ++ ": a carry that is neither 0 nor 1"))
          pure (x.toNat, y.toNat, c.toNat) : Sem (Nat × Nat × Nat))
        pure (let (x, y, c) := z; Extern.MathBitsCarry.pair ((x + y + c) % Extern.MathBitsCarry.m64) ((x + y + c) / Extern.MathBitsCarry.m64)) : Sem Value).run P w = _
    rw [if_neg hk, if_neg hk]
    rfl
  rw [h1, if_neg hk]
  rfl
theorem run_sub64Row {P : Program} (x y c : Int) (hc : c ≤ 1) (w : World) :
    (sub64Row #[.int .u64 x, .int .u64 y, .int .u64 c]).run P w = .ok (.tuple #[.int .u64 (subS x y c), .int .u64 (subC x y c)]) w := by
  have hk : ¬ (c.toNat > 1) := by omega
  have h1 : (sub64Row #[.int .u64 x, .int .u64 y, .int .u64 c]).run P w =
      (do
        if c.toNat > 1 then unsupported (.noEntry ("extern/math/bits." ++ "Sub64" ++ ": a carry that is neither 0 nor 1"))
        pure (Extern.MathBitsCarry.pair ((x.toNat + Extern.MathBitsCarry.m64 - y.toNat - c.toNat) % Extern.MathBitsCarry.m64) (if x.toNat < y.toNat + c.toNat then 1 else 0)) : Sem Value).run P w := by
    show (do
        let z ← (do
          if c.toNat > 1 then unsupported (.noEntry ("extern/math/bits." ++ "Sub64" ++ ": a carry that is neither 0 nor 1"))
          pure (x.toNat, y.toNat, c.toNat) : Sem (Nat × Nat × Nat))
        pure (let (x, y, c) := z; Extern.MathBitsCarry.pair ((x + Extern.MathBitsCarry.m64 - y - c) % Extern.MathBitsCarry.m64) (if x < y + c then 1 else 0)) : Sem Value).run P w = _
    rw [if_neg hk, if_neg hk]
    rfl
  rw [h1, if_neg hk]
  rfl

theorem add64_run (x y c : Int) (hc : c ≤ 1) (w : World) : (callFunc 99 #[.int .u64 x, .int .u64 y, .int .u64 c]).run Tryz.prog w =
    .ok (.value (.tuple #[.int .u64 (addS x y c), .int .u64 (addC x y c)])) w := by
  rw [run_callFunc_extern Tryz.func99 (by kernel_rfl) (by kernel_rfl) (by kernel_rfl) (e := add64Row) (by kernel_rfl), run_add64Row x y c hc]
  rfl
theorem sub64_run (x y c : Int) (hc : c ≤ 1) (w : World) : (callFunc 128 #[.int .u64 x, .int .u64 y, .int .u64 c]).run Tryz.prog w =
    .ok (.value (.tuple #[.int .u64 (subS x y c), .int .u64 (subC x y c)])) w := by
  rw [run_callFunc_extern Tryz.func128 (by kernel_rfl) (by kernel_rfl) (by kernel_rfl) (e := sub64Row) (by kernel_rfl), run_sub64Row x y c hc]
  rfl

open Go.Proofs.YtknekneicecgiaaGreatDoorW.PrintWords
/-- bits.Len64, by the shelf's contract. -/
def bits_Len64.f (x : Int) : Option Int := if 0 ≤ x ∧ x ≤ 18446744073709551615 then some (Lib.bitLen x.toNat : Int) else none
theorem bits_Len64.calls (x : Int) (r : Int) (w : World) (h : bits_Len64.f x = some r) :
    Calls Tryz.prog 98 #[.int .u64 x] w fun e w' => e = .returned (.int .i64 r) ∧ Drawn0 w w' := by
  unfold bits_Len64.f at h
  split at h
  · rename_i h0
    obtain rfl := Option.some.inj h
    refine (Tryz.bits_Len64 x w h0.1 h0.2).mono ?_
    rintro e w' ⟨rfl, rfl⟩
    exact ⟨rfl, Drawn0.refl _⟩
  · cases h
/-- bits.LeadingZeros64, by the shelf's contract. -/
def bits_LeadingZeros64.f (x : Int) : Option Int := if 0 ≤ x ∧ x ≤ 18446744073709551615 then some (64 - (Lib.bitLen x.toNat : Int)) else none
theorem bits_LeadingZeros64.calls (x : Int) (r : Int) (w : World) (h : bits_LeadingZeros64.f x = some r) :
    Calls Tryz.prog 138 #[.int .u64 x] w fun e w' => e = .returned (.int .i64 r) ∧ Drawn0 w w' := by
  unfold bits_LeadingZeros64.f at h
  split at h
  · rename_i h0
    obtain rfl := Option.some.inj h
    refine (Tryz.bits_LeadingZeros64 x w h0.1 h0.2).mono ?_
    rintro e w' ⟨rfl, rfl⟩
    exact ⟨rfl, Drawn0.refl _⟩
  · cases h
/-- bits.Mul64, by the shelf's contract. -/
def bits_Mul64.f (x y : Int) : Option (Int × Int) := if (0 ≤ x ∧ x ≤ 18446744073709551615) ∧ 0 ≤ y ∧ y ≤ 18446744073709551615 then some (((x.toNat * y.toNat / 18446744073709551616 : Nat) : Int), ((x.toNat * y.toNat % 18446744073709551616 : Nat) : Int)) else none
theorem bits_Mul64.calls (x y : Int) (r1 r2 : Int) (w : World) (h : bits_Mul64.f x y = some (r1, r2)) :
    Calls Tryz.prog 97 #[.int .u64 x, .int .u64 y] w fun e w' => e = .returned (.tuple #[.int .u64 r1, .int .u64 r2]) ∧ Drawn0 w w' := by
  unfold bits_Mul64.f at h
  split at h
  · rename_i h0
    obtain ⟨⟨a0, a1⟩, b0, b1⟩ := h0
    obtain ⟨x, rfl⟩ := Int.eq_ofNat_of_zero_le a0
    obtain ⟨y, rfl⟩ := Int.eq_ofNat_of_zero_le b0
    have h := Option.some.inj h
    simp only [Int.toNat_natCast, Prod.mk.injEq] at h
    obtain ⟨rfl, rfl⟩ := h
    refine (Tryz.bits_Mul64 x y (by omega) (by omega) w).mono ?_
    rintro e w' ⟨rfl, rfl⟩
    exact ⟨rfl, Drawn0.refl _⟩
  · cases h
end Go.Proofs.YtknekneicecgiaaGreatDoor.MB
namespace Go.Proofs.YtknekneicecgiaaGreatDoor.MB
open Go.RowKit Go.Proofs.YtknekneicecgiaaGreatDoorW.PrintWords
/-- The methods' words. -/
def mths : List ByteArray := [⟨#[115, 105, 98, 115, 111, 110]⟩, ⟨#[108, 97, 112, 108, 97, 99, 101]⟩, ⟨#[116, 105, 110]⟩]
/-- The cell of bytealg.MaxLen holds some int; the methods' table holds their words. -/
def TabW (w : World) : Prop := (∃ m, w.cell? ⟨2, 0, none⟩ = some (.int .i64 m)) ∧ 2 < w.heap.size ∧ ∀ i x, mths[i]? = some x → w.cell? ⟨0, i, none⟩ = some (.string x)
theorem tab_below {w w' : World} (h : TabW w) (hb : Below w.heap.size w w') : TabW w' := by
  obtain ⟨⟨m, hm⟩, h0, hs⟩ := h
  exact ⟨⟨m, (hb.cell h0).trans hm⟩, Nat.lt_of_lt_of_le h0 hb.size, fun i x hi => (hb.cell (p := ⟨0, i, none⟩) (by show 0 < w.heap.size; omega)).trans (hs i x hi)⟩
/-- Its blocks stay. -/
theorem tab_move {w w1 : World} (h : TabW w) (hs : w.heap.size ≤ w1.heap.size) (hb : w1.heap[2]? = w.heap[2]?) (hb0 : w1.heap[0]? = w.heap[0]?) : TabW w1 := by
  obtain ⟨⟨m, hm⟩, h0, h1⟩ := h
  refine ⟨⟨m, ?_⟩, Nat.lt_of_lt_of_le h0 hs, fun i x hi => ?_⟩
  · rw [← hm]
    unfold World.cell?
    simp only [hb]
  · rw [← h1 i x hi]
    unfold World.cell?
    simp only [hb0]
def strings_HasPrefix.f (a b : ByteArray) : Option Bool := some (Lib.hasPrefix a.data.toList b.data.toList)
theorem strings_HasPrefix.calls (a b : ByteArray) (r : Bool) (w : World) (h : strings_HasPrefix.f a b = some r) :
    Calls Tryz.prog 39 #[.string a, .string b] w fun e w' => e = .returned (.bool r) ∧ Drawn0 w w' := by
  obtain rfl := Option.some.inj h
  refine (Tryz.strings_HasPrefix a b w).mono ?_
  rintro e w' ⟨rfl, rfl⟩
  exact ⟨rfl, Drawn0.refl _⟩
def strings_TrimPrefix.f (a b : ByteArray) : Option ByteArray := some ⟨(Lib.trimPrefix a.data.toList b.data.toList).toArray⟩
theorem strings_TrimPrefix.calls (a b r : ByteArray) (w : World) (h : strings_TrimPrefix.f a b = some r) :
    Calls Tryz.prog 135 #[.string a, .string b] w fun e w' => e = .returned (.string r) ∧ Drawn0 w w' := by
  obtain rfl := Option.some.inj h
  refine (Tryz.strings_TrimPrefix a b w).mono ?_
  rintro e w' ⟨rfl, rfl⟩
  exact ⟨rfl, Drawn0.refl _⟩
def strings_Cut.f (a b : ByteArray) : Option (ByteArray × ByteArray × Bool) := if a.size < 4294967281 then some (⟨(Lib.cut a.data.toList b.data.toList).1.toArray⟩, ⟨(Lib.cut a.data.toList b.data.toList).2.1.toArray⟩, (Lib.cut a.data.toList b.data.toList).2.2) else none
theorem strings_Cut.calls (a b r1 r2 : ByteArray) (r3 : Bool) (w : World) (HT0 : TabW w) (h : strings_Cut.f a b = some (r1, r2, r3)) :
    Calls Tryz.prog 42 #[.string a, .string b] w fun e w' => e = .returned (.tuple #[.string r1, .string r2, .bool r3]) ∧ Drawn0 w w' := by
  unfold strings_Cut.f at h
  split at h
  · rename_i hs
    obtain ⟨⟨m, hm⟩, _⟩ := HT0
    have h' := Option.some.inj h
    simp only [Prod.mk.injEq] at h'
    obtain ⟨rfl, rfl, rfl⟩ := h'
    refine (Tryz.strings_Cut a b m w hs hm).mono ?_
    rintro e w' ⟨rfl, n, rfl⟩
    exact ⟨rfl, ⟨n, rfl⟩⟩
  · cases h
def strings_Trim.f (a b : ByteArray) : Option ByteArray := if a.size ≤ 9223372036854775807 ∧ b = ⟨#[48]⟩ then some ⟨(Lib.trimB a.data.toList 48).toArray⟩ else none
theorem strings_Trim.calls (a b r : ByteArray) (w : World) (h : strings_Trim.f a b = some r) :
    Calls Tryz.prog 44 #[.string a, .string b] w fun e w' => e = .returned (.string r) ∧ Drawn0 w w' := by
  unfold strings_Trim.f at h
  split at h
  · rename_i hs
    obtain ⟨hs, rfl⟩ := hs
    obtain rfl := Option.some.inj h
    refine (Tryz.strings_Trim_one a 48 (by decide) w hs).mono ?_
    rintro e w' ⟨rfl, rfl | rfl⟩
    · exact ⟨rfl, Drawn0.refl _⟩
    · exact ⟨rfl, ⟨1, rfl⟩⟩
  · cases h
def strings_TrimLeft.f (a b : ByteArray) : Option ByteArray := if b = ⟨#[48]⟩ then some ⟨(Lib.trimLeftB a.data.toList 48).toArray⟩ else none
theorem strings_TrimLeft.calls (a b r : ByteArray) (w : World) (h : strings_TrimLeft.f a b = some r) :
    Calls Tryz.prog 80 #[.string a, .string b] w fun e w' => e = .returned (.string r) ∧ Drawn0 w w' := by
  unfold strings_TrimLeft.f at h
  split at h
  · rename_i hs
    subst hs
    obtain rfl := Option.some.inj h
    refine (Tryz.strings_TrimLeft_one a 48 (by decide) w).mono ?_
    rintro e w' ⟨rfl, rfl⟩
    exact ⟨rfl, Drawn0.refl _⟩
  · cases h
def strings_Repeat.f (a : ByteArray) (n : Int) : Option ByteArray := if a.size ≤ 100 ∧ 0 ≤ n ∧ n ≤ 1000000 then some ⟨(Lib.repeatL a.data.toList n.toNat).toArray⟩ else none
theorem strings_Repeat.calls (a : ByteArray) (n : Int) (r : ByteArray) (w : World) (h : strings_Repeat.f a n = some r) :
    Calls Tryz.prog 45 #[.string a, .int .i64 n] w fun e w' => e = .returned (.string r) ∧ Below w.heap.size w w' := by
  unfold strings_Repeat.f at h
  split at h
  · rename_i hs
    obtain ⟨hs, h0, h1⟩ := hs
    obtain ⟨c, rfl⟩ := Int.eq_ofNat_of_zero_le h0
    rw [Int.toNat_natCast] at h
    obtain rfl := Option.some.inj h
    have hm : a.size * c ≤ 100 * 1000000 := Nat.mul_le_mul hs (by omega)
    exact Tryz.strings_Repeat a c w (by omega) (by omega)
  · cases h
end Go.Proofs.YtknekneicecgiaaGreatDoor.MB
namespace Go.Proofs.YtknekneicecgiaaGreatDoor.MB
open Go.RowKit Go.Sort Go.Proofs.YtknekneicecgiaaGreatDoorW.PrintWords
set_option linter.unusedVariables false
theorem spot_none {w : World} {a : Addr} {v : Value} (h : w.cell? a = some v) : a.spot = none := by
  unfold World.cell? at h
  split at h
  · split at h
    · cases h
    · rename_i hs
      cases hsp : a.spot with
      | none => rfl
      | some s => rw [hsp] at hs; exact absurd rfl hs
  · cases h
theorem addr_add (b o i : Nat) : (⟨b, o, none⟩ : Addr).add i = ⟨b, o + i, none⟩ := by
  unfold Addr.add
  split
  · rename_i h; subst h; rfl
  · rfl
/-- The cells of a row of scalars that is read. -/
theorem C_cells {α : Type} {enc : α → Value} {h1 : ∀ x, (enc x).oneCell' = true} {w : World} {A : Option Addr} {xs : List α} (h : (Kd.scalar enc h1).C w A xs.length xs) (hn : 0 < xs.length) :
    ∃ b o, A = some ⟨b, o, none⟩ ∧ ∀ j x, xs[j]? = some x → w.cell? ⟨b, o + j, none⟩ = some (enc x) := by
  obtain ⟨_, _, hc⟩ := h
  obtain ⟨ad, e, hc⟩ := hc hn
  have key : ∀ j x, xs[j]? = some x → w.cell? (ad.add j) = some (enc x) := fun j x hj => by
    obtain ⟨c, hl, hr, hcell⟩ := hc j x hj
    have hr : c = [enc x] := hr
    subst hr
    have h2 : w.cell? (ad.add (j * 1 + 0)) = some (enc x) := hcell 0 _ rfl
    rwa [Nat.mul_one, Nat.add_zero] at h2
  have h0 := key 0 _ (List.getElem?_eq_getElem hn)
  have hs : ad.spot = none := spot_none h0
  obtain ⟨b, o, s⟩ := ad
  have hs : s = none := hs
  subst hs
  refine ⟨b, o, e, fun j x hj => ?_⟩
  have := key j x hj
  rwa [addr_add] at this
theorem below_grow {B : Nat} {w0 w : World} (h : Below B w0 w) (hB : B ≤ w.heap.size) (os : Array Obj) : Below B w0 (grow w os) :=
  h.trans ⟨rfl, rfl, rfl, by simp [grow], fun k hk => by simp only [grow]; rw [Array.getElem?_append_left (by omega)]⟩
theorem putRow_other {α : Type} [Inhabited α] (enc : α → Value) (w : World) (q g k : Nat) (d : Array α) (h : k ≠ g) : (putRow enc (Sort.ahead w q) g 0 d).heap[k]? = w.heap[k]? := by
  simp [putRow, mapBlock, Sort.ahead, Array.getElem?_modify, Ne.symm h]
theorem putRow_size {α : Type} [Inhabited α] (enc : α → Value) (w : World) (q g : Nat) (d : Array α) : (putRow enc (Sort.ahead w q) g 0 d).heap.size = w.heap.size := by
  simp [putRow, mapBlock, Sort.ahead]
def strings_Split.f (a b : ByteArray) : Option (List ByteArray) := if a.size < 4294967281 ∧ 1 ≤ b.size then some (Lib.splitB b 0 (Lib.countB a b) a) else none
theorem strings_Split.calls (a b : ByteArray) (r : List ByteArray) (w : World) (HT0 : TabW w) (h : strings_Split.f a b = some r) :
    Calls Tryz.prog 37 #[.string a, .string b] w fun e w' => ∃ v : Value, e = .returned v ∧ Kd.R Kd.string 9 w' w.heap.size (fun _ => True) v r ∧ Below w.heap.size w w' := by
  unfold strings_Split.f at h
  split at h
  · rename_i hs
    obtain ⟨hs, h1⟩ := hs
    obtain ⟨⟨m, hm⟩, _⟩ := HT0
    obtain rfl := Option.some.inj h
    refine (Tryz.strings_Split a b m w hs hm h1).mono ?_
    rintro e w' ⟨rfl, rfl⟩
    have hl := Lib.splitB_all b h1 0 _ a rfl
    have hle := Lib.countB_le b h1 a.size a (Nat.le_refl _)
    refine ⟨_, rfl, Kd.R_of_own (enc := Value.string) ?_ (fun _ _ => trivial), below_alloc (Below.refl _ _) _⟩
    rw [hl]
    refine ⟨by rw [encs_length, hl]; omega, .inr ⟨w.heap.size, _, ((Lib.splitB b 0 (Lib.countB a b) a).map Value.string).toArray, rfl, Nat.le_refl _, ?_, Nat.le_refl _, by unfold maxLen; omega, ?_, ?_⟩⟩
    · exact Array.getElem?_push_size
    · simp [hl]
    · rw [Nat.mul_one, List.take_of_length_le (by simp [hl])]
      simp [encs]
  · cases h
def strings_Join.f (l : List ByteArray) (s : ByteArray) : Option ByteArray := if l.length ≤ 140737488355328 ∧ (Lib.join (l.map (·.data.toList)) s.data.toList).length ≤ 140737488355328 then some ⟨(Lib.join (l.map (·.data.toList)) s.data.toList).toArray⟩ else none
theorem strings_Join.calls (A : Option Addr) (c : Nat) (l : List ByteArray) (s r : ByteArray) (w : World) (hr : Kd.C Kd.string w A l.length l) (hc : l.length ≤ c) (h : strings_Join.f l s = some r) :
    Calls Tryz.prog 35 #[.slice A l.length c, .string s] w fun e w' => e = .returned (.string r) ∧ Below w.heap.size w w' := by
  unfold strings_Join.f at h
  split at h
  · rename_i hs
    obtain rfl := Option.some.inj h
    rcases Nat.eq_zero_or_pos l.length with h0 | h0
    · obtain rfl := List.eq_nil_of_length_eq_zero h0
      refine (Any.strings_Join_none Tryz.lays156 Tryz.Builder_Extra_156 A c s w).mono ?_
      rintro e w' ⟨rfl, rfl⟩
      exact ⟨rfl, Below.refl _ _⟩
    · obtain ⟨b, o, rfl, hcell⟩ := C_cells hr h0
      have hb := World.block_lt_of_cell? _ _ (hcell 0 _ (List.getElem?_eq_getElem h0))
      exact Any.strings_Join Tryz.lays156 Tryz.Builder_Extra_156 b o c l s w hcell hb hs.1 hc hs.2
  · cases h
end Go.Proofs.YtknekneicecgiaaGreatDoor.MB
namespace Go.Proofs.YtknekneicecgiaaGreatDoor.MB
open Go.RowKit Go.Sort Go.Proofs.YtknekneicecgiaaGreatDoorW.PrintWords
set_option linter.unusedVariables false
def slices_Sort.f (l : List Int) : Option (List Int) := if 0 < l.length ∧ l.length < 4611686018427387904 then some (l.mergeSort fun x y => decide (x ≤ y)) else none
theorem slices_Sort.calls (P0_ : Nat → Prop) (u0 : Value) (l r : List Int) (w0 w : World) (hB : Below w0.heap.size w0 w) (ho : Kd.R (Kd.int .i64) 3 w w0.heap.size P0_ u0 l) (h : slices_Sort.f l = some r) :
    Calls Tryz.prog 125 #[u0] w fun e w' => e = .returned (.tuple #[]) ∧ Kd.R (Kd.int .i64) 3 w' w0.heap.size (fun k_ => (P0_ k_ ∨ w.heap.size ≤ k_)) u0 r ∧ Below w0.heap.size w0 w' ∧ Kept w w' (fun k_ => P0_ k_) := by
  unfold slices_Sort.f at h
  split at h
  · rename_i hs
    obtain rfl := Option.some.inj h
    have own : w.ownsRow w0.heap.size 3 1 u0 l.length (l.map (Value.int .i64)) := Kd.own_of_R ho
    have hv : u0 ≠ .slice none 0 0 := fun e => by
      subst e
      rcases own.2 with ⟨_, h0⟩ | ⟨g, cap, cur, e, _⟩
      · omega
      · cases e
    have h0 := ho.1
    obtain ⟨g, cap, rfl, hb, hlt, hn, hm, hl, H⟩ := Lib.holds_of_ownsRow own hv
    have hg : P0_ g := h0 g rfl
    refine (Tryz.slices_Sort_int g 0 cap l w H hlt hs.2).mono ?_
    rintro e w' ⟨rfl, n, os, rfl⟩
    have hy : (l.mergeSort fun x y => decide (x ≤ y)).length = l.length := List.length_mergeSort _
    have own2 := Lib.ownsRow_putRow (q := n) (k := l.length) own hy (Nat.le_refl _)
    rw [← hy, List.take_length] at own2
    generalize (l.mergeSort fun x y => decide (x ≤ y)) = ys at *
    have own3 : (grow (putRow (Value.int .i64) (Sort.ahead w n) g 0 ys.toArray) os).ownsRow w0.heap.size 3 1 (.slice (some ⟨g, 0, none⟩) l.length cap) ys.length (ys.map (Value.int .i64)) := by
      rw [← hy]
      refine own_move own2 (fun k hk => ?_)
      have : g = k := by simpa [Value.ownBlock] using hk
      subst this
      simp only [grow]
      rw [Array.getElem?_append_left (by rw [putRow_size]; omega)]
    refine ⟨rfl, Kd.R_of_own own3 (fun k hk => ?_), below_grow (Lib.below_putRow hB hb) (by rw [putRow_size]; exact hB.size) os, ?_⟩
    · have : g = k := by simpa [Value.ownBlock] using hk
      subst this
      exact .inl hg
    · refine ⟨by simp [grow], fun i hi hni => ?_⟩
      simp only [grow]
      rw [Array.getElem?_append_left (by rw [putRow_size]; omega), putRow_other]
      rintro rfl
      exact hni hg
  · cases h
def slices_Compact.f (l : List Int) : Option (List Int) := if l.length ≤ 9223372036854775807 then some (Lib.compact l) else none
theorem slices_Compact.calls (P0_ : Nat → Prop) (u0 : Value) (l r : List Int) (w0 w : World) (hB : Below w0.heap.size w0 w) (ho : Kd.R (Kd.int .i64) 3 w w0.heap.size P0_ u0 l) (h : slices_Compact.f l = some r) :
    Calls Tryz.prog 126 #[u0] w fun e w' => ∃ v : Value, e = .returned v ∧ Kd.R (Kd.int .i64) 3 w' w0.heap.size (fun k_ => (P0_ k_ ∨ w.heap.size ≤ k_)) v r ∧ Below w0.heap.size w0 w' ∧ Kept w w' (fun k_ => P0_ k_) := by
  unfold slices_Compact.f at h
  split at h
  · rename_i hs
    obtain rfl := Option.some.inj h
    have own : w.ownsRow w0.heap.size 3 1 u0 l.length (l.map (Value.int .i64)) := Kd.own_of_R ho
    by_cases hv : u0 = .slice none 0 0
    · subst hv
      obtain rfl : l = [] := by
        rcases own.2 with ⟨_, h0⟩ | ⟨g, cap, cur, e, _⟩
        · exact List.eq_nil_of_length_eq_zero h0
        · cases e
      refine (Tryz.slices_Compact_int_empty none 0 w).mono ?_
      rintro e w' ⟨rfl, rfl⟩
      exact ⟨_, rfl, Kd.R_mono ho (fun _ hk => .inl hk), hB, Kept.refl _ _⟩
    · have h0 := ho.1
      obtain ⟨g, cap, rfl, hb, hlt, hn, hm, hl, H⟩ := Lib.holds_of_ownsRow own hv
      have hg : P0_ g := h0 g rfl
      refine (Tryz.slices_Compact_int g 0 cap l w H hs hn).mono ?_
      rintro e w' ⟨rfl, q, rfl⟩
      have hcl := Lib.compact_length_le l
      have own2 := Lib.ownsRow_putRow (q := q) (k := (Lib.compact l).length) (ys := Lib.compact l ++ List.replicate (l.length - (Lib.compact l).length) 0) own (by rw [List.length_append, List.length_replicate]; omega) hcl
      rw [List.take_left] at own2
      refine ⟨_, rfl, Kd.R_of_own own2 (fun k hk => ?_), Lib.below_putRow hB hb, ?_⟩
      · have : g = k := by simpa [Value.ownBlock] using hk
        subst this
        exact .inl hg
      · refine ⟨by rw [putRow_size]; exact Nat.le_refl _, fun i hi hni => ?_⟩
        rw [putRow_other]
        rintro rfl
        exact hni hg
  · cases h
end Go.Proofs.YtknekneicecgiaaGreatDoor.MB
