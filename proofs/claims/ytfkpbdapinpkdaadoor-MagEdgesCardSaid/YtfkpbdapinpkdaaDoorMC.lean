/- math/bits.TrailingZeros64, where its table lies as it is laid. -/
import Derived.Test.YtfkpbdapinpkdaaDoorMB
import Derived.Test.YtfkpbdapinpkdaaDoorWMore
import Derived.Shelf.Spec.TrailingZeros
import Derived.WalkKit
import Derived.Below
namespace Go.Proofs.YtfkpbdapinpkdaaDoor.MB
open Go.RowKit Go.Proofs.YtfkpbdapinpkdaaDoorW.PrintWords
/-- The table of TrailingZeros64 lies in its variable. -/
def TabW (w : World) : Prop := TabAt 0 Lib.deBruijn64tab w ∧ 0 < w.heap.size
theorem tab_cells {w w' : World} (h : TabW w) (hs : w.heap.size ≤ w'.heap.size) (hc : ∀ j, w'.cell? ⟨0, j, none⟩ = w.cell? ⟨0, j, none⟩) : TabW w' :=
  ⟨fun j hj => by rw [hc]; exact h.1 j hj, Nat.lt_of_lt_of_le h.2 hs⟩
theorem tab_below {w w' : World} (h : TabW w) (hb : Below w.heap.size w w') : TabW w' :=
  tab_cells h hb.size fun _ => hb.cell h.2
theorem tab_drawn {w w' : World} (h : TabW w) (hb : Drawn0 w w') : TabW w' := tab_below h hb.below
set_option maxHeartbeats 400000 in
theorem tz64_core (x k idx : Nat) (w : World) (hx0 : ((x : Int) == 0) = false)
    (key : IntKind.u64.wrap (bits BinOp.and IntKind.u64 (x : Int) (IntKind.u64.wrap (-(x : Int))) * 285870213051353865) / 288230376151711744 = (idx : Int))
    (hi : idx < 64) (hk : k < 64) (hcell : w.cell? ⟨0, idx, none⟩ = some (.int .u8 k)) :
    Calls Tryd.prog 43 #[.int .u64 x] w fun e w' => e = .returned (.int .i64 k) ∧ w' = w := by
  go_enter Tryd.func43, Tryd.ntmps43
  go_wp2_with (simp only [key])
  go_ret
  exact ⟨rfl, rfl⟩
theorem tz64_zero (w : World) : Calls Tryd.prog 43 #[.int .u64 0] w fun e w' => e = .returned (.int .i64 64) ∧ w' = w := by
  go_enter Tryd.func43, Tryd.ntmps43
  go_wp2
  go_ret
  exact ⟨rfl, rfl⟩
/-- bits.TrailingZeros64. -/
def bits_TrailingZeros64.f (x : Int) : Option Int := if 0 ≤ x ∧ x ≤ 18446744073709551615 then some (Lib.ctz 64 x.toNat : Int) else none
theorem bits_TrailingZeros64.calls (x : Int) (r : Int) (w : World) (HT0 : TabW w) (h : bits_TrailingZeros64.f x = some r) :
    Calls Tryd.prog 43 #[.int .u64 x] w fun e w' => e = .returned (.int .i64 r) ∧ Drawn0 w w' := by
  unfold bits_TrailingZeros64.f at h
  split at h
  · rename_i h0
    obtain ⟨x, rfl⟩ := Int.eq_ofNat_of_zero_le h0.1
    obtain rfl := Option.some.inj h
    rw [Int.toNat_natCast]
    by_cases hx0 : x = 0
    · subst hx0
      refine (tz64_zero w).mono ?_
      rintro e w' ⟨rfl, rfl⟩
      exact ⟨rfl, Drawn0.refl _⟩
    · obtain ⟨hlow, hk⟩ := Lib.lowest_bit 64 x hx0 (by omega)
      obtain ⟨hi, htab⟩ := Lib.deBruijn64_at _ hk
      have hcell := HT0.1 _ hi
      rw [htab] at hcell
      refine (tz64_core x _ _ w (by simp; omega) (tz64_key x _ (by omega) hx0 hlow) hi hk hcell).mono ?_
      rintro e w' ⟨rfl, rfl⟩
      exact ⟨rfl, Drawn0.refl _⟩
  · cases h
end Go.Proofs.YtfkpbdapinpkdaaDoor.MB
