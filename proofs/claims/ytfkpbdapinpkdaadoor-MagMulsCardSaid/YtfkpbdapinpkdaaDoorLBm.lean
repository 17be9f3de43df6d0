/- mag.Mul at magnitudes of no more than 64 words. -/
import Derived.Test.YtfkpbdapinpkdaaDoorX7
import Derived.Test.YtfkpbdapinpkdaaDoorPM
namespace Go.Proofs.YtfkpbdapinpkdaaDoor.Mg
open Go.Proofs.YtfkpbdapinpkdaaDoor.M
theorem Mul_g {a b : List Int} {x y k : Nat} (ha : Has a x) (hb : Has b y) (hk : 20000 ≤ k) : mag_Mul.f k a b = some (ofNat (x * y)) := by
  have h1 := ha.len; have h2 := hb.len
  have h3 : a.length * (b.length + 2) ≤ 64 * 66 := Nat.mul_le_mul h1 (by omega)
  rw [Mul_f ha.ok hb.ok (le_LEN h1) (le_LEN h2) (by omega), ha.val, hb.val]
end Go.Proofs.YtfkpbdapinpkdaaDoor.Mg
