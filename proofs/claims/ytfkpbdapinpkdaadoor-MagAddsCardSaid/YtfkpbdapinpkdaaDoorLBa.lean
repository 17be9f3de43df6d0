/- mag.Add at magnitudes of no more than 64 words. -/
import Derived.Test.YtfkpbdapinpkdaaDoorX7
import Derived.Test.YtfkpbdapinpkdaaDoorPA
namespace Go.Proofs.YtfkpbdapinpkdaaDoor.Mg
open Go.Proofs.YtfkpbdapinpkdaaDoor.M
theorem Add_g {a b : List Int} {x y k : Nat} (ha : Has a x) (hb : Has b y) (hk : 20000 ≤ k) : mag_Add.f k a b = some (ofNat (x + y)) := by
  have h1 := ha.len; have h2 := hb.len
  rw [Add_f ha.ok hb.ok (le_LEN h1) (le_LEN h2) (by omega), ha.val, hb.val]
end Go.Proofs.YtfkpbdapinpkdaaDoor.Mg
