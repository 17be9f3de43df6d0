/- num.Sub, as whole numbers. -/
import Derived.Test.YtpgmhhkkbjbpgaaNA
import Derived.Test.YtpgmhhkkbjbpgaaC5
namespace Go.Proofs.Ytpgmhhkkbjbpgaa.Mg
open Go.Proofs.Ytpgmhhkkbjbpgaa.M
theorem Sub_z {m n : Bool} {a b : List Int} {x y : Int} {k : Nat} (ha : HZ m a x) (hb : HZ n b y) (h : (x - y).natAbs < B ^ 64) (hk : 20000 ≤ k) : num_Sub.f k m a n b = some (zb (x - y), zl (x - y)) := by
  unfold num_Sub.f
  have l2 := hb.lt
  have hn : HZ (zb (-y)) (zl (-y)) (-y) := HZ.z (m := 64) (by omega) (by omega)
  rw [Neg_z hb hk, Option.bind_some]
  dsimp only
  rw [Add_z ha hn (by rw [← Int.sub_eq_add_neg]; exact h) hk, Option.bind_some, ← Int.sub_eq_add_neg]
end Go.Proofs.Ytpgmhhkkbjbpgaa.Mg
