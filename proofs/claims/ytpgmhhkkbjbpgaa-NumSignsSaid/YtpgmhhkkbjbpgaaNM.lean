/- num.Mul, as whole numbers. -/
import Derived.Test.YtpgmhhkkbjbpgaaNN
import Derived.Test.YtpgmhhkkbjbpgaaC6
namespace Go.Proofs.Ytpgmhhkkbjbpgaa.Mg
open Go.RowKit Go.Proofs.YtpgmhhkkbjbpgaaW.PrintWords Go.Proofs.YtpgmhhkkbjbpgaaW.PrintMore Go.Proofs.Ytpgmhhkkbjbpgaa.MB Go.Proofs.Ytpgmhhkkbjbpgaa.M Go.Proofs.Ytpgmhhkkbjbpgaa.MD
theorem nv_mul (m n : Bool) (X Y : Nat) : nv (m != n) (X * Y) = nv m X * nv n Y := by
  cases m <;> cases n <;> simp [nv, Int.neg_mul, Int.mul_neg, Int.neg_neg]
theorem Mul_z {m n : Bool} {a b : List Int} {x y : Int} {k : Nat} (ha : HZ m a x) (hb : HZ n b y) (h : (x * y).natAbs < B ^ 64) (hk : 20000 ≤ k) : num_Mul.f k m a n b = some (zb (x * y), zl (x * y)) := by
  unfold num_Mul.f
  rw [Int.natAbs_mul] at h
  rw [Mul_g ha.has hb.has hk, Option.bind_some, Make_z (Has.nat h (by omega)) hk, Option.bind_some, nv_mul, ha.nv, hb.nv]
end Go.Proofs.Ytpgmhhkkbjbpgaa.Mg
