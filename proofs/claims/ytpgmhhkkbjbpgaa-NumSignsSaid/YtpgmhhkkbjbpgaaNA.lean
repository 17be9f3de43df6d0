/- num.Add, as whole numbers. -/
import Derived.Test.YtpgmhhkkbjbpgaaNN
import Derived.Test.YtpgmhhkkbjbpgaaC4
namespace Go.Proofs.Ytpgmhhkkbjbpgaa.Mg
open Go.RowKit Go.Proofs.YtpgmhhkkbjbpgaaW.PrintWords Go.Proofs.YtpgmhhkkbjbpgaaW.PrintMore Go.Proofs.Ytpgmhhkkbjbpgaa.MB Go.Proofs.Ytpgmhhkkbjbpgaa.M Go.Proofs.Ytpgmhhkkbjbpgaa.MD
set_option linter.unusedVariables false
set_option linter.unusedSimpArgs false

theorem Add_z {m n : Bool} {a b : List Int} {x y : Int} {k : Nat} (ha : HZ m a x) (hb : HZ n b y) (h : (x + y).natAbs < B ^ 64) (hk : 20000 ≤ k) : num_Add.f k m a n b = some (zb (x + y), zl (x + y)) := by
  have e1 := ha.nv
  have e2 := hb.nv
  have l1 := ha.lt
  have l2 := hb.lt
  have h1 := ha.has
  have h2 := hb.has
  generalize hX : x.natAbs = X at *
  generalize hY : y.natAbs = Y at *
  unfold num_Add.f
  by_cases hmn : m = n
  · subst hmn
    have e : nv m (X + Y) = x + y := by rw [← e1, ← e2]; cases m <;> simp [nv] <;> omega
    have hs : X + Y < B ^ 64 := by
      have := nv_abs m (X + Y)
      rw [e] at this
      omega
    rw [if_pos (beq_self_eq_true m), Add_g h1 h2 hk, Option.bind_some, Make_z (Has.nat hs (by omega)) hk, Option.bind_some, e]
  · rw [if_neg (by rw [beq_iff_eq]; exact hmn), Cmp_g h1 h2 hk, Option.bind_some]
    by_cases hc : cmpN X Y ≥ 0
    · have hle : Y ≤ X := by
        rcases cmpN_cases X Y with ⟨q, e⟩ | ⟨q, e⟩ | ⟨q, e⟩ <;> rw [e] at hc <;> omega
      have e : nv m (X - Y) = x + y := by rw [← e1, ← e2]; cases m <;> cases n <;> simp [nv] at hmn ⊢ <;> omega
      have hs : X - Y < B ^ 64 := by omega
      rw [if_pos hc, Sub_g h1 h2 hk, Option.bind_some, Make_z (Has.nat hs (by omega)) hk, Option.bind_some, e]
    · have hle : X < Y := by
        rcases cmpN_cases X Y with ⟨q, e⟩ | ⟨q, e⟩ | ⟨q, e⟩ <;> rw [e] at hc <;> omega
      have e : nv n (Y - X) = x + y := by rw [← e1, ← e2]; cases m <;> cases n <;> simp [nv] at hmn ⊢ <;> omega
      have hs : Y - X < B ^ 64 := by omega
      rw [if_neg hc, Sub_g h2 h1 hk, Option.bind_some, Make_z (Has.nat hs (by omega)) hk, Option.bind_some, e]
end Go.Proofs.Ytpgmhhkkbjbpgaa.Mg
