/- mag.take and mag.give on words that lie within a row of the caller's own: what they leave of the whole row. The copy into a row of the call's own, and one round of mag.Div's loop, as words for its print. -/
import Derived.Test.YtpgmhhkkbjbpgaaX0
import Derived.Below
import Derived.OwnWalk
import Derived.WalkKit
import Derived.KernelRfl
import Derived.RowKit3
import Derived.Deep.LoopGhost
import Derived.Outline
import Derived.Laws.BitsLemmas
import Derived.Test.YtpgmhhkkbjbpgaaWMore
import Derived.Test.YtpgmhhkkbjbpgaaWLast
import Derived.Test.YtpgmhhkkbjbpgaaA4
import Derived.Laws.IdiomCopy
namespace Go.Proofs.Ytpgmhhkkbjbpgaa.MD
open Go.RowKit Go.Proofs.YtpgmhhkkbjbpgaaW.PrintWords Go.Proofs.YtpgmhhkkbjbpgaaW.PrintLast Go.Proofs.YtpgmhhkkbjbpgaaW.PrintMore Go.Proofs.Ytpgmhhkkbjbpgaa.MB
attribute [local go_sem] add64_run sub64_run
set_option linter.unusedVariables false
set_option linter.unusedSimpArgs false

theorem info54 : (Try.prog.info? 54).map (fun i => (i.zero, i.size, i.bytes)) = some (some (.int .u64 0), 1, 8) := by kernel_rfl

/-- The product's higher and lower word. -/
def hiW (x y : Int) : Int := ((x.toNat * y.toNat / 18446744073709551616 : Nat) : Int)
def loW (x y : Int) : Int := ((x.toNat * y.toNat % 18446744073709551616 : Nat) : Int)
theorem mul64_same (x y : Int) (hx0 : 0 ≤ x) (hx : x ≤ 18446744073709551615) (hy0 : 0 ≤ y) (hy : y ≤ 18446744073709551615) (w : World) :
    Calls Try.prog 54 #[.int .u64 x, .int .u64 y] w fun e w' => e = .returned (.tuple #[.int .u64 (hiW x y), .int .u64 (loW x y)]) ∧ w' = w := by
  obtain ⟨x, rfl⟩ := Int.eq_ofNat_of_zero_le hx0
  obtain ⟨y, rfl⟩ := Int.eq_ofNat_of_zero_le hy0
  exact Try.bits_Mul64 x y (by omega) (by omega) w

/-- The rounds of 'take': so many times v is taken from the words from place p on. -/
def takeL (q : Int) : List Int → List Int → Nat → Int → Int → List Int × Int × Int
  | [], us, _, c, b => (us, c, b)
  | x :: v, us, p, c, b => takeL q v (us.set p (subS (us.getD p 0) (addS (loW q x) c 0) b)) (p + 1) (IntKind.u64.wrap (hiW q x + addC (loW q x) c 0)) (subC (us.getD p 0) (addS (loW q x) c 0) b)
/-- 'take', whole: the row behind it, and whether it was too much. -/
def takeF (q : Int) (v us : List Int) (p : Nat) : List Int × Int :=
  ((takeL q v us p 0 0).1.set (p + v.length) (subS ((takeL q v us p 0 0).1.getD (p + v.length) 0) (takeL q v us p 0 0).2.1 (takeL q v us p 0 0).2.2), subC ((takeL q v us p 0 0).1.getD (p + v.length) 0) (takeL q v us p 0 0).2.1 (takeL q v us p 0 0).2.2)
/-- The rounds of 'give': v is given back to the words from place p on. -/
def giveL : List Int → List Int → Nat → Int → List Int × Int
  | [], us, _, c => (us, c)
  | x :: v, us, p, c => giveL v (us.set p (addS (us.getD p 0) x c)) (p + 1) (addC (us.getD p 0) x c)
def giveF (v us : List Int) (p : Nat) : List Int := (giveL v us p 0).1.set (p + v.length) (IntKind.u64.wrap ((giveL v us p 0).1.getD (p + v.length) 0 + (giveL v us p 0).2))

theorem takeL_length (q : Int) : ∀ (v us : List Int) (p : Nat) (c b : Int), (takeL q v us p c b).1.length = us.length
  | [], _, _, _, _ => rfl
  | _ :: v, us, p, c, b => by rw [takeL, takeL_length q v, List.length_set]
theorem giveL_length : ∀ (v us : List Int) (p : Nat) (c : Int), (giveL v us p c).1.length = us.length
  | [], _, _, _ => rfl
  | _ :: v, us, p, c => by rw [giveL, giveL_length v, List.length_set]
theorem subC_le (x y b : Int) : subC x y b ≤ 1 := by unfold subC; split <;> simp
theorem addC_le (x y c : Int) (hx : x < 18446744073709551616) (hy : y < 18446744073709551616) (hc : c ≤ 1) : addC x y c ≤ 1 := by unfold addC; omega

/-- A cell of a row of the call's own, by its place. -/
theorem cell_at {w : World} {base : Nat} {ok : Nat → Prop} {g n cap : Nat} {us : List Int} (h : Kd.R (Kd.int .u64) 54 w base ok (.slice (some ⟨g, 0, none⟩) n cap) us) (i : Nat) (hi : i < us.length) :
    w.cell? ⟨g, i, none⟩ = some (.int .u64 (us.getD i 0)) ∧ w.frozen? ⟨g, i, none⟩ = false := by
  obtain ⟨hn, _⟩ := Kd.R_reads' h
  have := Kd.R_celln (0 : Int) h (i : Int) (by omega) (by omega)
  simpa [rdOf] using this
theorem put_at {w : World} {base : Nat} {ok : Nat → Prop} {g n cap : Nat} {us : List Int} (h : Kd.R (Kd.int .u64) 54 w base ok (.slice (some ⟨g, 0, none⟩) n cap) us) (i : Nat) (x : Int) :
    Kd.R (Kd.int .u64) 54 (w.setCell ⟨g, i, none⟩ (.int .u64 x)) base ok (.slice (some ⟨g, 0, none⟩) n cap) (us.set i x) ∧ w.grownBy (w.setCell ⟨g, i, none⟩ (.int .u64 x)) (some g) := by
  exact Kd.R_putg h (i : Int) x
theorem grown_grown {w w1 w2 : World} {g : Nat} (h : w.grownBy w1 (some g)) (k : w1.grownBy w2 (some g)) : w.grownBy w2 (some g) :=
  ⟨k.os.trans h.os, k.tape.trans h.tape, k.output.trans h.output, Nat.le_trans h.size k.size, fun i hi hne => (k.block i (Nat.lt_of_lt_of_le hi h.size) hne).trans (h.block i hi hne)⟩
theorem grown_self (w : World) (g : Nat) : w.grownBy w (some g) := ⟨rfl, rfl, rfl, Nat.le_refl _, fun _ _ _ => rfl⟩

set_option maxHeartbeats 2000000 in
set_option maxRecDepth 100000 in
theorem take_at (base : Nat) (ok : Nat → Prop) (g cap off : Nat) (us : List Int) (A1 : Option Addr) (c1 : Nat) (v : List Int) (q : Int) (m c0 nu : Nat) (w : World)
    (ho : Kd.R (Kd.int .u64) 54 w base ok (.slice (some ⟨g, 0, none⟩) nu cap) us)
    (hv : Kd.V (Kd.int .u64) 54 w 0 (fun k => k ≠ g) (.slice A1 v.length c1) v)
    (hw : ∀ x ∈ v, 0 ≤ x ∧ x ≤ 18446744073709551615) (hq : 0 ≤ q ∧ q ≤ 18446744073709551615)
    (hm : m = v.length + 1) (hoff : off + m ≤ us.length) (hl : v.length ≤ 9223372036854775806) :
    Calls Try.prog 51 #[.slice (some ⟨g, off, none⟩) m c0, .slice A1 v.length c1, .int .u64 q] w fun e w' =>
      e = .returned (.bool (decide (0 < (takeF q v us off).2))) ∧ Kd.R (Kd.int .u64) 54 w' base ok (.slice (some ⟨g, 0, none⟩) nu cap) (takeF q v us off).1 ∧ w.grownBy w' (some g) := by
  subst hm
  have HO := Aside0.mk ho
  have HV := Aside0.mk hv
  have HW := Aside0.mk hw
  have HQ := Aside0.mk hq
  have HF := Aside0.mk hoff
  clear ho hv hw hq hoff
  go_enter Try.func51, Try.ntmps51
  go_wp2
  go_loopw [7, 8, 17] (fun v7 v8 v17 wr => ∃ (i : Nat) (us1 : List Int) (c b : Int), v7 = .int .u64 c ∧ v8 = .int .u64 b ∧ v17 = .int .i64 (i : Int) ∧ i ≤ v.length ∧ b ≤ 1 ∧ Aside0 (us1.length = us.length ∧ takeL q (v.drop i) us1 (off + i) c b = takeL q v us off 0 0) ∧
      Aside0 (Kd.R (Kd.int .u64) 54 wr base ok (.slice (some ⟨g, 0, none⟩) nu cap) us1) ∧ Aside0 (w.grownBy wr (some g)))
    (fun _ _ v17 _ => v.length - (intOf v17).toNat)
  case atStart => exact ⟨0, us, 0, 0, rfl, rfl, rfl, Nat.zero_le _, by decide, ⟨rfl, rfl⟩, HO, ⟨grown_self _ _⟩⟩
  case round =>
    obtain ⟨i, us1, c, b, rfl, rfl, rfl, hi, hb, HL, HR, HG⟩ := hrel
    by_cases hlt : i < v.length
    · obtain ⟨ad, e1, hx⟩ := Kd.at_int (Kd.V_reads' (Kd.V_grown HV.out HG.out (fun k hk e => hk (by injection e)))).2.2 (i : Int) (by omega) (by omega)
      have HE := Aside0.mk e1
      subst e1
      rw [Int.toNat_natCast] at hx
      obtain ⟨hu, hf⟩ := cell_at HR.out (off + i) (by have := HL.out.1; have := HF.out; omega)
      obtain ⟨x, hxx⟩ : ∃ x : Int, x = rd v (i : Int) := ⟨_, rfl⟩
      rw [← hxx] at hx
      have HX := Aside0.mk hxx
      clear hxx
      obtain ⟨y, hyy⟩ : ∃ y : Int, y = us1.getD (off + i) 0 := ⟨_, rfl⟩
      rw [← hyy] at hu
      have HY := Aside0.mk hyy
      clear hyy
      have hxm : x ∈ v := by
        rw [HX.out]
        simp only [rd, Int.toNat_natCast, List.getD_eq_getElem?_getD, List.getElem?_eq_getElem hlt, Option.getD_some]
        exact List.getElem_mem _
      have HXW := Aside0.mk (HW.out x hxm)
      clear hxm
      have HP := put_at HR.out (off + i) (subS y (addS (loW q x) c 0) b)
      go_wp2_with (first
        | ((with_reducible refine gate_callee (f := 54) rfl ?_); refine goesL_ (some 25) rfl rfl Try.func54 (by kernel_rfl) rfl #[.int .u64 q, .int .u64 x] rfl (by (try simp only [List.map_toArray, List.map_cons, List.map_nil]); first | done | rfl) ?_; (with_reducible refine (mul64_same q x HQ.out.1 HQ.out.2 HXW.out.1 HXW.out.2 _).mono ?_); rintro e w' ⟨rfl, rfl⟩; refine ⟨_, rfl, ?_⟩)
        | ((with_reducible refine gate_store (t := 54) (p := 49) rfl ?_); refine store_event (t := 54) (p := 49) (v := ?vo) (w1 := (wr.setCell ⟨g, off + i, none⟩ (.int .u64 (subS y (addS (loW q x) c 0) b)))) ?hg ?ho ?hn ?hr ?_; (case ho => rfl); (case hg => rfl); (case hn => rfl); (case hr => first | (go_simp; done) | (go_simp; rfl)); intro w2 hw2; have HN := Aside0.mk hw2; clear hw2))
      go_roundw
      case rel =>
        refine ⟨i + 1, us1.set (off + i) (subS y (addS (loW q x) c 0) b), IntKind.u64.wrap (hiW q x + addC (loW q x) c 0), subC y (addS (loW q x) c 0) b, by first | rfl | simp, rfl, by go_num, by omega, subC_le _ _ _, ⟨by rw [List.length_set]; exact HL.out.1, ?_⟩, ⟨by first | exact HP.1 | (rw [HN.out]; exact HP.1)⟩, ⟨by first | exact grown_grown HG.out HP.2 | (rw [HN.out]; exact grown_grown HG.out HP.2)⟩⟩
        rw [← HL.out.2, List.drop_eq_getElem_cons hlt, takeL]
        have e2 : v[i] = x := by rw [HX.out]; simp [rd, List.getD_eq_getElem?_getD, hlt]
        rw [e2, ← HY.out, Nat.add_assoc]
      case measure => simp [intOf]; omega
    · have hie : i = v.length := by omega
      have HIE := Aside0.mk hie
      subst hie
      obtain ⟨hu, hf⟩ := cell_at HR.out (off + v.length) (by have := HL.out.1; have := HF.out; omega)
      obtain ⟨y, hyy⟩ : ∃ y : Int, y = us1.getD (off + v.length) 0 := ⟨_, rfl⟩
      rw [← hyy] at hu
      have HY := Aside0.mk hyy
      clear hyy
      have HP := put_at HR.out (off + v.length) (subS y c b)
      go_wp2_with (first
        | ((with_reducible refine gate_store (t := 54) (p := 65) rfl ?_); refine store_event (t := 54) (p := 65) (v := ?vo2) (w1 := (wr.setCell ⟨g, off + v.length, none⟩ (.int .u64 (subS y c b)))) ?hg ?ho ?hn ?hr ?_; (case ho => rfl); (case hg => rfl); (case hn => rfl); (case hr => first | (go_simp; done) | (go_simp; rfl)); intro w2 hw2; have HN := Aside0.mk hw2; clear hw2))
      go_ret
      have e3 : takeL q v us off 0 0 = (us1, c, b) := by rw [← HL.out.2, List.drop_length]; rfl
      unfold takeF
      rw [e3]
      simp only
      rw [← HY.out]
      exact ⟨by first | rfl | simp, by first | exact HP.1 | (rw [HN.out]; exact HP.1), by first | exact grown_grown HG.out HP.2 | (rw [HN.out]; exact grown_grown HG.out HP.2)⟩

set_option maxHeartbeats 2000000 in
set_option maxRecDepth 100000 in
theorem give_at (base : Nat) (ok : Nat → Prop) (g cap off : Nat) (us : List Int) (A1 : Option Addr) (c1 : Nat) (v : List Int) (m c0 nu : Nat) (w : World)
    (ho : Kd.R (Kd.int .u64) 54 w base ok (.slice (some ⟨g, 0, none⟩) nu cap) us)
    (hv : Kd.V (Kd.int .u64) 54 w 0 (fun k => k ≠ g) (.slice A1 v.length c1) v)
    (hw : ∀ x ∈ v, x < 18446744073709551616) (hq : ∀ x ∈ us, x < 18446744073709551616)
    (hm : m = v.length + 1) (hoff : off + m ≤ us.length) (hl : v.length ≤ 9223372036854775806) :
    Calls Try.prog 52 #[.slice (some ⟨g, off, none⟩) m c0, .slice A1 v.length c1] w fun e w' =>
      e = .returned (.tuple #[]) ∧ Kd.R (Kd.int .u64) 54 w' base ok (.slice (some ⟨g, 0, none⟩) nu cap) (giveF v us off) ∧ w.grownBy w' (some g) := by
  subst hm
  have HO := Aside0.mk ho
  have HV := Aside0.mk hv
  have HW := Aside0.mk hw
  have HQ := Aside0.mk hq
  have HF := Aside0.mk hoff
  clear ho hv hw hq hoff
  go_enter Try.func52, Try.ntmps52
  go_wp2
  go_loopw [4, 9] (fun v4 v9 wr => ∃ (i : Nat) (us1 : List Int) (c : Int), v4 = .int .u64 c ∧ v9 = .int .i64 (i : Int) ∧ i ≤ v.length ∧ c ≤ 1 ∧ Aside0 ((∀ x ∈ us1, x < 18446744073709551616) ∧ us1.length = us.length ∧ giveL (v.drop i) us1 (off + i) c = giveL v us off 0) ∧
      Aside0 (Kd.R (Kd.int .u64) 54 wr base ok (.slice (some ⟨g, 0, none⟩) nu cap) us1) ∧ Aside0 (w.grownBy wr (some g)))
    (fun _ v9 _ => v.length - (intOf v9).toNat)
  case atStart => exact ⟨0, us, 0, rfl, rfl, Nat.zero_le _, by decide, ⟨HQ.out, rfl, rfl⟩, HO, ⟨grown_self _ _⟩⟩
  case round =>
    obtain ⟨i, us1, c, rfl, rfl, hi, hb, HL, HR, HG⟩ := hrel
    by_cases hlt : i < v.length
    · obtain ⟨ad, e1, hx⟩ := Kd.at_int (Kd.V_reads' (Kd.V_grown HV.out HG.out (fun k hk e => hk (by injection e)))).2.2 (i : Int) (by omega) (by omega)
      subst e1
      rw [Int.toNat_natCast] at hx
      have hoi : off + i < us1.length := by have := HL.out.2.1; have := HF.out; omega
      obtain ⟨hu, hf⟩ := cell_at HR.out (off + i) hoi
      obtain ⟨x, hxx⟩ : ∃ x : Int, x = rd v (i : Int) := ⟨_, rfl⟩
      rw [← hxx] at hx
      have HX := Aside0.mk hxx
      clear hxx
      obtain ⟨y, hyy⟩ : ∃ y : Int, y = us1.getD (off + i) 0 := ⟨_, rfl⟩
      rw [← hyy] at hu
      have HY := Aside0.mk hyy
      clear hyy
      have hxm : x ∈ v := by
        rw [HX.out]
        simp only [rd, Int.toNat_natCast, List.getD_eq_getElem?_getD, List.getElem?_eq_getElem hlt, Option.getD_some]
        exact List.getElem_mem _
      have hym : y ∈ us1 := by
        rw [HY.out]
        simp only [List.getD_eq_getElem?_getD, List.getElem?_eq_getElem hoi, Option.getD_some]
        exact List.getElem_mem _
      have HC := Aside0.mk (addC_le y x c (HL.out.1 y hym) (HW.out x hxm) hb)
      have HP := put_at HR.out (off + i) (addS y x c)
      clear hxm hym hoi
      go_wp2_with (first
        | ((with_reducible refine gate_store (t := 54) (p := 26) rfl ?_); refine store_event (t := 54) (p := 26) (v := ?vo) (w1 := (wr.setCell ⟨g, off + i, none⟩ (.int .u64 (addS y x c)))) ?hg ?ho ?hn ?hr ?_; (case ho => rfl); (case hg => rfl); (case hn => rfl); (case hr => first | (go_simp; done) | (go_simp; rfl)); intro w2 hw2; have HN := Aside0.mk hw2; clear hw2))
      go_roundw
      case rel =>
        refine ⟨i + 1, us1.set (off + i) (addS y x c), addC y x c, rfl, by go_num, by omega, HC.out, ⟨?_, by rw [List.length_set]; exact HL.out.2.1, ?_⟩, ⟨by first | exact HP.1 | (rw [HN.out]; exact HP.1)⟩, ⟨by first | exact grown_grown HG.out HP.2 | (rw [HN.out]; exact grown_grown HG.out HP.2)⟩⟩
        · intro z hz
          rcases List.mem_or_eq_of_mem_set hz with h | h
          · exact HL.out.1 z h
          · rw [h]; unfold addS; omega
        · rw [← HL.out.2.2, List.drop_eq_getElem_cons hlt, giveL]
          have e2 : v[i] = x := by rw [HX.out]; simp [rd, List.getD_eq_getElem?_getD, hlt]
          rw [e2, ← HY.out, Nat.add_assoc]
      case measure => simp [intOf]; omega
    · have hie : i = v.length := by omega
      subst hie
      obtain ⟨hu, hf⟩ := cell_at HR.out (off + v.length) (by have := HL.out.2.1; have := HF.out; omega)
      obtain ⟨y, hyy⟩ : ∃ y : Int, y = us1.getD (off + v.length) 0 := ⟨_, rfl⟩
      rw [← hyy] at hu
      have HY := Aside0.mk hyy
      clear hyy
      have HP := put_at HR.out (off + v.length) (IntKind.u64.wrap (y + c))
      go_wp2_with (first
        | ((with_reducible refine gate_store (t := 54) (p := 35) rfl ?_); refine store_event (t := 54) (p := 35) (v := ?vo2) (w1 := (wr.setCell ⟨g, off + v.length, none⟩ (.int .u64 (IntKind.u64.wrap (y + c))))) ?hg ?ho ?hn ?hr ?_; (case ho => rfl); (case hg => rfl); (case hn => rfl); (case hr => first | (go_simp; done) | (go_simp; rfl)); intro w2 hw2; have HN := Aside0.mk hw2; clear hw2))
      have e3 : giveL v us off 0 = (us1, c) := by rw [← HL.out.2.2, List.drop_length]; rfl
      go_end0
      unfold giveF
      rw [e3]
      simp only
      rw [← HY.out]
      exact ⟨by first | rfl | simp, by first | exact HP.1 | (rw [HN.out]; exact HP.1), by first | exact grown_grown HG.out HP.2 | (rw [HN.out]; exact grown_grown HG.out HP.2)⟩
end Go.Proofs.Ytpgmhhkkbjbpgaa.MD
namespace Go.Proofs.Ytpgmhhkkbjbpgaa.MD
open Go.RowKit Go.Proofs.YtpgmhhkkbjbpgaaW.PrintWords Go.Proofs.YtpgmhhkkbjbpgaaW.PrintLast Go.Proofs.YtpgmhhkkbjbpgaaW.PrintMore Go.Proofs.Ytpgmhhkkbjbpgaa.MB Go.Proofs.Ytpgmhhkkbjbpgaa.M
set_option linter.unusedVariables false
set_option linter.unusedSimpArgs false

theorem setCells_row {base : Nat} {ok : Nat → Prop} {g cap n : Nat} : ∀ (ts us : List Int) (o : Nat) (w : World), o + ts.length ≤ us.length → Kd.R (Kd.int .u64) 54 w base ok (.slice (some ⟨g, 0, none⟩) n cap) us →
    Kd.R (Kd.int .u64) 54 (w.setCells g o (nums .u64 ts)) base ok (.slice (some ⟨g, 0, none⟩) n cap) (us.take o ++ ts ++ us.drop (o + ts.length)) ∧ w.grownBy (w.setCells g o (nums .u64 ts)) (some g)
  | [], us, o, w, _, h => by
    refine ⟨?_, grown_self _ _⟩
    have e : us.take o ++ [] ++ us.drop (o + ([] : List Int).length) = us := by simp
    rw [e]
    exact h
  | t :: ts, us, o, w, hl, h => by
    obtain ⟨h1, h2⟩ := put_at h o t
    obtain ⟨h3, h4⟩ := setCells_row ts (us.set o t) (o + 1) _ (by simp at hl ⊢; omega) h1
    have e : (us.set o t).take (o + 1) ++ ts ++ (us.set o t).drop (o + 1 + ts.length) = us.take o ++ (t :: ts) ++ us.drop (o + (t :: ts).length) := by
      have ho : o < us.length := by simp at hl; omega
      rw [List.take_succ_eq_append_getElem (by simpa using ho), List.take_set_of_le (Nat.le_refl _), List.getElem_set_self, List.drop_set_of_lt (by omega)]
      simp [Nat.add_assoc, Nat.add_comm 1]
    rw [e] at h3
    exact ⟨h3, grown_grown h2 h4⟩

/-- 'copy(dst, src)' onto the head of a row of the call's own, which is long enough. -/
theorem copy_own {ops : Array Oper} {rest : List Oper} {o : Oper} {a : Act} {Q : Exit → Act → World → Prop} {W : World} (hgd : o.guard = none) (d s : Operand) (ho : o.op = .call { callee := .builtin .copy, args := #[d, s], argTypes := #[23, 23] })
    {N : Option Tmp} (hN : o.dst = N) (vd : Value) (us : List Int) (hd : a.eval d = vd) (A2 : Option Addr) (c2 : Nat) (ts : List Int) (hs : a.eval s = .slice A2 ts.length c2) {base : Nat} {ok : Nat → Prop}
    (hR : Kd.R (Kd.int .u64) 54 W base ok vd us) (hC : Kd.C (Kd.int .u64) W A2 ts.length ts) (hle : ts.length ≤ us.length)
    (h : ∀ w', Kd.R (Kd.int .u64) 54 w' base ok vd (ts ++ us.drop ts.length) → W.grownBy w' vd.ownBlock → wpList Try.prog ops Q rest (a.put N (goInt ts.length)) w') : wpList Try.prog ops Q (o :: rest) a W := by
  subst hN
  refine wpList_plain hgd fun K hK => ?_
  obtain ⟨i0, hi, hz0, hz1, hz2⟩ := info_parts info54
  have hsz : (Try.prog.info? 54).map (·.size) = some 1 := by rw [hi]; simp [hz1]
  by_cases h0 : ts.length = 0
  · obtain rfl : ts = [] := List.eq_nil_of_length_eq_zero h0
    obtain ⟨A, c, rfl⟩ := Kd.R_slice hR
    have hrun := run_copy_none (P := Try.prog) W 23 23 o.type 54 A A2 us.length c 0 c2 Try.underlying23 hsz (by simp)
    have hk := h W (by simpa using hR) ⟨rfl, rfl, rfl, Nat.le_refl _, fun _ _ _ => rfl⟩
    unfold Oper.wp
    simp only [List.length_nil] at hs
    simp [execOp, ho, resolve, invoke, builtin, hd, hs, hrun, Result.andThen]
    exact hK _ _ (by simpa using hk)
  · obtain ⟨g, cap, e, hb, hlt, cells, hcells⟩ := Kd.R_form hR (by omega)
    subst e
    obtain ⟨ad, hA, _⟩ := Kd.at_int hC 0 (by omega) (by omega)
    subst hA
    have hsrc : ∀ j v, (nums .u64 ts)[j]? = some v → W.cell? (ad.add j) = some v := by
      intro j v hj
      have hjl : j < ts.length := by
        have := (List.getElem?_eq_some_iff.1 hj).1
        simpa [nums] using this
      obtain ⟨ad', e', hc⟩ := Kd.at_int hC (j : Int) (by omega) (by omega)
      obtain rfl : ad = ad' := by injection e'
      rw [Int.toNat_natCast] at hc
      rw [hc, ← hj]
      simp [nums, rd, List.getD_eq_getElem?_getD, hjl]
    have hrun := run_copy_cells (P := Try.prog) W 23 23 o.type 54 g 0 us.length cap ad ts.length c2 (nums .u64 ts) Try.underlying23 hsz (by simp only [nums, List.length_map]; exact (Nat.min_eq_left hle).symm) hsrc
      (fun j hj => by rw [Nat.zero_add, (cell_at hR j (by simp [nums] at hj; omega)).1]; rfl) (fun j hj => by rw [Nat.zero_add]; exact (cell_at hR j (by simp [nums] at hj; omega)).2)
      (fun v hv => by simp [nums] at hv; obtain ⟨x, _, rfl⟩ := hv; rfl)
    obtain ⟨h1, h2⟩ := setCells_row ts us 0 W (by omega) hR
    have hk := h _ (by simpa using h1) h2
    unfold Oper.wp
    simp [execOp, ho, resolve, invoke, builtin, hd, hs, hrun, Result.andThen]
    exact hK _ _ (by simpa [nums] using hk)

/-- The window of a row, read. -/
theorem C_win {w : World} {base : Nat} {ok : Nat → Prop} {g n cap j m : Nat} {us top : List Int} (h : Kd.R (Kd.int .u64) 54 w base ok (.slice (some ⟨g, 0, none⟩) n cap) us) (ht : top = (us.take (j + m)).drop j) (hl : j + m ≤ us.length) :
    Kd.C (Kd.int .u64) w (some ⟨g, j, none⟩) top.length top := by
  obtain ⟨hn, hc, hC⟩ := Kd.R_reads' h
  by_cases hm : m = 0
  · subst hm
    have e : top = [] := by rw [ht]; simp
    subst e
    exact Kd.C_of_reads (d := (0 : Int)) (h1 := fun _ => rfl) ⟨rfl, by simp, fun h0 => absurd h0 (by simp)⟩
  · have := Kd.C_mid (c := cap) (lo := j) (hi := j + m) hC (by omega) hl (by omega)
    rw [if_neg (by omega), ← ht, show Option.map (fun x : Addr => x.add (j * (Kd.int .u64).sz)) (some ⟨g, 0, none⟩) = some ⟨g, j, none⟩ from by
      show some (Addr.add ⟨g, 0, none⟩ (j * 1)) = _
      rw [Nat.mul_one, add_plain]] at this
    exact this
theorem V_len {w : World} {b b' : Nat} {ok : Nat → Prop} {A : Option Addr} {n c : Nat} {xs : List Int} (h : Kd.V (Kd.int .u64) 54 w b ok (.slice A n c) xs) : Kd.V (Kd.int .u64) 54 w b' ok (.slice A xs.length c) xs := by
  have e := (Kd.V_at h).1
  subst e
  exact h
/-- What the copy leaves. -/
def mag_put.f (us ts : List Int) : Option (List Int) := if ts.length ≤ us.length then some (ts ++ us.drop ts.length) else none
theorem mag_put.le {us ts r : List Int} (h : mag_put.f us ts = some r) : ts.length ≤ us.length ∧ r = ts ++ us.drop ts.length := by
  unfold mag_put.f at h
  split at h
  · exact ⟨‹_›, (Option.some.inj h).symm⟩
  · cases h

/-- Are these words? -/
def wordsB (l : List Int) : Bool := l.all fun x => decide (0 ≤ x ∧ x ≤ 18446744073709551615)
theorem wordsB_mem {l : List Int} (h : wordsB l = true) : ∀ x ∈ l, 0 ≤ x ∧ x ≤ 18446744073709551615 := by
  intro x hx
  have := List.all_eq_true.1 h x hx
  simpa using this

/-- One round of the long division: a word is guessed, so many times the divisor is taken, and given back where that was too much. -/
def mag_round.f (k : Nat) (u q v : List Int) (j n : Int) : Option (List Int × List Int) :=
  if (0 ≤ j ∧ j < q.length ∧ j.toNat + (v.length + 1) ≤ u.length ∧ n = v.length ∧ u.length ≤ 17592186044416 ∧ q.length ≤ 17592186044416) ∧ wordsB v = true ∧ wordsB u = true then
    (mag_guess.f k ((u.take (j.toNat + (v.length + 1))).drop j.toNat) v).bind fun g =>
      if (0 ≤ g ∧ g ≤ 18446744073709551615) ∧ wordsB (takeF g v u j.toNat).1 = true then
        if 0 < (takeF g v u j.toNat).2 then some (giveF v (takeF g v u j.toNat).1 j.toNat, (q.set j.toNat g).set j.toNat (IntKind.u64.wrap (g - 1)))
        else some ((takeF g v u j.toNat).1, q.set j.toNat g)
      else none
  else none
theorem mag_round.mono : ∀ u q v j n k, LeO (mag_round.f k u q v j n) (mag_round.f (k + 1) u q v j n) := by
  intro u q v j n k
  unfold mag_round.f
  refine LeO.ite (LeO.bind (mag_guess.mono _ _ _) (fun _ => LeO.refl _)) (LeO.refl _)
theorem mag_round.parts {k : Nat} {u q v : List Int} {j n : Int} {u' q' : List Int} (h : mag_round.f k u q v j n = some (u', q')) :
    ∃ jn : Nat, j = jn ∧ jn < q.length ∧ jn + (v.length + 1) ≤ u.length ∧ u.length ≤ 17592186044416 ∧ q.length ≤ 17592186044416 ∧ Aside0 (n = v.length) ∧ Aside0 (∀ x ∈ v, 0 ≤ x ∧ x ≤ 18446744073709551615) ∧
      ∃ g, Aside0 (mag_guess.f k ((u.take (jn + (v.length + 1))).drop jn) v = some g) ∧ Aside0 (0 ≤ g ∧ g ≤ 18446744073709551615) ∧ Aside0 (∀ x ∈ (takeF g v u jn).1, 0 ≤ x ∧ x ≤ 18446744073709551615) ∧
        ((decide (0 < (takeF g v u jn).2) = true ∧ Aside0 (u' = giveF v (takeF g v u jn).1 jn ∧ q' = (q.set jn g).set jn (IntKind.u64.wrap (g - 1)))) ∨ (decide (0 < (takeF g v u jn).2) = false ∧ Aside0 (u' = (takeF g v u jn).1 ∧ q' = q.set jn g))) := by
  unfold mag_round.f at h
  split at h
  · rename_i h1
    obtain ⟨⟨h1, h2, h3, h4, h5, h6⟩, h7, h8⟩ := h1
    obtain ⟨jn, rfl⟩ := Int.eq_ofNat_of_zero_le h1
    rw [Int.toNat_natCast] at h h3
    obtain ⟨g, hg, h⟩ := Option.bind_eq_some_iff.1 h
    refine ⟨jn, rfl, by omega, h3, h5, h6, ⟨h4⟩, ⟨wordsB_mem h7⟩, g, ⟨hg⟩, ?_⟩
    split at h
    · rename_i h9
      refine ⟨⟨h9.1⟩, ⟨wordsB_mem h9.2⟩, ?_⟩
      split at h
      · rename_i h10
        simp only [Option.some.injEq, Prod.mk.injEq] at h
        exact .inl ⟨decide_eq_true h10, ⟨h.1.symm, h.2.symm⟩⟩
      · rename_i h10
        simp only [Option.some.injEq, Prod.mk.injEq] at h
        exact .inr ⟨decide_eq_false h10, ⟨h.1.symm, h.2.symm⟩⟩
    · cases h
  · cases h
end Go.Proofs.Ytpgmhhkkbjbpgaa.MD
