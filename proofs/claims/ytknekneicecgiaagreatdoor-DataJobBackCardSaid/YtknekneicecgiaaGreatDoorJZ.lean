/- DataJobBack, walked: a job that is printed is read as it was. DataJobBack, in the row's form. -/
import Derived.Test.YtknekneicecgiaaGreatDoorJV
import Derived.Test.YtknekneicecgiaaGreatDoorJQ
import Derived.Test.YtknekneicecgiaaGreatDoorX8
import Derived.Deep.RegionWith
import Derived.RegionTactic
import Derived.Deep.DeepCutAuto
import Derived.Deep.LoopGhost
namespace Go.Proofs.YtknekneicecgiaaGreatDoor.M
open Go.RowKit Go.Lib Go.Proofs Go.Proofs.YtknekneicecgiaaGreatDoorW.PrintWords Go.Proofs.YtknekneicecgiaaGreatDoorW.PrintLast Go.Proofs.YtknekneicecgiaaGreatDoor.MB
open Go.Proofs.YtknekneicecgiaaGreatDoor.Mg (fixZ jn)
open Go.Proofs.YtknekneicecgiaaGreatDoor.Lv
set_option linter.unusedVariables false
set_option linter.unusedSimpArgs false
def andI (x m : Int) : Int := Go.bits .and .i64 x m
theorem andI_rng (x : Int) (m : Nat) (hm : m ≤ 65535) : 0 ≤ andI x (m : Int) ∧ andI x (m : Int) ≤ m := by
  unfold andI
  have h1 : (BitVec.ofInt 64 (m : Int)).toNat = m := by
    rw [BitVec.ofInt_natCast, BitVec.toNat_ofNat]
    omega
  have h2 : (BitVec.ofInt 64 x &&& BitVec.ofInt 64 (m : Int)).toNat ≤ m := by
    rw [BitVec.toNat_and, h1]
    exact Nat.and_le_right
  have h3 : Go.bits .and .i64 x (m : Int) = IntKind.i64.wrap ((BitVec.ofInt 64 x &&& BitVec.ofInt 64 (m : Int)).toNat : Int) := rfl
  generalize (BitVec.ofInt 64 x &&& BitVec.ofInt 64 (m : Int)).toNat = n at h2 h3
  rw [h3, IntKind.wrap_i64]
  omega
theorem wr_in {a : Int} (h0 : -9000000000000000000 ≤ a) (h1 : a ≤ 9000000000000000000) : wrap64 a = a := by unfold wrap64; omega
theorem nat_of {a : Int} {m : Nat} (h0 : 0 ≤ a) (h1 : a ≤ (m : Int)) : ∃ n : Nat, a = (n : Int) ∧ n ≤ m := ⟨a.toNat, by omega, by omega⟩
theorem sum_rng {i n : Nat} (hi : i ≤ 1000) (hn : n ≤ 511) : -2147483648 ≤ (i : Int) * 1000 + (n : Int) ∧ (i : Int) * 1000 + (n : Int) ≤ 2147483648 := by omega
theorem mul_wr {i : Nat} (hi : i ≤ 1000) : wrap64 ((i : Int) * 1000) = (i : Int) * 1000 := wr_in (by omega) (by omega)
theorem sum_wr {a : Int} (h : -2147483648 ≤ a ∧ a ≤ 2147483648) : wrap64 a = a := wr_in (by omega) (by omega)
theorem i_wr {i : Nat} (hi : i ≤ 1000) : wrap64 ((i : Int) + 1) = ((i + 1 : Nat) : Int) := by unfold wrap64; omega
theorem jn_size {K : Nat} (L : List Int) (hK : K ≤ 9) (hr : ∀ z ∈ L, -9223372036854775808 ≤ z ∧ z ≤ 9223372036854775807) (hl : L.length ≤ 40) : (mk (jn 44 (txs K L))).size ≤ 3000 := by
  have h := jn_len 44 60 (txs K L) (txs_size hK hr)
  rw [txs_len] at h
  have h2 : L.length * 61 ≤ 40 * 61 := Nat.mul_le_mul_right _ hl
  show (jn 44 (txs K L)).length ≤ 3000
  omega
theorem g_x (l : Int) : ∃ g : Int, Go.bits .and .i64 l 65535 = g ∧ 0 ≤ g ∧ g ≤ 65535 := ⟨_, rfl, andI_rng l 65535 (by omega)⟩
theorem g_y (l : Int) : ∃ g : Int, wrap64 (-Go.bits .and .i64 l 65535) = g ∧ -65535 ≤ g ∧ g ≤ 0 := by
  obtain ⟨g, h, h0, h1⟩ := g_x l
  exact ⟨-g, by rw [h]; exact wr_in (by omega) (by omega), by omega, by omega⟩
theorem g_c (l : Int) : ∃ g : Int, wrap64 (1 + Go.bits .and .i64 l 255) = g ∧ 1 ≤ g ∧ g ≤ 256 := by
  have h := andI_rng l 255 (by omega)
  have h : 0 ≤ Go.bits .and .i64 l 255 ∧ Go.bits .and .i64 l 255 ≤ 255 := h
  generalize Go.bits .and .i64 l 255 = a at h
  exact ⟨1 + a, wr_in (by omega) (by omega), by omega, by omega⟩
theorem g_n (l : Int) : ∃ c : Nat, wrap64 (1 + Go.bits .and .i64 l 127) = (c : Int) ∧ 0 < c ∧ c < 129 := by
  have h := andI_rng l 127 (by omega)
  have h : 0 ≤ Go.bits .and .i64 l 127 ∧ Go.bits .and .i64 l 127 ≤ 127 := h
  generalize Go.bits .and .i64 l 127 = a at h
  obtain ⟨n, rfl⟩ : ∃ n : Nat, a = (n : Int) := ⟨a.toNat, by omega⟩
  exact ⟨1 + n, (wr_in (by omega) (by omega)).trans (by omega), by omega, by omega⟩
/-- A small number: what an and leaves. -/
theorem and_nat (x : Int) (m : Nat) (hm : m ≤ 65535) : ∃ q : Nat, Go.bits .and .i64 x (m : Int) = (q : Int) ∧ q ≤ m := by
  have h := andI_rng x m hm
  unfold andI at h
  exact ⟨(Go.bits .and .i64 x (m : Int)).toNat, by omega, by omega⟩
/-- What the law holds: the seven numbers' block, the job's block, the levels' row. -/
def JSt (w : World) (b7 : Nat) (l0 l1 l2 l3 l4 l5 l6 : Int) (m s : Int) (v : Value) (gx gy gc gn gm : Int) (xs : List Int) (wr : World) : Prop :=
  Below w.heap.size w wr ∧ wr.heap[w.heap.size]? = some (.cells #[.int .i64 l0, .int .i64 l1, .int .i64 l2, .int .i64 l3, .int .i64 l4, .int .i64 l5, .int .i64 l6] 56 (0, 0)) ∧
    wr.heap[b7]? = some (.cells #[.int .i64 m, .int .i64 s, v, .int .i64 gx, .int .i64 gy, .int .i64 gc, .int .i64 gn, .int .i64 gm] 43 (0, 0)) ∧ wr.ownsRow w.heap.size 3 1 v xs.length (nums .i64 xs) ∧ w.heap.size ≤ b7
theorem JSt.below {w : World} {b7 : Nat} {l0 l1 l2 l3 l4 l5 l6 m s : Int} {v : Value} {gx gy gc gn gm : Int} {xs : List Int} {wr w2 : World} (h : JSt w b7 l0 l1 l2 l3 l4 l5 l6 m s v gx gy gc gn gm xs wr) (hb : Below wr.heap.size wr w2) : JSt w b7 l0 l1 l2 l3 l4 l5 l6 m s v gx gy gc gn gm xs w2 :=
  ⟨h.1.trans (hb.mono h.1.size), blk_below h.2.1 hb, blk_below h.2.2.1 hb, own_move h.2.2.2.1 (fun k hk => hb.block k (h.2.2.2.1.lt k hk).2), h.2.2.2.2⟩
theorem JSt_push {w w4 : World} {b7 g1 N cp1 : Nat} {l0 l1 l2 l3 l4 l5 l6 m s gx gy gc gn gm : Int} {v y : Value} {xs0 : List Value} {ys : List Int} (hN : N = (xs0 ++ [y]).length) (e2 : xs0 ++ [y] = nums .i64 ys)
    (HO : w4.ownsRow w.heap.size 3 1 (.slice (some ⟨g1, 0, none⟩) (xs0 ++ [y]).length cp1) (xs0 ++ [y]).length (xs0 ++ [y])) (HB : Below w.heap.size w w4)
    (HK7 : w4.heap[b7]? = some (.cells #[.int .i64 m, .int .i64 s, v, .int .i64 gx, .int .i64 gy, .int .i64 gc, .int .i64 gn, .int .i64 gm] 43 (0, 0)))
    (HK3 : w4.heap[w.heap.size]? = some (.cells #[.int .i64 l0, .int .i64 l1, .int .i64 l2, .int .i64 l3, .int .i64 l4, .int .i64 l5, .int .i64 l6] 56 (0, 0))) (hb : w.heap.size ≤ b7) :
    JSt w b7 l0 l1 l2 l3 l4 l5 l6 m s (.slice (some ⟨g1, 0, none⟩) N cp1) gx gy gc gn gm ys (w4.setCell ⟨b7, 2, none⟩ (.slice (some ⟨g1, 0, none⟩) N cp1)) := by
  subst hN
  rw [e2] at HO ⊢
  have e3 : (nums .i64 ys).length = ys.length := by simp [nums]
  rw [e3] at HO ⊢
  have hgb : g1 ≠ b7 := fun e => own_ne HO HK7 (by decide) (by rw [e]; rfl)
  have hb37 : w.heap.size ≠ b7 := fun e => by
    rw [e, HK7] at HK3
    injection HK3 with h
    injection h with _ h
    exact absurd h (by decide)
  refine ⟨HB.setCell hb _, (Below.heap_setCell w4 ⟨b7, 2, none⟩ _ _ hb37).trans HK3, blk_set HK7 2 _, own_move HO (fun k hk => Below.heap_setCell w4 ⟨b7, 2, none⟩ _ k (fun e => ?_)), hb⟩
  have h1 : g1 = k := by simpa [Value.ownBlock] using hk
  exact hgb (h1.trans e)
theorem JSt_grid {w wc : World} {b7 : Nat} {l0 l1 l2 l3 l4 l5 l6 m s : Int} {v : Value} {xs : List Int} (h : JSt w b7 l0 l1 l2 l3 l4 l5 l6 m s v 0 0 0 0 0 xs wc) (gx gy gc gn gm : Int) :
    JSt w b7 l0 l1 l2 l3 l4 l5 l6 m s v gx gy gc gn gm xs (((((wc.setCell ⟨b7, 3, none⟩ (.int .i64 gx)).setCell ⟨b7, 4, none⟩ (.int .i64 gy)).setCell ⟨b7, 5, none⟩ (.int .i64 gc)).setCell ⟨b7, 6, none⟩ (.int .i64 gn)).setCell ⟨b7, 7, none⟩ (.int .i64 gm)) := by
  obtain ⟨hB, h3, h7, hO, hb⟩ := h
  have hfar : ∀ k, k ≠ b7 → (((((wc.setCell ⟨b7, 3, none⟩ (.int .i64 gx)).setCell ⟨b7, 4, none⟩ (.int .i64 gy)).setCell ⟨b7, 5, none⟩ (.int .i64 gc)).setCell ⟨b7, 6, none⟩ (.int .i64 gn)).setCell ⟨b7, 7, none⟩ (.int .i64 gm)).heap[k]? = wc.heap[k]? := fun k hk => by
    rw [Below.heap_setCell _ _ _ k hk, Below.heap_setCell _ _ _ k hk, Below.heap_setCell _ _ _ k hk, Below.heap_setCell _ _ _ k hk, Below.heap_setCell _ _ _ k hk]
  have hb37 : w.heap.size ≠ b7 := fun e => by
    rw [e, h7] at h3
    injection h3 with h
    injection h with _ h
    exact absurd h (by decide)
  have g := blk_set h7 3 (.int .i64 gx)
  have g := blk_set g 4 (.int .i64 gy)
  have g := blk_set g 5 (.int .i64 gc)
  have g := blk_set g 6 (.int .i64 gn)
  have g := blk_set g 7 (.int .i64 gm)
  exact ⟨((((hB.setCell hb _).setCell hb _).setCell hb _).setCell hb _).setCell hb _, (hfar _ hb37).trans h3, g, own_move hO (fun k hk => hfar k (fun e => own_ne hO h7 (by decide) (by rw [e] at hk; exact hk.symm))), hb⟩
theorem own_slice {w : World} {base e n : Nat} {v : Value} {xs : List Value} (h : w.ownsRow base e 1 v n xs) : ∃ A c, v = .slice A n c := by
  rcases h.2 with ⟨h0, h1⟩ | ⟨g, cap, _, h0, _⟩
  · rw [h1]
    exact ⟨none, 0, h0⟩
  · exact ⟨_, cap, h0⟩
theorem own_C {w : World} {base n c : Nat} {A : Option Addr} {xs : List Int} (h : w.ownsRow base 3 1 (.slice A n c) xs.length (nums .i64 xs)) (hn : n = xs.length) : Kd.C (Kd.int .i64) w A xs.length xs ∧ xs.length ≤ c := by
  subst hn
  exact ⟨(Kd.R_reads' (ok := fun _ => True) (Kd.R_of_own (enc := Value.int .i64) h (fun _ _ => trivial))).2.2, own_le h⟩
/-- The text read. -/
theorem read_T {z : Int} {K : Nat} {m : Int} {x : ByteArray} {n : Nat} {xs : List Int} {gx gy gc gn gm : Int} {T : ByteArray} (h : JobOk z K m x n xs gx gy gc gn gm T) (w : World) (HT : TabW w) :
    Calls Tryz.prog 13 #[.string T, .int .i64 2, .int .i64 z] w fun en w' => ∃ A c, en = .returned (.tuple #[.agg #[.int .i64 m, .int .i64 (n : Int), .slice A xs.length c, .int .i64 gx, .int .i64 gy, .int .i64 gc, .int .i64 gn, .int .i64 gm], .int .i64 0, .int .i64 0]) ∧ Kd.C (Kd.int .i64) w' A xs.length xs ∧ Below w.heap.size w w' := by
  obtain ⟨⟨sn, b, hs, hck, hd⟩, _⟩ := h
  refine (readjob_ok (jobVF 63000 z) T 2 z _ w b 10 HT (jobVF_ok 63000 z _ _ _ HT.2.1 (by omega)) hd hs hck).mono ?_
  rintro en w' ⟨vl, rfl, hR, hb⟩
  obtain ⟨A, c, rfl⟩ := Kd.R_slice hR
  exact ⟨A, c, rfl, (Kd.R_reads' hR).2.2, hb⟩
/-- The job printed. -/
theorem print_T {z : Int} {K : Nat} {m : Int} {x : ByteArray} {n : Nat} {xs : List Int} {gx gy gc gn gm : Int} {T : ByteArray} (h : JobOk z K m x n xs gx gy gc gn gm T) (w : World) (HT : TabW w) (HP : TabP w) (hm : 0 ≤ m ∧ m ≤ 2) (hx : mths[m.toNat]? = some x) (hxs : x.size ≤ 10) (hn : n < 10) (hK : mn (mx z 0) 9 = (K : Int)) (hK9 : K ≤ 9)
    (hr : ∀ y ∈ xs, 0 ≤ y ∧ y ≤ 40000) (hl : xs.length ≤ 40) (A : Option Addr) (c : Nat) (hC : Kd.C (Kd.int .i64) w A xs.length xs) (hc : xs.length ≤ c) :
    Calls Tryz.prog 19 #[.agg #[.int .i64 m, .int .i64 (n : Int), .slice A xs.length c, .int .i64 gx, .int .i64 gy, .int .i64 gc, .int .i64 gn, .int .i64 gm], .int .i64 2, .int .i64 z] w fun en w' => en = .returned (.string T) ∧ Below w.heap.size w w' := by
  obtain ⟨_, hp, hg, hz⟩ := h
  have hj := jn_size (K := K) xs hK9 (fun y hy => by have := hr y hy; omega) hl
  have hi := it_size (c := n) (by omega)
  refine (data_PrintJob.calls 63000 m x (n : Int) A c xs gx gy gc gn gm 2 z (mk (jn 44 (txs K xs))) (mk (fixZ gx 2)) (mk (fixZ gy 2)) (mk (fixZ gc 2)) w HT HP hm hx (by omega) hC hc (fun _ => Go.Proofs.YtknekneicecgiaaGreatDoor.Lv.Print_f xs (fun y hy => by have := hr y hy; omega) hK hK9 (by omega) (by decide)) hg ⟨by omega, hi, by omega, hz.1, hz.2.1, hz.2.2.1, hz.2.2.2.1, hz.2.2.2.2⟩).mono ?_
  rintro en w' ⟨rfl, hb⟩
  exact ⟨by rw [hp], hb⟩
theorem own_some {w : World} {base e n : Nat} {v : Value} {xs : List Value} (h : w.ownsRow base e 1 v n xs) (hn : 0 < n) : ∃ g cp, v = .slice (some ⟨g, 0, none⟩) n cp := by
  rcases h.2 with ⟨_, h0⟩ | ⟨g, cap, _, h0, _⟩
  · omega
  · exact ⟨g, cap, h0⟩
theorem mths_lit (W : World) {q : Nat} {x : ByteArray} (hx : mths[q]? = some x) : (W.alloc (.cells #[.string ⟨#[115, 105, 98, 115, 111, 110]⟩, .string ⟨#[108, 97, 112, 108, 97, 99, 101]⟩, .string ⟨#[116, 105, 110]⟩] 9)).cell? ⟨W.heap.size, q, none⟩ = some (.string x) := by
  rw [blk_cell (heap_alloc_new W _)]
  have h : (mths.map Value.string)[q]? = some (Value.string x) := by rw [List.getElem?_map, hx]; rfl
  simpa [mths] using h
set_option maxHeartbeats 4000000 in
set_option maxRecDepth 100000 in
theorem isohyetlaw25_DataJobBack.walk (l0 l1 l2 l3 l4 l5 l6 : Int) (A : Option Addr) (cp : Nat) (V : List Int) (z : Int) (w : World) (HT0 : TabW w) (HP0 : TabP w) (hC : Kd.C (Kd.int .i64) w A V.length V) (hcp : V.length ≤ cp) :
    Calls Tryz.prog 7 #[.agg #[.int .i64 l0, .int .i64 l1, .int .i64 l2, .int .i64 l3, .int .i64 l4, .int .i64 l5, .int .i64 l6], .slice A V.length cp, .int .i64 z] w fun e w' => e = .returned (.bool true) ∧ Below w.heap.size w w' := by
  have HT := Aside0.mk HT0
  have HP := Aside0.mk HP0
  have HC := Aside0.mk hC
  have Hcp := Aside0.mk hcp
  have hB0 := Aside0.mk (below_alloc (Below.refl w.heap.size w) (.cells #[.int .i64 l0, .int .i64 l1, .int .i64 l2, .int .i64 l3, .int .i64 l4, .int .i64 l5, .int .i64 l6] 56))
  clear HT0 HP0 hC hcp
  by_cases hV3 : ¬ V.length ≤ 40
  · have hlong : decide ((40 : Int) < (V.length : Int)) = true := by simp; omega
    clear hV3
    go_enter Tryz.func7, Tryz.ntmps7
    go_wp2_with (go_at_call 8; refine (isohyetlaw25_fit.calls true _ (tab_below HT.out hB0.out) rfl rfl).mono ?_; rintro e w1 ⟨rfl, hb1⟩; have HB1 := Aside0.mk (hB0.out.trans (hb1.mono hB0.out.size)); clear hb1)
    go_ret
    exact ⟨rfl, HB1.out⟩
  have hV2 : V.length ≤ 40 := Decidable.not_not.1 hV3
  have hlong : decide ((40 : Int) < (V.length : Int)) = false := by simp; omega
  obtain ⟨q0, e0, r0⟩ : ∃ q : Nat, (Go.bits .and .i64 l0 255).tmod 3 = (q : Int) ∧ q ≤ 2 := by
    obtain ⟨q, h1, h2⟩ := and_nat l0 255 (by omega)
    have h1 : Go.bits .and .i64 l0 255 = (q : Int) := h1
    exact ⟨q % 3, by rw [h1]; rfl, by omega⟩
  obtain ⟨q1, e1, r1⟩ : ∃ q : Nat, (Go.bits .and .i64 l1 255).tmod 10 = (q : Int) ∧ q ≤ 9 := by
    obtain ⟨q, h1, h2⟩ := and_nat l1 255 (by omega)
    have h1 : Go.bits .and .i64 l1 255 = (q : Int) := h1
    exact ⟨q % 10, by rw [h1]; rfl, by omega⟩
  obtain ⟨x, hx⟩ : ∃ x, mths[q0]? = some x := ⟨_, List.getElem?_eq_getElem (show q0 < mths.length from Nat.lt_succ_of_le r0)⟩
  have HN0 := Aside0.mk r0
  have HN1 := Aside0.mk r1
  have HVl := Aside0.mk hV2
  have HX := Aside0.mk hx
  have hsl := fun W => mths_lit W hx
  have hqi : (q0 : Int) < 3 := by omega
  have hxs : x.size ≤ 10 := by
    have h := (meth_word (m := (q0 : Int)) (by omega) (by omega) (by rw [Int.toNat_natCast]; exact hx)).2.2
    exact h
  have its : (itB (q1 : Int)).size ≤ 10 := by
    rw [itB_it (by omega)]
    have := (it_facts (show q1 < 200 by omega)).1
    show (itL q1).length ≤ 10
    omega
  have HXs := Aside0.mk hxs
  have HIs := Aside0.mk its
  have hs1 : (9223372036854775807 < 7 + x.size) = False := eq_false (by omega)
  have hs2 : (9223372036854775807 < 7 + x.size + 7) = False := eq_false (by omega)
  have hs3 : (9223372036854775807 < 7 + x.size + 7 + (itB (q1 : Int)).size) = False := eq_false (by omega)
  have hs4 : (9223372036854775807 < 7 + x.size + 7 + (itB (q1 : Int)).size + 1) = False := eq_false (by omega)
  clear hV2 hV3 r0 r1 hx hxs its
  go_enter Tryz.func7, Tryz.ntmps7
  go_upto_region 6 with (go_at_call 8; refine (isohyetlaw25_fit.calls true _ (tab_below HT.out hB0.out) rfl rfl).mono ?_; rintro e w1 ⟨rfl, hb1⟩; have hg1 := (hb1.block _ (show w.heap.size < _ by simp)).trans (heap_alloc_new w (.cells #[.int .i64 l0, .int .i64 l1, .int .i64 l2, .int .i64 l3, .int .i64 l4, .int .i64 l5, .int .i64 l6] 56)); have x0 : w1.cell? ⟨w.heap.size, 0, none⟩ = some (.int .i64 l0) := blk_cell hg1 0; have x1 : w1.cell? ⟨w.heap.size, 1, none⟩ = some (.int .i64 l1) := blk_cell hg1 1; have HG1 := Aside0.mk hg1; have HB1 := Aside0.mk (hB0.out.trans (hb1.mono hB0.out.size)); clear hg1 hb1)
  obtain ⟨b7, hb7⟩ : ∃ b, b = w1.heap.size := ⟨_, rfl⟩
  have HJ : Aside0 (JSt w b7 l0 l1 l2 l3 l4 l5 l6 q0 q1 (.slice none 0 0) 0 0 0 0 0 [] (w1.alloc (.cells #[.int .i64 q0, .int .i64 q1, .slice none 0 0, .int .i64 0, .int .i64 0, .int .i64 0, .int .i64 0, .int .i64 0] 43))) := ⟨by
    rw [hb7]
    exact ⟨below_alloc HB1.out _, (heap_alloc_old _ _ (blk_lt HG1.out)).trans HG1.out, heap_alloc_new w1 _, own_nil _ _ _ _, HB1.out.size⟩⟩
  rw [← hb7]
  clear hb7 x0 x1 HG1 HB1 hB0
  generalize w1.alloc (.cells #[.int .i64 q0, .int .i64 q1, .slice none 0 0, .int .i64 0, .int .i64 0, .int .i64 0, .int .i64 0, .int .i64 0] 43) = w2 at HJ ⊢
  go_cut [8, 9] (fun v8 v9 wx => v8 = .string ⟨#[]⟩ ∧ v9 = .string (W0 x (itB (q1 : Int))) ∧ Aside0 (JSt w b7 l0 l1 l2 l3 l4 l5 l6 q0 q1 (.slice none 0 0) 0 0 0 0 0 [] wx))
  case first =>
    have c0 : w2.cell? ⟨b7, 0, none⟩ = some (.int .i64 q0) := blk_cell HJ.out.2.2.1 0
    have c1 : w2.cell? ⟨b7, 1, none⟩ = some (.int .i64 q1) := blk_cell HJ.out.2.2.1 1
    have HJd : Aside0 (JSt w b7 l0 l1 l2 l3 l4 l5 l6 q0 q1 (.slice none 0 0) 0 0 0 0 0 [] w2.drew) := ⟨HJ.out.below (below_drew (Below.refl _ _))⟩
    have HPd := Aside0.mk (tabp_below HP.out HJd.out.1)
    have HJa := Aside0.mk (HJ.out.below (below_drew (below_alloc (Below.refl w2.heap.size w2) (.cells #[.string ⟨#[115, 105, 98, 115, 111, 110]⟩, .string ⟨#[108, 97, 112, 108, 97, 99, 101]⟩, .string ⟨#[116, 105, 110]⟩] 9))))
    have HPa := Aside0.mk (tabp_below HP.out HJa.out.1)
    have hsd : (w2.alloc (.cells #[.string ⟨#[115, 105, 98, 115, 111, 110]⟩, .string ⟨#[108, 97, 112, 108, 97, 99, 101]⟩, .string ⟨#[116, 105, 110]⟩] 9)).drew.cell? ⟨w2.heap.size, q0, none⟩ = some (.string x) := hsl w2
    have c0a : (w2.alloc (.cells #[.string ⟨#[115, 105, 98, 115, 111, 110]⟩, .string ⟨#[108, 97, 112, 108, 97, 99, 101]⟩, .string ⟨#[116, 105, 110]⟩] 9)).cell? ⟨b7, 0, none⟩ = some (.int .i64 q0) := blk_cell HJa.out.2.2.1 0
    have c1a : (w2.alloc (.cells #[.string ⟨#[115, 105, 98, 115, 111, 110]⟩, .string ⟨#[108, 97, 112, 108, 97, 99, 101]⟩, .string ⟨#[116, 105, 110]⟩] 9)).cell? ⟨b7, 1, none⟩ = some (.int .i64 q1) := blk_cell HJa.out.2.2.1 1
    go_region_with (first
      | (go_at_call 18; refine (itoa_calls (q1 : Int) _ HPd.out (by omega) (by have := HN1.out; omega)).mono ?_; rintro e w3 ⟨rfl, hb3⟩; have HJ3 := Aside0.mk (HJd.out.below hb3); have HJ4 := Aside0.mk (HJ3.out.below (below_alloc (Below.refl w3.heap.size w3) (.cells #[.string ⟨#[115, 105, 98, 115, 111, 110]⟩, .string ⟨#[108, 97, 112, 108, 97, 99, 101]⟩, .string ⟨#[116, 105, 110]⟩] 9))); have c4 : (w3.alloc (.cells #[.string ⟨#[115, 105, 98, 115, 111, 110]⟩, .string ⟨#[108, 97, 112, 108, 97, 99, 101]⟩, .string ⟨#[116, 105, 110]⟩] 9)).cell? ⟨b7, 0, none⟩ = some (.int .i64 q0) := blk_cell HJ4.out.2.2.1 0; have c3 : w3.cell? ⟨b7, 0, none⟩ = some (.int .i64 q0) := blk_cell HJ3.out.2.2.1 0; clear hb3)
      | (go_at_call 18; refine (itoa_calls (q1 : Int) _ HPa.out (by omega) (by have := HN1.out; omega)).mono ?_; rintro e w3 ⟨rfl, hb3⟩; have HJ3 := Aside0.mk (HJa.out.below hb3); have c3 : w3.cell? ⟨b7, 0, none⟩ = some (.int .i64 q0) := blk_cell HJ3.out.2.2.1 0; have hs3x := (hb3.cell (World.block_lt_of_cell? _ _ hsd)).trans hsd; clear hb3))
    all_goals (go_wp2_with fail)
    all_goals go_meet
    all_goals first | exact ⟨rfl, rfl, HJ3⟩ | exact ⟨rfl, rfl, HJ4⟩
  case rest =>
    obtain ⟨rfl, rfl, HJ0⟩ := hcut
    have HWe : Aside0 (W0 x (itB (q1 : Int)) = mk (ends [lnM x, lnS q1])) := ⟨by rw [itB_it (by have := HN1.out; omega)]; exact W0_eq x q1⟩
    have HWs : Aside0 ((W0 x (itB (q1 : Int))).size ≤ 100) := ⟨by
      have h1 := HXs.out
      have h2 := HIs.out
      unfold W0
      simp only [ByteArray.size_append]
      have e1 : ∀ a b c d e f g : UInt8, (⟨#[a, b, c, d, e, f, g]⟩ : ByteArray).size = 7 := fun _ _ _ _ _ _ _ => rfl
      have e2 : (⟨#[10]⟩ : ByteArray).size = 1 := rfl
      rw [e1, e1, e2]
      omega⟩
    generalize W0 x (itB (q1 : Int)) = W at HWe HWs ⊢
    clear HJ hsl hqi hs1 hs2 hs3 hs4
    obtain ⟨K, hK, hK9⟩ : ∃ K : Nat, mn (mx z 0) 9 = (K : Int) ∧ K ≤ 9 := ⟨(mn (mx z 0) 9).toNat, by unfold mn mx; split <;> split <;> omega, by unfold mn mx; split <;> split <;> omega⟩
    have hand : ∀ n, 0 ≤ Go.bits .and .i64 n 511 ∧ Go.bits .and .i64 n 511 ≤ 511 := fun n => andI_rng n 511 (by omega)
    obtain ⟨hinc, hrng⟩ := lvs_ok hand V 0
    have hlen := lvs_len V 0
    have HGet := Aside0.mk (lvs_get V 0)
    have HAnd := Aside0.mk hand
    generalize lvs 0 V = xs at hinc hrng hlen HGet
    have hrng : ∀ y ∈ xs, 0 ≤ y ∧ y ≤ 40000 := fun y hy => by have := hrng y hy; have := HVl.out; omega
    have HInc := Aside0.mk hinc
    have HRng := Aside0.mk hrng
    have HLen := Aside0.mk hlen
    have HK := Aside0.mk hK
    have HK9 := Aside0.mk hK9
    have hinfo3 : (Tryz.prog.info? 3).map (fun i => (i.zero, i.size, i.bytes)) = some (some (.int .i64 0), 1, 8) := by kernel_rfl
    have HI3 := Aside0.mk hinfo3
    clear hand hinc hrng hlen hK hK9 hinfo3
    go_wp2
    go_loopg [8, 44] V.length (fun gf v8 v44 wr => ∃ (i : Nat) (v : Value), i + gf = V.length ∧ v44 = .int .i64 i ∧ v8 = .string (mk (jn 44 (txs K (xs.take i)))) ∧ Aside0 (JSt w b7 l0 l1 l2 l3 l4 l5 l6 q0 q1 v 0 0 0 0 0 (xs.take i) wr))
    case atStart => exact ⟨0, _, by omega, rfl, rfl, HJ0⟩
    case round =>
      clear HJ0
      obtain ⟨i, v, hig, rfl, rfl, HJ⟩ := hrel
      cases gk with
      | zero =>
        have hin : decide ((i : Int) < (V.length : Int)) = false := by simp; omega
        have HJ1 : Aside0 (JSt w b7 l0 l1 l2 l3 l4 l5 l6 q0 q1 v 0 0 0 0 0 xs wr) := ⟨by have h := HJ.out; rwa [List.take_of_length_le (by have := HLen.out; omega)] at h⟩
        have htx : xs.take i = xs := List.take_of_length_le (by have := HLen.out; omega)
        rw [htx]
        clear htx
        have HJs := Aside0.mk (jn_size (K := K) xs HK9.out (fun y hy => by have := HRng.out y hy; omega) (by have := HLen.out; have := HVl.out; omega))
        go_upto_if 72 with (fail)
        go_cut [9] (fun v9 wx => v9 = .string (mk (ends (linesJ x q1 K xs))) ∧ Aside0 (JSt w b7 l0 l1 l2 l3 l4 l5 l6 q0 q1 v 0 0 0 0 0 xs wx))
        case first =>
          rcases Nat.eq_zero_or_pos V.length with h0 | h0
          · have hpos : decide ((0 : Int) < (V.length : Int)) = false := decide_eq_false (by omega)
            have hposn : decide (0 < V.length) = false := decide_eq_false (by omega)
            have hnp : ¬ 0 < V.length := by omega
            have hx0 : Aside0 (W = mk (ends (linesJ x q1 K xs))) := ⟨by
              have : xs = [] := List.eq_nil_of_length_eq_zero (by have := HLen.out; omega)
              rw [HWe.out, this]
              rfl⟩
            clear h0
            go_wp2_with fail
            go_meet
            exact ⟨by rw [hx0.out], HJ1⟩
          · have hpos : decide ((0 : Int) < (V.length : Int)) = true := decide_eq_true (by omega)
            have hposn : decide (0 < V.length) = true := decide_eq_true (by omega)
            have hnp : 0 < V.length := h0
            have hne : xs ≠ [] := fun e => by have h1 := HLen.out; rw [e] at h1; simp at h1; omega
            have hx0 : Aside0 (W ++ WL (mk (jn 44 (txs K xs))) = mk (ends (linesJ x q1 K xs))) := ⟨by
              rw [HWe.out, WL_eq]
              unfold linesJ
              rw [if_neg hne]⟩
            unfold WL at hx0
            have hs1 : (9223372036854775807 < 7 + (mk (jn 44 (txs K xs))).size) = False := eq_false (by have := HJs.out; omega)
            have hs2 : (9223372036854775807 < 7 + (mk (jn 44 (txs K xs))).size + 1) = False := eq_false (by have := HJs.out; omega)
            have hs3 : (9223372036854775807 < W.size + (7 + (mk (jn 44 (txs K xs))).size + 1)) = False := eq_false (by have := HJs.out; have := HWs.out; omega)
            clear h0 hne
            go_wp2_with fail
            go_meet
            exact ⟨by rw [← hx0.out], HJ1⟩
        case rest =>
          obtain ⟨rfl, HJ3⟩ := hcut
          have hxw := meth_word (m := (q0 : Int)) (by omega) (by have := HN0.out; omega) (by rw [Int.toNat_natCast]; exact HX.out)
          have HLs : Aside0 ((mk (ends (linesJ x q1 K xs))).size ≤ 3000) := ⟨lenJ hxw.2.2 (by have := HN1.out; omega) HK9.out (fun y hy => by have := HRng.out y hy; omega) (by have := HLen.out; have := HVl.out; omega)⟩
          have HOk0 := Aside0.mk (jobOk0 (z := z) (m := (q0 : Int)) (x := x) (n := q1) (K := K) (L := xs) (by omega) (by have := HN0.out; omega) (by rw [Int.toNat_natCast]; exact HX.out) (by have := HN1.out; omega) HK.out HK9.out HInc.out (fun y hy => by have := HRng.out y hy; omega) (by have := HLen.out; have := HVl.out; omega))
          have x2 : wc.cell? ⟨w.heap.size, 2, none⟩ = some (.int .i64 l2) := blk_cell HJ3.out.2.1 2
          clear hxw HJ1 HJ HJs
          go_upto_if 81 with (fail)
          go_cut [9] (fun v9 wx => ∃ (gx gy gc gn gm : Int) (T : ByteArray), v9 = .string T ∧ Aside0 (JSt w b7 l0 l1 l2 l3 l4 l5 l6 q0 q1 v gx gy gc gn gm xs wx ∧ JobOk z K q0 x q1 xs gx gy gc gn gm T))
          case first =>
            rcases Bool.eq_false_or_eq_true (Go.bits .and .i64 l2 1 == 1) with hb | hb
            · have x3 : wc.cell? ⟨w.heap.size, 3, none⟩ = some (.int .i64 l3) := blk_cell HJ3.out.2.1 3
              have x4 : wc.cell? ⟨w.heap.size, 4, none⟩ = some (.int .i64 l4) := blk_cell HJ3.out.2.1 4
              have x5 : wc.cell? ⟨w.heap.size, 5, none⟩ = some (.int .i64 l5) := blk_cell HJ3.out.2.1 5
              have x6 : wc.cell? ⟨w.heap.size, 6, none⟩ = some (.int .i64 l6) := blk_cell HJ3.out.2.1 6
              have y3 : wc.cell? ⟨b7, 3, none⟩ = some (.int .i64 0) := blk_cell HJ3.out.2.2.1 3
              have y4 : wc.cell? ⟨b7, 4, none⟩ = some (.int .i64 0) := blk_cell HJ3.out.2.2.1 4
              have y5 : wc.cell? ⟨b7, 5, none⟩ = some (.int .i64 0) := blk_cell HJ3.out.2.2.1 5
              have y6 : wc.cell? ⟨b7, 6, none⟩ = some (.int .i64 0) := blk_cell HJ3.out.2.2.1 6
              have y7 : wc.cell? ⟨b7, 7, none⟩ = some (.int .i64 0) := blk_cell HJ3.out.2.2.1 7
              have z3 : wc.frozen? ⟨b7, 3, none⟩ = false := blk_frozen HJ3.out.2.2.1 3
              have z4 : wc.frozen? ⟨b7, 4, none⟩ = false := blk_frozen HJ3.out.2.2.1 4
              have z5 : wc.frozen? ⟨b7, 5, none⟩ = false := blk_frozen HJ3.out.2.2.1 5
              have z6 : wc.frozen? ⟨b7, 6, none⟩ = false := blk_frozen HJ3.out.2.2.1 6
              have z7 : wc.frozen? ⟨b7, 7, none⟩ = false := blk_frozen HJ3.out.2.2.1 7
              obtain ⟨gx, ex, rx⟩ := g_x l3
              obtain ⟨gy, ey, ry⟩ := g_y l4
              obtain ⟨gc, ec, rc⟩ := g_c l5
              obtain ⟨c, en, rn⟩ := g_n l6
              obtain ⟨r, em, rm⟩ := g_n (l6 / 128)
              have HOkG := Aside0.mk (jobOkG (z := z) (m := (q0 : Int)) (x := x) (n := q1) (K := K) (L := xs) (by omega) (by have := HN0.out; omega) (by rw [Int.toNat_natCast]; exact HX.out) (by have := HN1.out; omega) HK.out HK9.out HInc.out (fun y hy => by have := HRng.out y hy; omega) (by have := HLen.out; have := HVl.out; omega) rx ry rc rn rm)
              have HCc := Aside0.mk rn
              have HCr := Aside0.mk rm
              have hgx : -2147483648 ≤ gx ∧ gx ≤ 2147483648 := by omega
              have hgy : -2147483648 ≤ gy ∧ gy ≤ 2147483648 := by omega
              have hgc : -2147483648 ≤ gc ∧ gc ≤ 2147483648 := by omega
              have HX1 := Aside0.mk (text2 hgx)
              have HX2 := Aside0.mk (text2 hgy)
              have HX3 := Aside0.mk (text2 hgc)
              have s1 := fx_size hgx
              have s2 := fx_size hgy
              have s3 := fx_size hgc
              have s4 := it_size (c := c) (by omega)
              have s5 := it_size (c := r) (by omega)
              generalize mk (fixZ gx 2) = X at HX1 HOkG s1
              generalize mk (fixZ gy 2) = Y at HX2 HOkG s2
              generalize mk (fixZ gc 2) = C at HX3 HOkG s3
              have HG := Aside0.mk (JSt_grid HJ3.out gx gy gc c r)
              clear rx ry rc rn rm hgx hgy hgc
              go_upto_region 20 with (fail)
              clear x2 x3 x4 x5 x6 y3 y4 y5 y6 y7 z3 z4 z5 z6 z7 ex ey ec en em hb HOk0
              generalize ((((wc.setCell ⟨b7, 3, none⟩ (.int .i64 gx)).setCell ⟨b7, 4, none⟩ (.int .i64 gy)).setCell ⟨b7, 5, none⟩ (.int .i64 gc)).setCell ⟨b7, 6, none⟩ (.int .i64 (c : Int))).setCell ⟨b7, 7, none⟩ (.int .i64 (r : Int)) = w7 at HG ⊢
              have hs0 : (9223372036854775807 < 7 + X.size) = False := eq_false (by have := HLs.out; omega)
              have hs1 : (9223372036854775807 < 7 + X.size + 1) = False := eq_false (by have := HLs.out; omega)
              have hs2 : (9223372036854775807 < 7 + X.size + 1 + Y.size) = False := eq_false (by have := HLs.out; omega)
              have hs3 : (9223372036854775807 < 7 + X.size + 1 + Y.size + 6) = False := eq_false (by have := HLs.out; omega)
              have hs4 : (9223372036854775807 < 7 + X.size + 1 + Y.size + 6 + C.size) = False := eq_false (by have := HLs.out; omega)
              have hs5 : (9223372036854775807 < 7 + X.size + 1 + Y.size + 6 + C.size + 6) = False := eq_false (by have := HLs.out; omega)
              have hs6 : (9223372036854775807 < 7 + X.size + 1 + Y.size + 6 + C.size + 6 + (itB (c : Int)).size) = False := eq_false (by have := HLs.out; omega)
              have hs7 : (9223372036854775807 < 7 + X.size + 1 + Y.size + 6 + C.size + 6 + (itB (c : Int)).size + 1) = False := eq_false (by have := HLs.out; omega)
              have hs8 : (9223372036854775807 < 7 + X.size + 1 + Y.size + 6 + C.size + 6 + (itB (c : Int)).size + 1 + (itB (r : Int)).size) = False := eq_false (by have := HLs.out; omega)
              have hs9 : (9223372036854775807 < 7 + X.size + 1 + Y.size + 6 + C.size + 6 + (itB (c : Int)).size + 1 + (itB (r : Int)).size + 1) = False := eq_false (by have := HLs.out; omega)
              have hs10 : (9223372036854775807 < (mk (ends (linesJ x q1 K xs))).size + (7 + X.size + 1 + Y.size + 6 + C.size + 6 + (itB (c : Int)).size + 1 + (itB (r : Int)).size + 1)) = False := eq_false (by have := HLs.out; omega)
              clear s1 s2 s3 s4 s5
              refine start_ (n := 33) (S := fun w' => w'.cell? ⟨b7, 3, none⟩ = some (.int .i64 gx) ∧ w'.cell? ⟨b7, 4, none⟩ = some (.int .i64 gy) ∧ w'.cell? ⟨b7, 5, none⟩ = some (.int .i64 gc) ∧ w'.cell? ⟨b7, 6, none⟩ = some (.int .i64 (c : Int)) ∧ w'.cell? ⟨b7, 7, none⟩ = some (.int .i64 (r : Int))) (ds := []) #[false, false, false, false, false, false, false, false, false, false, false, false, false, false, false, false, false, false, false, false, false, false, false, false, false, false, false, false, false, false, false, false, false] (by kernel_rfl) rfl rfl ⟨blk_cell HG.out.2.2.1 3, blk_cell HG.out.2.2.1 4, blk_cell HG.out.2.2.1 5, blk_cell HG.out.2.2.1 6, blk_cell HG.out.2.2.1 7⟩ (fun hHeld => ?_)
              have HG0 := Aside0.mk (HG.out.below (below_drew (Below.refl _ _)))
              clear HG
              generalize w7.drew = w77 at HG0 hHeld ⊢
              refine pure_ (i := 0) (N := (some 104)) (v := ?_) (a' := ?_) #[true, false, false, false, false, false, false, false, false, false, false, false, false, false, false, false, false, false, false, false, false, false, false, false, false, false, false, false, false, false, false, false, false] rfl rfl (by kernel_rfl) (fun _ _ _ h => h) (Or.inl ⟨by rfl, ?_⟩) ?_ ?_
              rotate_left
              · intro w'
                go_simp
                with_reducible rfl
              rotate_left
              · simp only [Act.put, List.setIfInBounds_toArray, List.set_cons_zero, List.set_cons_succ, i64_w, i32_w]
                rfl
              refine pure_ (i := 1) (N := (some 105)) (v := ?_) (a' := ?_) #[true, true, false, false, false, false, false, false, false, false, false, false, false, false, false, false, false, false, false, false, false, false, false, false, false, false, false, false, false, false, false, false, false] rfl rfl (by kernel_rfl) (fun _ _ _ h => h) (Or.inl ⟨by rfl, ?_⟩) ?_ ?_
              rotate_left
              · intro w'
                go_simp
                with_reducible rfl
              rotate_left
              · simp only [Act.put, List.setIfInBounds_toArray, List.set_cons_zero, List.set_cons_succ, i64_w, i32_w]
                rfl
              refine pure_ (i := 2) (N := (some 106)) (v := ?_) (a' := ?_) #[true, true, true, false, false, false, false, false, false, false, false, false, false, false, false, false, false, false, false, false, false, false, false, false, false, false, false, false, false, false, false, false, false] rfl rfl (by kernel_rfl) (fun _ _ _ h => h) (Or.inl ⟨by rfl, ?_⟩) ?_ ?_
              rotate_left
              · intro w'
                go_simp
                with_reducible rfl
              rotate_left
              · simp only [Act.put, List.setIfInBounds_toArray, List.set_cons_zero, List.set_cons_succ, i64_w, i32_w]
                rfl
              refine take_ (i := 3) (N := (some 107)) (v := ?_) (a' := ?_) #[true, true, true, true, false, false, false, false, false, false, false, false, false, false, false, false, false, false, false, false, false, false, false, false, false, false, false, false, false, false, false, false, false] rfl rfl (by kernel_rfl) (fun _ _ _ h => h) (Or.inl ⟨by rfl, ?_⟩) hHeld ?_ ?_
              rotate_left
              · rintro w' ⟨s0, s1, s2, s3, s4⟩
                go_simp
                with_reducible rfl
              rotate_left
              · simp only [Act.put, List.setIfInBounds_toArray, List.set_cons_zero, List.set_cons_succ, i64_w, i32_w]
                rfl
              refine pure_ (i := 7) (N := (some 111)) (v := ?_) (a' := ?_) #[true, true, true, true, false, false, false, true, false, false, false, false, false, false, false, false, false, false, false, false, false, false, false, false, false, false, false, false, false, false, false, false, false] rfl rfl (by kernel_rfl) (fun _ _ _ h => h) (Or.inl ⟨by rfl, ?_⟩) ?_ ?_
              rotate_left
              · intro w'
                go_simp
                with_reducible rfl
              rotate_left
              · simp only [Act.put, List.setIfInBounds_toArray, List.set_cons_zero, List.set_cons_succ, i64_w, i32_w]
                rfl
              refine pure_ (i := 8) (N := (some 112)) (v := ?_) (a' := ?_) #[true, true, true, true, false, false, false, true, true, false, false, false, false, false, false, false, false, false, false, false, false, false, false, false, false, false, false, false, false, false, false, false, false] rfl rfl (by kernel_rfl) (fun _ _ _ h => h) (Or.inl ⟨by rfl, ?_⟩) ?_ ?_
              rotate_left
              · intro w'
                go_simp
                with_reducible rfl
              rotate_left
              · simp only [Act.put, List.setIfInBounds_toArray, List.set_cons_zero, List.set_cons_succ, i64_w, i32_w]
                rfl
              refine take_ (i := 9) (N := (some 113)) (v := ?_) (a' := ?_) #[true, true, true, true, false, false, false, true, true, true, false, false, false, false, false, false, false, false, false, false, false, false, false, false, false, false, false, false, false, false, false, false, false] rfl rfl (by kernel_rfl) (fun _ _ _ h => h) (Or.inl ⟨by rfl, ?_⟩) hHeld ?_ ?_
              rotate_left
              · rintro w' ⟨s0, s1, s2, s3, s4⟩
                go_simp
                with_reducible rfl
              rotate_left
              · simp only [Act.put, List.setIfInBounds_toArray, List.set_cons_zero, List.set_cons_succ, i64_w, i32_w]
                rfl
              refine pure_ (i := 13) (N := (some 117)) (v := ?_) (a' := ?_) #[true, true, true, true, false, false, false, true, true, true, false, false, false, true, false, false, false, false, false, false, false, false, false, false, false, false, false, false, false, false, false, false, false] rfl rfl (by kernel_rfl) (fun _ _ _ h => h) (Or.inl ⟨by rfl, ?_⟩) ?_ ?_
              rotate_left
              · intro w'
                go_simp
                with_reducible rfl
              rotate_left
              · simp only [Act.put, List.setIfInBounds_toArray, List.set_cons_zero, List.set_cons_succ, i64_w, i32_w]
                rfl
              refine pure_ (i := 14) (N := (some 118)) (v := ?_) (a' := ?_) #[true, true, true, true, false, false, false, true, true, true, false, false, false, true, true, false, false, false, false, false, false, false, false, false, false, false, false, false, false, false, false, false, false] rfl rfl (by kernel_rfl) (fun _ _ _ h => h) (Or.inl ⟨by rfl, ?_⟩) ?_ ?_
              rotate_left
              · intro w'
                go_simp
                with_reducible rfl
              rotate_left
              · simp only [Act.put, List.setIfInBounds_toArray, List.set_cons_zero, List.set_cons_succ, i64_w, i32_w]
                rfl
              refine take_ (i := 15) (N := (some 119)) (v := ?_) (a' := ?_) #[true, true, true, true, false, false, false, true, true, true, false, false, false, true, true, true, false, false, false, false, false, false, false, false, false, false, false, false, false, false, false, false, false] rfl rfl (by kernel_rfl) (fun _ _ _ h => h) (Or.inl ⟨by rfl, ?_⟩) hHeld ?_ ?_
              rotate_left
              · rintro w' ⟨s0, s1, s2, s3, s4⟩
                go_simp
                with_reducible rfl
              rotate_left
              · simp only [Act.put, List.setIfInBounds_toArray, List.set_cons_zero, List.set_cons_succ, i64_w, i32_w]
                rfl
              refine pure_ (i := 19) (N := (some 123)) (v := ?_) (a' := ?_) #[true, true, true, true, false, false, false, true, true, true, false, false, false, true, true, true, false, false, false, true, false, false, false, false, false, false, false, false, false, false, false, false, false] rfl rfl (by kernel_rfl) (fun _ _ _ h => h) (Or.inl ⟨by rfl, ?_⟩) ?_ ?_
              rotate_left
              · intro w'
                go_simp
                with_reducible rfl
              rotate_left
              · simp only [Act.put, List.setIfInBounds_toArray, List.set_cons_zero, List.set_cons_succ, i64_w, i32_w]
                rfl
              refine pure_ (i := 20) (N := (some 124)) (v := ?_) (a' := ?_) #[true, true, true, true, false, false, false, true, true, true, false, false, false, true, true, true, false, false, false, true, true, false, false, false, false, false, false, false, false, false, false, false, false] rfl rfl (by kernel_rfl) (fun _ _ _ h => h) (Or.inl ⟨by rfl, ?_⟩) ?_ ?_
              rotate_left
              · intro w'
                go_simp
                with_reducible rfl
              rotate_left
              · simp only [Act.put, List.setIfInBounds_toArray, List.set_cons_zero, List.set_cons_succ, i64_w, i32_w]
                rfl
              refine take_ (i := 21) (N := (some 125)) (v := ?_) (a' := ?_) #[true, true, true, true, false, false, false, true, true, true, false, false, false, true, true, true, false, false, false, true, true, true, false, false, false, false, false, false, false, false, false, false, false] rfl rfl (by kernel_rfl) (fun _ _ _ h => h) (Or.inl ⟨by rfl, ?_⟩) hHeld ?_ ?_
              rotate_left
              · rintro w' ⟨s0, s1, s2, s3, s4⟩
                go_simp
                with_reducible rfl
              rotate_left
              · simp only [Act.put, List.setIfInBounds_toArray, List.set_cons_zero, List.set_cons_succ, i64_w, i32_w]
                rfl
              refine pure_ (i := 25) (N := (some 129)) (v := ?_) (a' := ?_) #[true, true, true, true, false, false, false, true, true, true, false, false, false, true, true, true, false, false, false, true, true, true, false, false, false, true, false, false, false, false, false, false, false] rfl rfl (by kernel_rfl) (fun _ _ _ h => h) (Or.inl ⟨by rfl, ?_⟩) ?_ ?_
              rotate_left
              · intro w'
                go_simp
                with_reducible rfl
              rotate_left
              · simp only [Act.put, List.setIfInBounds_toArray, List.set_cons_zero, List.set_cons_succ, i64_w, i32_w]
                rfl
              refine pure_ (i := 26) (N := (some 130)) (v := ?_) (a' := ?_) #[true, true, true, true, false, false, false, true, true, true, false, false, false, true, true, true, false, false, false, true, true, true, false, false, false, true, true, false, false, false, false, false, false] rfl rfl (by kernel_rfl) (fun _ _ _ h => h) (Or.inl ⟨by rfl, ?_⟩) ?_ ?_
              rotate_left
              · intro w'
                go_simp
                with_reducible rfl
              rotate_left
              · simp only [Act.put, List.setIfInBounds_toArray, List.set_cons_zero, List.set_cons_succ, i64_w, i32_w]
                rfl
              refine take_ (i := 27) (N := (some 131)) (v := ?_) (a' := ?_) #[true, true, true, true, false, false, false, true, true, true, false, false, false, true, true, true, false, false, false, true, true, true, false, false, false, true, true, true, false, false, false, false, false] rfl rfl (by kernel_rfl) (fun _ _ _ h => h) (Or.inl ⟨by rfl, ?_⟩) hHeld ?_ ?_
              rotate_left
              · rintro w' ⟨s0, s1, s2, s3, s4⟩
                go_simp
                with_reducible rfl
              rotate_left
              · simp only [Act.put, List.setIfInBounds_toArray, List.set_cons_zero, List.set_cons_succ, i64_w, i32_w]
                rfl
              refine one_ (i := 4) (N := (some 108)) #[true, true, true, true, true, false, false, true, true, true, false, false, false, true, true, true, false, false, false, true, true, true, false, false, false, true, true, true, false, false, false, false, false] rfl rfl (by kernel_rfl) (by decide) (fun K hK => ?_)
              refine goes_ Tryz.func14 (by kernel_rfl) rfl #[.int .i64 gx, .int .i64 2] (by rfl) rfl rfl (by (try simp only [List.map_toArray, List.map_cons, List.map_nil]); first | done | rfl) ?_
              refine (deci_Text.calls 63000 gx 2 X _ HX1.out).mono ?_
              rintro e w8 ⟨rfl, hb⟩
              refine ⟨_, rfl, ?_⟩
              have HG1 := Aside0.mk (HG0.out.below hb)
              clear hb
              refine hK.out _ _ ⟨blk_cell HG1.out.2.2.1 3, blk_cell HG1.out.2.2.1 4, blk_cell HG1.out.2.2.1 5, blk_cell HG1.out.2.2.1 6, blk_cell HG1.out.2.2.1 7⟩ (fun hHeld => ?_)
              clear hK K
              refine pure_ (i := 5) (N := (some 109)) (v := ?_) (a' := ?_) #[true, true, true, true, true, true, false, true, true, true, false, false, false, true, true, true, false, false, false, true, true, true, false, false, false, true, true, true, false, false, false, false, false] rfl rfl (by kernel_rfl) (fun _ _ _ h => h) (Or.inl ⟨by rfl, ?_⟩) ?_ ?_
              rotate_left
              · intro w'
                go_simp
                with_reducible rfl
              rotate_left
              · simp only [Act.put, List.setIfInBounds_toArray, List.set_cons_zero, List.set_cons_succ, i64_w, i32_w]
                rfl
              refine pure_ (i := 6) (N := (some 110)) (v := ?_) (a' := ?_) #[true, true, true, true, true, true, true, true, true, true, false, false, false, true, true, true, false, false, false, true, true, true, false, false, false, true, true, true, false, false, false, false, false] rfl rfl (by kernel_rfl) (fun _ _ _ h => h) (Or.inl ⟨by rfl, ?_⟩) ?_ ?_
              rotate_left
              · intro w'
                go_simp
                with_reducible rfl
              rotate_left
              · simp only [Act.put, List.setIfInBounds_toArray, List.set_cons_zero, List.set_cons_succ, i64_w, i32_w]
                rfl
              refine one_ (i := 10) (N := (some 114)) #[true, true, true, true, true, true, true, true, true, true, true, false, false, true, true, true, false, false, false, true, true, true, false, false, false, true, true, true, false, false, false, false, false] rfl rfl (by kernel_rfl) (by decide) (fun K hK => ?_)
              refine goes_ Tryz.func14 (by kernel_rfl) rfl #[.int .i64 gy, .int .i64 2] (by rfl) rfl rfl (by (try simp only [List.map_toArray, List.map_cons, List.map_nil]); first | done | rfl) ?_
              refine (deci_Text.calls 63000 gy 2 Y _ HX2.out).mono ?_
              rintro e w9 ⟨rfl, hb⟩
              refine ⟨_, rfl, ?_⟩
              have HG2 := Aside0.mk (HG1.out.below hb)
              clear hb
              refine hK.out _ _ ⟨blk_cell HG2.out.2.2.1 3, blk_cell HG2.out.2.2.1 4, blk_cell HG2.out.2.2.1 5, blk_cell HG2.out.2.2.1 6, blk_cell HG2.out.2.2.1 7⟩ (fun hHeld => ?_)
              clear hK K
              refine pure_ (i := 11) (N := (some 115)) (v := ?_) (a' := ?_) #[true, true, true, true, true, true, true, true, true, true, true, true, false, true, true, true, false, false, false, true, true, true, false, false, false, true, true, true, false, false, false, false, false] rfl rfl (by kernel_rfl) (fun _ _ _ h => h) (Or.inl ⟨by rfl, ?_⟩) ?_ ?_
              rotate_left
              · intro w'
                go_simp
                with_reducible rfl
              rotate_left
              · simp only [Act.put, List.setIfInBounds_toArray, List.set_cons_zero, List.set_cons_succ, i64_w, i32_w]
                rfl
              refine pure_ (i := 12) (N := (some 116)) (v := ?_) (a' := ?_) #[true, true, true, true, true, true, true, true, true, true, true, true, true, true, true, true, false, false, false, true, true, true, false, false, false, true, true, true, false, false, false, false, false] rfl rfl (by kernel_rfl) (fun _ _ _ h => h) (Or.inl ⟨by rfl, ?_⟩) ?_ ?_
              rotate_left
              · intro w'
                go_simp
                with_reducible rfl
              rotate_left
              · simp only [Act.put, List.setIfInBounds_toArray, List.set_cons_zero, List.set_cons_succ, i64_w, i32_w]
                rfl
              refine one_ (i := 16) (N := (some 120)) #[true, true, true, true, true, true, true, true, true, true, true, true, true, true, true, true, true, false, false, true, true, true, false, false, false, true, true, true, false, false, false, false, false] rfl rfl (by kernel_rfl) (by decide) (fun K hK => ?_)
              refine goes_ Tryz.func14 (by kernel_rfl) rfl #[.int .i64 gc, .int .i64 2] (by rfl) rfl rfl (by (try simp only [List.map_toArray, List.map_cons, List.map_nil]); first | done | rfl) ?_
              refine (deci_Text.calls 63000 gc 2 C _ HX3.out).mono ?_
              rintro e w10 ⟨rfl, hb⟩
              refine ⟨_, rfl, ?_⟩
              have HG3 := Aside0.mk (HG2.out.below hb)
              clear hb
              refine hK.out _ _ ⟨blk_cell HG3.out.2.2.1 3, blk_cell HG3.out.2.2.1 4, blk_cell HG3.out.2.2.1 5, blk_cell HG3.out.2.2.1 6, blk_cell HG3.out.2.2.1 7⟩ (fun hHeld => ?_)
              clear hK K
              refine pure_ (i := 17) (N := (some 121)) (v := ?_) (a' := ?_) #[true, true, true, true, true, true, true, true, true, true, true, true, true, true, true, true, true, true, false, true, true, true, false, false, false, true, true, true, false, false, false, false, false] rfl rfl (by kernel_rfl) (fun _ _ _ h => h) (Or.inl ⟨by rfl, ?_⟩) ?_ ?_
              rotate_left
              · intro w'
                go_simp
                with_reducible rfl
              rotate_left
              · simp only [Act.put, List.setIfInBounds_toArray, List.set_cons_zero, List.set_cons_succ, i64_w, i32_w]
                rfl
              refine pure_ (i := 18) (N := (some 122)) (v := ?_) (a' := ?_) #[true, true, true, true, true, true, true, true, true, true, true, true, true, true, true, true, true, true, true, true, true, true, false, false, false, true, true, true, false, false, false, false, false] rfl rfl (by kernel_rfl) (fun _ _ _ h => h) (Or.inl ⟨by rfl, ?_⟩) ?_ ?_
              rotate_left
              · intro w'
                go_simp
                with_reducible rfl
              rotate_left
              · simp only [Act.put, List.setIfInBounds_toArray, List.set_cons_zero, List.set_cons_succ, i64_w, i32_w]
                rfl
              refine one_ (i := 22) (N := (some 126)) #[true, true, true, true, true, true, true, true, true, true, true, true, true, true, true, true, true, true, true, true, true, true, true, false, false, true, true, true, false, false, false, false, false] rfl rfl (by kernel_rfl) (by decide) (fun K hK => ?_)
              refine goes_ Tryz.func18 (by kernel_rfl) rfl #[.int .i64 (c : Int)] (by rfl) rfl rfl (by (try simp only [List.map_toArray, List.map_cons, List.map_nil]); first | done | rfl) ?_
              refine (itoa_calls (c : Int) _ (tabp_below HP.out HG3.out.1) (by omega) (by have := HCc.out; omega)).mono ?_
              rintro e w11 ⟨rfl, hb⟩
              refine ⟨_, rfl, ?_⟩
              have HG4 := Aside0.mk (HG3.out.below hb)
              clear hb
              refine hK.out _ _ ⟨blk_cell HG4.out.2.2.1 3, blk_cell HG4.out.2.2.1 4, blk_cell HG4.out.2.2.1 5, blk_cell HG4.out.2.2.1 6, blk_cell HG4.out.2.2.1 7⟩ (fun hHeld => ?_)
              clear hK K
              refine pure_ (i := 23) (N := (some 127)) (v := ?_) (a' := ?_) #[true, true, true, true, true, true, true, true, true, true, true, true, true, true, true, true, true, true, true, true, true, true, true, true, false, true, true, true, false, false, false, false, false] rfl rfl (by kernel_rfl) (fun _ _ _ h => h) (Or.inl ⟨by rfl, ?_⟩) ?_ ?_
              rotate_left
              · intro w'
                go_simp
                with_reducible rfl
              rotate_left
              · simp only [Act.put, List.setIfInBounds_toArray, List.set_cons_zero, List.set_cons_succ, i64_w, i32_w]
                rfl
              refine pure_ (i := 24) (N := (some 128)) (v := ?_) (a' := ?_) #[true, true, true, true, true, true, true, true, true, true, true, true, true, true, true, true, true, true, true, true, true, true, true, true, true, true, true, true, false, false, false, false, false] rfl rfl (by kernel_rfl) (fun _ _ _ h => h) (Or.inl ⟨by rfl, ?_⟩) ?_ ?_
              rotate_left
              · intro w'
                go_simp
                with_reducible rfl
              rotate_left
              · simp only [Act.put, List.setIfInBounds_toArray, List.set_cons_zero, List.set_cons_succ, i64_w, i32_w]
                rfl
              refine one_ (i := 28) (N := (some 132)) #[true, true, true, true, true, true, true, true, true, true, true, true, true, true, true, true, true, true, true, true, true, true, true, true, true, true, true, true, true, false, false, false, false] rfl rfl (by kernel_rfl) (by decide) (fun K hK => ?_)
              refine goes_ Tryz.func18 (by kernel_rfl) rfl #[.int .i64 (r : Int)] (by rfl) rfl rfl (by (try simp only [List.map_toArray, List.map_cons, List.map_nil]); first | done | rfl) ?_
              refine (itoa_calls (r : Int) _ (tabp_below HP.out HG4.out.1) (by omega) (by have := HCr.out; omega)).mono ?_
              rintro e w12 ⟨rfl, hb⟩
              refine ⟨_, rfl, ?_⟩
              have HG5 := Aside0.mk (HG4.out.below hb)
              clear hb
              refine hK.out _ _ ⟨blk_cell HG5.out.2.2.1 3, blk_cell HG5.out.2.2.1 4, blk_cell HG5.out.2.2.1 5, blk_cell HG5.out.2.2.1 6, blk_cell HG5.out.2.2.1 7⟩ (fun hHeld => ?_)
              clear hK K
              refine pure_ (i := 29) (N := (some 133)) (v := ?_) (a' := ?_) #[true, true, true, true, true, true, true, true, true, true, true, true, true, true, true, true, true, true, true, true, true, true, true, true, true, true, true, true, true, true, false, false, false] rfl rfl (by kernel_rfl) (fun _ _ _ h => h) (Or.inl ⟨by rfl, ?_⟩) ?_ ?_
              rotate_left
              · intro w'
                go_simp
                with_reducible rfl
              rotate_left
              · simp only [Act.put, List.setIfInBounds_toArray, List.set_cons_zero, List.set_cons_succ, i64_w, i32_w]
                rfl
              refine pure_ (i := 30) (N := (some 134)) (v := ?_) (a' := ?_) #[true, true, true, true, true, true, true, true, true, true, true, true, true, true, true, true, true, true, true, true, true, true, true, true, true, true, true, true, true, true, true, false, false] rfl rfl (by kernel_rfl) (fun _ _ _ h => h) (Or.inl ⟨by rfl, ?_⟩) ?_ ?_
              rotate_left
              · intro w'
                go_simp
                with_reducible rfl
              rotate_left
              · simp only [Act.put, List.setIfInBounds_toArray, List.set_cons_zero, List.set_cons_succ, i64_w, i32_w]
                rfl
              refine pure_ (i := 31) (N := (some 135)) (v := ?_) (a' := ?_) #[true, true, true, true, true, true, true, true, true, true, true, true, true, true, true, true, true, true, true, true, true, true, true, true, true, true, true, true, true, true, true, true, false] rfl rfl (by kernel_rfl) (fun _ _ _ h => h) (Or.inl ⟨by rfl, ?_⟩) ?_ ?_
              rotate_left
              · intro w'
                go_simp
                with_reducible rfl
              rotate_left
              · simp only [Act.put, List.setIfInBounds_toArray, List.set_cons_zero, List.set_cons_succ, i64_w, i32_w]
                rfl
              refine pure_ (i := 32) (N := (some 9)) (v := ?_) (a' := ?_) #[true, true, true, true, true, true, true, true, true, true, true, true, true, true, true, true, true, true, true, true, true, true, true, true, true, true, true, true, true, true, true, true, true] rfl rfl (by kernel_rfl) (fun _ _ _ h => h) (Or.inl ⟨by rfl, ?_⟩) ?_ ?_
              rotate_left
              · intro w'
                go_simp
                with_reducible rfl
              rotate_left
              · simp only [Act.put, List.setIfInBounds_toArray, List.set_cons_zero, List.set_cons_succ, i64_w, i32_w]
                rfl
              refine done_ (by kernel_rfl) ?_
              go_wp2_with fail
              go_meet
              exact ⟨gx, gy, gc, c, r, _, rfl, ⟨HG5.out, HOkG.out⟩⟩
            · go_wp2_with fail
              go_meet
              exact ⟨0, 0, 0, 0, 0, _, rfl, ⟨HJ3.out, HOk0.out⟩⟩
          case rest =>
            obtain ⟨gx, gy, gc, gn, gm, T, rfl, HJ4⟩ := hcut
            obtain ⟨Av, cv, rfl⟩ := own_slice HJ4.out.1.2.2.2.1
            have HTc := Aside0.mk (tab_below HT.out HJ4.out.1.1)
            clear HJ3 HOk0 x2 HWe HWs HLs
            go_upto_region 22 with (first | (go_at_call 13; refine (read_T HJ4.out.2 wc HTc.out).mono ?_; rintro e w5 ⟨A5, c5, rfl, hC5, hb5⟩; have HC5 := Aside0.mk hC5; have HJ5 := Aside0.mk (HJ4.out.1.below hb5); clear hC5 hb5))
            obtain ⟨b13, hb13⟩ : ∃ b, b = w5.heap.size := ⟨_, rfl⟩
            have hbb := below_alloc (Below.refl w5.heap.size w5) (.cells #[.int .i64 (q0 : Int), .int .i64 (q1 : Int), .slice A5 xs.length c5, .int .i64 gx, .int .i64 gy, .int .i64 gc, .int .i64 gn, .int .i64 gm] 43)
            have HJ6 := Aside0.mk (HJ5.out.below hbb)
            have HC6 := Aside0.mk ((Kd.heap_int .i64).C (fun k hk => hbb.block k hk) HC5.out)
            have h13 := heap_alloc_new w5 (.cells #[.int .i64 (q0 : Int), .int .i64 (q1 : Int), .slice A5 xs.length c5, .int .i64 gx, .int .i64 gy, .int .i64 gc, .int .i64 gn, .int .i64 gm] 43)
            rw [← hb13] at h13
            have H13 := Aside0.mk h13
            rw [← hb13]
            clear hbb h13 hb13 HJ5 HC5
            generalize w5.alloc (.cells #[.int .i64 (q0 : Int), .int .i64 (q1 : Int), .slice A5 xs.length c5, .int .i64 gx, .int .i64 gy, .int .i64 gc, .int .i64 gn, .int .i64 gm] 43) = w6 at HJ6 HC6 H13 ⊢
            have HTd := Aside0.mk (tab_below HT.out HJ6.out.1)
            have HPd := Aside0.mk (tabp_below HP.out HJ6.out.1)
            have k0 : w6.cell? ⟨b7, 0, none⟩ = some (.int .i64 q0) := blk_cell HJ6.out.2.2.1 0
            have k1 : w6.cell? ⟨b7, 1, none⟩ = some (.int .i64 q1) := blk_cell HJ6.out.2.2.1 1
            have k2 : w6.cell? ⟨b7, 2, none⟩ = some (.slice Av xs.length cv) := blk_cell HJ6.out.2.2.1 2
            have k3 : w6.cell? ⟨b7, 3, none⟩ = some (.int .i64 gx) := blk_cell HJ6.out.2.2.1 3
            have k4 : w6.cell? ⟨b7, 4, none⟩ = some (.int .i64 gy) := blk_cell HJ6.out.2.2.1 4
            have k5 : w6.cell? ⟨b7, 5, none⟩ = some (.int .i64 gc) := blk_cell HJ6.out.2.2.1 5
            have k6 : w6.cell? ⟨b7, 6, none⟩ = some (.int .i64 gn) := blk_cell HJ6.out.2.2.1 6
            have k7 : w6.cell? ⟨b7, 7, none⟩ = some (.int .i64 gm) := blk_cell HJ6.out.2.2.1 7
            go_wp2_with (first
              | (go_at_call 19; refine (print_T HJ4.out.2 w6 HTd.out HPd.out (by have := HN0.out; omega) (by rw [Int.toNat_natCast]; exact HX.out) HXs.out (by have := HN1.out; omega) HK.out HK9.out HRng.out (by have := HLen.out; have := HVl.out; omega) Av cv (own_C HJ6.out.2.2.2.1 rfl).1 (own_C HJ6.out.2.2.2.1 rfl).2).mono ?_; rintro e w7 ⟨rfl, hb7⟩; have HJ7 := Aside0.mk (HJ6.out.below hb7); have HC7 := Aside0.mk ((Kd.heap_int .i64).C (fun k hk => hb7.block k hk) HC6.out); have h13 := blk_below H13.out hb7; have m0 : w7.cell? ⟨b7, 0, none⟩ = some (.int .i64 q0) := blk_cell HJ7.out.2.2.1 0; have m1 : w7.cell? ⟨b7, 1, none⟩ = some (.int .i64 q1) := blk_cell HJ7.out.2.2.1 1; have m2 : w7.cell? ⟨b7, 2, none⟩ = some (.slice Av xs.length cv) := blk_cell HJ7.out.2.2.1 2; have m3 : w7.cell? ⟨b7, 3, none⟩ = some (.int .i64 gx) := blk_cell HJ7.out.2.2.1 3; have m4 : w7.cell? ⟨b7, 4, none⟩ = some (.int .i64 gy) := blk_cell HJ7.out.2.2.1 4; have m5 : w7.cell? ⟨b7, 5, none⟩ = some (.int .i64 gc) := blk_cell HJ7.out.2.2.1 5; have m6 : w7.cell? ⟨b7, 6, none⟩ = some (.int .i64 gn) := blk_cell HJ7.out.2.2.1 6; have m7 : w7.cell? ⟨b7, 7, none⟩ = some (.int .i64 gm) := blk_cell HJ7.out.2.2.1 7; have n0 : w7.cell? ⟨b13, 0, none⟩ = some (.int .i64 q0) := blk_cell h13 0; have n1 : w7.cell? ⟨b13, 1, none⟩ = some (.int .i64 q1) := blk_cell h13 1; have n2 : w7.cell? ⟨b13, 2, none⟩ = some (.slice A5 xs.length c5) := blk_cell h13 2; have n3 : w7.cell? ⟨b13, 3, none⟩ = some (.int .i64 gx) := blk_cell h13 3; have n4 : w7.cell? ⟨b13, 4, none⟩ = some (.int .i64 gy) := blk_cell h13 4; have n5 : w7.cell? ⟨b13, 5, none⟩ = some (.int .i64 gc) := blk_cell h13 5; have n6 : w7.cell? ⟨b13, 6, none⟩ = some (.int .i64 gn) := blk_cell h13 6; have n7 : w7.cell? ⟨b13, 7, none⟩ = some (.int .i64 gm) := blk_cell h13 7; clear h13 hb7)
              | (go_at_call 20; refine (sameJobs_ok _ _ _ _ _ _ _ A5 Av c5 cv xs _ HC7.out (own_C HJ7.out.2.2.2.1 rfl).1 (by have := HLen.out; have := HVl.out; omega)).mono ?_; rintro e w8 ⟨rfl, hb8⟩; have HB8 := Aside0.mk (HJ7.out.1.trans (hb8.mono HJ7.out.1.size)); clear hb8))
            go_ret
            exact ⟨rfl, HB8.out⟩
      | succ gf =>
        have hlt : i < V.length := by omega
        have hlt2 : (i : Int) < (V.length : Int) := by omega
        have hin : decide ((i : Int) < (V.length : Int)) = true := by simp; omega
        obtain ⟨bv, ov, rfl, ev⟩ := C_cells ((Kd.heap_int .i64).C (fun k hk => HJ.out.1.block k hk) HC.out) (by omega)
        have fv := ev i _ (List.getElem?_eq_getElem hlt)
        have hget := HGet.out i hlt
        have ha := HAnd.out V[i]
        generalize V[i] = y at fv hget ha
        have hlx : i < xs.length := by have := HLen.out; omega
        have hxi : (xs[i]'hlx) = (i : Int) * 1000 + Go.bits .and .i64 y 511 := by
          have h := (List.getElem?_eq_getElem hlx).symm.trans hget
          rw [Nat.zero_add] at h
          exact Option.some.inj h
        have hvl := HVl.out
        obtain ⟨n, hn, hn2⟩ : ∃ n : Nat, Go.bits .and .i64 y 511 = (n : Int) ∧ n ≤ 511 := nat_of ha.1 ha.2
        rw [hn] at hxi
        have hxr : -2147483648 ≤ (i : Int) * 1000 + (n : Int) ∧ (i : Int) * 1000 + (n : Int) ≤ 2147483648 := sum_rng (by omega) hn2
        have hw1 : wrap64 ((i : Int) * 1000) = (i : Int) * 1000 := mul_wr (show i ≤ 1000 by omega)
        have hw0 : wrap64 ((i : Int) * 1000 + (n : Int)) = (i : Int) * 1000 + (n : Int) := sum_wr hxr
        have HXr := Aside0.mk hxr
        have HXi := Aside0.mk hxi
        have HNext := Aside0.mk (fun h0 => Go.Proofs.YtknekneicecgiaaGreatDoor.Lv.tx_next (K := K) hlx h0)
        have HNext0 := Aside0.mk (Go.Proofs.YtknekneicecgiaaGreatDoor.Lv.tx_next0 (K := K) (Nat.lt_of_le_of_lt (Nat.zero_le _) hlx))
        have HTk := Aside0.mk (Go.Proofs.YtknekneicecgiaaGreatDoor.Lv.take_snoc xs i hlx)
        have htl : (xs.take i).length = i := by rw [List.length_take]; omega
        have HTl := Aside0.mk htl
        have c2 : wr.cell? ⟨b7, 2, none⟩ = some v := blk_cell HJ.out.2.2.1 2
        clear ev hget ha hxi hxr htl hvl
        obtain ⟨xi, hxi0⟩ : ∃ xi, xi = (i : Int) * 1000 + (n : Int) := ⟨_, rfl⟩
        rw [← hxi0] at HXr HXi
        have hw2 : wrap64 ((i : Int) * 1000 + (n : Int)) = xi := hw0.trans hxi0.symm
        clear hxi0 hw0
        go_upto_if 61 with (first | (at_builtin; refine print_append (w0 := w) w.heap.size rfl (.tmp 55) (.tmp 57) 30 3 (.int .i64 0) 8 rfl Tryz.underlying30 HI3.out rfl (by decide) v (nums .i64 (xs.take i)) (.int .i64 xi) rfl rfl rfl (by have h := HJ.out.2.2.2.1; rw [show (nums .i64 (xs.take i)).length = (xs.take i).length by simp [nums]]; exact h) HJ.out.1 HJ.out.1.size (by simp [nums]; have := HVl.out; omega) ?_; intro v1 w4 hO1 hB1 hg1 hat1; have hk7 := (hg1.block b7 (blk_lt HJ.out.2.2.1) (own_ne HJ.out.2.2.2.1 HJ.out.2.2.1 (by decide))).trans HJ.out.2.2.1; have hk3 := (hg1.block w.heap.size (blk_lt HJ.out.2.1) (own_ne HJ.out.2.2.2.1 HJ.out.2.1 (by decide))).trans HJ.out.2.1; obtain ⟨g1, cp1, rfl⟩ := own_some hO1 (by simp); have d2 : w4.cell? ⟨b7, 2, none⟩ = some v := blk_cell hk7 2; have g2 : w4.frozen? ⟨b7, 2, none⟩ = false := blk_frozen hk7 2; have HO1 := Aside0.mk hO1; have HB1 := Aside0.mk hB1; have HK7 := Aside0.mk hk7; have HK3 := Aside0.mk hk3; clear hO1 hB1 hg1 hat1 hk7 hk3))
        have HJ2 := Aside0.mk (JSt_push (N := (nums .i64 (xs.take i)).length + 1) (by simp) (by rw [← HTk.out, HXi.out]; simp [nums]) HO1.out HB1.out HK7.out HK3.out HJ.out.2.2.2.2 (ys := xs.take (i + 1)))
        clear d2 g2 c2 HO1 HB1 HK7 HK3 HTk
        generalize w4.setCell ⟨b7, 2, none⟩ (.slice (some ⟨g1, 0, none⟩) ((nums .i64 (xs.take i)).length + 1) cp1) = w5 at HJ2 ⊢
        have HTx := Aside0.mk (Go.Proofs.YtknekneicecgiaaGreatDoor.Mg.Text_f (n := xi) (k := 63000) (by have := HXr.out; omega) (by have := HXr.out; omega) HK.out HK9.out (by decide))
        have HFl := Aside0.mk (fx_len HXr.out HK9.out)
        have HTs : Aside0 ((mk (jn 44 (txs K (xs.take i)))).size ≤ 3000) := ⟨jn_size (xs.take i) HK9.out (fun y hy => by have := HRng.out y (List.mem_of_mem_take hy); omega) (by rw [HTl.out]; have := HVl.out; omega)⟩
        have HFs : Aside0 ((mk (fixZ xi K)).size ≤ 60) := HFl
        rcases Nat.eq_zero_or_pos i with h0 | h0
        · subst h0
          have hs5 : (9223372036854775807 < (mk (jn 44 (txs K (xs.take 0)))).size + (mk (fixZ xi K)).size) = False := eq_false (by have := HTs.out; have := HFs.out; omega)
          have HTe : Aside0 (mk (jn 44 (txs K (xs.take 1))) = mk (jn 44 (txs K (xs.take 0))) ++ mk (fixZ xi K)) := ⟨by rw [HNext0.out, HXi.out]⟩
          generalize mk (jn 44 (txs K (xs.take 0))) = tx0 at hs5 HTe HTs
          go_wp2_with (first | (go_at_call 14; refine (deci_Text.calls 63000 xi z (mk (fixZ xi K)) _ HTx.out).mono ?_; rintro e w6 ⟨rfl, hb6⟩; have HJ3 := Aside0.mk (HJ2.out.below hb6); clear hb6))
          go_roundg gf
          case measure => omega
          case rel => exact ⟨1, _, by omega, rfl, by rw [HTe.out], HJ3⟩
        · have hpos : decide ((0 : Int) < (i : Int)) = true := by simp; omega
          have hs5 : (9223372036854775807 < (mk (jn 44 (txs K (xs.take i)))).size + 1) = False := eq_false (by have := HTs.out; omega)
          have hs6 : (9223372036854775807 < (mk (jn 44 (txs K (xs.take i)))).size + 1 + (mk (fixZ xi K)).size) = False := eq_false (by have := HTs.out; have := HFs.out; omega)
          have HTe : Aside0 (mk (jn 44 (txs K (xs.take (i + 1)))) = (mk (jn 44 (txs K (xs.take i))) ++ (⟨#[44]⟩ : ByteArray)) ++ mk (fixZ xi K)) := ⟨by rw [HNext.out h0, HXi.out]⟩
          generalize mk (jn 44 (txs K (xs.take i))) = tx0 at hs5 hs6 HTe HTs
          go_wp2_with (first | (go_at_call 14; refine (deci_Text.calls 63000 xi z (mk (fixZ xi K)) _ HTx.out).mono ?_; rintro e w6 ⟨rfl, hb6⟩; have HJ3 := Aside0.mk (HJ2.out.below hb6); clear hb6))
          go_roundg gf
          case measure => omega
          case rel => exact ⟨i + 1, _, by omega, congrArg (Value.int .i64) (i_wr (by have := HVl.out; omega)), by rw [HTe.out], HJ3⟩
def isohyetlaw25_DataJobBack.f (k : Nat) (l0 l1 l2 l3 l4 l5 l6 : Int) (V : List Int) (z : Int) : Option Bool := some true
theorem isohyetlaw25_DataJobBack.calls (k : Nat) (l0 l1 l2 l3 l4 l5 l6 : Int) (A : Option Addr) (cp : Nat) (V : List Int) (z : Int) (r : Bool) (w : World) (hC : Kd.C (Kd.int .i64) w A V.length V) (hcp : V.length ≤ cp) (HT : TabW w ∧ TabP w) (HTRUE : r = true) (h : isohyetlaw25_DataJobBack.f k l0 l1 l2 l3 l4 l5 l6 V z = some r) :
    Calls Tryz.prog 7 #[.agg #[.int .i64 l0, .int .i64 l1, .int .i64 l2, .int .i64 l3, .int .i64 l4, .int .i64 l5, .int .i64 l6], .slice A V.length cp, .int .i64 z] w fun e w' => e = .returned (.bool r) ∧ Below w.heap.size w w' := by
  subst HTRUE
  exact isohyetlaw25_DataJobBack.walk l0 l1 l2 l3 l4 l5 l6 A cp V z w HT.1 HT.2 hC hcp
end Go.Proofs.YtknekneicecgiaaGreatDoor.M
namespace Go.Proofs.YtknekneicecgiaaGreatDoor.Pure
open Go.Proofs.YtknekneicecgiaaGreatDoor.M
theorem DataJobBack : ∀ (l0 l1 l2 l3 l4 l5 l6 : Int) (V : List Int) (z : Int), ∃ k, isohyetlaw25_DataJobBack.f k l0 l1 l2 l3 l4 l5 l6 V z = some true := fun _ _ _ _ _ _ _ _ _ => ⟨0, rfl⟩
end Go.Proofs.YtknekneicecgiaaGreatDoor.Pure
namespace Go.Proofs.YtknekneicecgiaaGreatDoor.Pure
open Go.Proofs.YtknekneicecgiaaGreatDoor.M
theorem DataJobBack2 : ∀ (l0 l1 l2 l3 l4 l5 l6 : Int) (V : List Int) (z : Int), V.length ≤ maxLen → V.length * 8 ≤ 140737488351232 → (∀ x ∈ V, (Lit.int .i64 x).wf = true) → (Lit.int .i64 z).wf = true → ∃ k, isohyetlaw25_DataJobBack.f k l0 l1 l2 l3 l4 l5 l6 V z = some true := fun _ _ _ _ _ _ _ _ _ _ _ _ _ => ⟨0, rfl⟩
end Go.Proofs.YtknekneicecgiaaGreatDoor.Pure
