/- DataFulls, walked: one sample, or fault, too many is told at its line; a text that is too long as a whole. -/
import Derived.Test.YtknekneicecgiaaGreatDoorJW
import Derived.Test.YtknekneicecgiaaGreatDoorHK
import Derived.Test.YtknekneicecgiaaGreatDoorX8
import Derived.Lib.AppendStr
import Derived.RegionTactic
import Derived.Deep.DeepCutAuto
import Derived.Deep.LoopGhost
import Derived.Deep.OwnRows
import Derived.Laws.BytesArg
namespace Go.Proofs.YtknekneicecgiaaGreatDoor.M
open Go.RowKit Go.Lib Go.Proofs.YtknekneicecgiaaGreatDoorW.PrintWords Go.Proofs.YtknekneicecgiaaGreatDoorW.PrintLast Go.Proofs.YtknekneicecgiaaGreatDoor.MB
open Go.Proofs.YtknekneicecgiaaGreatDoor.Mg (repB repB_length lineS lineF4 Samples_full Faults_full Samples_long each_ends endsB endsB_list endsB_size)
set_option linter.unusedVariables false
set_option linter.unusedSimpArgs false
def encB (l : List UInt8) : List Value := l.map fun b => Value.int .u8 b.toNat
theorem encB_app (a b : List UInt8) : encB (a ++ b) = encB a ++ encB b := List.map_append
/-- A row with room for 40000 bytes that begins with a text. -/
def RowAt (w : World) (b : Nat) (l : List UInt8) : Prop := ∃ cur, w.heap[b]? = some (.cells cur 5 (0, 0)) ∧ cur.size = 40000 ∧ cur.toList.take l.length = encB l
theorem RowAt.move {w w' : World} {b : Nat} {l : List UInt8} (h : RowAt w b l) (hb : w'.heap[b]? = w.heap[b]?) : RowAt w' b l := by
  obtain ⟨cur, h1, h2, h3⟩ := h
  exact ⟨cur, hb.trans h1, h2, h3⟩
theorem RowAt.lt {w : World} {b : Nat} {l : List UInt8} (h : RowAt w b l) : b < w.heap.size := by
  obtain ⟨cur, h1, _, _⟩ := h
  exact blk_lt h1
theorem row_conv {w : World} {b : Nat} {l : List UInt8} (h : RowAt w b l) : (convert 36 9 (.slice (some ⟨b, 0, none⟩) l.length 40000)).run Tryz.prog w = .ok (.string ⟨l.toArray⟩) w := by
  obtain ⟨cur, h1, h2, h3⟩ := h
  have hs : strOfNums (l.map fun c => (c.toNat : Int)) = ⟨l.toArray⟩ := by
    unfold strOfNums
    rw [List.map_map, show ((fun n : Int => UInt8.ofNat n.toNat) ∘ fun c : UInt8 => (c.toNat : Int)) = id from funext fun c => by simp, List.map_id]
  rw [← hs]
  refine run_convert_bytes_arg w 36 5 Tryz.underlying36 Tryz.underlying5 b 0 l.length 40000 _ (List.length_map ..) (fun i hi => ?_) 9 Tryz.underlying9
  rw [Nat.zero_add, blk_cell h1, ← Array.getElem?_toList, ← List.getElem?_take_of_lt hi, h3, encB, List.getElem?_map, List.getD_eq_getElem?_getD, List.getElem?_map, List.getElem?_eq_getElem hi]
  rfl
/-- A constant text appended, where there is room. -/
theorem wpList_app_row {ops : Array Oper} {rest : List Oper} {o : Oper} {a : Act} {Q : Exit → Act → World → Prop} (hgd : o.guard = none) (sl x : Operand) (ho : o.op = .call { callee := .builtin .append, args := #[sl, x], argTypes := #[36, 9] })
    (w : World) (b : Nat) (l : List UInt8) (s : ByteArray) (hs : a.eval sl = .slice (some ⟨b, 0, none⟩) l.length 40000) (hx : a.eval x = .string s) (hr : RowAt w b l) (hroom : l.length + s.size ≤ 40000)
    (h : ∀ w', RowAt w' b (l ++ s.data.toList) → (∀ k, k ≠ b → w'.heap[k]? = w.heap[k]?) → (∀ B w0, Below B w0 w → B ≤ b → Below B w0 w') → wpList Tryz.prog ops Q rest (a.put o.dst (.slice (some ⟨b, 0, none⟩) (l.length + s.size) 40000)) w') : wpList Tryz.prog ops Q (o :: rest) a w := by
  refine wpList_plain hgd fun K hK => ?_
  obtain ⟨cur, h1, h2, h3⟩ := hr
  obtain ⟨i5, hi5, hz0, hz1, hz2⟩ := info_parts (show (Tryz.prog.info? 5).map (fun i => (i.zero, i.size, i.bytes)) = some (some (.int .u8 0), 1, 1) by kernel_rfl)
  have hrun := run_append_room_string (P := Tryz.prog) w 36 9 o.type 5 i5 Tryz.underlying36 Tryz.underlying9 hi5 hz1 b l.length 40000 cur h1 s hroom (by omega)
  unfold Oper.wp execOp
  simp only [ho, resolve, invoke, builtin, Sem.run_bind, Sem.run_pure, Result.andThen_ok, List.map_toArray, List.map_cons, List.map_nil, hs, hx, hrun]
  have hg : w.grownBy (w.setRow b (cur.toList.take l.length ++ strCells s ++ cur.toList.drop (l.length + s.size)).toArray) (some b) :=
    ⟨rfl, rfl, rfl, by simp, fun k _ hk => setRow_other w b k _ (fun e => hk (by rw [e]))⟩
  refine hK _ _ (h _ ⟨_, setRow_heap w b cur _ 5 _ h1, ?_, ?_⟩ (fun k hk => setRow_other w b k _ (fun e => hk e)) (fun B w0 hB hb => hB.grown hg ?_ (fun k hk => by cases hk; exact hb)))
  · simp only [List.size_toArray, List.length_append, List.length_take, List.length_drop, Array.length_toList, strCells_length]
    omega
  · rw [h3, encB_app]
    have e1 : (encB l ++ strCells s).length = (l ++ s.data.toList).length := by simp [encB, strCells]
    rw [← e1]
    exact List.take_left
  · have := blk_lt h1
    have := hB.size
    omega
theorem row_new {w : World} {M : Array Value} {b : Nat} (h : w.heap[b]? = some (.cells M 5 (0, 0))) (hM : M.size = 40000) : RowAt w b [] := ⟨M, h, hM, rfl⟩
theorem two_rows {w w1 : World} {M : Array Value} (hb : Below w.heap.size w w1) (hM : M.size = 40000) : RowAt ((w1.alloc (.cells M 5)).alloc (.cells M 5)).drew w1.heap.size [] ∧ RowAt ((w1.alloc (.cells M 5)).alloc (.cells M 5)).drew (w1.heap.size + 1) [] ∧ w.heap.size ≤ w1.heap.size ∧ Below w.heap.size w ((w1.alloc (.cells M 5)).alloc (.cells M 5)).drew := by
  have hs : (w1.alloc (.cells M 5)).heap.size = w1.heap.size + 1 := by simp
  refine ⟨row_new ((heap_alloc_old _ _ (by rw [hs]; omega)).trans (heap_alloc_new w1 _)) hM, row_new (b := w1.heap.size + 1) ?_ hM, hb.size, below_drew ((hb.alloc hb.size _).alloc (by rw [hs]; have := hb.size; omega) _)⟩
  have h := heap_alloc_new (w1.alloc (.cells M 5)) (.cells M 5)
  rw [hs] at h
  exact h
/-- A row of line ends. -/
def EndsAt (w : World) (b N i : Nat) : Prop := w.rowIs b 5 N (fun j => .int .u8 (if j < i then 10 else 0))
theorem ends_conv {w : World} {b N : Nat} (h : EndsAt w b N N) (o m c : Nat) (ho : o + m ≤ N) : (convert 36 9 (.slice (some ⟨b, o, none⟩) m c)).run Tryz.prog w = .ok (.string (endsB m)) w := by
  have hs : strOfNums (List.replicate m 10) = endsB m := by
    unfold strOfNums endsB
    rw [List.map_replicate]
    rfl
  rw [← hs]
  refine run_convert_bytes_arg w 36 5 Tryz.underlying36 Tryz.underlying5 b o m c _ (List.length_replicate ..) (fun i hi => ?_) 9 Tryz.underlying9
  rw [h.cell (by omega), if_pos (by omega), List.getD_eq_getElem?_getD, List.getElem?_replicate, if_pos hi]
  rfl
theorem ends_set {w : World} {b N i : Nat} (h : EndsAt w b N i) : EndsAt (w.setCell ⟨b, i, none⟩ (.int .u8 10)) b N (i + 1) := by
  refine (h.set i (.int .u8 10)).congr (fun j hj => ?_)
  by_cases h1 : j = i
  · rw [if_pos h1, if_pos (by omega)]
  · rw [if_neg h1]
    by_cases h2 : j < i
    · rw [if_pos h2, if_pos (by omega)]
    · rw [if_neg h2, if_neg (by omega)]
theorem readjob_ends (m : Nat) (e : Int) (he : e = if m > 200000 then 2 else 0) (w : World) (HT0 : TabW w) : Calls Tryz.prog 13 #[.string (endsB m), .int .i64 0, .int .i64 0] w fun en w' => ∃ A c, en = .returned (.tuple #[.agg #[.int .i64 0, .int .i64 0, .slice A 0 c, .int .i64 0, .int .i64 0, .int .i64 0, .int .i64 0, .int .i64 0], .int .i64 0, .int .i64 e]) ∧ Below w.heap.size w w' := by
  have hv := method_ok 0 0 (w.heap.size + 2) (w.heap.size + 1) w.heap.size HT0.2.1 (by omega)
  by_cases h : m > 200000
  · rw [if_pos h] at he
    subst he
    refine (readjob_err methodF (endsB m) 0 0 0 2 rs0 w HT0 hv (by rw [each_ends, if_pos h]) (by decide)).mono ?_
    rintro en w' ⟨rfl, hb⟩
    exact ⟨none, 0, rfl, hb⟩
  · rw [if_neg h] at he
    subst he
    refine (readjob_ok methodF (endsB m) 0 0 rs0 w false 0 HT0 hv (by rw [each_ends, if_neg h]) (fun y _ => rfl) (fun h => by cases h)).mono ?_
    rintro en w' ⟨vl, rfl, hR, hb⟩
    obtain ⟨A, c, rfl⟩ := Kd.R_slice hR
    exact ⟨A, c, rfl, hb⟩
theorem full_samples (q : Nat) (hq : q ≤ 3) : ∃ r1 r2 r3, data_Samples.f 60200 ⟨(repB (lineS ++ [10]) (3999 + q)).toArray⟩ 0 0 = some (r1, r2, r3) ∧ ((q < 2 ∧ r1.length = 3999 + q ∧ r2 = 0 ∧ r3 = 0) ∨ (¬ q < 2 ∧ r1.length = 0 ∧ r2 = 4001 ∧ r3 = 5)) := by
  have h := Samples_full (k := 60200) (m := 3999 + q) (Nat.le_refl _) (by omega)
  by_cases h2 : q < 2
  · rw [if_pos (by omega)] at h
    exact ⟨_, _, _, h, .inl ⟨h2, List.length_replicate .., rfl, rfl⟩⟩
  · rw [if_neg (by omega)] at h
    exact ⟨_, _, _, h, .inr ⟨h2, rfl, rfl, rfl⟩⟩
theorem full_faults (q : Nat) (hq : q ≤ 3) : ∃ r1 r2 r3, data_Faults.f 60200 ⟨(repB (lineF4 ++ [10]) (999 + q)).toArray⟩ 0 = some (r1, r2, r3) ∧ ((q < 2 ∧ r1.length = 999 + q ∧ r2 = 0 ∧ r3 = 0) ∨ (¬ q < 2 ∧ r1.length = 0 ∧ r2 = 1001 ∧ r3 = 5)) := by
  have h := Faults_full (k := 60200) (m := 999 + q) (Nat.le_refl _) (by omega)
  by_cases h2 : q < 2
  · rw [if_pos (by omega)] at h
    exact ⟨_, _, _, h, .inl ⟨h2, List.length_replicate .., rfl, rfl⟩⟩
  · rw [if_neg (by omega)] at h
    exact ⟨_, _, _, h, .inr ⟨h2, rfl, rfl, rfl⟩⟩
set_option maxHeartbeats 4000000 in
set_option maxRecDepth 100000 in
theorem isohyetlaw25_DataFulls.walk (n : Int) (w : World) (HT0 : TabW w) :
    Calls Tryz.prog 4 #[.int .i64 n] w fun e w' => e = .returned (.bool true) ∧ Below w.heap.size w w' := by
  have HT := Aside0.mk HT0
  obtain ⟨q, hq, hq3⟩ : ∃ q : Nat, Go.bits .and .i64 n 3 = (q : Int) ∧ q ≤ 3 := by
    have h1 : Go.bits .and .i64 n 3 = IntKind.i64.wrap ((BitVec.ofInt 64 n &&& BitVec.ofInt 64 3).toNat : Int) := rfl
    have h2 : (BitVec.ofInt 64 n &&& BitVec.ofInt 64 3).toNat ≤ 3 := by
      rw [BitVec.toNat_and]
      exact Nat.and_le_right
    generalize (BitVec.ofInt 64 n &&& BitVec.ofInt 64 3).toNat = m at h1 h2
    refine ⟨m, ?_, h2⟩
    rw [h1, IntKind.wrap_i64]
    omega
  have HQ := Aside0.mk hq3
  obtain ⟨M, hM, hmk⟩ : ∃ M : Array Value, M.size = 40000 ∧ ∀ W : World, (Instr.makeSlice 36 (.int .i64 0) (.int .i64 40000)).run Tryz.prog W = .ok (.slice (some ⟨W.heap.size, 0, none⟩) 0 40000) (W.alloc (.cells M 5)) := by
    obtain ⟨i5, hi5, hz0, hz1, hz2⟩ := info_parts (show (Tryz.prog.info? 5).map (fun i => (i.zero, i.size, i.bytes)) = some (some (.int .u8 0), 1, 1) by kernel_rfl)
    refine ⟨madeCells (Value.int .u8 0).cells (40000 * 1), size_madeCells _ _, fun W => ?_⟩
    have h := run_make (P := Tryz.prog) W 36 5 i5 (.int .u8 0) Tryz.underlying36 hi5 hz0 .i64 .i64 0 40000 (by omega) (by omega) (by rw [hz2]; omega) (by omega)
    rw [hz1] at h
    exact h
  have HM := Aside0.mk hM
  clear HT0 hM hq3
  go_enter Tryz.func4, Tryz.ntmps4
  go_upto_region 4 with (go_at_call 8; refine (isohyetlaw25_fit.calls true _ HT.out rfl rfl).mono ?_; rintro e w1 ⟨rfl, hb1⟩; have HT1 := Aside0.mk (tab_below HT.out hb1); have HB1 := Aside0.mk hb1; clear hb1)
  go_cut [3, 4] (fun v3 v4 wx => ∃ bs bt : Nat, v3 = .slice (some ⟨bs, 0, none⟩) 0 40000 ∧ v4 = .slice (some ⟨bt, 0, none⟩) 0 40000 ∧ Aside0 (bs ≠ bt ∧ RowAt wx bs [] ∧ RowAt wx bt [] ∧ w.heap.size ≤ bs ∧ w.heap.size ≤ bt ∧ Below w.heap.size w wx))
  case first =>
    have h2 := two_rows HB1.out HM.out
    go_region
    all_goals (go_wp2_with fail)
    all_goals go_meet
    · exact ⟨_, _, rfl, rfl, ⟨by omega, h2.1, h2.2.1, h2.2.2.1, by have := h2.2.2.1; omega, h2.2.2.2⟩⟩
    · exact ⟨_, _, rfl, rfl, ⟨by omega, h2.2.1, h2.1, by have := h2.2.2.1; omega, h2.2.2.1, h2.2.2.2⟩⟩
  case rest =>
    obtain ⟨bs, bt, rfl, rfl, HC⟩ := hcut
    obtain ⟨r1, r2, r3, hf1, hl1⟩ := full_samples q HQ.out
    obtain ⟨r4, r5, r6, hf2, hl2⟩ := full_faults q HQ.out
    have HF1 := Aside0.mk hf1
    have HF2 := Aside0.mk hf2
    have HL1 := Aside0.mk hl1
    have HL2 := Aside0.mk hl2
    have hw1 : IntKind.i64.wrap (3999 + (q : Int)) = 3999 + (q : Int) := IntWalk.i64_in _ (by have := HQ.out; omega)
    have hw2 : IntKind.i64.wrap (999 + (q : Int)) = 999 + (q : Int) := IntWalk.i64_in _ (by have := HQ.out; omega)
    clear hf1 hf2 hl1 hl2 HB1 HT1 HM hmk
    go_wp2
    go_loopg [3, 27] (3999 + q) (fun gf v3 v27 wr => ∃ i : Nat, i + gf = 3999 + q ∧ v27 = .int .i64 i ∧ v3 = .slice (some ⟨bs, 0, none⟩) (repB (lineS ++ [10]) i).length 40000 ∧ Aside0 (RowAt wr bs (repB (lineS ++ [10]) i) ∧ RowAt wr bt [] ∧ Below w.heap.size w wr))
    case atStart => exact ⟨0, by omega, rfl, rfl, ⟨HC.out.2.1, HC.out.2.2.1, HC.out.2.2.2.2.2⟩⟩
    case round =>
      obtain ⟨i, hig, rfl, rfl, hR⟩ := hrel
      cases gk with
      | zero =>
        obtain rfl : i = 3999 + q := by omega
        go_wp2
        go_loopg [4, 34] (999 + q) (fun gf v4 v34 wx => ∃ i : Nat, i + gf = 999 + q ∧ v34 = .int .i64 i ∧ v4 = .slice (some ⟨bt, 0, none⟩) (repB (lineF4 ++ [10]) i).length 40000 ∧ Aside0 (RowAt wx bt (repB (lineF4 ++ [10]) i) ∧ RowAt wx bs (repB (lineS ++ [10]) (3999 + q)) ∧ Below w.heap.size w wx))
        case atStart => exact ⟨0, by omega, rfl, rfl, ⟨hR.out.2.1, hR.out.1, hR.out.2.2⟩⟩
        case round =>
          clear hR
          obtain ⟨i, hig, rfl, rfl, hR⟩ := hrel
          cases gk with
          | zero =>
            obtain rfl : i = 999 + q := by omega
            have kc1 := row_conv hR.out.2.1
            have HTa := Aside0.mk (tab_below HT.out hR.out.2.2)
            obtain ⟨M3, hmk3, hM3⟩ : ∃ M : Array Value, (∀ W : World, (Instr.makeSlice 36 (.int .i64 200001) (.int .i64 200001)).run Tryz.prog W = .ok (.slice (some ⟨W.heap.size, 0, none⟩) 200001 200001) (W.alloc (.cells M 5))) ∧ Aside0 (∀ W : World, EndsAt (W.alloc (.cells M 5)) W.heap.size 200001 0) := by
              obtain ⟨i5, hi5, hz0, hz1, hz2⟩ := info_parts (show (Tryz.prog.info? 5).map (fun i => (i.zero, i.size, i.bytes)) = some (some (.int .u8 0), 1, 1) by kernel_rfl)
              refine ⟨madeCells (Value.int .u8 0).cells (200001 * 1), fun W => ?_, ⟨fun W => ?_⟩⟩
              · have h := run_make (P := Tryz.prog) W 36 5 i5 (.int .u8 0) Tryz.underlying36 hi5 hz0 .i64 .i64 200001 200001 (by omega) (by omega) (by rw [hz2]; omega) (by omega)
                rw [hz1] at h
                exact h
              · exact (World.rowIs_made W (.int .u8 0) 200001 5).congr (fun j hj => by rw [if_neg (by omega)])
            go_wp2_with (first
              | (go_at_call 9; refine (data_Samples.calls 60200 _ 0 0 r1 r2 r3 _ HTa.out HF1.out).mono ?_; rintro e w4 ⟨v1, rfl, hR1, hb1⟩; obtain ⟨A1, c1, rfl⟩ := Kd.R_slice hR1; have kc2 := row_conv (hR.out.1.move (hb1.block _ hR.out.1.lt)); have HB4 := Aside0.mk (hR.out.2.2.trans (hb1.mono hR.out.2.2.size)); have HTb := Aside0.mk (tab_below HT.out HB4.out); clear hb1 hR1)
              | (go_at_call 12; refine (data_Faults.calls 60200 _ 0 r4 r5 r6 _ HTb.out HF2.out).mono ?_; rintro e w5 ⟨v2, rfl, hR2, hb2⟩; obtain ⟨A2, c2, rfl⟩ := Kd.R_slice hR2; have HB5 := Aside0.mk (HB4.out.trans (hb2.mono HB4.out.size)); clear hb2 hR2))
            have HE0 := Aside0.mk (hM3.out w5)
            have HB6 := Aside0.mk (HB5.out.alloc HB5.out.size (.cells M3 5))
            have HLb := Aside0.mk HB5.out.size
            clear hR kc1 kc2 hmk3 hM3 HTa HTb HB4
            generalize w5.alloc (.cells M3 5) = w6 at HE0 HB6 ⊢
            generalize w5.heap.size = bl at HE0 HLb ⊢
            clear HB5
            go_loopg [56] 200001 (fun gf v56 wx => ∃ i : Nat, i + gf = 200001 ∧ v56 = .int .i64 i ∧ Aside0 (EndsAt wx bl 200001 i ∧ Below w.heap.size w wx))
            case atStart => exact ⟨0, by omega, rfl, ⟨HE0.out, HB6.out⟩⟩
            case round =>
              clear HE0 HB6
              obtain ⟨i, hig, rfl, hR⟩ := hrel
              cases gk with
              | zero =>
                obtain rfl : i = 200001 := by omega
                have kc3 := ends_conv hR.out.1 0 200001 200001 (by omega)
                have HTa := Aside0.mk (tab_below HT.out hR.out.2)
                have HS3 := Aside0.mk (Samples_long 60200)
                have HKe := Aside0.mk (fun W (h : EndsAt W bl 200001 200001) (o : Nat) (ho : o ≤ 3) => ends_conv h o (200001 - o) (200001 - o) (by omega))
                rcases (show q = 0 ∨ q = 1 ∨ q = 2 ∨ q = 3 by have := HQ.out; omega) with rfl | rfl | rfl | rfl
                · obtain ⟨hr1, rfl, rfl⟩ : r1.length = 3999 ∧ r2 = 0 ∧ r3 = 0 := by have := HL1.out; omega
                  obtain ⟨hr4, rfl, rfl⟩ : r4.length = 999 ∧ r5 = 0 ∧ r6 = 0 := by have := HL2.out; omega
                  go_wp2_with (first
                    | (go_at_call 9; refine (data_Samples.calls 60200 _ 0 0 [] 0 2 _ HTa.out HS3.out).mono ?_; rintro e w7 ⟨v3, rfl, hR3, hb3⟩; obtain ⟨A3, c3, rfl⟩ := Kd.R_slice hR3; have kc4 := HKe.out w7 (hR.out.1.of_block (hb3.block _ hR.out.1.lt)) 0 (by decide); have HB7 := Aside0.mk (hR.out.2.trans (hb3.mono hR.out.2.size)); have HTb := Aside0.mk (tab_below HT.out HB7.out); clear hb3 hR3)
                    | (go_at_call 13; refine (readjob_ends 200001 2 (by decide) _ HTb.out).mono ?_; rintro e w8 ⟨A4, c4, rfl, hb4⟩; have HB8 := Aside0.mk (HB7.out.trans (hb4.mono HB7.out.size)); clear hb4))
                  go_ret
                  exact ⟨rfl, HB8.out.alloc HB8.out.size _⟩
                · obtain ⟨hr1, rfl, rfl⟩ : r1.length = 4000 ∧ r2 = 0 ∧ r3 = 0 := by have := HL1.out; omega
                  obtain ⟨hr4, rfl, rfl⟩ : r4.length = 1000 ∧ r5 = 0 ∧ r6 = 0 := by have := HL2.out; omega
                  go_wp2_with (first
                    | (go_at_call 9; refine (data_Samples.calls 60200 _ 0 0 [] 0 2 _ HTa.out HS3.out).mono ?_; rintro e w7 ⟨v3, rfl, hR3, hb3⟩; obtain ⟨A3, c3, rfl⟩ := Kd.R_slice hR3; have kc4 := HKe.out w7 (hR.out.1.of_block (hb3.block _ hR.out.1.lt)) 1 (by decide); have HB7 := Aside0.mk (hR.out.2.trans (hb3.mono hR.out.2.size)); have HTb := Aside0.mk (tab_below HT.out HB7.out); clear hb3 hR3)
                    | (go_at_call 13; refine (readjob_ends 200000 0 (by decide) _ HTb.out).mono ?_; rintro e w8 ⟨A4, c4, rfl, hb4⟩; have HB8 := Aside0.mk (HB7.out.trans (hb4.mono HB7.out.size)); clear hb4))
                  go_ret
                  exact ⟨rfl, HB8.out.alloc HB8.out.size _⟩
                · obtain ⟨hr1, rfl, rfl⟩ : r1.length = 0 ∧ r2 = 4001 ∧ r3 = 5 := by have := HL1.out; omega
                  obtain ⟨hr4, rfl, rfl⟩ : r4.length = 0 ∧ r5 = 1001 ∧ r6 = 5 := by have := HL2.out; omega
                  go_wp2_with (first
                    | (go_at_call 9; refine (data_Samples.calls 60200 _ 0 0 [] 0 2 _ HTa.out HS3.out).mono ?_; rintro e w7 ⟨v3, rfl, hR3, hb3⟩; obtain ⟨A3, c3, rfl⟩ := Kd.R_slice hR3; have kc4 := HKe.out w7 (hR.out.1.of_block (hb3.block _ hR.out.1.lt)) 2 (by decide); have HB7 := Aside0.mk (hR.out.2.trans (hb3.mono hR.out.2.size)); have HTb := Aside0.mk (tab_below HT.out HB7.out); clear hb3 hR3)
                    | (go_at_call 13; refine (readjob_ends 199999 0 (by decide) _ HTb.out).mono ?_; rintro e w8 ⟨A4, c4, rfl, hb4⟩; have HB8 := Aside0.mk (HB7.out.trans (hb4.mono HB7.out.size)); clear hb4))
                  go_ret
                  exact ⟨rfl, HB8.out.alloc HB8.out.size _⟩
                · obtain ⟨hr1, rfl, rfl⟩ : r1.length = 0 ∧ r2 = 4001 ∧ r3 = 5 := by have := HL1.out; omega
                  obtain ⟨hr4, rfl, rfl⟩ : r4.length = 0 ∧ r5 = 1001 ∧ r6 = 5 := by have := HL2.out; omega
                  go_wp2_with (first
                    | (go_at_call 9; refine (data_Samples.calls 60200 _ 0 0 [] 0 2 _ HTa.out HS3.out).mono ?_; rintro e w7 ⟨v3, rfl, hR3, hb3⟩; obtain ⟨A3, c3, rfl⟩ := Kd.R_slice hR3; have kc4 := HKe.out w7 (hR.out.1.of_block (hb3.block _ hR.out.1.lt)) 3 (by decide); have HB7 := Aside0.mk (hR.out.2.trans (hb3.mono hR.out.2.size)); have HTb := Aside0.mk (tab_below HT.out HB7.out); clear hb3 hR3)
                    | (go_at_call 13; refine (readjob_ends 199998 0 (by decide) _ HTb.out).mono ?_; rintro e w8 ⟨A4, c4, rfl, hb4⟩; have HB8 := Aside0.mk (HB7.out.trans (hb4.mono HB7.out.size)); clear hb4))
                  go_ret
                  exact ⟨rfl, HB8.out.alloc HB8.out.size _⟩
              | succ gf =>
                have hlt : (i : Int) < 200001 := by omega
                have hin : decide ((i : Int) < 200001) = true := by simp; omega
                have hcl := hR.out.1.cell (show i < 200001 by omega)
                have hfz := hR.out.1.frozen i
                go_wp2
                go_roundg gf
                case measure => omega
                case rel => exact ⟨i + 1, by omega, by go_num, ⟨ends_set hR.out.1, hR.out.2.setCell HLb.out _⟩⟩
          | succ gf =>
            have HQ0 := HQ.out
            have hin : decide ((i : Int) < 999 + (q : Int)) = true := by simp; omega
            have hlen := repB_length (lineF4 ++ [10]) i
            have hroom : (repB (lineF4 ++ [10]) i).length + (⟨#[49, 32, 50, 32, 51, 32, 52, 10]⟩ : ByteArray).size ≤ 40000 := by
              have h1 : (⟨#[49, 32, 50, 32, 51, 32, 52, 10]⟩ : ByteArray).size = 8 := rfl
              have h2 : (lineF4 ++ [10]).length = 8 := rfl
              rw [hlen, h1, h2]
              omega
            have HRoom := Aside0.mk hroom
            clear hlen hroom HQ0
            go_wp2_with (first | (at_builtin; refine wpList_app_row rfl (.tmp 36) (.const (.string ⟨#[49, 32, 50, 32, 51, 32, 52, 10]⟩)) rfl _ bt (repB (lineF4 ++ [10]) i) ⟨#[49, 32, 50, 32, 51, 32, 52, 10]⟩ rfl rfl hR.out.1 HRoom.out ?_; intro w2 hr2 hk2 hb2; have HR2 := Aside0.mk hr2; have HK2 := Aside0.mk hk2; have HB2 := Aside0.mk (hb2 _ _ hR.out.2.2 HC.out.2.2.2.2.1); clear hr2 hk2 hb2))
            go_roundg gf
            case measure => omega
            case rel => exact ⟨i + 1, by omega, congrArg (Value.int .i64) (Go.Proofs.YtknekneicecgiaaGreatDoor.Mg.wrap1 (by have := HQ.out; omega)), by rw [show repB (lineF4 ++ [10]) (i + 1) = repB (lineF4 ++ [10]) i ++ (⟨#[49, 32, 50, 32, 51, 32, 52, 10]⟩ : ByteArray).data.toList from rfl, List.length_append]; rfl, ⟨HR2.out, hR.out.2.1.move (HK2.out _ HC.out.1), HB2.out⟩⟩
      | succ gf =>
        have HQ0 := HQ.out
        have hin : decide ((i : Int) < 3999 + (q : Int)) = true := by simp; omega
        have hlen := repB_length (lineS ++ [10]) i
        have hroom : (repB (lineS ++ [10]) i).length + (⟨#[49, 32, 50, 32, 51, 10]⟩ : ByteArray).size ≤ 40000 := by
          have h1 : (⟨#[49, 32, 50, 32, 51, 10]⟩ : ByteArray).size = 6 := rfl
          have h2 : (lineS ++ [10]).length = 6 := rfl
          rw [hlen, h1, h2]
          omega
        have HRoom := Aside0.mk hroom
        clear hlen hroom HQ0
        go_wp2_with (first | (at_builtin; refine wpList_app_row rfl (.tmp 29) (.const (.string ⟨#[49, 32, 50, 32, 51, 10]⟩)) rfl _ bs (repB (lineS ++ [10]) i) ⟨#[49, 32, 50, 32, 51, 10]⟩ rfl rfl hR.out.1 HRoom.out ?_; intro w2 hr2 hk2 hb2; have HR2 := Aside0.mk hr2; have HK2 := Aside0.mk hk2; have HB2 := Aside0.mk (hb2 _ _ hR.out.2.2 HC.out.2.2.2.1); clear hr2 hk2 hb2))
        go_roundg gf
        case measure => omega
        case rel => exact ⟨i + 1, by omega, congrArg (Value.int .i64) (Go.Proofs.YtknekneicecgiaaGreatDoor.Mg.wrap1 (by have := HQ.out; omega)), by rw [show repB (lineS ++ [10]) (i + 1) = repB (lineS ++ [10]) i ++ (⟨#[49, 32, 50, 32, 51, 10]⟩ : ByteArray).data.toList from rfl, List.length_append]; rfl, ⟨HR2.out, hR.out.2.1.move (HK2.out _ (fun h => HC.out.1 h.symm)), HB2.out⟩⟩
def isohyetlaw25_DataFulls.f (k : Nat) (n : Int) : Option Bool := some true
theorem isohyetlaw25_DataFulls.calls (k : Nat) (n : Int) (r : Bool) (w : World) (HT0 : TabW w) (HTRUE : r = true) (h : isohyetlaw25_DataFulls.f k n = some r) :
    Calls Tryz.prog 4 #[.int .i64 n] w fun e w' => e = .returned (.bool r) ∧ Below w.heap.size w w' := by
  subst HTRUE
  exact isohyetlaw25_DataFulls.walk n w HT0
end Go.Proofs.YtknekneicecgiaaGreatDoor.M
namespace Go.Proofs.YtknekneicecgiaaGreatDoor.Pure
open Go.Proofs.YtknekneicecgiaaGreatDoor.M
theorem DataFulls : ∀ (a0 : Int), (Lit.int .i64 a0).wf = true → ∃ k, isohyetlaw25_DataFulls.f k a0 = some true := fun _ _ => ⟨0, rfl⟩
end Go.Proofs.YtknekneicecgiaaGreatDoor.Pure
