/- A strings.Builder that a call has made itself, as the bytes that it holds. DataBack's closure 'bring'; a call of a function that a variable holds. data.PrintSamples: its Builder, its loop. data.PrintFaults: its Builder, its loop. -/
import Derived.Test.YtknekneicecgiaaGreatDoorA0
import Derived.WalkKit
import Derived.Deep.RegionLaw
import Derived.Test.YtknekneicecgiaaGreatDoorE5
namespace Go.Proofs.YtknekneicecgiaaGreatDoor.MB
open Go.RowKit Go.Lib Go.Proofs Go.Proofs.YtknekneicecgiaaGreatDoorW.PrintWords
def IsB (B b : Nat) (s : ByteArray) (w : World) : Prop := Lib.IsBuilder 80 5 B b (Lib.byteCells s.data.toList) w
theorem bu_fresh {w : World} {b : Nat} (h : w.heap[b]? = some (.cells #[.pointer none, .slice none 0 0] 80 (0, 0))) : IsB b b ⟨#[]⟩ w :=
  .inl ⟨Nat.le_refl _, _, h, ⟨rfl, .inl ⟨rfl, rfl⟩⟩, by simp [Value.ownBlock]⟩
theorem at_move {B b : Nat} {p : Value} {bs : List Value} {w w1 : World} (h : Lib.BuilderAt 80 5 B b p bs w) (hm : ∀ k o, w.heap[k]? = some o → (k = b ∨ ∃ cur, o = .cells cur 5 (0, 0)) → w1.heap[k]? = some o) : Lib.BuilderAt 80 5 B b p bs w1 := by
  obtain ⟨h1, v, h2, ⟨h3, h4⟩, h5⟩ := h
  refine ⟨h1, v, hm _ _ h2 (.inl rfl), ⟨h3, ?_⟩, h5⟩
  rcases h4 with h4 | ⟨g, cap, cur, e, e1, e2, r⟩
  · exact .inl h4
  · exact .inr ⟨g, cap, cur, e, e1, hm _ _ e2 (.inr ⟨cur, rfl⟩), r⟩
theorem bu_move {B b : Nat} {s : ByteArray} {w w1 : World} (h : IsB B b s w) (hm : ∀ k o, w.heap[k]? = some o → (k = b ∨ ∃ cur, o = .cells cur 5 (0, 0)) → w1.heap[k]? = some o) : IsB B b s w1 := h.imp (fun h => at_move h hm) (fun h => at_move h hm)
theorem bu_below {B b : Nat} {s : ByteArray} {w w1 : World} (h : IsB B b s w) (hb : Below w.heap.size w w1) : IsB B b s w1 := bu_move h fun k o hk _ => blk_below hk hb
theorem bu_write {B b : Nat} {x s : ByteArray} {w : World} (h : IsB B b x w) (hl : x.size + s.size ≤ 140737488355328) (hB : B ≤ w.heap.size) :
    Calls Tryz.prog 31 #[.pointer (some ⟨b, 0, none⟩), .string s] w fun e w' => e = .returned (.tuple #[.int .i64 s.size, .nilIface]) ∧ IsB B b (x ++ s) w' ∧ Below B w w' := by
  refine (Any.Builder_WriteString { Tryz.lays105 with } Tryz.Builder_Extra_105 B b _ s w h (by rw [Lib.byteCells_length, Array.length_toList]; exact hl) hB).mono ?_
  rintro e w' ⟨h1, h2, h3⟩
  refine ⟨h1, .inr ?_, h3⟩
  rw [ByteArray.data_append, Array.toList_append, Lib.byteCells_append]
  exact h2
theorem bu_string {B b : Nat} {x : ByteArray} {w : World} (h : IsB B b x w) (hB : B ≤ w.heap.size) :
    Calls Tryz.prog 32 #[.pointer (some ⟨b, 0, none⟩)] w fun e w' => e = .returned (.string x) ∧ Below B w w' :=
  Tryz.Builder_String_any B b x.data.toList w h hB
end Go.Proofs.YtknekneicecgiaaGreatDoor.MB
namespace Go.Proofs.YtknekneicecgiaaGreatDoor.M
open Go.RowKit Go.Lib Go.Proofs.YtknekneicecgiaaGreatDoorW.PrintWords Go.Proofs.YtknekneicecgiaaGreatDoorW.PrintLast Go.Proofs.YtknekneicecgiaaGreatDoorW.PrintMore Go.Proofs.YtknekneicecgiaaGreatDoor.MB
section
variable {P : Program} {ops : Array Oper} {Q : Exit → Act → World → Prop}
theorem goesV_ {oi : Oper} {N : Option Tmp} {a : Act} {w : World} {K : Act → World → Prop} {f : FuncId} {fn : Func} {x : Operand} {args0 : Array Operand} {ts : Array TypeId} (hx : a.eval x = .func (.func f) #[] #[]) (hf : P.funcs[f]? = some fn) (hname : (fn.name == "runtime.NumGoroutine") = false) (hb : fn.body.isSome = true) (args : Array Value)
    (hw : Region.wanted oi (yielded ops a.tmps) = true) (hN : oi.dst = N) (hop : oi.op = .call { callee := .value x, args := args0, argTypes := ts }) (hargs : args0.map a.eval = args)
    (h : Calls P f args w fun e w' => ∃ v, e = .returned v ∧ K (a.put N v) w') : if Region.wanted oi (yielded ops a.tmps) = true then Oper.wp P oi a w K Q else K (a.put N undef) w := by
  refine call_ f args hw hN ?_ h
  have he := enters_ hf hname hb args w
  unfold execOp
  simp [hop, resolve, Deferred.ofValue, invoke, hx, hargs, he]
end
def isohyetlaw25_bring.f (a0 : Int) : Option Int := some (mn (mx a0 (-2147483648)) 2147483648)
set_option maxHeartbeats 4000000 in
theorem isohyetlaw25_bring.calls (a0 : Int) (r : Int) (w : World) (h : isohyetlaw25_bring.f a0 = some r) : Calls Tryz.prog 15 #[.int .i64 a0] w fun e w' => e = .returned (.int .i64 r) ∧ Drawn0 w w' := by
  obtain rfl := Option.some.inj h
  clear h
  go_enter Tryz.func15, Tryz.ntmps15
  go_wp2
  go_ret
  exact ⟨by simp [mn, mx]; (repeat' split) <;> omega, Drawn0.refl w⟩
end Go.Proofs.YtknekneicecgiaaGreatDoor.M
namespace Go.Proofs.YtknekneicecgiaaGreatDoor.M
open Go.RowKit Go.Lib Go.Proofs.YtknekneicecgiaaGreatDoorW.PrintWords Go.Proofs.YtknekneicecgiaaGreatDoorW.PrintLast Go.Proofs.YtknekneicecgiaaGreatDoorW.PrintMore Go.Proofs.YtknekneicecgiaaGreatDoor.MB
set_option linter.unusedVariables false
set_option linter.unusedSimpArgs false
def data_PrintSamples.l0 : Nat → Int → Int → ByteArray → List (S34) → Int → Int → Option (ByteArray)
  | 0, _, _, _, _, _, _ => none
  | k + 1, x1, x2, x7, x10, x11, x12 => if x12 < x11 then (if 0 ≤ x12 then (if x12 < (x10.length : Int) then ((deci_Text.f k ((rd_T34 x10 x12).f0) x1).bind fun t280 => (if t280.size + 1 ≤ 9223372036854775807 then ((deci_Text.f k ((rd_T34 x10 x12).f1) x1).bind fun t281 => (if (t280 ++ (⟨#[32]⟩ : ByteArray)).size + t281.size ≤ 9223372036854775807 then (if ((t280 ++ (⟨#[32]⟩ : ByteArray)) ++ t281).size + 1 ≤ 9223372036854775807 then ((deci_Text.f k ((rd_T34 x10 x12).f2) x2).bind fun t282 => (if (((t280 ++ (⟨#[32]⟩ : ByteArray)) ++ t281) ++ (⟨#[32]⟩ : ByteArray)).size + t282.size ≤ 9223372036854775807 then (if ((((t280 ++ (⟨#[32]⟩ : ByteArray)) ++ t281) ++ (⟨#[32]⟩ : ByteArray)) ++ t282).size + 1 ≤ 9223372036854775807 then (if x7.size + (((((t280 ++ (⟨#[32]⟩ : ByteArray)) ++ t281) ++ (⟨#[32]⟩ : ByteArray)) ++ t282) ++ (⟨#[10]⟩ : ByteArray)).size ≤ 140737488355328 then (data_PrintSamples.l0 k x1 x2 (x7 ++ (((((t280 ++ (⟨#[32]⟩ : ByteArray)) ++ t281) ++ (⟨#[32]⟩ : ByteArray)) ++ t282) ++ (⟨#[10]⟩ : ByteArray))) x10 x11 (wrap64 (x12 + 1))) else (none)) else (none)) else (none))) else (none)) else (none))) else (none))) else (none)) else (none)) else (some x7)
def data_PrintSamples.f (k : Nat) (l0 : List (S34)) (a1 : Int) (a2 : Int) : Option (ByteArray) := data_PrintSamples.l0 k a1 a2 (⟨#[]⟩ : ByteArray) l0 (l0.length : Int) 0
def data_PrintSamples.T5 : Bool × List (List Nat × List Nat) := (true, [([], []), ([0], [0]), ([], []), ([1, 2], [1, 2]), ([3], [3]), ([], []), ([5], [5]), ([], []), ([6, 7, 3], [6, 7]), ([4, 8], [4, 8]), ([9], [9]), ([], []), ([11], [11]), ([], []), ([12, 13, 8], [12, 13]), ([10, 14], [10, 14]), ([15], [15]), ([16, 14], [16])])
def data_PrintSamples.B5 : List Nat := [0, 1, 0, 7, 15, 0, 32, 0, 239, 511, 1023, 0, 2048, 0, 14831, 32767, 65535, 131071]
theorem data_PrintSamples.tab5 : rtab .any (opsOf Tryz.f16 5) = data_PrintSamples.T5 := by kernel_rfl
theorem data_PrintSamples.bits5 : waitsOk data_PrintSamples.T5.2 data_PrintSamples.B5 = true := by kernel_rfl
set_option maxHeartbeats 8000000 in
set_option maxRecDepth 100000 in
theorem data_PrintSamples.calls (k : Nat) (A0 : Option Addr) (c0 : Nat) (l0 : List (S34)) (a1 : Int) (a2 : Int) (r : ByteArray) (w : World) (hr0 : Kd.C k34 w A0 l0.length l0) (hc0 : l0.length ≤ c0) (h : data_PrintSamples.f k l0 a1 a2 = some r) :
    Calls Tryz.prog 16 #[.slice A0 l0.length c0, .int .i64 a1, .int .i64 a2] w fun e w' => e = .returned (.string r) ∧ Below w.heap.size w w' := by
  have hu34 := Tryz.underlying34
  have HR0 := Aside0.mk hr0
  have HC0 := Aside0.mk hc0
  clear hr0 hc0
  have HB := Aside0.mk (Below.refl w.heap.size w)
  have H : (data_PrintSamples.l0 k a1 a2 (⟨#[]⟩ : ByteArray) l0 (l0.length : Int) 0) = some r := h
  clear h
  have H' := Aside0.mk H
  clear H
  go_enter Tryz.func16, Tryz.ntmps16
  go_wp2_with (first | ((with_reducible refine gate_dst (N := 7) rfl ?_); refine box_event ?hg (N := 7) ?hd (cs := #[.pointer none, .slice none 0 0]) (t := 80) ?hr ?_; (case hd => rfl); (case hg => rfl); (case hr => first | (go_simp; done) | (go_simp; rfl)); intro gB hgB w1_ hbox hb; have HU := Aside0.mk (show IsB w.heap.size gB ⟨#[]⟩ w1_ from by rw [← hgB]; exact bu_fresh hbox); have n0_ := Aside0.mk hb; clear HB; have HB := n0_; clear n0_ hb hbox hgB))
  go_loopg [12] k (fun kq v12 w' => ∃ (x7_1 : ByteArray) (x12_1 : Int), v12 = .int .i64 x12_1 ∧ Aside0 (data_PrintSamples.l0 kq a1 a2 x7_1 l0 (l0.length : Int) x12_1 = some r) ∧ Aside0 (kq ≤ k) ∧ Aside0 (Below w.heap.size w w') ∧ Aside0 (IsB w.heap.size gB x7_1 w'))
  case atStart => exact ⟨(⟨#[]⟩ : ByteArray), (0), (by first | rfl | (simp; done) | (simp [*]; done)), H', ⟨Nat.le_refl _⟩, HB, HU⟩
  case round =>
    clear H'
    try clear c1
    try clear p2
    clear HU HB
    obtain ⟨x7_1, x12_1, rfl, HA, HK1, HB0, HU⟩ := hrel
    have HRw := Aside0.mk (Kd.C_below HR0.out HB0.out)
    clear HR0
    have HR0 := HRw
    clear HRw
    have HB := Aside0.mk (Below.refl wr.heap.size wr)
    cases gk with
    | zero => exact absurd HA.out (by simp [data_PrintSamples.l0])
    | succ k1 =>
      have H := HA.out
      clear HA
      simp only [data_PrintSamples.l0] at H
      by_cases c4 : x12_1 < (l0.length : Int)
      · rw [if_pos c4] at H
        have c4b0 : decide (x12_1 < (l0.length : Int)) = true := decide_eq_true c4
        clear c4
        by_cases c5 : 0 ≤ x12_1
        · rw [if_pos c5] at H
          have c5b0 : decide (0 ≤ x12_1) = true := decide_eq_true c5
          clear c5
          by_cases c6 : x12_1 < (l0.length : Int)
          · rw [if_pos c6] at H
            have c6b0 : decide (x12_1 < (l0.length : Int)) = true := decide_eq_true c6
            clear c6
            replace H := Option.bind_eq_some_iff.mp H
            obtain ⟨t280, A70, H⟩ := H
            replace H : (if t280.size + 1 ≤ 9223372036854775807 then ((deci_Text.f k1 ((rd_T34 l0 x12_1).f1) a1).bind fun t281 => (if (t280 ++ (⟨#[32]⟩ : ByteArray)).size + t281.size ≤ 9223372036854775807 then (if ((t280 ++ (⟨#[32]⟩ : ByteArray)) ++ t281).size + 1 ≤ 9223372036854775807 then ((deci_Text.f k1 ((rd_T34 l0 x12_1).f2) a2).bind fun t282 => (if (((t280 ++ (⟨#[32]⟩ : ByteArray)) ++ t281) ++ (⟨#[32]⟩ : ByteArray)).size + t282.size ≤ 9223372036854775807 then (if ((((t280 ++ (⟨#[32]⟩ : ByteArray)) ++ t281) ++ (⟨#[32]⟩ : ByteArray)) ++ t282).size + 1 ≤ 9223372036854775807 then (if x7_1.size + (((((t280 ++ (⟨#[32]⟩ : ByteArray)) ++ t281) ++ (⟨#[32]⟩ : ByteArray)) ++ t282) ++ (⟨#[10]⟩ : ByteArray)).size ≤ 140737488355328 then (data_PrintSamples.l0 k1 a1 a2 (x7_1 ++ (((((t280 ++ (⟨#[32]⟩ : ByteArray)) ++ t281) ++ (⟨#[32]⟩ : ByteArray)) ++ t282) ++ (⟨#[10]⟩ : ByteArray))) l0 (l0.length : Int) (wrap64 (x12_1 + 1))) else (none)) else (none)) else (none))) else (none)) else (none))) else (none)) = some r := H
            have A7 := Aside0.mk A70
            clear A70
            by_cases c8 : t280.size + 1 ≤ 9223372036854775807
            · rw [if_pos c8] at H
              have c8b0 := eq_true c8
              have c8b1 : decide (t280.size + 1 ≤ 9223372036854775807) = true := decide_eq_true c8
              try have c8b2 : (9223372036854775807 < t280.size + 1) = False := eq_false (Nat.not_lt.2 c8)
              replace H := Option.bind_eq_some_iff.mp H
              obtain ⟨t281, A90, H⟩ := H
              replace H : (if (t280 ++ (⟨#[32]⟩ : ByteArray)).size + t281.size ≤ 9223372036854775807 then (if ((t280 ++ (⟨#[32]⟩ : ByteArray)) ++ t281).size + 1 ≤ 9223372036854775807 then ((deci_Text.f k1 ((rd_T34 l0 x12_1).f2) a2).bind fun t282 => (if (((t280 ++ (⟨#[32]⟩ : ByteArray)) ++ t281) ++ (⟨#[32]⟩ : ByteArray)).size + t282.size ≤ 9223372036854775807 then (if ((((t280 ++ (⟨#[32]⟩ : ByteArray)) ++ t281) ++ (⟨#[32]⟩ : ByteArray)) ++ t282).size + 1 ≤ 9223372036854775807 then (if x7_1.size + (((((t280 ++ (⟨#[32]⟩ : ByteArray)) ++ t281) ++ (⟨#[32]⟩ : ByteArray)) ++ t282) ++ (⟨#[10]⟩ : ByteArray)).size ≤ 140737488355328 then (data_PrintSamples.l0 k1 a1 a2 (x7_1 ++ (((((t280 ++ (⟨#[32]⟩ : ByteArray)) ++ t281) ++ (⟨#[32]⟩ : ByteArray)) ++ t282) ++ (⟨#[10]⟩ : ByteArray))) l0 (l0.length : Int) (wrap64 (x12_1 + 1))) else (none)) else (none)) else (none))) else (none)) else (none)) = some r := H
              have A9 := Aside0.mk A90
              clear A90
              by_cases c10 : (t280 ++ (⟨#[32]⟩ : ByteArray)).size + t281.size ≤ 9223372036854775807
              · rw [if_pos c10] at H
                have c10b0 := eq_true c10
                have c10b1 : decide ((t280 ++ (⟨#[32]⟩ : ByteArray)).size + t281.size ≤ 9223372036854775807) = true := decide_eq_true c10
                have c10b3 : (9223372036854775807 < t280.size + 1 + t281.size) = False := eq_false (by have h_ := c10; simp only [ByteArray.size_append, show (⟨#[32]⟩ : ByteArray).size = 1 from rfl] at h_; omega)
                try have c10b2 : (9223372036854775807 < (t280 ++ (⟨#[32]⟩ : ByteArray)).size + t281.size) = False := eq_false (Nat.not_lt.2 c10)
                by_cases c11 : ((t280 ++ (⟨#[32]⟩ : ByteArray)) ++ t281).size + 1 ≤ 9223372036854775807
                · rw [if_pos c11] at H
                  have c11b0 := eq_true c11
                  have c11b1 : decide (((t280 ++ (⟨#[32]⟩ : ByteArray)) ++ t281).size + 1 ≤ 9223372036854775807) = true := decide_eq_true c11
                  have c11b3 : (9223372036854775807 < t280.size + 1 + t281.size + 1) = False := eq_false (by have h_ := c11; simp only [ByteArray.size_append, show (⟨#[32]⟩ : ByteArray).size = 1 from rfl] at h_; omega)
                  try have c11b2 : (9223372036854775807 < ((t280 ++ (⟨#[32]⟩ : ByteArray)) ++ t281).size + 1) = False := eq_false (Nat.not_lt.2 c11)
                  replace H := Option.bind_eq_some_iff.mp H
                  obtain ⟨t282, A120, H⟩ := H
                  replace H : (if (((t280 ++ (⟨#[32]⟩ : ByteArray)) ++ t281) ++ (⟨#[32]⟩ : ByteArray)).size + t282.size ≤ 9223372036854775807 then (if ((((t280 ++ (⟨#[32]⟩ : ByteArray)) ++ t281) ++ (⟨#[32]⟩ : ByteArray)) ++ t282).size + 1 ≤ 9223372036854775807 then (if x7_1.size + (((((t280 ++ (⟨#[32]⟩ : ByteArray)) ++ t281) ++ (⟨#[32]⟩ : ByteArray)) ++ t282) ++ (⟨#[10]⟩ : ByteArray)).size ≤ 140737488355328 then (data_PrintSamples.l0 k1 a1 a2 (x7_1 ++ (((((t280 ++ (⟨#[32]⟩ : ByteArray)) ++ t281) ++ (⟨#[32]⟩ : ByteArray)) ++ t282) ++ (⟨#[10]⟩ : ByteArray))) l0 (l0.length : Int) (wrap64 (x12_1 + 1))) else (none)) else (none)) else (none)) = some r := H
                  have A12 := Aside0.mk A120
                  clear A120
                  by_cases c13 : (((t280 ++ (⟨#[32]⟩ : ByteArray)) ++ t281) ++ (⟨#[32]⟩ : ByteArray)).size + t282.size ≤ 9223372036854775807
                  · rw [if_pos c13] at H
                    have c13b0 := eq_true c13
                    have c13b1 : decide ((((t280 ++ (⟨#[32]⟩ : ByteArray)) ++ t281) ++ (⟨#[32]⟩ : ByteArray)).size + t282.size ≤ 9223372036854775807) = true := decide_eq_true c13
                    have c13b3 : (9223372036854775807 < t280.size + 1 + t281.size + 1 + t282.size) = False := eq_false (by have h_ := c13; simp only [ByteArray.size_append, show (⟨#[32]⟩ : ByteArray).size = 1 from rfl] at h_; omega)
                    try have c13b2 : (9223372036854775807 < (((t280 ++ (⟨#[32]⟩ : ByteArray)) ++ t281) ++ (⟨#[32]⟩ : ByteArray)).size + t282.size) = False := eq_false (Nat.not_lt.2 c13)
                    by_cases c14 : ((((t280 ++ (⟨#[32]⟩ : ByteArray)) ++ t281) ++ (⟨#[32]⟩ : ByteArray)) ++ t282).size + 1 ≤ 9223372036854775807
                    · rw [if_pos c14] at H
                      have c14b0 := eq_true c14
                      have c14b1 : decide (((((t280 ++ (⟨#[32]⟩ : ByteArray)) ++ t281) ++ (⟨#[32]⟩ : ByteArray)) ++ t282).size + 1 ≤ 9223372036854775807) = true := decide_eq_true c14
                      have c14b3 : (9223372036854775807 < t280.size + 1 + t281.size + 1 + t282.size + 1) = False := eq_false (by have h_ := c14; simp only [ByteArray.size_append, show (⟨#[32]⟩ : ByteArray).size = 1 from rfl] at h_; omega)
                      try have c14b2 : (9223372036854775807 < ((((t280 ++ (⟨#[32]⟩ : ByteArray)) ++ t281) ++ (⟨#[32]⟩ : ByteArray)) ++ t282).size + 1) = False := eq_false (Nat.not_lt.2 c14)
                      by_cases c15 : x7_1.size + (((((t280 ++ (⟨#[32]⟩ : ByteArray)) ++ t281) ++ (⟨#[32]⟩ : ByteArray)) ++ t282) ++ (⟨#[10]⟩ : ByteArray)).size ≤ 140737488355328
                      · rw [if_pos c15] at H
                        have c15b0 := eq_true c15
                        have c15b1 : decide (x7_1.size + (((((t280 ++ (⟨#[32]⟩ : ByteArray)) ++ t281) ++ (⟨#[32]⟩ : ByteArray)) ++ t282) ++ (⟨#[10]⟩ : ByteArray)).size ≤ 140737488355328) = true := decide_eq_true c15
                        have H' := Aside0.mk H
                        clear H
                        have p278 : 0 ≤ (x12_1 : Int) := of_decide_eq_true (by first | (with_reducible assumption) | assumption)
                        have q278 : x12_1 < (l0.length : Int) := of_decide_eq_true (by first | (with_reducible assumption) | assumption)
                        obtain ⟨ad278, e278, hx278_0, hx278_1, hx278_2⟩ := at_T34 HR0.out x12_1 p278 q278
                        cases e278
                        replace hx278_0 := (HB.out.cell (World.block_lt_of_cell? wr _ hx278_0)).trans hx278_0
                        replace hx278_1 := (HB.out.cell (World.block_lt_of_cell? wr _ hx278_1)).trans hx278_1
                        replace hx278_2 := (HB.out.cell (World.block_lt_of_cell? wr _ hx278_2)).trans hx278_2
                        replace p278 := eq_true p278
                        replace q278 := eq_true q278
                        try go_wp2_with (first | ((with_reducible refine gate_dst (N := 9) rfl ?_); refine box_event ?hg (N := 9) ?hd (cs := #[.int .i64 0, .int .i64 0, .int .i64 0]) (t := 34) ?hr ?_; (case hd => rfl); (case hg => rfl); (case hr => first | (go_simp; done) | (go_simp; rfl)); intro gb279 hg w16 hbox hb; have n0_ := Aside0.mk (below_step (by repeat (first | (with_reducible first | exact HB.out | apply below_alloc | apply pw_below_drewN | apply below_drew1) | exact HB.out)) hb); have n1_ := Aside0.mk (hbox); have n2_ := Aside0.mk ((by rw [hg]; exact (below_size (by repeat (first | (with_reducible first | exact HB.out | apply below_alloc | apply pw_below_drewN | apply below_drew1) | exact HB.out))) : wr.heap.size ≤ gb279)); have n3_ := Aside0.mk ((by rw [hg]; exact (below_size (by repeat (first | (with_reducible first | exact HB.out | apply below_alloc | apply pw_below_drewN | apply below_drew1) | exact HB.out))) : wr.heap.size ≤ gb279)); clear HB; have HB := n0_; have BK279 := n1_; have GW279 := n2_; have GE279 := n3_; clear n0_ n1_ n2_ n3_; clear hb hbox hg; have hcz17_0 : w16.cell? ⟨gb279, 0, none⟩ = some (.int .i64 0) := (blk_cell BK279.out 0).trans rfl; have hcz17_1 : w16.cell? ⟨gb279, 1, none⟩ = some (.int .i64 0) := (blk_cell BK279.out 1).trans rfl; have hcz17_2 : w16.cell? ⟨gb279, 2, none⟩ = some (.int .i64 0) := (blk_cell BK279.out 2).trans rfl; have hfz17_0 := blk_frozen BK279.out 0; have hfz17_1 := blk_frozen BK279.out 1; have hfz17_2 := blk_frozen BK279.out 2))
                        have n0_ : Aside0 ((((w16.setCell ⟨gb279, 0, none⟩ (.int .i64 ((rd_T34 l0 x12_1).f0))).setCell ⟨gb279, 1, none⟩ (.int .i64 ((rd_T34 l0 x12_1).f1))).setCell ⟨gb279, 2, none⟩ (.int .i64 ((rd_T34 l0 x12_1).f2))).heap[gb279]? = some (.cells #[.int .i64 ((rd_T34 l0 x12_1).f0), .int .i64 ((rd_T34 l0 x12_1).f1), .int .i64 ((rd_T34 l0 x12_1).f2)] 34 (0, 0))) := ⟨by (with_reducible repeat (first | refine blk_drewN ?_ _ | refine blk_drew ?_ | refine blk_alloc ?_ _)); refine blk_put (cs := #[.int .i64 ((rd_T34 l0 x12_1).f0), .int .i64 ((rd_T34 l0 x12_1).f1), .int .i64 0]) ?_ 2 _ rfl; (with_reducible repeat (first | refine blk_drewN ?_ _ | refine blk_drew ?_ | refine blk_alloc ?_ _)); refine blk_put (cs := #[.int .i64 ((rd_T34 l0 x12_1).f0), .int .i64 0, .int .i64 0]) ?_ 1 _ rfl; (with_reducible repeat (first | refine blk_drewN ?_ _ | refine blk_drew ?_ | refine blk_alloc ?_ _)); refine blk_put (cs := #[.int .i64 0, .int .i64 0, .int .i64 0]) ?_ 0 _ rfl; (with_reducible repeat (first | refine blk_drewN ?_ _ | refine blk_drew ?_ | refine blk_alloc ?_ _)); exact BK279.out⟩
                        have n1_ : Aside0 (Below wr.heap.size wr (((w16.setCell ⟨gb279, 0, none⟩ (.int .i64 ((rd_T34 l0 x12_1).f0))).setCell ⟨gb279, 1, none⟩ (.int .i64 ((rd_T34 l0 x12_1).f1))).setCell ⟨gb279, 2, none⟩ (.int .i64 ((rd_T34 l0 x12_1).f2)))) := ⟨by repeat (first | (with_reducible first | exact HB.out | apply below_alloc | apply pw_below_drewN | apply below_drew1 | refine below_set ?_ GE279.out) | exact HB.out)⟩
                        (try clear BK279)
                        (try clear HB)
                        generalize (((w16.setCell ⟨gb279, 0, none⟩ (.int .i64 ((rd_T34 l0 x12_1).f0))).setCell ⟨gb279, 1, none⟩ (.int .i64 ((rd_T34 l0 x12_1).f1))).setCell ⟨gb279, 2, none⟩ (.int .i64 ((rd_T34 l0 x12_1).f2))) = w18 at n0_ n1_ ⊢
                        have BK279 := n0_
                        have HB := n1_
                        clear n0_ n1_
                        have n0_ := Aside0.mk (blk_drew BK279.out)
                        have n1_ := Aside0.mk (below_drew1 HB.out)
                        clear BK279
                        clear HB
                        have BK279 := n0_
                        have HB := n1_
                        clear n0_ n1_
                        refine start_ (n := 18) (S := fun w' => w'.cell? ⟨gb279, 0, none⟩ = some (.int .i64 ((rd_T34 l0 x12_1).f0)) ∧ w'.cell? ⟨gb279, 1, none⟩ = some (.int .i64 ((rd_T34 l0 x12_1).f1)) ∧ w'.cell? ⟨gb279, 2, none⟩ = some (.int .i64 ((rd_T34 l0 x12_1).f2))) (ds := [17]) #[false, false, false, false, false, false, false, false, false, false, false, false, false, false, false, false, false, false] (by kernel_rfl) rfl rfl ⟨(blk_cell BK279.out 0).trans rfl, (blk_cell BK279.out 1).trans rfl, (blk_cell BK279.out 2).trans rfl⟩ (fun hHeld => ?_); refine with_tabW data_PrintSamples.tab5 data_PrintSamples.bits5 (fun HT_ HW_ => ?_)
                        generalize w18.drew = w19 at BK279 HB hHeld ⊢
                        refine pure_ (i := 0) (N := some 16) (v := ?_) (a' := ?_) #[true, false, false, false, false, false, false, false, false, false, false, false, false, false, false, false, false, false] rfl rfl (any_of HT_.out (by kernel_rfl)) (fun _ _ _ h => h) (Or.inl ⟨by rfl, ?_⟩) ?_ ?_
                        rotate_left
                        · intro w'
                          go_simp
                          with_reducible rfl
                        rotate_left
                        · simp only [Act.put, List.setIfInBounds_toArray, List.set_cons_zero, List.set_cons_succ, i64_w, i32_w]
                          rfl
                        refine pure_ (i := 2) (N := some 18) (v := ?_) (a' := ?_) #[true, false, true, false, false, false, false, false, false, false, false, false, false, false, false, false, false, false] rfl rfl (any_of HT_.out (by kernel_rfl)) (fun _ _ _ h => h) (Or.inl ⟨by rfl, ?_⟩) ?_ ?_
                        rotate_left
                        · intro w'
                          go_simp
                          with_reducible rfl
                        rotate_left
                        · simp only [Act.put, List.setIfInBounds_toArray, List.set_cons_zero, List.set_cons_succ, i64_w, i32_w]
                          rfl
                        refine pure_ (i := 5) (N := some 21) (v := ?_) (a' := ?_) #[true, false, true, false, false, true, false, false, false, false, false, false, false, false, false, false, false, false] rfl rfl (any_of HT_.out (by kernel_rfl)) (fun _ _ _ h => h) (Or.inl ⟨by rfl, ?_⟩) ?_ ?_
                        rotate_left
                        · intro w'
                          go_simp
                          with_reducible rfl
                        rotate_left
                        · simp only [Act.put, List.setIfInBounds_toArray, List.set_cons_zero, List.set_cons_succ, i64_w, i32_w]
                          rfl
                        refine pure_ (i := 7) (N := some 23) (v := ?_) (a' := ?_) #[true, false, true, false, false, true, false, true, false, false, false, false, false, false, false, false, false, false] rfl rfl (any_of HT_.out (by kernel_rfl)) (fun _ _ _ h => h) (Or.inl ⟨by rfl, ?_⟩) ?_ ?_
                        rotate_left
                        · intro w'
                          go_simp
                          with_reducible rfl
                        rotate_left
                        · simp only [Act.put, List.setIfInBounds_toArray, List.set_cons_zero, List.set_cons_succ, i64_w, i32_w]
                          rfl
                        refine pure_ (i := 11) (N := some 27) (v := ?_) (a' := ?_) #[true, false, true, false, false, true, false, true, false, false, false, true, false, false, false, false, false, false] rfl rfl (any_of HT_.out (by kernel_rfl)) (fun _ _ _ h => h) (Or.inl ⟨by rfl, ?_⟩) ?_ ?_
                        rotate_left
                        · intro w'
                          go_simp
                          with_reducible rfl
                        rotate_left
                        · simp only [Act.put, List.setIfInBounds_toArray, List.set_cons_zero, List.set_cons_succ, i64_w, i32_w]
                          rfl
                        refine pure_ (i := 13) (N := some 29) (v := ?_) (a' := ?_) #[true, false, true, false, false, true, false, true, false, false, false, true, false, true, false, false, false, false] rfl rfl (any_of HT_.out (by kernel_rfl)) (fun _ _ _ h => h) (Or.inl ⟨by rfl, ?_⟩) ?_ ?_
                        rotate_left
                        · intro w'
                          go_simp
                          with_reducible rfl
                        rotate_left
                        · simp only [Act.put, List.setIfInBounds_toArray, List.set_cons_zero, List.set_cons_succ, i64_w, i32_w]
                          rfl
                        refine take_ (i := 1) (N := some 17) (v := ?_) (a' := ?_) #[true, true, true, false, false, true, false, true, false, false, false, true, false, true, false, false, false, false] rfl rfl (take_ofW HT_.out HW_.out (by kernel_rfl)) (fun _ _ _ h => h) (Or.inl ⟨by rfl, ?_⟩) hHeld ?_ ?_
                        rotate_left
                        · rintro w' ⟨s0, s1, s2⟩
                          go_simp
                          with_reducible rfl
                        rotate_left
                        · simp only [Act.put, List.setIfInBounds_toArray, List.set_cons_zero, List.set_cons_succ, i64_w, i32_w]
                          rfl
                        refine take_ (i := 6) (N := some 22) (v := ?_) (a' := ?_) #[true, true, true, false, false, true, true, true, false, false, false, true, false, true, false, false, false, false] rfl rfl (take_ofW HT_.out HW_.out (by kernel_rfl)) (fun _ _ _ h => h) (Or.inl ⟨by rfl, ?_⟩) hHeld ?_ ?_
                        rotate_left
                        · rintro w' ⟨s0, s1, s2⟩
                          go_simp
                          with_reducible rfl
                        rotate_left
                        · simp only [Act.put, List.setIfInBounds_toArray, List.set_cons_zero, List.set_cons_succ, i64_w, i32_w]
                          rfl
                        refine take_ (i := 12) (N := some 28) (v := ?_) (a' := ?_) #[true, true, true, false, false, true, true, true, false, false, false, true, true, true, false, false, false, false] rfl rfl (take_ofW HT_.out HW_.out (by kernel_rfl)) (fun _ _ _ h => h) (Or.inl ⟨by rfl, ?_⟩) hHeld ?_ ?_
                        rotate_left
                        · rintro w' ⟨s0, s1, s2⟩
                          go_simp
                          with_reducible rfl
                        rotate_left
                        · simp only [Act.put, List.setIfInBounds_toArray, List.set_cons_zero, List.set_cons_succ, i64_w, i32_w]
                          rfl
                        refine one_ (i := 3) (N := some 19) #[true, true, true, true, false, true, true, true, false, false, false, true, true, true, false, false, false, false] rfl rfl (one_of HT_.out (by kernel_rfl)) (by decide) (fun K hK => ?_)
                        refine goes_ Tryz.func14 (by kernel_rfl) rfl #[.int .i64 ((rd_T34 l0 x12_1).f0), .int .i64 a1] (by rfl) rfl rfl (by (try simp only [List.map_toArray, List.map_cons, List.map_nil]); first | done | rfl | (simp only [List.length_drop, List.length_take]; rfl)) ?_
                        with_reducible refine (deci_Text.calls k1 ((rd_T34 l0 x12_1).f0) a1 t280 _ A7.out).mono ?_
                        rintro e w20 ⟨rfl, hb⟩
                        refine ⟨_, rfl, ?_⟩
                        have n0_ := Aside0.mk (blk_below (g := gb279) (o := .cells #[.int .i64 ((rd_T34 l0 x12_1).f0), .int .i64 ((rd_T34 l0 x12_1).f1), .int .i64 ((rd_T34 l0 x12_1).f2)] 34 (0, 0)) (by (with_reducible repeat (first | refine blk_drewN ?_ _ | refine blk_drew ?_ | refine blk_alloc ?_ _)); exact BK279.out) hb)
                        have n1_ := Aside0.mk (below_step (by repeat (first | (with_reducible first | exact HB.out | apply below_alloc | apply pw_below_drewN | apply below_drew1 | refine below_set ?_ GE279.out) | exact HB.out)) hb)
                        clear BK279
                        clear HB
                        have BK279 := n0_
                        have HB := n1_
                        clear n0_ n1_
                        (try clear hb)
                        (try clear hb2)
                        (try clear hk)
                        (try clear hi)
                        refine hK.out _ _ ⟨(blk_cell BK279.out 0).trans rfl, (blk_cell BK279.out 1).trans rfl, (blk_cell BK279.out 2).trans rfl⟩ (fun hHeld => ?_)
                        clear hK K
                        refine norm_ (a' := ?_) ?_ ?_
                        rotate_left
                        · show Act.put _ (some 19) _ = _
                          simp only [Act.put, List.setIfInBounds_toArray, List.set_cons_zero, List.set_cons_succ, i64_w, i32_w]
                          rfl
                        refine pure_ (i := 4) (N := some 20) (v := ?_) (a' := ?_) #[true, true, true, true, true, true, true, true, false, false, false, true, true, true, false, false, false, false] rfl rfl (any_of HT_.out (by kernel_rfl)) (fun _ _ _ h => h) (Or.inl ⟨by rfl, ?_⟩) ?_ ?_
                        rotate_left
                        · intro w'
                          go_simp
                          with_reducible rfl
                        rotate_left
                        · simp only [Act.put, List.setIfInBounds_toArray, List.set_cons_zero, List.set_cons_succ, i64_w, i32_w]
                          rfl
                        refine one_ (i := 8) (N := some 24) #[true, true, true, true, true, true, true, true, true, false, false, true, true, true, false, false, false, false] rfl rfl (one_of HT_.out (by kernel_rfl)) (by decide) (fun K hK => ?_)
                        refine goes_ Tryz.func14 (by kernel_rfl) rfl #[.int .i64 ((rd_T34 l0 x12_1).f1), .int .i64 a1] (by rfl) rfl rfl (by (try simp only [List.map_toArray, List.map_cons, List.map_nil]); first | done | rfl | (simp only [List.length_drop, List.length_take]; rfl)) ?_
                        with_reducible refine (deci_Text.calls k1 ((rd_T34 l0 x12_1).f1) a1 t281 _ A9.out).mono ?_
                        rintro e w21 ⟨rfl, hb⟩
                        refine ⟨_, rfl, ?_⟩
                        have n0_ := Aside0.mk (blk_below (g := gb279) (o := .cells #[.int .i64 ((rd_T34 l0 x12_1).f0), .int .i64 ((rd_T34 l0 x12_1).f1), .int .i64 ((rd_T34 l0 x12_1).f2)] 34 (0, 0)) (by (with_reducible repeat (first | refine blk_drewN ?_ _ | refine blk_drew ?_ | refine blk_alloc ?_ _)); exact BK279.out) hb)
                        have n1_ := Aside0.mk (below_step (by repeat (first | (with_reducible first | exact HB.out | apply below_alloc | apply pw_below_drewN | apply below_drew1 | refine below_set ?_ GE279.out) | exact HB.out)) hb)
                        clear BK279
                        clear HB
                        have BK279 := n0_
                        have HB := n1_
                        clear n0_ n1_
                        (try clear hb)
                        (try clear hb2)
                        (try clear hk)
                        (try clear hi)
                        refine hK.out _ _ ⟨(blk_cell BK279.out 0).trans rfl, (blk_cell BK279.out 1).trans rfl, (blk_cell BK279.out 2).trans rfl⟩ (fun hHeld => ?_)
                        clear hK K
                        refine norm_ (a' := ?_) ?_ ?_
                        rotate_left
                        · show Act.put _ (some 24) _ = _
                          simp only [Act.put, List.setIfInBounds_toArray, List.set_cons_zero, List.set_cons_succ, i64_w, i32_w]
                          rfl
                        refine pure_ (i := 9) (N := some 25) (v := ?_) (a' := ?_) #[true, true, true, true, true, true, true, true, true, true, false, true, true, true, false, false, false, false] rfl rfl (any_of HT_.out (by kernel_rfl)) (fun _ _ _ h => h) (Or.inl ⟨by rfl, ?_⟩) ?_ ?_
                        rotate_left
                        · intro w'
                          go_simp
                          with_reducible rfl
                        rotate_left
                        · simp only [Act.put, List.setIfInBounds_toArray, List.set_cons_zero, List.set_cons_succ, i64_w, i32_w]
                          rfl
                        refine pure_ (i := 10) (N := some 26) (v := ?_) (a' := ?_) #[true, true, true, true, true, true, true, true, true, true, true, true, true, true, false, false, false, false] rfl rfl (any_of HT_.out (by kernel_rfl)) (fun _ _ _ h => h) (Or.inl ⟨by rfl, ?_⟩) ?_ ?_
                        rotate_left
                        · intro w'
                          go_simp
                          with_reducible rfl
                        rotate_left
                        · simp only [Act.put, List.setIfInBounds_toArray, List.set_cons_zero, List.set_cons_succ, i64_w, i32_w]
                          rfl
                        refine one_ (i := 14) (N := some 30) #[true, true, true, true, true, true, true, true, true, true, true, true, true, true, true, false, false, false] rfl rfl (one_of HT_.out (by kernel_rfl)) (by decide) (fun K hK => ?_)
                        refine goes_ Tryz.func14 (by kernel_rfl) rfl #[.int .i64 ((rd_T34 l0 x12_1).f2), .int .i64 a2] (by rfl) rfl rfl (by (try simp only [List.map_toArray, List.map_cons, List.map_nil]); first | done | rfl | (simp only [List.length_drop, List.length_take]; rfl)) ?_
                        with_reducible refine (deci_Text.calls k1 ((rd_T34 l0 x12_1).f2) a2 t282 _ A12.out).mono ?_
                        rintro e w22 ⟨rfl, hb⟩
                        refine ⟨_, rfl, ?_⟩
                        have n0_ := Aside0.mk (blk_below (g := gb279) (o := .cells #[.int .i64 ((rd_T34 l0 x12_1).f0), .int .i64 ((rd_T34 l0 x12_1).f1), .int .i64 ((rd_T34 l0 x12_1).f2)] 34 (0, 0)) (by (with_reducible repeat (first | refine blk_drewN ?_ _ | refine blk_drew ?_ | refine blk_alloc ?_ _)); exact BK279.out) hb)
                        have n1_ := Aside0.mk (below_step (by repeat (first | (with_reducible first | exact HB.out | apply below_alloc | apply pw_below_drewN | apply below_drew1 | refine below_set ?_ GE279.out) | exact HB.out)) hb)
                        clear BK279
                        clear HB
                        have BK279 := n0_
                        have HB := n1_
                        clear n0_ n1_
                        (try clear hb)
                        (try clear hb2)
                        (try clear hk)
                        (try clear hi)
                        refine hK.out _ _ ⟨(blk_cell BK279.out 0).trans rfl, (blk_cell BK279.out 1).trans rfl, (blk_cell BK279.out 2).trans rfl⟩ (fun hHeld => ?_)
                        clear hK K
                        refine norm_ (a' := ?_) ?_ ?_
                        rotate_left
                        · show Act.put _ (some 30) _ = _
                          simp only [Act.put, List.setIfInBounds_toArray, List.set_cons_zero, List.set_cons_succ, i64_w, i32_w]
                          rfl
                        refine pure_ (i := 15) (N := some 31) (v := ?_) (a' := ?_) #[true, true, true, true, true, true, true, true, true, true, true, true, true, true, true, true, false, false] rfl rfl (any_of HT_.out (by kernel_rfl)) (fun _ _ _ h => h) (Or.inl ⟨by rfl, ?_⟩) ?_ ?_
                        rotate_left
                        · intro w'
                          go_simp
                          with_reducible rfl
                        rotate_left
                        · simp only [Act.put, List.setIfInBounds_toArray, List.set_cons_zero, List.set_cons_succ, i64_w, i32_w]
                          rfl
                        refine pure_ (i := 16) (N := some 32) (v := ?_) (a' := ?_) #[true, true, true, true, true, true, true, true, true, true, true, true, true, true, true, true, true, false] rfl rfl (any_of HT_.out (by kernel_rfl)) (fun _ _ _ h => h) (Or.inl ⟨by rfl, ?_⟩) ?_ ?_
                        rotate_left
                        · intro w'
                          go_simp
                          with_reducible rfl
                        rotate_left
                        · simp only [Act.put, List.setIfInBounds_toArray, List.set_cons_zero, List.set_cons_succ, i64_w, i32_w]
                          rfl
                        refine last_ (i := 17) (N := some 33) #[true, true, true, true, true, true, true, true, true, true, true, true, true, true, true, true, true, true] rfl rfl (one_of HT_.out (by kernel_rfl)) (by decide) (fun K hK => ?_)
                        refine goes_ Tryz.func31 (by kernel_rfl) rfl #[.pointer (some ⟨gB, 0, none⟩), .string (((((t280 ++ (⟨#[32]⟩ : ByteArray)) ++ t281) ++ (⟨#[32]⟩ : ByteArray)) ++ t282) ++ (⟨#[10]⟩ : ByteArray))] (by rfl) rfl rfl (by (try simp only [List.map_toArray, List.map_cons, List.map_nil]); first | done | rfl) ?_
                        refine (bu_write (bu_below HU.out HB.out) c15 (Nat.le_trans HB0.out.size HB.out.size)).mono ?_
                        rintro e w99 ⟨rfl, hu, hb⟩
                        refine ⟨_, rfl, ?_⟩
                        have n0_ := Aside0.mk (HB0.out.trans ((HB.out.mono HB0.out.size).trans hb))
                        have n1_ := Aside0.mk hu
                        clear HB HU hu hb
                        have HB := n0_
                        have HU := n1_
                        clear n0_ n1_
                        refine hK.out _ _ ?_
                        clear hK K
                        refine norm_ (a' := ?_) ?_ ?_
                        rotate_left
                        · show Act.put _ (some 33) _ = _
                          simp only [Act.put, List.setIfInBounds_toArray, List.set_cons_zero, List.set_cons_succ, i64_w, i32_w]
                          rfl
                        refine done_ (done_of HT_.out (by kernel_rfl)) ?_
                        try go_wp2
                        go_roundg k1
                        case measure => have := HK1.out; omega
                        case rel => exact ⟨(x7_1 ++ (((((t280 ++ (⟨#[32]⟩ : ByteArray)) ++ t281) ++ (⟨#[32]⟩ : ByteArray)) ++ t282) ++ (⟨#[10]⟩ : ByteArray))), (wrap64 (x12_1 + 1)), (by first | rfl | (simp; done) | (simp [*]; done)), H', ⟨by have := HK1.out; omega⟩, HB, HU⟩
                      · rw [if_neg c15] at H
                        exact absurd H (by simp)
                    · rw [if_neg c14] at H
                      exact absurd H (by simp)
                  · rw [if_neg c13] at H
                    exact absurd H (by simp)
                · rw [if_neg c11] at H
                  exact absurd H (by simp)
              · rw [if_neg c10] at H
                exact absurd H (by simp)
            · rw [if_neg c8] at H
              exact absurd H (by simp)
          · rw [if_neg c6] at H
            exact absurd H (by simp)
        · rw [if_neg c5] at H
          exact absurd H (by simp)
      · rw [if_neg c4] at H
        have c4b0 : decide (x12_1 < (l0.length : Int)) = false := decide_eq_false c4
        clear c4
        obtain rfl := Option.some.inj H
        go_wp2_with (first | ((with_reducible refine gate_callee (f := 32) rfl ?_); refine goesL_ (some 35) rfl rfl Tryz.func32 (by kernel_rfl) rfl #[.pointer (some ⟨gB, 0, none⟩)] rfl (by (try simp only [List.map_toArray, List.map_cons, List.map_nil]); first | done | rfl) ?_; refine (bu_string HU.out HB0.out.size).mono ?_; rintro e w98 ⟨rfl, hb⟩; refine ⟨_, rfl, ?_⟩; have n0_ := Aside0.mk (HB0.out.trans hb); clear HB; have HB := n0_; clear n0_ hb))
        go_ret
        exact ⟨rfl, HB.out⟩
end Go.Proofs.YtknekneicecgiaaGreatDoor.M
namespace Go.Proofs.YtknekneicecgiaaGreatDoor.M
open Go.RowKit Go.Lib Go.Proofs.YtknekneicecgiaaGreatDoorW.PrintWords Go.Proofs.YtknekneicecgiaaGreatDoorW.PrintLast Go.Proofs.YtknekneicecgiaaGreatDoorW.PrintMore Go.Proofs.YtknekneicecgiaaGreatDoor.MB
set_option linter.unusedVariables false
set_option linter.unusedSimpArgs false
def data_PrintFaults.l0 : Nat → Int → ByteArray → List (S52) → Int → Int → Option (ByteArray)
  | 0, _, _, _, _, _ => none
  | k + 1, x1, x5, x10, x11, x12 => if x12 < x11 then (if 0 ≤ x12 then (if x12 < (x10.length : Int) then ((deci_Text.f k ((rd_T52 x10 x12).f0.f0) x1).bind fun t287 => (if t287.size + 1 ≤ 9223372036854775807 then ((deci_Text.f k ((rd_T52 x10 x12).f0.f1) x1).bind fun t288 => (if (t287 ++ (⟨#[32]⟩ : ByteArray)).size + t288.size ≤ 9223372036854775807 then (if ((t287 ++ (⟨#[32]⟩ : ByteArray)) ++ t288).size + 1 ≤ 9223372036854775807 then ((deci_Text.f k ((rd_T52 x10 x12).f1.f0) x1).bind fun t289 => (if (((t287 ++ (⟨#[32]⟩ : ByteArray)) ++ t288) ++ (⟨#[32]⟩ : ByteArray)).size + t289.size ≤ 9223372036854775807 then (if ((((t287 ++ (⟨#[32]⟩ : ByteArray)) ++ t288) ++ (⟨#[32]⟩ : ByteArray)) ++ t289).size + 1 ≤ 9223372036854775807 then ((deci_Text.f k ((rd_T52 x10 x12).f1.f1) x1).bind fun t290 => (if (((((t287 ++ (⟨#[32]⟩ : ByteArray)) ++ t288) ++ (⟨#[32]⟩ : ByteArray)) ++ t289) ++ (⟨#[32]⟩ : ByteArray)).size + t290.size ≤ 9223372036854775807 then (if ((((((t287 ++ (⟨#[32]⟩ : ByteArray)) ++ t288) ++ (⟨#[32]⟩ : ByteArray)) ++ t289) ++ (⟨#[32]⟩ : ByteArray)) ++ t290).size + 1 ≤ 9223372036854775807 then (if x5.size + (((((((t287 ++ (⟨#[32]⟩ : ByteArray)) ++ t288) ++ (⟨#[32]⟩ : ByteArray)) ++ t289) ++ (⟨#[32]⟩ : ByteArray)) ++ t290) ++ (⟨#[10]⟩ : ByteArray)).size ≤ 140737488355328 then (data_PrintFaults.l0 k x1 (x5 ++ (((((((t287 ++ (⟨#[32]⟩ : ByteArray)) ++ t288) ++ (⟨#[32]⟩ : ByteArray)) ++ t289) ++ (⟨#[32]⟩ : ByteArray)) ++ t290) ++ (⟨#[10]⟩ : ByteArray))) x10 x11 (wrap64 (x12 + 1))) else (none)) else (none)) else (none))) else (none)) else (none))) else (none)) else (none))) else (none))) else (none)) else (none)) else (some x5)
def data_PrintFaults.f (k : Nat) (l0 : List (S52)) (a1 : Int) : Option (ByteArray) := data_PrintFaults.l0 k a1 (⟨#[]⟩ : ByteArray) l0 (l0.length : Int) 0
def data_PrintFaults.T5 : Bool × List (List Nat × List Nat) := (true, [([], []), ([0], [0]), ([], []), ([2], [2]), ([], []), ([], []), ([4, 1, 0, 1, 4, 5], [1, 4]), ([5, 3, 6, 0, 1, 2, 3, 4, 5, 6], [3, 5])])
def data_PrintFaults.B5 : List Nat := [0, 1, 0, 4, 0, 0, 51, 127]
theorem data_PrintFaults.tab5 : rtab .any (opsOf Tryz.f17 5) = data_PrintFaults.T5 := by kernel_rfl
theorem data_PrintFaults.bits5 : waitsOk data_PrintFaults.T5.2 data_PrintFaults.B5 = true := by kernel_rfl
def data_PrintFaults.T6 : Bool × List (List Nat × List Nat) := (true, [([], []), ([0], [0]), ([], []), ([1, 2], [1, 2]), ([3], [3]), ([], []), ([5], [5]), ([], []), ([6, 7, 3], [6, 7]), ([4, 8], [4, 8]), ([9], [9]), ([], []), ([11], [11]), ([], []), ([12, 13, 8], [12, 13]), ([10, 14], [10, 14]), ([15], [15]), ([], []), ([17], [17]), ([], []), ([18, 19, 14], [18, 19]), ([16, 20], [16, 20]), ([21], [21]), ([22, 20], [22])])
def data_PrintFaults.B6 : List Nat := [0, 1, 0, 7, 15, 0, 32, 0, 239, 511, 1023, 0, 2048, 0, 14831, 32767, 65535, 0, 131072, 0, 948719, 2097151, 4194303, 8388607]
theorem data_PrintFaults.tab6 : rtab .any (opsOf Tryz.f17 6) = data_PrintFaults.T6 := by kernel_rfl
theorem data_PrintFaults.bits6 : waitsOk data_PrintFaults.T6.2 data_PrintFaults.B6 = true := by kernel_rfl
set_option maxHeartbeats 8000000 in
set_option maxRecDepth 100000 in
theorem data_PrintFaults.calls (k : Nat) (A0 : Option Addr) (c0 : Nat) (l0 : List (S52)) (a1 : Int) (r : ByteArray) (w : World) (hr0 : Kd.C k52 w A0 l0.length l0) (hc0 : l0.length ≤ c0) (h : data_PrintFaults.f k l0 a1 = some r) :
    Calls Tryz.prog 17 #[.slice A0 l0.length c0, .int .i64 a1] w fun e w' => e = .returned (.string r) ∧ Below w.heap.size w w' := by
  have hu52 := Tryz.underlying52
  have hu51 := Tryz.underlying51
  have HR0 := Aside0.mk hr0
  have HC0 := Aside0.mk hc0
  clear hr0 hc0
  have HB := Aside0.mk (Below.refl w.heap.size w)
  have H : (data_PrintFaults.l0 k a1 (⟨#[]⟩ : ByteArray) l0 (l0.length : Int) 0) = some r := h
  clear h
  have H' := Aside0.mk H
  clear H
  go_enter Tryz.func17, Tryz.ntmps17
  go_wp2_with (first | ((with_reducible refine gate_dst (N := 5) rfl ?_); refine box_event ?hg (N := 5) ?hd (cs := #[.pointer none, .slice none 0 0]) (t := 80) ?hr ?_; (case hd => rfl); (case hg => rfl); (case hr => first | (go_simp; done) | (go_simp; rfl)); intro gB hgB w1_ hbox hb; have HU := Aside0.mk (show IsB w.heap.size gB ⟨#[]⟩ w1_ from by rw [← hgB]; exact bu_fresh hbox); have n0_ := Aside0.mk hb; clear HB; have HB := n0_; clear n0_ hb hbox hgB))
  go_loopg [12] k (fun kq v12 w' => ∃ (x5_1 : ByteArray) (x12_1 : Int), v12 = .int .i64 x12_1 ∧ Aside0 (data_PrintFaults.l0 kq a1 x5_1 l0 (l0.length : Int) x12_1 = some r) ∧ Aside0 (kq ≤ k) ∧ Aside0 (Below w.heap.size w w') ∧ Aside0 (IsB w.heap.size gB x5_1 w'))
  case atStart => exact ⟨(⟨#[]⟩ : ByteArray), (0), (by first | rfl | (simp; done) | (simp [*]; done)), H', ⟨Nat.le_refl _⟩, HB, HU⟩
  case round =>
    clear H'
    try clear c1
    try clear p2
    clear HU HB
    obtain ⟨x5_1, x12_1, rfl, HA, HK1, HB0, HU⟩ := hrel
    have HRw := Aside0.mk (Kd.C_below HR0.out HB0.out)
    clear HR0
    have HR0 := HRw
    clear HRw
    have HB := Aside0.mk (Below.refl wr.heap.size wr)
    cases gk with
    | zero => exact absurd HA.out (by simp [data_PrintFaults.l0])
    | succ k1 =>
      have H := HA.out
      clear HA
      simp only [data_PrintFaults.l0] at H
      by_cases c3 : x12_1 < (l0.length : Int)
      · rw [if_pos c3] at H
        have c3b0 : decide (x12_1 < (l0.length : Int)) = true := decide_eq_true c3
        clear c3
        by_cases c4 : 0 ≤ x12_1
        · rw [if_pos c4] at H
          have c4b0 : decide (0 ≤ x12_1) = true := decide_eq_true c4
          clear c4
          by_cases c5 : x12_1 < (l0.length : Int)
          · rw [if_pos c5] at H
            have c5b0 : decide (x12_1 < (l0.length : Int)) = true := decide_eq_true c5
            clear c5
            replace H := Option.bind_eq_some_iff.mp H
            obtain ⟨t287, A60, H⟩ := H
            replace H : (if t287.size + 1 ≤ 9223372036854775807 then ((deci_Text.f k1 ((rd_T52 l0 x12_1).f0.f1) a1).bind fun t288 => (if (t287 ++ (⟨#[32]⟩ : ByteArray)).size + t288.size ≤ 9223372036854775807 then (if ((t287 ++ (⟨#[32]⟩ : ByteArray)) ++ t288).size + 1 ≤ 9223372036854775807 then ((deci_Text.f k1 ((rd_T52 l0 x12_1).f1.f0) a1).bind fun t289 => (if (((t287 ++ (⟨#[32]⟩ : ByteArray)) ++ t288) ++ (⟨#[32]⟩ : ByteArray)).size + t289.size ≤ 9223372036854775807 then (if ((((t287 ++ (⟨#[32]⟩ : ByteArray)) ++ t288) ++ (⟨#[32]⟩ : ByteArray)) ++ t289).size + 1 ≤ 9223372036854775807 then ((deci_Text.f k1 ((rd_T52 l0 x12_1).f1.f1) a1).bind fun t290 => (if (((((t287 ++ (⟨#[32]⟩ : ByteArray)) ++ t288) ++ (⟨#[32]⟩ : ByteArray)) ++ t289) ++ (⟨#[32]⟩ : ByteArray)).size + t290.size ≤ 9223372036854775807 then (if ((((((t287 ++ (⟨#[32]⟩ : ByteArray)) ++ t288) ++ (⟨#[32]⟩ : ByteArray)) ++ t289) ++ (⟨#[32]⟩ : ByteArray)) ++ t290).size + 1 ≤ 9223372036854775807 then (if x5_1.size + (((((((t287 ++ (⟨#[32]⟩ : ByteArray)) ++ t288) ++ (⟨#[32]⟩ : ByteArray)) ++ t289) ++ (⟨#[32]⟩ : ByteArray)) ++ t290) ++ (⟨#[10]⟩ : ByteArray)).size ≤ 140737488355328 then (data_PrintFaults.l0 k1 a1 (x5_1 ++ (((((((t287 ++ (⟨#[32]⟩ : ByteArray)) ++ t288) ++ (⟨#[32]⟩ : ByteArray)) ++ t289) ++ (⟨#[32]⟩ : ByteArray)) ++ t290) ++ (⟨#[10]⟩ : ByteArray))) l0 (l0.length : Int) (wrap64 (x12_1 + 1))) else (none)) else (none)) else (none))) else (none)) else (none))) else (none)) else (none))) else (none)) = some r := H
            have A6 := Aside0.mk A60
            clear A60
            by_cases c7 : t287.size + 1 ≤ 9223372036854775807
            · rw [if_pos c7] at H
              have c7b0 := eq_true c7
              have c7b1 : decide (t287.size + 1 ≤ 9223372036854775807) = true := decide_eq_true c7
              try have c7b2 : (9223372036854775807 < t287.size + 1) = False := eq_false (Nat.not_lt.2 c7)
              replace H := Option.bind_eq_some_iff.mp H
              obtain ⟨t288, A80, H⟩ := H
              replace H : (if (t287 ++ (⟨#[32]⟩ : ByteArray)).size + t288.size ≤ 9223372036854775807 then (if ((t287 ++ (⟨#[32]⟩ : ByteArray)) ++ t288).size + 1 ≤ 9223372036854775807 then ((deci_Text.f k1 ((rd_T52 l0 x12_1).f1.f0) a1).bind fun t289 => (if (((t287 ++ (⟨#[32]⟩ : ByteArray)) ++ t288) ++ (⟨#[32]⟩ : ByteArray)).size + t289.size ≤ 9223372036854775807 then (if ((((t287 ++ (⟨#[32]⟩ : ByteArray)) ++ t288) ++ (⟨#[32]⟩ : ByteArray)) ++ t289).size + 1 ≤ 9223372036854775807 then ((deci_Text.f k1 ((rd_T52 l0 x12_1).f1.f1) a1).bind fun t290 => (if (((((t287 ++ (⟨#[32]⟩ : ByteArray)) ++ t288) ++ (⟨#[32]⟩ : ByteArray)) ++ t289) ++ (⟨#[32]⟩ : ByteArray)).size + t290.size ≤ 9223372036854775807 then (if ((((((t287 ++ (⟨#[32]⟩ : ByteArray)) ++ t288) ++ (⟨#[32]⟩ : ByteArray)) ++ t289) ++ (⟨#[32]⟩ : ByteArray)) ++ t290).size + 1 ≤ 9223372036854775807 then (if x5_1.size + (((((((t287 ++ (⟨#[32]⟩ : ByteArray)) ++ t288) ++ (⟨#[32]⟩ : ByteArray)) ++ t289) ++ (⟨#[32]⟩ : ByteArray)) ++ t290) ++ (⟨#[10]⟩ : ByteArray)).size ≤ 140737488355328 then (data_PrintFaults.l0 k1 a1 (x5_1 ++ (((((((t287 ++ (⟨#[32]⟩ : ByteArray)) ++ t288) ++ (⟨#[32]⟩ : ByteArray)) ++ t289) ++ (⟨#[32]⟩ : ByteArray)) ++ t290) ++ (⟨#[10]⟩ : ByteArray))) l0 (l0.length : Int) (wrap64 (x12_1 + 1))) else (none)) else (none)) else (none))) else (none)) else (none))) else (none)) else (none)) = some r := H
              have A8 := Aside0.mk A80
              clear A80
              by_cases c9 : (t287 ++ (⟨#[32]⟩ : ByteArray)).size + t288.size ≤ 9223372036854775807
              · rw [if_pos c9] at H
                have c9b0 := eq_true c9
                have c9b1 : decide ((t287 ++ (⟨#[32]⟩ : ByteArray)).size + t288.size ≤ 9223372036854775807) = true := decide_eq_true c9
                have c9b3 : (9223372036854775807 < t287.size + 1 + t288.size) = False := eq_false (by have h_ := c9; simp only [ByteArray.size_append, show (⟨#[32]⟩ : ByteArray).size = 1 from rfl] at h_; omega)
                try have c9b2 : (9223372036854775807 < (t287 ++ (⟨#[32]⟩ : ByteArray)).size + t288.size) = False := eq_false (Nat.not_lt.2 c9)
                by_cases c10 : ((t287 ++ (⟨#[32]⟩ : ByteArray)) ++ t288).size + 1 ≤ 9223372036854775807
                · rw [if_pos c10] at H
                  have c10b0 := eq_true c10
                  have c10b1 : decide (((t287 ++ (⟨#[32]⟩ : ByteArray)) ++ t288).size + 1 ≤ 9223372036854775807) = true := decide_eq_true c10
                  have c10b3 : (9223372036854775807 < t287.size + 1 + t288.size + 1) = False := eq_false (by have h_ := c10; simp only [ByteArray.size_append, show (⟨#[32]⟩ : ByteArray).size = 1 from rfl] at h_; omega)
                  try have c10b2 : (9223372036854775807 < ((t287 ++ (⟨#[32]⟩ : ByteArray)) ++ t288).size + 1) = False := eq_false (Nat.not_lt.2 c10)
                  replace H := Option.bind_eq_some_iff.mp H
                  obtain ⟨t289, A110, H⟩ := H
                  replace H : (if (((t287 ++ (⟨#[32]⟩ : ByteArray)) ++ t288) ++ (⟨#[32]⟩ : ByteArray)).size + t289.size ≤ 9223372036854775807 then (if ((((t287 ++ (⟨#[32]⟩ : ByteArray)) ++ t288) ++ (⟨#[32]⟩ : ByteArray)) ++ t289).size + 1 ≤ 9223372036854775807 then ((deci_Text.f k1 ((rd_T52 l0 x12_1).f1.f1) a1).bind fun t290 => (if (((((t287 ++ (⟨#[32]⟩ : ByteArray)) ++ t288) ++ (⟨#[32]⟩ : ByteArray)) ++ t289) ++ (⟨#[32]⟩ : ByteArray)).size + t290.size ≤ 9223372036854775807 then (if ((((((t287 ++ (⟨#[32]⟩ : ByteArray)) ++ t288) ++ (⟨#[32]⟩ : ByteArray)) ++ t289) ++ (⟨#[32]⟩ : ByteArray)) ++ t290).size + 1 ≤ 9223372036854775807 then (if x5_1.size + (((((((t287 ++ (⟨#[32]⟩ : ByteArray)) ++ t288) ++ (⟨#[32]⟩ : ByteArray)) ++ t289) ++ (⟨#[32]⟩ : ByteArray)) ++ t290) ++ (⟨#[10]⟩ : ByteArray)).size ≤ 140737488355328 then (data_PrintFaults.l0 k1 a1 (x5_1 ++ (((((((t287 ++ (⟨#[32]⟩ : ByteArray)) ++ t288) ++ (⟨#[32]⟩ : ByteArray)) ++ t289) ++ (⟨#[32]⟩ : ByteArray)) ++ t290) ++ (⟨#[10]⟩ : ByteArray))) l0 (l0.length : Int) (wrap64 (x12_1 + 1))) else (none)) else (none)) else (none))) else (none)) else (none)) = some r := H
                  have A11 := Aside0.mk A110
                  clear A110
                  by_cases c12 : (((t287 ++ (⟨#[32]⟩ : ByteArray)) ++ t288) ++ (⟨#[32]⟩ : ByteArray)).size + t289.size ≤ 9223372036854775807
                  · rw [if_pos c12] at H
                    have c12b0 := eq_true c12
                    have c12b1 : decide ((((t287 ++ (⟨#[32]⟩ : ByteArray)) ++ t288) ++ (⟨#[32]⟩ : ByteArray)).size + t289.size ≤ 9223372036854775807) = true := decide_eq_true c12
                    have c12b3 : (9223372036854775807 < t287.size + 1 + t288.size + 1 + t289.size) = False := eq_false (by have h_ := c12; simp only [ByteArray.size_append, show (⟨#[32]⟩ : ByteArray).size = 1 from rfl] at h_; omega)
                    try have c12b2 : (9223372036854775807 < (((t287 ++ (⟨#[32]⟩ : ByteArray)) ++ t288) ++ (⟨#[32]⟩ : ByteArray)).size + t289.size) = False := eq_false (Nat.not_lt.2 c12)
                    by_cases c13 : ((((t287 ++ (⟨#[32]⟩ : ByteArray)) ++ t288) ++ (⟨#[32]⟩ : ByteArray)) ++ t289).size + 1 ≤ 9223372036854775807
                    · rw [if_pos c13] at H
                      have c13b0 := eq_true c13
                      have c13b1 : decide (((((t287 ++ (⟨#[32]⟩ : ByteArray)) ++ t288) ++ (⟨#[32]⟩ : ByteArray)) ++ t289).size + 1 ≤ 9223372036854775807) = true := decide_eq_true c13
                      have c13b3 : (9223372036854775807 < t287.size + 1 + t288.size + 1 + t289.size + 1) = False := eq_false (by have h_ := c13; simp only [ByteArray.size_append, show (⟨#[32]⟩ : ByteArray).size = 1 from rfl] at h_; omega)
                      try have c13b2 : (9223372036854775807 < ((((t287 ++ (⟨#[32]⟩ : ByteArray)) ++ t288) ++ (⟨#[32]⟩ : ByteArray)) ++ t289).size + 1) = False := eq_false (Nat.not_lt.2 c13)
                      replace H := Option.bind_eq_some_iff.mp H
                      obtain ⟨t290, A140, H⟩ := H
                      replace H : (if (((((t287 ++ (⟨#[32]⟩ : ByteArray)) ++ t288) ++ (⟨#[32]⟩ : ByteArray)) ++ t289) ++ (⟨#[32]⟩ : ByteArray)).size + t290.size ≤ 9223372036854775807 then (if ((((((t287 ++ (⟨#[32]⟩ : ByteArray)) ++ t288) ++ (⟨#[32]⟩ : ByteArray)) ++ t289) ++ (⟨#[32]⟩ : ByteArray)) ++ t290).size + 1 ≤ 9223372036854775807 then (if x5_1.size + (((((((t287 ++ (⟨#[32]⟩ : ByteArray)) ++ t288) ++ (⟨#[32]⟩ : ByteArray)) ++ t289) ++ (⟨#[32]⟩ : ByteArray)) ++ t290) ++ (⟨#[10]⟩ : ByteArray)).size ≤ 140737488355328 then (data_PrintFaults.l0 k1 a1 (x5_1 ++ (((((((t287 ++ (⟨#[32]⟩ : ByteArray)) ++ t288) ++ (⟨#[32]⟩ : ByteArray)) ++ t289) ++ (⟨#[32]⟩ : ByteArray)) ++ t290) ++ (⟨#[10]⟩ : ByteArray))) l0 (l0.length : Int) (wrap64 (x12_1 + 1))) else (none)) else (none)) else (none)) = some r := H
                      have A14 := Aside0.mk A140
                      clear A140
                      by_cases c15 : (((((t287 ++ (⟨#[32]⟩ : ByteArray)) ++ t288) ++ (⟨#[32]⟩ : ByteArray)) ++ t289) ++ (⟨#[32]⟩ : ByteArray)).size + t290.size ≤ 9223372036854775807
                      · rw [if_pos c15] at H
                        have c15b0 := eq_true c15
                        have c15b1 : decide ((((((t287 ++ (⟨#[32]⟩ : ByteArray)) ++ t288) ++ (⟨#[32]⟩ : ByteArray)) ++ t289) ++ (⟨#[32]⟩ : ByteArray)).size + t290.size ≤ 9223372036854775807) = true := decide_eq_true c15
                        have c15b3 : (9223372036854775807 < t287.size + 1 + t288.size + 1 + t289.size + 1 + t290.size) = False := eq_false (by have h_ := c15; simp only [ByteArray.size_append, show (⟨#[32]⟩ : ByteArray).size = 1 from rfl] at h_; omega)
                        try have c15b2 : (9223372036854775807 < (((((t287 ++ (⟨#[32]⟩ : ByteArray)) ++ t288) ++ (⟨#[32]⟩ : ByteArray)) ++ t289) ++ (⟨#[32]⟩ : ByteArray)).size + t290.size) = False := eq_false (Nat.not_lt.2 c15)
                        by_cases c16 : ((((((t287 ++ (⟨#[32]⟩ : ByteArray)) ++ t288) ++ (⟨#[32]⟩ : ByteArray)) ++ t289) ++ (⟨#[32]⟩ : ByteArray)) ++ t290).size + 1 ≤ 9223372036854775807
                        · rw [if_pos c16] at H
                          have c16b0 := eq_true c16
                          have c16b1 : decide (((((((t287 ++ (⟨#[32]⟩ : ByteArray)) ++ t288) ++ (⟨#[32]⟩ : ByteArray)) ++ t289) ++ (⟨#[32]⟩ : ByteArray)) ++ t290).size + 1 ≤ 9223372036854775807) = true := decide_eq_true c16
                          have c16b3 : (9223372036854775807 < t287.size + 1 + t288.size + 1 + t289.size + 1 + t290.size + 1) = False := eq_false (by have h_ := c16; simp only [ByteArray.size_append, show (⟨#[32]⟩ : ByteArray).size = 1 from rfl] at h_; omega)
                          try have c16b2 : (9223372036854775807 < ((((((t287 ++ (⟨#[32]⟩ : ByteArray)) ++ t288) ++ (⟨#[32]⟩ : ByteArray)) ++ t289) ++ (⟨#[32]⟩ : ByteArray)) ++ t290).size + 1) = False := eq_false (Nat.not_lt.2 c16)
                          by_cases c17 : x5_1.size + (((((((t287 ++ (⟨#[32]⟩ : ByteArray)) ++ t288) ++ (⟨#[32]⟩ : ByteArray)) ++ t289) ++ (⟨#[32]⟩ : ByteArray)) ++ t290) ++ (⟨#[10]⟩ : ByteArray)).size ≤ 140737488355328
                          · rw [if_pos c17] at H
                            have c17b0 := eq_true c17
                            have c17b1 : decide (x5_1.size + (((((((t287 ++ (⟨#[32]⟩ : ByteArray)) ++ t288) ++ (⟨#[32]⟩ : ByteArray)) ++ t289) ++ (⟨#[32]⟩ : ByteArray)) ++ t290) ++ (⟨#[10]⟩ : ByteArray)).size ≤ 140737488355328) = true := decide_eq_true c17
                            have H' := Aside0.mk H
                            clear H
                            have p283 : 0 ≤ (x12_1 : Int) := of_decide_eq_true (by first | (with_reducible assumption) | assumption)
                            have q283 : x12_1 < (l0.length : Int) := of_decide_eq_true (by first | (with_reducible assumption) | assumption)
                            obtain ⟨ad283, e283, hx283_0, hx283_1, hx283_2, hx283_3⟩ := at_T52 HR0.out x12_1 p283 q283
                            cases e283
                            replace hx283_0 := (HB.out.cell (World.block_lt_of_cell? wr _ hx283_0)).trans hx283_0
                            replace hx283_1 := (HB.out.cell (World.block_lt_of_cell? wr _ hx283_1)).trans hx283_1
                            replace hx283_2 := (HB.out.cell (World.block_lt_of_cell? wr _ hx283_2)).trans hx283_2
                            replace hx283_3 := (HB.out.cell (World.block_lt_of_cell? wr _ hx283_3)).trans hx283_3
                            replace p283 := eq_true p283
                            replace q283 := eq_true q283
                            try go_wp2_with (first | ((with_reducible refine gate_dst (N := 7) rfl ?_); refine box_event ?hg (N := 7) ?hd (cs := #[.int .i64 0, .int .i64 0, .int .i64 0, .int .i64 0]) (t := 52) ?hr ?_; (case hd => rfl); (case hg => rfl); (case hr => first | (go_simp; done) | (go_simp; rfl)); intro gb284 hg w18 hbox hb; have n0_ := Aside0.mk (below_step (by repeat (first | (with_reducible first | exact HB.out | apply below_alloc | apply pw_below_drewN | apply below_drew1) | exact HB.out)) hb); have n1_ := Aside0.mk (hbox); have n2_ := Aside0.mk ((by rw [hg]; exact (below_size (by repeat (first | (with_reducible first | exact HB.out | apply below_alloc | apply pw_below_drewN | apply below_drew1) | exact HB.out))) : wr.heap.size ≤ gb284)); have n3_ := Aside0.mk ((by rw [hg]; exact (below_size (by repeat (first | (with_reducible first | exact HB.out | apply below_alloc | apply pw_below_drewN | apply below_drew1) | exact HB.out))) : wr.heap.size ≤ gb284)); clear HB; have HB := n0_; have BK284 := n1_; have GW284 := n2_; have GE284 := n3_; clear n0_ n1_ n2_ n3_; clear hb hbox hg; have hcz19_0 : w18.cell? ⟨gb284, 0, none⟩ = some (.int .i64 0) := (blk_cell BK284.out 0).trans rfl; have hcz19_1 : w18.cell? ⟨gb284, 1, none⟩ = some (.int .i64 0) := (blk_cell BK284.out 1).trans rfl; have hcz19_2 : w18.cell? ⟨gb284, 2, none⟩ = some (.int .i64 0) := (blk_cell BK284.out 2).trans rfl; have hcz19_3 : w18.cell? ⟨gb284, 3, none⟩ = some (.int .i64 0) := (blk_cell BK284.out 3).trans rfl; have hfz19_0 := blk_frozen BK284.out 0; have hfz19_1 := blk_frozen BK284.out 1; have hfz19_2 := blk_frozen BK284.out 2; have hfz19_3 := blk_frozen BK284.out 3))
                            have n0_ : Aside0 (((((w18.setCell ⟨gb284, 0, none⟩ (.int .i64 ((rd_T52 l0 x12_1).f0.f0))).setCell ⟨gb284, 1, none⟩ (.int .i64 ((rd_T52 l0 x12_1).f0.f1))).setCell ⟨gb284, 2, none⟩ (.int .i64 ((rd_T52 l0 x12_1).f1.f0))).setCell ⟨gb284, 3, none⟩ (.int .i64 ((rd_T52 l0 x12_1).f1.f1))).heap[gb284]? = some (.cells #[.int .i64 ((rd_T52 l0 x12_1).f0.f0), .int .i64 ((rd_T52 l0 x12_1).f0.f1), .int .i64 ((rd_T52 l0 x12_1).f1.f0), .int .i64 ((rd_T52 l0 x12_1).f1.f1)] 52 (0, 0))) := ⟨by (with_reducible repeat (first | refine blk_drewN ?_ _ | refine blk_drew ?_ | refine blk_alloc ?_ _)); refine blk_put (cs := #[.int .i64 ((rd_T52 l0 x12_1).f0.f0), .int .i64 ((rd_T52 l0 x12_1).f0.f1), .int .i64 ((rd_T52 l0 x12_1).f1.f0), .int .i64 0]) ?_ 3 _ rfl; (with_reducible repeat (first | refine blk_drewN ?_ _ | refine blk_drew ?_ | refine blk_alloc ?_ _)); refine blk_put (cs := #[.int .i64 ((rd_T52 l0 x12_1).f0.f0), .int .i64 ((rd_T52 l0 x12_1).f0.f1), .int .i64 0, .int .i64 0]) ?_ 2 _ rfl; (with_reducible repeat (first | refine blk_drewN ?_ _ | refine blk_drew ?_ | refine blk_alloc ?_ _)); refine blk_put (cs := #[.int .i64 ((rd_T52 l0 x12_1).f0.f0), .int .i64 0, .int .i64 0, .int .i64 0]) ?_ 1 _ rfl; (with_reducible repeat (first | refine blk_drewN ?_ _ | refine blk_drew ?_ | refine blk_alloc ?_ _)); refine blk_put (cs := #[.int .i64 0, .int .i64 0, .int .i64 0, .int .i64 0]) ?_ 0 _ rfl; (with_reducible repeat (first | refine blk_drewN ?_ _ | refine blk_drew ?_ | refine blk_alloc ?_ _)); exact BK284.out⟩
                            have n1_ : Aside0 (Below wr.heap.size wr ((((w18.setCell ⟨gb284, 0, none⟩ (.int .i64 ((rd_T52 l0 x12_1).f0.f0))).setCell ⟨gb284, 1, none⟩ (.int .i64 ((rd_T52 l0 x12_1).f0.f1))).setCell ⟨gb284, 2, none⟩ (.int .i64 ((rd_T52 l0 x12_1).f1.f0))).setCell ⟨gb284, 3, none⟩ (.int .i64 ((rd_T52 l0 x12_1).f1.f1)))) := ⟨by repeat (first | (with_reducible first | exact HB.out | apply below_alloc | apply pw_below_drewN | apply below_drew1 | refine below_set ?_ GE284.out) | exact HB.out)⟩
                            (try clear BK284)
                            (try clear HB)
                            generalize ((((w18.setCell ⟨gb284, 0, none⟩ (.int .i64 ((rd_T52 l0 x12_1).f0.f0))).setCell ⟨gb284, 1, none⟩ (.int .i64 ((rd_T52 l0 x12_1).f0.f1))).setCell ⟨gb284, 2, none⟩ (.int .i64 ((rd_T52 l0 x12_1).f1.f0))).setCell ⟨gb284, 3, none⟩ (.int .i64 ((rd_T52 l0 x12_1).f1.f1))) = w20 at n0_ n1_ ⊢
                            have BK284 := n0_
                            have HB := n1_
                            clear n0_ n1_
                            have n0_ := Aside0.mk (blk_drew BK284.out)
                            have n1_ := Aside0.mk (below_drew1 HB.out)
                            clear BK284
                            clear HB
                            have BK284 := n0_
                            have HB := n1_
                            clear n0_ n1_
                            refine start_ (n := 8) (S := fun w' => w'.cell? ⟨gb284, 0, none⟩ = some (.int .i64 ((rd_T52 l0 x12_1).f0.f0)) ∧ w'.cell? ⟨gb284, 1, none⟩ = some (.int .i64 ((rd_T52 l0 x12_1).f0.f1)) ∧ w'.cell? ⟨gb284, 2, none⟩ = some (.int .i64 ((rd_T52 l0 x12_1).f1.f0)) ∧ w'.cell? ⟨gb284, 3, none⟩ = some (.int .i64 ((rd_T52 l0 x12_1).f1.f1))) (ds := []) #[false, false, false, false, false, false, false, false] (by kernel_rfl) rfl rfl ⟨(blk_cell BK284.out 0).trans rfl, (blk_cell BK284.out 1).trans rfl, (blk_cell BK284.out 2).trans rfl, (blk_cell BK284.out 3).trans rfl⟩ (fun hHeld => ?_); refine with_tabW data_PrintFaults.tab5 data_PrintFaults.bits5 (fun HT_ HW_ => ?_)
                            generalize w20.drew = w21 at BK284 HB hHeld ⊢
                            refine pure_ (i := 0) (N := some 16) (v := ?_) (a' := ?_) #[true, false, false, false, false, false, false, false] rfl rfl (any_of HT_.out (by kernel_rfl)) (fun _ _ _ h => h) (Or.inl ⟨by rfl, ?_⟩) ?_ ?_
                            rotate_left
                            · intro w'
                              go_simp
                              with_reducible rfl
                            rotate_left
                            · simp only [Act.put, List.setIfInBounds_toArray, List.set_cons_zero, List.set_cons_succ, i64_w, i32_w]
                              rfl
                            refine pure_ (i := 2) (N := some 18) (v := ?_) (a' := ?_) #[true, false, true, false, false, false, false, false] rfl rfl (any_of HT_.out (by kernel_rfl)) (fun _ _ _ h => h) (Or.inl ⟨by rfl, ?_⟩) ?_ ?_
                            rotate_left
                            · intro w'
                              go_simp
                              with_reducible rfl
                            rotate_left
                            · simp only [Act.put, List.setIfInBounds_toArray, List.set_cons_zero, List.set_cons_succ, i64_w, i32_w]
                              rfl
                            refine take_ (i := 1) (N := some 17) (v := ?_) (a' := ?_) #[true, true, true, false, false, false, false, false] rfl rfl (take_ofW HT_.out HW_.out (by kernel_rfl)) (fun _ _ _ h => h) (Or.inl ⟨by rfl, ?_⟩) hHeld ?_ ?_
                            rotate_left
                            · rintro w' ⟨s0, s1, s2, s3⟩
                              go_simp
                              with_reducible rfl
                            rotate_left
                            · simp only [Act.put, List.setIfInBounds_toArray, List.set_cons_zero, List.set_cons_succ, i64_w, i32_w]
                              rfl
                            refine take_ (i := 3) (N := some 19) (v := ?_) (a' := ?_) #[true, true, true, true, false, false, false, false] rfl rfl (take_ofW HT_.out HW_.out (by kernel_rfl)) (fun _ _ _ h => h) (Or.inl ⟨by rfl, ?_⟩) hHeld ?_ ?_
                            rotate_left
                            · rintro w' ⟨s0, s1, s2, s3⟩
                              go_simp
                              with_reducible rfl
                            rotate_left
                            · simp only [Act.put, List.setIfInBounds_toArray, List.set_cons_zero, List.set_cons_succ, i64_w, i32_w]
                              rfl
                            refine join_ (σ := Nat × Nat) 2 #[true, true, true, true, true, true, false, false] (fun s_ => [(8, .pointer (some ⟨s_.1, 0, none⟩)), (9, .pointer (some ⟨s_.2, 0, none⟩))]) (fun s_ w' => (w'.cell? ⟨gb284, 0, none⟩ = some (.int .i64 ((rd_T52 l0 x12_1).f0.f0)) ∧ w'.cell? ⟨gb284, 1, none⟩ = some (.int .i64 ((rd_T52 l0 x12_1).f0.f1)) ∧ w'.cell? ⟨gb284, 2, none⟩ = some (.int .i64 ((rd_T52 l0 x12_1).f1.f0)) ∧ w'.cell? ⟨gb284, 3, none⟩ = some (.int .i64 ((rd_T52 l0 x12_1).f1.f1))) ∧ (w'.heap[gb284]? = some (.cells #[.int .i64 ((rd_T52 l0 x12_1).f0.f0), .int .i64 ((rd_T52 l0 x12_1).f0.f1), .int .i64 ((rd_T52 l0 x12_1).f1.f0), .int .i64 ((rd_T52 l0 x12_1).f1.f1)] 52 (0, 0))) ∧ (w'.heap[s_.1]? = some (.cells #[.int .i64 0, .int .i64 0] 51 (0, 0))) ∧ (w'.heap[s_.2]? = some (.cells #[.int .i64 0, .int .i64 0] 51 (0, 0))) ∧ (wr.heap.size ≤ s_.1) ∧ (wr.heap.size ≤ s_.1) ∧ (gb284 ≠ s_.1) ∧ (s_.1 ≠ gb284) ∧ (s_.2 ≠ s_.1) ∧ (s_.1 ≠ s_.2) ∧ (wr.heap.size ≤ s_.2) ∧ (wr.heap.size ≤ s_.2) ∧ (gb284 ≠ s_.2) ∧ (s_.2 ≠ gb284) ∧ (Below wr.heap.size wr w')) ?_ ?_
                            rotate_left
                            · intro hCont
                              refine two_ (i := 4) (j := 5) (Ni := some 8) (Nj := some 9) #[true, true, true, true, true, false, false, false] #[true, true, true, true, false, true, false, false] rfl rfl rfl rfl (two_of HT_.out (by kernel_rfl)) (by decide) (by decide) (fun K hK => ?_) (fun K hK => ?_)
                              · skip
                                refine box_step ?hg (N := 8) ?hd (cs := #[.int .i64 0, .int .i64 0]) (t := 51) ?hr ?_; (case hd => rfl); (case hg => rfl); (case hr => first | (go_simp; done) | (go_simp; rfl))
                                intro gb285 hg w22 hbox hb
                                have n0_ := Aside0.mk (blk_below (g := gb284) (o := .cells #[.int .i64 ((rd_T52 l0 x12_1).f0.f0), .int .i64 ((rd_T52 l0 x12_1).f0.f1), .int .i64 ((rd_T52 l0 x12_1).f1.f0), .int .i64 ((rd_T52 l0 x12_1).f1.f1)] 52 (0, 0)) (by (with_reducible repeat (first | refine blk_drewN ?_ _ | refine blk_drew ?_ | refine blk_alloc ?_ _)); exact BK284.out) hb)
                                have n1_ := Aside0.mk (below_step (by repeat (first | (with_reducible first | exact HB.out | apply below_alloc | apply pw_below_drewN | apply below_drew1 | refine below_set ?_ GE284.out) | exact HB.out)) hb)
                                have n2_ := Aside0.mk (hbox)
                                have n3_ := Aside0.mk ((by rw [hg]; exact (below_size (by repeat (first | (with_reducible first | exact HB.out | apply below_alloc | apply pw_below_drewN | apply below_drew1 | refine below_set ?_ GE284.out) | exact HB.out))) : wr.heap.size ≤ gb285))
                                have n4_ := Aside0.mk ((by rw [hg]; exact (below_size (by repeat (first | (with_reducible first | exact HB.out | apply below_alloc | apply pw_below_drewN | apply below_drew1 | refine below_set ?_ GE284.out) | exact HB.out))) : wr.heap.size ≤ gb285))
                                have n5_ := Aside0.mk ((by rw [hg]; exact Nat.ne_of_lt (blk_lt (g := gb284) (o := .cells #[.int .i64 ((rd_T52 l0 x12_1).f0.f0), .int .i64 ((rd_T52 l0 x12_1).f0.f1), .int .i64 ((rd_T52 l0 x12_1).f1.f0), .int .i64 ((rd_T52 l0 x12_1).f1.f1)] 52 (0, 0)) (by (with_reducible repeat (first | refine blk_drewN ?_ _ | refine blk_drew ?_ | refine blk_alloc ?_ _)); exact BK284.out)) : gb284 ≠ gb285))
                                have n6_ := Aside0.mk ((by rw [hg]; exact Nat.ne_of_gt (blk_lt (g := gb284) (o := .cells #[.int .i64 ((rd_T52 l0 x12_1).f0.f0), .int .i64 ((rd_T52 l0 x12_1).f0.f1), .int .i64 ((rd_T52 l0 x12_1).f1.f0), .int .i64 ((rd_T52 l0 x12_1).f1.f1)] 52 (0, 0)) (by (with_reducible repeat (first | refine blk_drewN ?_ _ | refine blk_drew ?_ | refine blk_alloc ?_ _)); exact BK284.out)) : gb285 ≠ gb284))
                                clear BK284
                                clear HB
                                have BK284 := n0_
                                have HB := n1_
                                have BK285 := n2_
                                have GW285 := n3_
                                have GE285 := n4_
                                have NB284_285 := n5_
                                have NB285_284 := n6_
                                clear n0_ n1_ n2_ n3_ n4_ n5_ n6_
                                clear hb hbox hg
                                refine hK.out _ _ ⟨(blk_cell BK284.out 0).trans rfl, (blk_cell BK284.out 1).trans rfl, (blk_cell BK284.out 2).trans rfl, (blk_cell BK284.out 3).trans rfl⟩ (fun hHeld => ?_)
                                clear hK K
                                refine norm_ (a' := ?_) ?_ ?_
                                rotate_left
                                · show Act.put _ (some 8) _ = _
                                  simp only [Act.put, List.setIfInBounds_toArray, List.set_cons_zero, List.set_cons_succ, i64_w, i32_w]
                                  rfl
                                refine one_ (i := 5) (N := some 9) #[true, true, true, true, true, true, false, false] rfl rfl (one_of HT_.out (by kernel_rfl)) (by decide) (fun K hK => ?_)
                                refine box_step ?hg (N := 9) ?hd (cs := #[.int .i64 0, .int .i64 0]) (t := 51) ?hr ?_; (case hd => rfl); (case hg => rfl); (case hr => first | (go_simp; done) | (go_simp; rfl))
                                intro gb286 hg w23 hbox hb
                                have n0_ := Aside0.mk (blk_below (g := gb284) (o := .cells #[.int .i64 ((rd_T52 l0 x12_1).f0.f0), .int .i64 ((rd_T52 l0 x12_1).f0.f1), .int .i64 ((rd_T52 l0 x12_1).f1.f0), .int .i64 ((rd_T52 l0 x12_1).f1.f1)] 52 (0, 0)) (by (with_reducible repeat (first | refine blk_drewN ?_ _ | refine blk_drew ?_ | refine blk_alloc ?_ _)); exact BK284.out) hb)
                                have n1_ := Aside0.mk (blk_below (g := gb285) (o := .cells #[.int .i64 0, .int .i64 0] 51 (0, 0)) (by (with_reducible repeat (first | refine blk_drewN ?_ _ | refine blk_drew ?_ | refine blk_alloc ?_ _)); exact BK285.out) hb)
                                have n2_ := Aside0.mk (below_step (by repeat (first | (with_reducible first | exact HB.out | apply below_alloc | apply pw_below_drewN | apply below_drew1 | refine below_set ?_ GE284.out | refine below_set ?_ GE285.out) | exact HB.out)) hb)
                                have n3_ := Aside0.mk (hbox)
                                have n4_ := Aside0.mk ((by rw [hg]; exact (below_size (by repeat (first | (with_reducible first | exact HB.out | apply below_alloc | apply pw_below_drewN | apply below_drew1 | refine below_set ?_ GE284.out | refine below_set ?_ GE285.out) | exact HB.out))) : wr.heap.size ≤ gb286))
                                have n5_ := Aside0.mk ((by rw [hg]; exact (below_size (by repeat (first | (with_reducible first | exact HB.out | apply below_alloc | apply pw_below_drewN | apply below_drew1 | refine below_set ?_ GE284.out | refine below_set ?_ GE285.out) | exact HB.out))) : wr.heap.size ≤ gb286))
                                have n6_ := Aside0.mk ((by rw [hg]; exact Nat.ne_of_lt (blk_lt (g := gb284) (o := .cells #[.int .i64 ((rd_T52 l0 x12_1).f0.f0), .int .i64 ((rd_T52 l0 x12_1).f0.f1), .int .i64 ((rd_T52 l0 x12_1).f1.f0), .int .i64 ((rd_T52 l0 x12_1).f1.f1)] 52 (0, 0)) (by (with_reducible repeat (first | refine blk_drewN ?_ _ | refine blk_drew ?_ | refine blk_alloc ?_ _)); exact BK284.out)) : gb284 ≠ gb286))
                                have n7_ := Aside0.mk ((by rw [hg]; exact Nat.ne_of_gt (blk_lt (g := gb284) (o := .cells #[.int .i64 ((rd_T52 l0 x12_1).f0.f0), .int .i64 ((rd_T52 l0 x12_1).f0.f1), .int .i64 ((rd_T52 l0 x12_1).f1.f0), .int .i64 ((rd_T52 l0 x12_1).f1.f1)] 52 (0, 0)) (by (with_reducible repeat (first | refine blk_drewN ?_ _ | refine blk_drew ?_ | refine blk_alloc ?_ _)); exact BK284.out)) : gb286 ≠ gb284))
                                have n8_ := Aside0.mk ((by rw [hg]; exact Nat.ne_of_lt (blk_lt (g := gb285) (o := .cells #[.int .i64 0, .int .i64 0] 51 (0, 0)) (by (with_reducible repeat (first | refine blk_drewN ?_ _ | refine blk_drew ?_ | refine blk_alloc ?_ _)); exact BK285.out)) : gb285 ≠ gb286))
                                have n9_ := Aside0.mk ((by rw [hg]; exact Nat.ne_of_gt (blk_lt (g := gb285) (o := .cells #[.int .i64 0, .int .i64 0] 51 (0, 0)) (by (with_reducible repeat (first | refine blk_drewN ?_ _ | refine blk_drew ?_ | refine blk_alloc ?_ _)); exact BK285.out)) : gb286 ≠ gb285))
                                clear BK284
                                clear BK285
                                clear HB
                                have BK284 := n0_
                                have BK285 := n1_
                                have HB := n2_
                                have BK286 := n3_
                                have GW286 := n4_
                                have GE286 := n5_
                                have NB284_286 := n6_
                                have NB286_284 := n7_
                                have NB285_286 := n8_
                                have NB286_285 := n9_
                                clear n0_ n1_ n2_ n3_ n4_ n5_ n6_ n7_ n8_ n9_
                                clear hb hbox hg
                                refine hK.out _ _ ⟨(blk_cell BK284.out 0).trans rfl, (blk_cell BK284.out 1).trans rfl, (blk_cell BK284.out 2).trans rfl, (blk_cell BK284.out 3).trans rfl⟩ (fun hHeld => ?_)
                                clear hK K
                                refine norm_ (a' := ?_) ?_ ?_
                                rotate_left
                                · show Act.put _ (some 9) _ = _
                                  simp only [Act.put, List.setIfInBounds_toArray, List.set_cons_zero, List.set_cons_succ, i64_w, i32_w]
                                  rfl
                                exact norm_ (by simp only [putAll, Act.put, List.setIfInBounds_toArray, List.set_cons_zero, List.set_cons_succ]) (hCont (gb285, gb286) _ ⟨hHeld, (by (with_reducible repeat (first | refine blk_drewN ?_ _ | refine blk_drew ?_ | refine blk_alloc ?_ _)); exact BK284.out), (by (with_reducible repeat (first | refine blk_drewN ?_ _ | refine blk_drew ?_ | refine blk_alloc ?_ _)); exact BK285.out), (by (with_reducible repeat (first | refine blk_drewN ?_ _ | refine blk_drew ?_ | refine blk_alloc ?_ _)); exact BK286.out), GW285.out, GE285.out, NB284_285.out, NB285_284.out, NB286_285.out, NB285_286.out, GW286.out, GE286.out, NB284_286.out, NB286_284.out, (by repeat (first | (with_reducible first | exact HB.out | apply below_alloc | apply pw_below_drewN | apply below_drew1 | refine below_set ?_ GE284.out | refine below_set ?_ GE285.out | refine below_set ?_ GE286.out) | exact HB.out))⟩)
                              · skip
                                refine box_step ?hg (N := 9) ?hd (cs := #[.int .i64 0, .int .i64 0]) (t := 51) ?hr ?_; (case hd => rfl); (case hg => rfl); (case hr => first | (go_simp; done) | (go_simp; rfl))
                                intro gb286 hg w22 hbox hb
                                have n0_ := Aside0.mk (blk_below (g := gb284) (o := .cells #[.int .i64 ((rd_T52 l0 x12_1).f0.f0), .int .i64 ((rd_T52 l0 x12_1).f0.f1), .int .i64 ((rd_T52 l0 x12_1).f1.f0), .int .i64 ((rd_T52 l0 x12_1).f1.f1)] 52 (0, 0)) (by (with_reducible repeat (first | refine blk_drewN ?_ _ | refine blk_drew ?_ | refine blk_alloc ?_ _)); exact BK284.out) hb)
                                have n1_ := Aside0.mk (below_step (by repeat (first | (with_reducible first | exact HB.out | apply below_alloc | apply pw_below_drewN | apply below_drew1 | refine below_set ?_ GE284.out) | exact HB.out)) hb)
                                have n2_ := Aside0.mk (hbox)
                                have n3_ := Aside0.mk ((by rw [hg]; exact (below_size (by repeat (first | (with_reducible first | exact HB.out | apply below_alloc | apply pw_below_drewN | apply below_drew1 | refine below_set ?_ GE284.out) | exact HB.out))) : wr.heap.size ≤ gb286))
                                have n4_ := Aside0.mk ((by rw [hg]; exact (below_size (by repeat (first | (with_reducible first | exact HB.out | apply below_alloc | apply pw_below_drewN | apply below_drew1 | refine below_set ?_ GE284.out) | exact HB.out))) : wr.heap.size ≤ gb286))
                                have n5_ := Aside0.mk ((by rw [hg]; exact Nat.ne_of_lt (blk_lt (g := gb284) (o := .cells #[.int .i64 ((rd_T52 l0 x12_1).f0.f0), .int .i64 ((rd_T52 l0 x12_1).f0.f1), .int .i64 ((rd_T52 l0 x12_1).f1.f0), .int .i64 ((rd_T52 l0 x12_1).f1.f1)] 52 (0, 0)) (by (with_reducible repeat (first | refine blk_drewN ?_ _ | refine blk_drew ?_ | refine blk_alloc ?_ _)); exact BK284.out)) : gb284 ≠ gb286))
                                have n6_ := Aside0.mk ((by rw [hg]; exact Nat.ne_of_gt (blk_lt (g := gb284) (o := .cells #[.int .i64 ((rd_T52 l0 x12_1).f0.f0), .int .i64 ((rd_T52 l0 x12_1).f0.f1), .int .i64 ((rd_T52 l0 x12_1).f1.f0), .int .i64 ((rd_T52 l0 x12_1).f1.f1)] 52 (0, 0)) (by (with_reducible repeat (first | refine blk_drewN ?_ _ | refine blk_drew ?_ | refine blk_alloc ?_ _)); exact BK284.out)) : gb286 ≠ gb284))
                                clear BK284
                                clear HB
                                have BK284 := n0_
                                have HB := n1_
                                have BK286 := n2_
                                have GW286 := n3_
                                have GE286 := n4_
                                have NB284_286 := n5_
                                have NB286_284 := n6_
                                clear n0_ n1_ n2_ n3_ n4_ n5_ n6_
                                clear hb hbox hg
                                refine hK.out _ _ ⟨(blk_cell BK284.out 0).trans rfl, (blk_cell BK284.out 1).trans rfl, (blk_cell BK284.out 2).trans rfl, (blk_cell BK284.out 3).trans rfl⟩ (fun hHeld => ?_)
                                clear hK K
                                refine norm_ (a' := ?_) ?_ ?_
                                rotate_left
                                · show Act.put _ (some 9) _ = _
                                  simp only [Act.put, List.setIfInBounds_toArray, List.set_cons_zero, List.set_cons_succ, i64_w, i32_w]
                                  rfl
                                refine one_ (i := 4) (N := some 8) #[true, true, true, true, true, true, false, false] rfl rfl (one_of HT_.out (by kernel_rfl)) (by decide) (fun K hK => ?_)
                                refine box_step ?hg (N := 8) ?hd (cs := #[.int .i64 0, .int .i64 0]) (t := 51) ?hr ?_; (case hd => rfl); (case hg => rfl); (case hr => first | (go_simp; done) | (go_simp; rfl))
                                intro gb285 hg w23 hbox hb
                                have n0_ := Aside0.mk (blk_below (g := gb284) (o := .cells #[.int .i64 ((rd_T52 l0 x12_1).f0.f0), .int .i64 ((rd_T52 l0 x12_1).f0.f1), .int .i64 ((rd_T52 l0 x12_1).f1.f0), .int .i64 ((rd_T52 l0 x12_1).f1.f1)] 52 (0, 0)) (by (with_reducible repeat (first | refine blk_drewN ?_ _ | refine blk_drew ?_ | refine blk_alloc ?_ _)); exact BK284.out) hb)
                                have n1_ := Aside0.mk (blk_below (g := gb286) (o := .cells #[.int .i64 0, .int .i64 0] 51 (0, 0)) (by (with_reducible repeat (first | refine blk_drewN ?_ _ | refine blk_drew ?_ | refine blk_alloc ?_ _)); exact BK286.out) hb)
                                have n2_ := Aside0.mk (below_step (by repeat (first | (with_reducible first | exact HB.out | apply below_alloc | apply pw_below_drewN | apply below_drew1 | refine below_set ?_ GE284.out | refine below_set ?_ GE286.out) | exact HB.out)) hb)
                                have n3_ := Aside0.mk (hbox)
                                have n4_ := Aside0.mk ((by rw [hg]; exact (below_size (by repeat (first | (with_reducible first | exact HB.out | apply below_alloc | apply pw_below_drewN | apply below_drew1 | refine below_set ?_ GE284.out | refine below_set ?_ GE286.out) | exact HB.out))) : wr.heap.size ≤ gb285))
                                have n5_ := Aside0.mk ((by rw [hg]; exact (below_size (by repeat (first | (with_reducible first | exact HB.out | apply below_alloc | apply pw_below_drewN | apply below_drew1 | refine below_set ?_ GE284.out | refine below_set ?_ GE286.out) | exact HB.out))) : wr.heap.size ≤ gb285))
                                have n6_ := Aside0.mk ((by rw [hg]; exact Nat.ne_of_lt (blk_lt (g := gb284) (o := .cells #[.int .i64 ((rd_T52 l0 x12_1).f0.f0), .int .i64 ((rd_T52 l0 x12_1).f0.f1), .int .i64 ((rd_T52 l0 x12_1).f1.f0), .int .i64 ((rd_T52 l0 x12_1).f1.f1)] 52 (0, 0)) (by (with_reducible repeat (first | refine blk_drewN ?_ _ | refine blk_drew ?_ | refine blk_alloc ?_ _)); exact BK284.out)) : gb284 ≠ gb285))
                                have n7_ := Aside0.mk ((by rw [hg]; exact Nat.ne_of_gt (blk_lt (g := gb284) (o := .cells #[.int .i64 ((rd_T52 l0 x12_1).f0.f0), .int .i64 ((rd_T52 l0 x12_1).f0.f1), .int .i64 ((rd_T52 l0 x12_1).f1.f0), .int .i64 ((rd_T52 l0 x12_1).f1.f1)] 52 (0, 0)) (by (with_reducible repeat (first | refine blk_drewN ?_ _ | refine blk_drew ?_ | refine blk_alloc ?_ _)); exact BK284.out)) : gb285 ≠ gb284))
                                have n8_ := Aside0.mk ((by rw [hg]; exact Nat.ne_of_lt (blk_lt (g := gb286) (o := .cells #[.int .i64 0, .int .i64 0] 51 (0, 0)) (by (with_reducible repeat (first | refine blk_drewN ?_ _ | refine blk_drew ?_ | refine blk_alloc ?_ _)); exact BK286.out)) : gb286 ≠ gb285))
                                have n9_ := Aside0.mk ((by rw [hg]; exact Nat.ne_of_gt (blk_lt (g := gb286) (o := .cells #[.int .i64 0, .int .i64 0] 51 (0, 0)) (by (with_reducible repeat (first | refine blk_drewN ?_ _ | refine blk_drew ?_ | refine blk_alloc ?_ _)); exact BK286.out)) : gb285 ≠ gb286))
                                clear BK284
                                clear BK286
                                clear HB
                                have BK284 := n0_
                                have BK286 := n1_
                                have HB := n2_
                                have BK285 := n3_
                                have GW285 := n4_
                                have GE285 := n5_
                                have NB284_285 := n6_
                                have NB285_284 := n7_
                                have NB286_285 := n8_
                                have NB285_286 := n9_
                                clear n0_ n1_ n2_ n3_ n4_ n5_ n6_ n7_ n8_ n9_
                                clear hb hbox hg
                                refine hK.out _ _ ⟨(blk_cell BK284.out 0).trans rfl, (blk_cell BK284.out 1).trans rfl, (blk_cell BK284.out 2).trans rfl, (blk_cell BK284.out 3).trans rfl⟩ (fun hHeld => ?_)
                                clear hK K
                                refine norm_ (a' := ?_) ?_ ?_
                                rotate_left
                                · show Act.put _ (some 8) _ = _
                                  simp only [Act.put, List.setIfInBounds_toArray, List.set_cons_zero, List.set_cons_succ, i64_w, i32_w]
                                  rfl
                                exact norm_ (by simp only [putAll, Act.put, List.setIfInBounds_toArray, List.set_cons_zero, List.set_cons_succ]) (hCont (gb285, gb286) _ ⟨hHeld, (by (with_reducible repeat (first | refine blk_drewN ?_ _ | refine blk_drew ?_ | refine blk_alloc ?_ _)); exact BK284.out), (by (with_reducible repeat (first | refine blk_drewN ?_ _ | refine blk_drew ?_ | refine blk_alloc ?_ _)); exact BK285.out), (by (with_reducible repeat (first | refine blk_drewN ?_ _ | refine blk_drew ?_ | refine blk_alloc ?_ _)); exact BK286.out), GW285.out, GE285.out, NB284_285.out, NB285_284.out, NB286_285.out, NB285_286.out, GW286.out, GE286.out, NB284_286.out, NB286_284.out, (by repeat (first | (with_reducible first | exact HB.out | apply below_alloc | apply pw_below_drewN | apply below_drew1 | refine below_set ?_ GE284.out | refine below_set ?_ GE286.out | refine below_set ?_ GE285.out) | exact HB.out))⟩)
                            rintro ⟨gb285, gb286⟩ w24 ⟨hS_, h0_, h1_, h2_, h3_, h4_, h5_, h6_, h7_, h8_, h9_, h10_, h11_, h12_, h13_⟩
                            have n0_ : Aside0 (w24.heap[gb284]? = some (.cells #[.int .i64 ((rd_T52 l0 x12_1).f0.f0), .int .i64 ((rd_T52 l0 x12_1).f0.f1), .int .i64 ((rd_T52 l0 x12_1).f1.f0), .int .i64 ((rd_T52 l0 x12_1).f1.f1)] 52 (0, 0))) := ⟨h0_⟩
                            have n1_ : Aside0 (w24.heap[gb285]? = some (.cells #[.int .i64 0, .int .i64 0] 51 (0, 0))) := ⟨h1_⟩
                            have n2_ : Aside0 (w24.heap[gb286]? = some (.cells #[.int .i64 0, .int .i64 0] 51 (0, 0))) := ⟨h2_⟩
                            have n3_ : Aside0 (wr.heap.size ≤ gb285) := ⟨h3_⟩
                            have n4_ : Aside0 (wr.heap.size ≤ gb285) := ⟨h4_⟩
                            have n5_ : Aside0 (gb284 ≠ gb285) := ⟨h5_⟩
                            have n6_ : Aside0 (gb285 ≠ gb284) := ⟨h6_⟩
                            have n7_ : Aside0 (gb286 ≠ gb285) := ⟨h7_⟩
                            have n8_ : Aside0 (gb285 ≠ gb286) := ⟨h8_⟩
                            have n9_ : Aside0 (wr.heap.size ≤ gb286) := ⟨h9_⟩
                            have n10_ : Aside0 (wr.heap.size ≤ gb286) := ⟨h10_⟩
                            have n11_ : Aside0 (gb284 ≠ gb286) := ⟨h11_⟩
                            have n12_ : Aside0 (gb286 ≠ gb284) := ⟨h12_⟩
                            have n13_ : Aside0 (Below wr.heap.size wr w24) := ⟨h13_⟩
                            clear BK284
                            clear HB
                            clear h0_ h1_ h2_ h3_ h4_ h5_ h6_ h7_ h8_ h9_ h10_ h11_ h12_ h13_
                            have BK284 := n0_
                            have BK285 := n1_
                            have BK286 := n2_
                            have GW285 := n3_
                            have GE285 := n4_
                            have NB284_285 := n5_
                            have NB285_284 := n6_
                            have NB286_285 := n7_
                            have NB285_286 := n8_
                            have GW286 := n9_
                            have GE286 := n10_
                            have NB284_286 := n11_
                            have NB286_284 := n12_
                            have HB := n13_
                            clear n0_ n1_ n2_ n3_ n4_ n5_ n6_ n7_ n8_ n9_ n10_ n11_ n12_ n13_
                            have hHeld : w24.cell? ⟨gb284, 0, none⟩ = some (.int .i64 ((rd_T52 l0 x12_1).f0.f0)) ∧ w24.cell? ⟨gb284, 1, none⟩ = some (.int .i64 ((rd_T52 l0 x12_1).f0.f1)) ∧ w24.cell? ⟨gb284, 2, none⟩ = some (.int .i64 ((rd_T52 l0 x12_1).f1.f0)) ∧ w24.cell? ⟨gb284, 3, none⟩ = some (.int .i64 ((rd_T52 l0 x12_1).f1.f1)) := hS_
                            refine norm_ (a' := ?_) ?_ ?_
                            rotate_left
                            · simp only [putAll, Act.put, List.setIfInBounds_toArray, List.set_cons_zero, List.set_cons_succ]
                              rfl
                            refine one_ (i := 6) (N := none) #[true, true, true, true, true, true, true, false] rfl rfl (one_of HT_.out (by kernel_rfl)) (by decide) (fun K hK => ?_)
                            have hs25 : w24.cell? ⟨gb285, 0, none⟩ = some (.int .i64 0) := (blk_cell BK285.out 0).trans rfl
                            have hfs25 := blk_frozen BK285.out 0
                            have hns25_0 := NB284_285.out
                            have hns25_2 := NB286_285.out
                            have hms25_0 := NB285_284.out
                            have hms25_2 := NB285_286.out
                            have hs26 : w24.cell? ⟨gb285, 1, none⟩ = some (.int .i64 0) := (blk_cell BK285.out 1).trans rfl
                            have hfs26 := blk_frozen BK285.out 1
                            have hns26_0 := NB284_285.out
                            have hns26_2 := NB286_285.out
                            have hms26_0 := NB285_284.out
                            have hms26_2 := NB285_286.out
                            refine skip_ (w1 := ?_) (by rfl) rfl ?_ ?_
                            rotate_left
                            · go_simp
                              rfl
                            refine hK.out _ _ ⟨((cell_far (p := ⟨gb285, _, none⟩) NB284_285.out _).trans (((cell_far (p := ⟨gb285, _, none⟩) NB284_285.out _).trans (hHeld.1)))), ((cell_far (p := ⟨gb285, _, none⟩) NB284_285.out _).trans (((cell_far (p := ⟨gb285, _, none⟩) NB284_285.out _).trans (hHeld.2.1)))), ((cell_far (p := ⟨gb285, _, none⟩) NB284_285.out _).trans (((cell_far (p := ⟨gb285, _, none⟩) NB284_285.out _).trans (hHeld.2.2.1)))), ((cell_far (p := ⟨gb285, _, none⟩) NB284_285.out _).trans (((cell_far (p := ⟨gb285, _, none⟩) NB284_285.out _).trans (hHeld.2.2.2))))⟩ (fun hHeld => ?_)
                            clear hK K
                            refine one_ (i := 7) (N := none) #[true, true, true, true, true, true, true, true] rfl rfl (one_of HT_.out (by kernel_rfl)) (by decide) (fun K hK => ?_)
                            have hs27 : w24.cell? ⟨gb286, 0, none⟩ = some (.int .i64 0) := (blk_cell BK286.out 0).trans rfl
                            have hfs27 := blk_frozen BK286.out 0
                            have hns27_0 := NB284_286.out
                            have hns27_1 := NB285_286.out
                            have hms27_0 := NB286_284.out
                            have hms27_1 := NB286_285.out
                            have hs28 : w24.cell? ⟨gb286, 1, none⟩ = some (.int .i64 0) := (blk_cell BK286.out 1).trans rfl
                            have hfs28 := blk_frozen BK286.out 1
                            have hns28_0 := NB284_286.out
                            have hns28_1 := NB285_286.out
                            have hms28_0 := NB286_284.out
                            have hms28_1 := NB286_285.out
                            refine skip_ (w1 := ?_) (by rfl) rfl ?_ ?_
                            rotate_left
                            · go_simp
                              rfl
                            refine hK.out _ _ ⟨((cell_far (p := ⟨gb286, _, none⟩) NB284_286.out _).trans (((cell_far (p := ⟨gb286, _, none⟩) NB284_286.out _).trans (hHeld.1)))), ((cell_far (p := ⟨gb286, _, none⟩) NB284_286.out _).trans (((cell_far (p := ⟨gb286, _, none⟩) NB284_286.out _).trans (hHeld.2.1)))), ((cell_far (p := ⟨gb286, _, none⟩) NB284_286.out _).trans (((cell_far (p := ⟨gb286, _, none⟩) NB284_286.out _).trans (hHeld.2.2.1)))), ((cell_far (p := ⟨gb286, _, none⟩) NB284_286.out _).trans (((cell_far (p := ⟨gb286, _, none⟩) NB284_286.out _).trans (hHeld.2.2.2))))⟩ (fun hHeld => ?_)
                            clear hK K
                            refine done_ (done_of HT_.out (by kernel_rfl)) ?_
                            try go_wp2
                            have n0_ : Aside0 (((((w24.setCell ⟨gb285, 0, none⟩ (.int .i64 ((rd_T52 l0 x12_1).f0.f0))).setCell ⟨gb285, 1, none⟩ (.int .i64 ((rd_T52 l0 x12_1).f0.f1))).setCell ⟨gb286, 0, none⟩ (.int .i64 ((rd_T52 l0 x12_1).f1.f0))).setCell ⟨gb286, 1, none⟩ (.int .i64 ((rd_T52 l0 x12_1).f1.f1))).heap[gb284]? = some (.cells #[.int .i64 ((rd_T52 l0 x12_1).f0.f0), .int .i64 ((rd_T52 l0 x12_1).f0.f1), .int .i64 ((rd_T52 l0 x12_1).f1.f0), .int .i64 ((rd_T52 l0 x12_1).f1.f1)] 52 (0, 0))) := ⟨by (with_reducible repeat (first | refine blk_drewN ?_ _ | refine blk_drew ?_ | refine blk_alloc ?_ _)); refine blk_far ?_ NB284_286.out _; (with_reducible repeat (first | refine blk_drewN ?_ _ | refine blk_drew ?_ | refine blk_alloc ?_ _)); refine blk_far ?_ NB284_286.out _; (with_reducible repeat (first | refine blk_drewN ?_ _ | refine blk_drew ?_ | refine blk_alloc ?_ _)); refine blk_far ?_ NB284_285.out _; (with_reducible repeat (first | refine blk_drewN ?_ _ | refine blk_drew ?_ | refine blk_alloc ?_ _)); refine blk_far ?_ NB284_285.out _; (with_reducible repeat (first | refine blk_drewN ?_ _ | refine blk_drew ?_ | refine blk_alloc ?_ _)); exact BK284.out⟩
                            have n1_ : Aside0 (((((w24.setCell ⟨gb285, 0, none⟩ (.int .i64 ((rd_T52 l0 x12_1).f0.f0))).setCell ⟨gb285, 1, none⟩ (.int .i64 ((rd_T52 l0 x12_1).f0.f1))).setCell ⟨gb286, 0, none⟩ (.int .i64 ((rd_T52 l0 x12_1).f1.f0))).setCell ⟨gb286, 1, none⟩ (.int .i64 ((rd_T52 l0 x12_1).f1.f1))).heap[gb285]? = some (.cells #[.int .i64 ((rd_T52 l0 x12_1).f0.f0), .int .i64 ((rd_T52 l0 x12_1).f0.f1)] 51 (0, 0))) := ⟨by (with_reducible repeat (first | refine blk_drewN ?_ _ | refine blk_drew ?_ | refine blk_alloc ?_ _)); refine blk_far ?_ NB285_286.out _; (with_reducible repeat (first | refine blk_drewN ?_ _ | refine blk_drew ?_ | refine blk_alloc ?_ _)); refine blk_far ?_ NB285_286.out _; (with_reducible repeat (first | refine blk_drewN ?_ _ | refine blk_drew ?_ | refine blk_alloc ?_ _)); refine blk_put (cs := #[.int .i64 ((rd_T52 l0 x12_1).f0.f0), .int .i64 0]) ?_ 1 _ rfl; (with_reducible repeat (first | refine blk_drewN ?_ _ | refine blk_drew ?_ | refine blk_alloc ?_ _)); refine blk_put (cs := #[.int .i64 0, .int .i64 0]) ?_ 0 _ rfl; (with_reducible repeat (first | refine blk_drewN ?_ _ | refine blk_drew ?_ | refine blk_alloc ?_ _)); exact BK285.out⟩
                            have n2_ : Aside0 (((((w24.setCell ⟨gb285, 0, none⟩ (.int .i64 ((rd_T52 l0 x12_1).f0.f0))).setCell ⟨gb285, 1, none⟩ (.int .i64 ((rd_T52 l0 x12_1).f0.f1))).setCell ⟨gb286, 0, none⟩ (.int .i64 ((rd_T52 l0 x12_1).f1.f0))).setCell ⟨gb286, 1, none⟩ (.int .i64 ((rd_T52 l0 x12_1).f1.f1))).heap[gb286]? = some (.cells #[.int .i64 ((rd_T52 l0 x12_1).f1.f0), .int .i64 ((rd_T52 l0 x12_1).f1.f1)] 51 (0, 0))) := ⟨by (with_reducible repeat (first | refine blk_drewN ?_ _ | refine blk_drew ?_ | refine blk_alloc ?_ _)); refine blk_put (cs := #[.int .i64 ((rd_T52 l0 x12_1).f1.f0), .int .i64 0]) ?_ 1 _ rfl; (with_reducible repeat (first | refine blk_drewN ?_ _ | refine blk_drew ?_ | refine blk_alloc ?_ _)); refine blk_put (cs := #[.int .i64 0, .int .i64 0]) ?_ 0 _ rfl; (with_reducible repeat (first | refine blk_drewN ?_ _ | refine blk_drew ?_ | refine blk_alloc ?_ _)); refine blk_far ?_ NB286_285.out _; (with_reducible repeat (first | refine blk_drewN ?_ _ | refine blk_drew ?_ | refine blk_alloc ?_ _)); refine blk_far ?_ NB286_285.out _; (with_reducible repeat (first | refine blk_drewN ?_ _ | refine blk_drew ?_ | refine blk_alloc ?_ _)); exact BK286.out⟩
                            have n3_ : Aside0 (Below wr.heap.size wr ((((w24.setCell ⟨gb285, 0, none⟩ (.int .i64 ((rd_T52 l0 x12_1).f0.f0))).setCell ⟨gb285, 1, none⟩ (.int .i64 ((rd_T52 l0 x12_1).f0.f1))).setCell ⟨gb286, 0, none⟩ (.int .i64 ((rd_T52 l0 x12_1).f1.f0))).setCell ⟨gb286, 1, none⟩ (.int .i64 ((rd_T52 l0 x12_1).f1.f1)))) := ⟨by repeat (first | (with_reducible first | exact HB.out | apply below_alloc | apply pw_below_drewN | apply below_drew1 | refine below_set ?_ GE284.out | refine below_set ?_ GE285.out | refine below_set ?_ GE286.out) | exact HB.out)⟩
                            (try clear BK284)
                            (try clear BK285)
                            (try clear BK286)
                            (try clear HB)
                            generalize ((((w24.setCell ⟨gb285, 0, none⟩ (.int .i64 ((rd_T52 l0 x12_1).f0.f0))).setCell ⟨gb285, 1, none⟩ (.int .i64 ((rd_T52 l0 x12_1).f0.f1))).setCell ⟨gb286, 0, none⟩ (.int .i64 ((rd_T52 l0 x12_1).f1.f0))).setCell ⟨gb286, 1, none⟩ (.int .i64 ((rd_T52 l0 x12_1).f1.f1))) = w29 at n0_ n1_ n2_ n3_ ⊢
                            have BK284 := n0_
                            have BK285 := n1_
                            have BK286 := n2_
                            have HB := n3_
                            clear n0_ n1_ n2_ n3_
                            have n0_ := Aside0.mk (blk_drew BK284.out)
                            have n1_ := Aside0.mk (blk_drew BK285.out)
                            have n2_ := Aside0.mk (blk_drew BK286.out)
                            have n3_ := Aside0.mk (below_drew1 HB.out)
                            clear BK284
                            clear BK285
                            clear BK286
                            clear HB
                            have BK284 := n0_
                            have BK285 := n1_
                            have BK286 := n2_
                            have HB := n3_
                            clear n0_ n1_ n2_ n3_
                            refine start_ (n := 24) (S := fun w' => w'.cell? ⟨gb285, 0, none⟩ = some (.int .i64 ((rd_T52 l0 x12_1).f0.f0)) ∧ w'.cell? ⟨gb285, 1, none⟩ = some (.int .i64 ((rd_T52 l0 x12_1).f0.f1)) ∧ w'.cell? ⟨gb286, 0, none⟩ = some (.int .i64 ((rd_T52 l0 x12_1).f1.f0)) ∧ w'.cell? ⟨gb286, 1, none⟩ = some (.int .i64 ((rd_T52 l0 x12_1).f1.f1))) (ds := [23]) #[false, false, false, false, false, false, false, false, false, false, false, false, false, false, false, false, false, false, false, false, false, false, false, false] (by kernel_rfl) rfl rfl ⟨(blk_cell BK285.out 0).trans rfl, (blk_cell BK285.out 1).trans rfl, (blk_cell BK286.out 0).trans rfl, (blk_cell BK286.out 1).trans rfl⟩ (fun hHeld => ?_); refine with_tabW data_PrintFaults.tab6 data_PrintFaults.bits6 (fun HT_ HW_ => ?_)
                            generalize w29.drew = w30 at BK284 BK285 BK286 HB hHeld ⊢
                            refine pure_ (i := 0) (N := some 20) (v := ?_) (a' := ?_) #[true, false, false, false, false, false, false, false, false, false, false, false, false, false, false, false, false, false, false, false, false, false, false, false] rfl rfl (any_of HT_.out (by kernel_rfl)) (fun _ _ _ h => h) (Or.inl ⟨by rfl, ?_⟩) ?_ ?_
                            rotate_left
                            · intro w'
                              go_simp
                              with_reducible rfl
                            rotate_left
                            · simp only [Act.put, List.setIfInBounds_toArray, List.set_cons_zero, List.set_cons_succ, i64_w, i32_w]
                              rfl
                            refine pure_ (i := 2) (N := some 22) (v := ?_) (a' := ?_) #[true, false, true, false, false, false, false, false, false, false, false, false, false, false, false, false, false, false, false, false, false, false, false, false] rfl rfl (any_of HT_.out (by kernel_rfl)) (fun _ _ _ h => h) (Or.inl ⟨by rfl, ?_⟩) ?_ ?_
                            rotate_left
                            · intro w'
                              go_simp
                              with_reducible rfl
                            rotate_left
                            · simp only [Act.put, List.setIfInBounds_toArray, List.set_cons_zero, List.set_cons_succ, i64_w, i32_w]
                              rfl
                            refine pure_ (i := 5) (N := some 25) (v := ?_) (a' := ?_) #[true, false, true, false, false, true, false, false, false, false, false, false, false, false, false, false, false, false, false, false, false, false, false, false] rfl rfl (any_of HT_.out (by kernel_rfl)) (fun _ _ _ h => h) (Or.inl ⟨by rfl, ?_⟩) ?_ ?_
                            rotate_left
                            · intro w'
                              go_simp
                              with_reducible rfl
                            rotate_left
                            · simp only [Act.put, List.setIfInBounds_toArray, List.set_cons_zero, List.set_cons_succ, i64_w, i32_w]
                              rfl
                            refine pure_ (i := 7) (N := some 27) (v := ?_) (a' := ?_) #[true, false, true, false, false, true, false, true, false, false, false, false, false, false, false, false, false, false, false, false, false, false, false, false] rfl rfl (any_of HT_.out (by kernel_rfl)) (fun _ _ _ h => h) (Or.inl ⟨by rfl, ?_⟩) ?_ ?_
                            rotate_left
                            · intro w'
                              go_simp
                              with_reducible rfl
                            rotate_left
                            · simp only [Act.put, List.setIfInBounds_toArray, List.set_cons_zero, List.set_cons_succ, i64_w, i32_w]
                              rfl
                            refine pure_ (i := 11) (N := some 31) (v := ?_) (a' := ?_) #[true, false, true, false, false, true, false, true, false, false, false, true, false, false, false, false, false, false, false, false, false, false, false, false] rfl rfl (any_of HT_.out (by kernel_rfl)) (fun _ _ _ h => h) (Or.inl ⟨by rfl, ?_⟩) ?_ ?_
                            rotate_left
                            · intro w'
                              go_simp
                              with_reducible rfl
                            rotate_left
                            · simp only [Act.put, List.setIfInBounds_toArray, List.set_cons_zero, List.set_cons_succ, i64_w, i32_w]
                              rfl
                            refine pure_ (i := 13) (N := some 33) (v := ?_) (a' := ?_) #[true, false, true, false, false, true, false, true, false, false, false, true, false, true, false, false, false, false, false, false, false, false, false, false] rfl rfl (any_of HT_.out (by kernel_rfl)) (fun _ _ _ h => h) (Or.inl ⟨by rfl, ?_⟩) ?_ ?_
                            rotate_left
                            · intro w'
                              go_simp
                              with_reducible rfl
                            rotate_left
                            · simp only [Act.put, List.setIfInBounds_toArray, List.set_cons_zero, List.set_cons_succ, i64_w, i32_w]
                              rfl
                            refine pure_ (i := 17) (N := some 37) (v := ?_) (a' := ?_) #[true, false, true, false, false, true, false, true, false, false, false, true, false, true, false, false, false, true, false, false, false, false, false, false] rfl rfl (any_of HT_.out (by kernel_rfl)) (fun _ _ _ h => h) (Or.inl ⟨by rfl, ?_⟩) ?_ ?_
                            rotate_left
                            · intro w'
                              go_simp
                              with_reducible rfl
                            rotate_left
                            · simp only [Act.put, List.setIfInBounds_toArray, List.set_cons_zero, List.set_cons_succ, i64_w, i32_w]
                              rfl
                            refine pure_ (i := 19) (N := some 39) (v := ?_) (a' := ?_) #[true, false, true, false, false, true, false, true, false, false, false, true, false, true, false, false, false, true, false, true, false, false, false, false] rfl rfl (any_of HT_.out (by kernel_rfl)) (fun _ _ _ h => h) (Or.inl ⟨by rfl, ?_⟩) ?_ ?_
                            rotate_left
                            · intro w'
                              go_simp
                              with_reducible rfl
                            rotate_left
                            · simp only [Act.put, List.setIfInBounds_toArray, List.set_cons_zero, List.set_cons_succ, i64_w, i32_w]
                              rfl
                            refine take_ (i := 1) (N := some 21) (v := ?_) (a' := ?_) #[true, true, true, false, false, true, false, true, false, false, false, true, false, true, false, false, false, true, false, true, false, false, false, false] rfl rfl (take_ofW HT_.out HW_.out (by kernel_rfl)) (fun _ _ _ h => h) (Or.inl ⟨by rfl, ?_⟩) hHeld ?_ ?_
                            rotate_left
                            · rintro w' ⟨s0, s1, s2, s3⟩
                              go_simp
                              with_reducible rfl
                            rotate_left
                            · simp only [Act.put, List.setIfInBounds_toArray, List.set_cons_zero, List.set_cons_succ, i64_w, i32_w]
                              rfl
                            refine take_ (i := 6) (N := some 26) (v := ?_) (a' := ?_) #[true, true, true, false, false, true, true, true, false, false, false, true, false, true, false, false, false, true, false, true, false, false, false, false] rfl rfl (take_ofW HT_.out HW_.out (by kernel_rfl)) (fun _ _ _ h => h) (Or.inl ⟨by rfl, ?_⟩) hHeld ?_ ?_
                            rotate_left
                            · rintro w' ⟨s0, s1, s2, s3⟩
                              go_simp
                              with_reducible rfl
                            rotate_left
                            · simp only [Act.put, List.setIfInBounds_toArray, List.set_cons_zero, List.set_cons_succ, i64_w, i32_w]
                              rfl
                            refine take_ (i := 12) (N := some 32) (v := ?_) (a' := ?_) #[true, true, true, false, false, true, true, true, false, false, false, true, true, true, false, false, false, true, false, true, false, false, false, false] rfl rfl (take_ofW HT_.out HW_.out (by kernel_rfl)) (fun _ _ _ h => h) (Or.inl ⟨by rfl, ?_⟩) hHeld ?_ ?_
                            rotate_left
                            · rintro w' ⟨s0, s1, s2, s3⟩
                              go_simp
                              with_reducible rfl
                            rotate_left
                            · simp only [Act.put, List.setIfInBounds_toArray, List.set_cons_zero, List.set_cons_succ, i64_w, i32_w]
                              rfl
                            refine take_ (i := 18) (N := some 38) (v := ?_) (a' := ?_) #[true, true, true, false, false, true, true, true, false, false, false, true, true, true, false, false, false, true, true, true, false, false, false, false] rfl rfl (take_ofW HT_.out HW_.out (by kernel_rfl)) (fun _ _ _ h => h) (Or.inl ⟨by rfl, ?_⟩) hHeld ?_ ?_
                            rotate_left
                            · rintro w' ⟨s0, s1, s2, s3⟩
                              go_simp
                              with_reducible rfl
                            rotate_left
                            · simp only [Act.put, List.setIfInBounds_toArray, List.set_cons_zero, List.set_cons_succ, i64_w, i32_w]
                              rfl
                            refine one_ (i := 3) (N := some 23) #[true, true, true, true, false, true, true, true, false, false, false, true, true, true, false, false, false, true, true, true, false, false, false, false] rfl rfl (one_of HT_.out (by kernel_rfl)) (by decide) (fun K hK => ?_)
                            refine goes_ Tryz.func14 (by kernel_rfl) rfl #[.int .i64 ((rd_T52 l0 x12_1).f0.f0), .int .i64 a1] (by rfl) rfl rfl (by (try simp only [List.map_toArray, List.map_cons, List.map_nil]); first | done | rfl | (simp only [List.length_drop, List.length_take]; rfl)) ?_
                            with_reducible refine (deci_Text.calls k1 ((rd_T52 l0 x12_1).f0.f0) a1 t287 _ A6.out).mono ?_
                            rintro e w31 ⟨rfl, hb⟩
                            refine ⟨_, rfl, ?_⟩
                            have n0_ := Aside0.mk (blk_below (g := gb284) (o := .cells #[.int .i64 ((rd_T52 l0 x12_1).f0.f0), .int .i64 ((rd_T52 l0 x12_1).f0.f1), .int .i64 ((rd_T52 l0 x12_1).f1.f0), .int .i64 ((rd_T52 l0 x12_1).f1.f1)] 52 (0, 0)) (by (with_reducible repeat (first | refine blk_drewN ?_ _ | refine blk_drew ?_ | refine blk_alloc ?_ _)); exact BK284.out) hb)
                            have n1_ := Aside0.mk (blk_below (g := gb285) (o := .cells #[.int .i64 ((rd_T52 l0 x12_1).f0.f0), .int .i64 ((rd_T52 l0 x12_1).f0.f1)] 51 (0, 0)) (by (with_reducible repeat (first | refine blk_drewN ?_ _ | refine blk_drew ?_ | refine blk_alloc ?_ _)); exact BK285.out) hb)
                            have n2_ := Aside0.mk (blk_below (g := gb286) (o := .cells #[.int .i64 ((rd_T52 l0 x12_1).f1.f0), .int .i64 ((rd_T52 l0 x12_1).f1.f1)] 51 (0, 0)) (by (with_reducible repeat (first | refine blk_drewN ?_ _ | refine blk_drew ?_ | refine blk_alloc ?_ _)); exact BK286.out) hb)
                            have n3_ := Aside0.mk (below_step (by repeat (first | (with_reducible first | exact HB.out | apply below_alloc | apply pw_below_drewN | apply below_drew1 | refine below_set ?_ GE284.out | refine below_set ?_ GE285.out | refine below_set ?_ GE286.out) | exact HB.out)) hb)
                            clear BK284
                            clear BK285
                            clear BK286
                            clear HB
                            have BK284 := n0_
                            have BK285 := n1_
                            have BK286 := n2_
                            have HB := n3_
                            clear n0_ n1_ n2_ n3_
                            (try clear hb)
                            (try clear hb2)
                            (try clear hk)
                            (try clear hi)
                            refine hK.out _ _ ⟨(blk_cell BK285.out 0).trans rfl, (blk_cell BK285.out 1).trans rfl, (blk_cell BK286.out 0).trans rfl, (blk_cell BK286.out 1).trans rfl⟩ (fun hHeld => ?_)
                            clear hK K
                            refine norm_ (a' := ?_) ?_ ?_
                            rotate_left
                            · show Act.put _ (some 23) _ = _
                              simp only [Act.put, List.setIfInBounds_toArray, List.set_cons_zero, List.set_cons_succ, i64_w, i32_w]
                              rfl
                            refine pure_ (i := 4) (N := some 24) (v := ?_) (a' := ?_) #[true, true, true, true, true, true, true, true, false, false, false, true, true, true, false, false, false, true, true, true, false, false, false, false] rfl rfl (any_of HT_.out (by kernel_rfl)) (fun _ _ _ h => h) (Or.inl ⟨by rfl, ?_⟩) ?_ ?_
                            rotate_left
                            · intro w'
                              go_simp
                              with_reducible rfl
                            rotate_left
                            · simp only [Act.put, List.setIfInBounds_toArray, List.set_cons_zero, List.set_cons_succ, i64_w, i32_w]
                              rfl
                            refine one_ (i := 8) (N := some 28) #[true, true, true, true, true, true, true, true, true, false, false, true, true, true, false, false, false, true, true, true, false, false, false, false] rfl rfl (one_of HT_.out (by kernel_rfl)) (by decide) (fun K hK => ?_)
                            refine goes_ Tryz.func14 (by kernel_rfl) rfl #[.int .i64 ((rd_T52 l0 x12_1).f0.f1), .int .i64 a1] (by rfl) rfl rfl (by (try simp only [List.map_toArray, List.map_cons, List.map_nil]); first | done | rfl | (simp only [List.length_drop, List.length_take]; rfl)) ?_
                            with_reducible refine (deci_Text.calls k1 ((rd_T52 l0 x12_1).f0.f1) a1 t288 _ A8.out).mono ?_
                            rintro e w32 ⟨rfl, hb⟩
                            refine ⟨_, rfl, ?_⟩
                            have n0_ := Aside0.mk (blk_below (g := gb284) (o := .cells #[.int .i64 ((rd_T52 l0 x12_1).f0.f0), .int .i64 ((rd_T52 l0 x12_1).f0.f1), .int .i64 ((rd_T52 l0 x12_1).f1.f0), .int .i64 ((rd_T52 l0 x12_1).f1.f1)] 52 (0, 0)) (by (with_reducible repeat (first | refine blk_drewN ?_ _ | refine blk_drew ?_ | refine blk_alloc ?_ _)); exact BK284.out) hb)
                            have n1_ := Aside0.mk (blk_below (g := gb285) (o := .cells #[.int .i64 ((rd_T52 l0 x12_1).f0.f0), .int .i64 ((rd_T52 l0 x12_1).f0.f1)] 51 (0, 0)) (by (with_reducible repeat (first | refine blk_drewN ?_ _ | refine blk_drew ?_ | refine blk_alloc ?_ _)); exact BK285.out) hb)
                            have n2_ := Aside0.mk (blk_below (g := gb286) (o := .cells #[.int .i64 ((rd_T52 l0 x12_1).f1.f0), .int .i64 ((rd_T52 l0 x12_1).f1.f1)] 51 (0, 0)) (by (with_reducible repeat (first | refine blk_drewN ?_ _ | refine blk_drew ?_ | refine blk_alloc ?_ _)); exact BK286.out) hb)
                            have n3_ := Aside0.mk (below_step (by repeat (first | (with_reducible first | exact HB.out | apply below_alloc | apply pw_below_drewN | apply below_drew1 | refine below_set ?_ GE284.out | refine below_set ?_ GE285.out | refine below_set ?_ GE286.out) | exact HB.out)) hb)
                            clear BK284
                            clear BK285
                            clear BK286
                            clear HB
                            have BK284 := n0_
                            have BK285 := n1_
                            have BK286 := n2_
                            have HB := n3_
                            clear n0_ n1_ n2_ n3_
                            (try clear hb)
                            (try clear hb2)
                            (try clear hk)
                            (try clear hi)
                            refine hK.out _ _ ⟨(blk_cell BK285.out 0).trans rfl, (blk_cell BK285.out 1).trans rfl, (blk_cell BK286.out 0).trans rfl, (blk_cell BK286.out 1).trans rfl⟩ (fun hHeld => ?_)
                            clear hK K
                            refine norm_ (a' := ?_) ?_ ?_
                            rotate_left
                            · show Act.put _ (some 28) _ = _
                              simp only [Act.put, List.setIfInBounds_toArray, List.set_cons_zero, List.set_cons_succ, i64_w, i32_w]
                              rfl
                            refine pure_ (i := 9) (N := some 29) (v := ?_) (a' := ?_) #[true, true, true, true, true, true, true, true, true, true, false, true, true, true, false, false, false, true, true, true, false, false, false, false] rfl rfl (any_of HT_.out (by kernel_rfl)) (fun _ _ _ h => h) (Or.inl ⟨by rfl, ?_⟩) ?_ ?_
                            rotate_left
                            · intro w'
                              go_simp
                              with_reducible rfl
                            rotate_left
                            · simp only [Act.put, List.setIfInBounds_toArray, List.set_cons_zero, List.set_cons_succ, i64_w, i32_w]
                              rfl
                            refine pure_ (i := 10) (N := some 30) (v := ?_) (a' := ?_) #[true, true, true, true, true, true, true, true, true, true, true, true, true, true, false, false, false, true, true, true, false, false, false, false] rfl rfl (any_of HT_.out (by kernel_rfl)) (fun _ _ _ h => h) (Or.inl ⟨by rfl, ?_⟩) ?_ ?_
                            rotate_left
                            · intro w'
                              go_simp
                              with_reducible rfl
                            rotate_left
                            · simp only [Act.put, List.setIfInBounds_toArray, List.set_cons_zero, List.set_cons_succ, i64_w, i32_w]
                              rfl
                            refine one_ (i := 14) (N := some 34) #[true, true, true, true, true, true, true, true, true, true, true, true, true, true, true, false, false, true, true, true, false, false, false, false] rfl rfl (one_of HT_.out (by kernel_rfl)) (by decide) (fun K hK => ?_)
                            refine goes_ Tryz.func14 (by kernel_rfl) rfl #[.int .i64 ((rd_T52 l0 x12_1).f1.f0), .int .i64 a1] (by rfl) rfl rfl (by (try simp only [List.map_toArray, List.map_cons, List.map_nil]); first | done | rfl | (simp only [List.length_drop, List.length_take]; rfl)) ?_
                            with_reducible refine (deci_Text.calls k1 ((rd_T52 l0 x12_1).f1.f0) a1 t289 _ A11.out).mono ?_
                            rintro e w33 ⟨rfl, hb⟩
                            refine ⟨_, rfl, ?_⟩
                            have n0_ := Aside0.mk (blk_below (g := gb284) (o := .cells #[.int .i64 ((rd_T52 l0 x12_1).f0.f0), .int .i64 ((rd_T52 l0 x12_1).f0.f1), .int .i64 ((rd_T52 l0 x12_1).f1.f0), .int .i64 ((rd_T52 l0 x12_1).f1.f1)] 52 (0, 0)) (by (with_reducible repeat (first | refine blk_drewN ?_ _ | refine blk_drew ?_ | refine blk_alloc ?_ _)); exact BK284.out) hb)
                            have n1_ := Aside0.mk (blk_below (g := gb285) (o := .cells #[.int .i64 ((rd_T52 l0 x12_1).f0.f0), .int .i64 ((rd_T52 l0 x12_1).f0.f1)] 51 (0, 0)) (by (with_reducible repeat (first | refine blk_drewN ?_ _ | refine blk_drew ?_ | refine blk_alloc ?_ _)); exact BK285.out) hb)
                            have n2_ := Aside0.mk (blk_below (g := gb286) (o := .cells #[.int .i64 ((rd_T52 l0 x12_1).f1.f0), .int .i64 ((rd_T52 l0 x12_1).f1.f1)] 51 (0, 0)) (by (with_reducible repeat (first | refine blk_drewN ?_ _ | refine blk_drew ?_ | refine blk_alloc ?_ _)); exact BK286.out) hb)
                            have n3_ := Aside0.mk (below_step (by repeat (first | (with_reducible first | exact HB.out | apply below_alloc | apply pw_below_drewN | apply below_drew1 | refine below_set ?_ GE284.out | refine below_set ?_ GE285.out | refine below_set ?_ GE286.out) | exact HB.out)) hb)
                            clear BK284
                            clear BK285
                            clear BK286
                            clear HB
                            have BK284 := n0_
                            have BK285 := n1_
                            have BK286 := n2_
                            have HB := n3_
                            clear n0_ n1_ n2_ n3_
                            (try clear hb)
                            (try clear hb2)
                            (try clear hk)
                            (try clear hi)
                            refine hK.out _ _ ⟨(blk_cell BK285.out 0).trans rfl, (blk_cell BK285.out 1).trans rfl, (blk_cell BK286.out 0).trans rfl, (blk_cell BK286.out 1).trans rfl⟩ (fun hHeld => ?_)
                            clear hK K
                            refine norm_ (a' := ?_) ?_ ?_
                            rotate_left
                            · show Act.put _ (some 34) _ = _
                              simp only [Act.put, List.setIfInBounds_toArray, List.set_cons_zero, List.set_cons_succ, i64_w, i32_w]
                              rfl
                            refine pure_ (i := 15) (N := some 35) (v := ?_) (a' := ?_) #[true, true, true, true, true, true, true, true, true, true, true, true, true, true, true, true, false, true, true, true, false, false, false, false] rfl rfl (any_of HT_.out (by kernel_rfl)) (fun _ _ _ h => h) (Or.inl ⟨by rfl, ?_⟩) ?_ ?_
                            rotate_left
                            · intro w'
                              go_simp
                              with_reducible rfl
                            rotate_left
                            · simp only [Act.put, List.setIfInBounds_toArray, List.set_cons_zero, List.set_cons_succ, i64_w, i32_w]
                              rfl
                            refine pure_ (i := 16) (N := some 36) (v := ?_) (a' := ?_) #[true, true, true, true, true, true, true, true, true, true, true, true, true, true, true, true, true, true, true, true, false, false, false, false] rfl rfl (any_of HT_.out (by kernel_rfl)) (fun _ _ _ h => h) (Or.inl ⟨by rfl, ?_⟩) ?_ ?_
                            rotate_left
                            · intro w'
                              go_simp
                              with_reducible rfl
                            rotate_left
                            · simp only [Act.put, List.setIfInBounds_toArray, List.set_cons_zero, List.set_cons_succ, i64_w, i32_w]
                              rfl
                            refine one_ (i := 20) (N := some 40) #[true, true, true, true, true, true, true, true, true, true, true, true, true, true, true, true, true, true, true, true, true, false, false, false] rfl rfl (one_of HT_.out (by kernel_rfl)) (by decide) (fun K hK => ?_)
                            refine goes_ Tryz.func14 (by kernel_rfl) rfl #[.int .i64 ((rd_T52 l0 x12_1).f1.f1), .int .i64 a1] (by rfl) rfl rfl (by (try simp only [List.map_toArray, List.map_cons, List.map_nil]); first | done | rfl | (simp only [List.length_drop, List.length_take]; rfl)) ?_
                            with_reducible refine (deci_Text.calls k1 ((rd_T52 l0 x12_1).f1.f1) a1 t290 _ A14.out).mono ?_
                            rintro e w34 ⟨rfl, hb⟩
                            refine ⟨_, rfl, ?_⟩
                            have n0_ := Aside0.mk (blk_below (g := gb284) (o := .cells #[.int .i64 ((rd_T52 l0 x12_1).f0.f0), .int .i64 ((rd_T52 l0 x12_1).f0.f1), .int .i64 ((rd_T52 l0 x12_1).f1.f0), .int .i64 ((rd_T52 l0 x12_1).f1.f1)] 52 (0, 0)) (by (with_reducible repeat (first | refine blk_drewN ?_ _ | refine blk_drew ?_ | refine blk_alloc ?_ _)); exact BK284.out) hb)
                            have n1_ := Aside0.mk (blk_below (g := gb285) (o := .cells #[.int .i64 ((rd_T52 l0 x12_1).f0.f0), .int .i64 ((rd_T52 l0 x12_1).f0.f1)] 51 (0, 0)) (by (with_reducible repeat (first | refine blk_drewN ?_ _ | refine blk_drew ?_ | refine blk_alloc ?_ _)); exact BK285.out) hb)
                            have n2_ := Aside0.mk (blk_below (g := gb286) (o := .cells #[.int .i64 ((rd_T52 l0 x12_1).f1.f0), .int .i64 ((rd_T52 l0 x12_1).f1.f1)] 51 (0, 0)) (by (with_reducible repeat (first | refine blk_drewN ?_ _ | refine blk_drew ?_ | refine blk_alloc ?_ _)); exact BK286.out) hb)
                            have n3_ := Aside0.mk (below_step (by repeat (first | (with_reducible first | exact HB.out | apply below_alloc | apply pw_below_drewN | apply below_drew1 | refine below_set ?_ GE284.out | refine below_set ?_ GE285.out | refine below_set ?_ GE286.out) | exact HB.out)) hb)
                            clear BK284
                            clear BK285
                            clear BK286
                            clear HB
                            have BK284 := n0_
                            have BK285 := n1_
                            have BK286 := n2_
                            have HB := n3_
                            clear n0_ n1_ n2_ n3_
                            (try clear hb)
                            (try clear hb2)
                            (try clear hk)
                            (try clear hi)
                            refine hK.out _ _ ⟨(blk_cell BK285.out 0).trans rfl, (blk_cell BK285.out 1).trans rfl, (blk_cell BK286.out 0).trans rfl, (blk_cell BK286.out 1).trans rfl⟩ (fun hHeld => ?_)
                            clear hK K
                            refine norm_ (a' := ?_) ?_ ?_
                            rotate_left
                            · show Act.put _ (some 40) _ = _
                              simp only [Act.put, List.setIfInBounds_toArray, List.set_cons_zero, List.set_cons_succ, i64_w, i32_w]
                              rfl
                            refine pure_ (i := 21) (N := some 41) (v := ?_) (a' := ?_) #[true, true, true, true, true, true, true, true, true, true, true, true, true, true, true, true, true, true, true, true, true, true, false, false] rfl rfl (any_of HT_.out (by kernel_rfl)) (fun _ _ _ h => h) (Or.inl ⟨by rfl, ?_⟩) ?_ ?_
                            rotate_left
                            · intro w'
                              go_simp
                              with_reducible rfl
                            rotate_left
                            · simp only [Act.put, List.setIfInBounds_toArray, List.set_cons_zero, List.set_cons_succ, i64_w, i32_w]
                              rfl
                            refine pure_ (i := 22) (N := some 42) (v := ?_) (a' := ?_) #[true, true, true, true, true, true, true, true, true, true, true, true, true, true, true, true, true, true, true, true, true, true, true, false] rfl rfl (any_of HT_.out (by kernel_rfl)) (fun _ _ _ h => h) (Or.inl ⟨by rfl, ?_⟩) ?_ ?_
                            rotate_left
                            · intro w'
                              go_simp
                              with_reducible rfl
                            rotate_left
                            · simp only [Act.put, List.setIfInBounds_toArray, List.set_cons_zero, List.set_cons_succ, i64_w, i32_w]
                              rfl
                            refine last_ (i := 23) (N := some 43) #[true, true, true, true, true, true, true, true, true, true, true, true, true, true, true, true, true, true, true, true, true, true, true, true] rfl rfl (one_of HT_.out (by kernel_rfl)) (by decide) (fun K hK => ?_)
                            refine goes_ Tryz.func31 (by kernel_rfl) rfl #[.pointer (some ⟨gB, 0, none⟩), .string (((((((t287 ++ (⟨#[32]⟩ : ByteArray)) ++ t288) ++ (⟨#[32]⟩ : ByteArray)) ++ t289) ++ (⟨#[32]⟩ : ByteArray)) ++ t290) ++ (⟨#[10]⟩ : ByteArray))] (by rfl) rfl rfl (by (try simp only [List.map_toArray, List.map_cons, List.map_nil]); first | done | rfl) ?_
                            refine (bu_write (bu_below HU.out HB.out) c17 (Nat.le_trans HB0.out.size HB.out.size)).mono ?_
                            rintro e w99 ⟨rfl, hu, hb⟩
                            refine ⟨_, rfl, ?_⟩
                            have n0_ := Aside0.mk (HB0.out.trans ((HB.out.mono HB0.out.size).trans hb))
                            have n1_ := Aside0.mk hu
                            clear HB HU hu hb
                            have HB := n0_
                            have HU := n1_
                            clear n0_ n1_
                            refine hK.out _ _ ?_
                            clear hK K
                            refine norm_ (a' := ?_) ?_ ?_
                            rotate_left
                            · show Act.put _ (some 43) _ = _
                              simp only [Act.put, List.setIfInBounds_toArray, List.set_cons_zero, List.set_cons_succ, i64_w, i32_w]
                              rfl
                            refine done_ (done_of HT_.out (by kernel_rfl)) ?_
                            try go_wp2
                            go_roundg k1
                            case measure => have := HK1.out; omega
                            case rel => exact ⟨(x5_1 ++ (((((((t287 ++ (⟨#[32]⟩ : ByteArray)) ++ t288) ++ (⟨#[32]⟩ : ByteArray)) ++ t289) ++ (⟨#[32]⟩ : ByteArray)) ++ t290) ++ (⟨#[10]⟩ : ByteArray))), (wrap64 (x12_1 + 1)), (by first | rfl | (simp; done) | (simp [*]; done)), H', ⟨by have := HK1.out; omega⟩, HB, HU⟩
                          · rw [if_neg c17] at H
                            exact absurd H (by simp)
                        · rw [if_neg c16] at H
                          exact absurd H (by simp)
                      · rw [if_neg c15] at H
                        exact absurd H (by simp)
                    · rw [if_neg c13] at H
                      exact absurd H (by simp)
                  · rw [if_neg c12] at H
                    exact absurd H (by simp)
                · rw [if_neg c10] at H
                  exact absurd H (by simp)
              · rw [if_neg c9] at H
                exact absurd H (by simp)
            · rw [if_neg c7] at H
              exact absurd H (by simp)
          · rw [if_neg c5] at H
            exact absurd H (by simp)
        · rw [if_neg c4] at H
          exact absurd H (by simp)
      · rw [if_neg c3] at H
        have c3b0 : decide (x12_1 < (l0.length : Int)) = false := decide_eq_false c3
        clear c3
        obtain rfl := Option.some.inj H
        go_wp2_with (first | ((with_reducible refine gate_callee (f := 32) rfl ?_); refine goesL_ (some 45) rfl rfl Tryz.func32 (by kernel_rfl) rfl #[.pointer (some ⟨gB, 0, none⟩)] rfl (by (try simp only [List.map_toArray, List.map_cons, List.map_nil]); first | done | rfl) ?_; refine (bu_string HU.out HB0.out.size).mono ?_; rintro e w98 ⟨rfl, hb⟩; refine ⟨_, rfl, ?_⟩; have n0_ := Aside0.mk (HB0.out.trans hb); clear HB; have HB := n0_; clear n0_ hb))
        go_ret
        exact ⟨rfl, HB.out⟩
end Go.Proofs.YtknekneicecgiaaGreatDoor.M
