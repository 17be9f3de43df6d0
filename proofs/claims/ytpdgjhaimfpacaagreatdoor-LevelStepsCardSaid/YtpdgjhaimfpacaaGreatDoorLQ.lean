/- LevelSteps answers true: levels by steps are those that are told one by one. -/
import Derived.Test.YtpdgjhaimfpacaaGreatDoorLT
import Derived.Test.YtpdgjhaimfpacaaGreatDoorLI
import Derived.Test.YtpdgjhaimfpacaaGreatDoorKSteps
import Derived.OpenShut
namespace Go.Proofs.YtpdgjhaimfpacaaGreatDoor.Mg
open Go.RowKit Go.Proofs.YtpdgjhaimfpacaaGreatDoorW.PrintWords Go.Proofs.YtpdgjhaimfpacaaGreatDoorW.PrintMore Go.Proofs.YtpdgjhaimfpacaaGreatDoor.MB Go.Proofs.YtpdgjhaimfpacaaGreatDoor.M
set_option linter.unusedVariables false
set_option linter.unusedSimpArgs false

theorem ba_app (a b : List UInt8) : (⟨a.toArray⟩ : ByteArray) ++ (⟨b.toArray⟩ : ByteArray) = ⟨(a ++ b).toArray⟩ := by
  apply ba_mk
  rw [ByteArray.data_append, Array.toList_append]
theorem steps_l0 {F G T : Int} {m : Nat} (x7 : List Int) (h3 : x7.length = 3) (h1 : rd x7 1 = G) (h2 : rd x7 2 = T) (hT : 0 < T) (hT2 : T ≤ 4294967296) (hm : m ≤ 200) (hF : -4294967296 ≤ F) (hG : G ≤ 4294967296)
    (hle : ∀ i : Nat, i < m → F + i * T ≤ G) (hgt : G < F + m * T) : ∀ (d i k : Nat), i + d = m → d + 1 ≤ k → level_Parse.l0 k x7 (ap F T i) (F + i * T) = some (ap F T m, 0)
  | 0, i, k, hi, hk => by
    obtain ⟨k, rfl⟩ : ∃ n, k = n + 1 := ⟨k - 1, by omega⟩
    obtain rfl : i = m := by omega
    simp only [level_Parse.l0]
    rw [if_pos (by omega), h1, if_neg (by omega)]
  | d + 1, i, k, hi, hk => by
    obtain ⟨k, rfl⟩ : ∃ n, k = n + 1 := ⟨k - 1, by omega⟩
    have ih := steps_l0 x7 h3 h1 h2 hT hT2 hm hF hG hle hgt d (i + 1) k (by omega) (by omega)
    have hl := hle i (by omega)
    have hnn : 0 ≤ (i : Int) * T := Int.mul_nonneg (by omega) (by omega)
    have hal := ap_len T i F
    have hw : wrap64 (F + (i : Int) * T + T) = F + ((i + 1 : Nat) : Int) * T := by
      rw [Int.natCast_succ, Int.add_mul, Int.one_mul, w64 (by omega) (by omega)]
      omega
    simp only [level_Parse.l0]
    rw [if_pos (by omega), h1, if_pos hl, if_neg (by omega), if_pos (by omega), if_pos (by omega), h2, hw, ← ap_snoc]
    exact ih
theorem Parse_steps {a1 F G T : Int} {K m k : Nat} (hT : 0 < T) (hT2 : T ≤ 2147483648) (hm : m ≤ 200) (hF : -2147483648 ≤ F) (hF2 : F ≤ 2147483648) (hG0 : -2147483648 ≤ G) (hG : G ≤ 2147483648)
    (hle : ∀ i : Nat, i < m → F + i * T ≤ G) (hgt : G < F + m * T) (hK : mn (mx a1 0) 9 = (K : Int)) (hK9 : K ≤ 9) (hk : 62000 ≤ k) :
    level_Parse.f k ⟨(jn 58 (txs K [F, G, T])).toArray⟩ a1 = some (ap F T m, 0) := by
  have hr : ∀ z ∈ [F, G, T], -2147483648 ≤ z ∧ z ≤ 2147483648 := fun z hz => by
    simp only [List.mem_cons, List.not_mem_nil, or_false] at hz
    omega
  have hjl := jn_len 58 60 (txs K [F, G, T]) (txs_size hK9 (fun z hz => by have := hr z hz; omega))
  rw [txs_len] at hjl
  have h3 : ([F, G, T] : List Int).length = 3 := rfl
  have hsp := Split_f (c := 58) (ps := txs K [F, G, T]) (by simp [txs]) (txs_no (.inr rfl)) (by omega)
  have hl := steps_l0 (F := F) (G := G) (T := T) (m := m) [F, G, T] rfl rfl rfl hT (by omega) hm (by omega) (by omega) hle hgt m 0 k (by omega) (by omega)
  have h0 : F + ((0 : Nat) : Int) * T = F := by simp
  rw [h0] at hl
  have hrd0 : rd [F, G, T] 0 = F := rfl
  have hrd2 : rd [F, G, T] 2 = T := rfl
  unfold level_Parse.f
  rw [size_mk, if_neg (by omega), hsp, Option.bind_some, if_neg (by simp [txs]), numbers_f [F, G, T] hr hK hK9 (by omega) hk, Option.bind_some]
  dsimp only
  rw [if_pos rfl, hrd2, hrd0, if_pos (by simp), if_pos (by simp), if_neg (by omega), if_pos (by simp)]
  exact hl
theorem hK2 : mn (mx (2 : Int) 0) 9 = ((2 : Nat) : Int) := by decide
theorem Steps_l0 {F T : Int} {n : Nat} (hn : n ≤ 127) (hT : 0 < T) (hT2 : T ≤ 4096) (hF : -32768 ≤ F) (hF2 : F ≤ 32767) : ∀ (d i k : Nat), i + d = n + 1 → d + 63000 ≤ k →
    isohyetlaw18_LevelSteps.l0 k F (n : Int) T ⟨(jn 44 (txs 2 (ap F T i))).toArray⟩ ((n + 1 : Nat) : Int) (i : Int) = some true := by
  have hb : ∀ i : Nat, i ≤ 128 → 0 ≤ (i : Int) * T ∧ (i : Int) * T ≤ 524288 := fun i hi => by
    refine ⟨Int.mul_nonneg (by omega) (by omega), ?_⟩
    have := Int.mul_le_mul (show (i : Int) ≤ 128 by omega) hT2 (by omega) (by omega)
    omega
  have hrng : ∀ m : Nat, m ≤ 128 → ∀ z ∈ ap F T m, -2147483648 ≤ z ∧ z ≤ 2147483648 := fun m hm z hz => by
    obtain ⟨i, hi, rfl⟩ := ap_mem m F hz
    have := hb i (by omega)
    omega
  intro d
  induction d with
  | zero =>
    intro i k hi hk
    obtain ⟨k, rfl⟩ : ∃ n, k = n + 1 := ⟨k - 1, by omega⟩
    obtain rfl : i = n + 1 := by omega
    have hbn := hb n (by omega)
    obtain ⟨G, hG⟩ : ∃ G : Int, F + (n : Int) * T + T - 1 = G := ⟨_, rfl⟩
    have hw1 : wrap64 ((wrap64 ((wrap64 (F + (wrap64 ((n : Int) * T)))) + T)) - 1) = G := by
      rw [w64 (x := (n : Int) * T) (by omega) (by omega), w64 (x := F + (n : Int) * T) (by omega) (by omega), w64 (x := F + (n : Int) * T + T) (by omega) (by omega), w64 (by omega) (by omega)]
      exact hG
    have hw2 : wrap64 ((n : Int) + 1) = ((n + 1 : Nat) : Int) := wi1 (by omega)
    have hFl := fixZ_len (n := F) (K := 2) (by omega) (by omega) (by omega)
    have hGl := fixZ_len (n := G) (K := 2) (by omega) (by omega) (by omega)
    have hTl := fixZ_len (n := T) (K := 2) (by omega) (by omega) (by omega)
    have h58 : (⟨#[58]⟩ : ByteArray) = ⟨([58] : List UInt8).toArray⟩ := rfl
    have hj : fixZ F 2 ++ [58] ++ fixZ G 2 ++ [58] ++ fixZ T 2 = jn 58 (txs 2 [F, G, T]) := by simp [txs, jn]
    have hal := ap_len T (n + 1) F
    have hne : ap F T (n + 1) ≠ [] := fun e => by rw [e] at hal; simp at hal
    have hpa := Parse_list (a1 := 2) (K := 2) (k := k) (ap F T (n + 1)) hne (ap_inc hT (n + 1) F).1 (hrng (n + 1) (by omega)) hK2 (by omega) (by omega) (by omega)
    have hsu : ((n + 1 : Nat) : Int) * T = (n : Int) * T + T := by rw [Int.natCast_succ, Int.add_mul, Int.one_mul]
    have hpb := Parse_steps (a1 := 2) (F := F) (G := G) (T := T) (K := 2) (m := n + 1) (k := k) hT (by omega) (by omega) (by omega) (by omega) (by omega) (by omega) (fun i hi => by
      have h1 : (i : Int) * T ≤ (n : Int) * T := Int.mul_le_mul_of_nonneg_right (by omega) (by omega)
      omega) (by rw [hsu]; omega) hK2 (by omega) (by omega)
    have hpr := Print_f (a1 := 2) (K := 2) (k := k) (ap F T (n + 1)) (fun z hz => by have := hrng (n + 1) (by omega) z hz; omega) hK2 (by omega) (by omega) (by omega)
    have hsm := same_f (k := k) (ap F T (n + 1)) (by omega) (by omega)
    simp only [isohyetlaw18_LevelSteps.l0]
    rw [if_neg (by omega), hw1, Text_f (a1 := 2) (K := 2) (n := F) (by omega) (by omega) hK2 (by omega) (by omega), Option.bind_some, size_mk, if_pos (by omega),
      Text_f (a1 := 2) (K := 2) (n := G) (by omega) (by omega) hK2 (by omega) (by omega), Option.bind_some, h58, ba_app, size_mk, size_mk, if_pos (by simp; omega), ba_app, size_mk, if_pos (by simp; omega), ba_app,
      Text_f (a1 := 2) (K := 2) (n := T) (by omega) (by omega) hK2 (by omega) (by omega), Option.bind_some, size_mk, size_mk, if_pos (by simp; omega), ba_app, hj, hpa, Option.bind_some, hpb, Option.bind_some]
    dsimp only
    rw [if_pos rfl, if_pos rfl, hsm, Option.bind_some, if_pos rfl, hal, hw2, if_pos rfl, hpr, Option.bind_some, beq_self_eq_true]
  | succ d ih =>
    intro i k hi hk
    obtain ⟨k, rfl⟩ : ∃ n, k = n + 1 := ⟨k - 1, by omega⟩
    have ih := ih (i + 1) k (by omega) (by omega)
    have hbi := hb i (by omega)
    have hw1 : wrap64 (F + (wrap64 ((i : Int) * T))) = F + (i : Int) * T := by
      rw [w64 (x := (i : Int) * T) (by omega) (by omega), w64 (by omega) (by omega)]
    have hal := ap_len T i F
    have htl := fixZ_len (n := F + (i : Int) * T) (K := 2) (by omega) (by omega) (by omega)
    have hjl := jn_len 44 60 (txs 2 (ap F T i)) (txs_size (by omega) (fun z hz => by have := hrng i (by omega) z hz; omega))
    rw [txs_len, hal] at hjl
    have h44 : (⟨#[44]⟩ : ByteArray) = ⟨([44] : List UInt8).toArray⟩ := rfl
    have hts : txs 2 (ap F T (i + 1)) = txs 2 (ap F T i) ++ [fixZ (F + (i : Int) * T) 2] := by
      rw [ap_snoc]
      simp [txs]
    have htx := Text_f (a1 := 2) (K := 2) (n := F + (i : Int) * T) (k := k) (by omega) (by omega) hK2 (by omega) (by omega)
    simp only [isohyetlaw18_LevelSteps.l0]
    rw [if_pos (by omega), hw1, htx]
    by_cases h0 : i = 0
    · subst h0
      rw [if_neg (by omega), Option.bind_some, size_mk, size_mk, if_pos (by omega), ba_app, wi1 (by omega)]
      rw [hts] at ih
      exact ih
    · have hne : txs 2 (ap F T i) ≠ [] := fun e => by
        have := txs_len 2 (ap F T i)
        rw [e] at this
        simp at this
        omega
      rw [if_pos (by omega), size_mk, if_pos (by omega), Option.bind_some, h44, ba_app, size_mk, size_mk, if_pos (by simp; omega), ba_app, wi1 (by omega)]
      rw [hts, jn_snoc 44 _ _ hne] at ih
      rw [List.append_assoc]
      exact ih
theorem LevelSteps_f {a0 a1 a2 : Int} {k : Nat} (hk : 64000 ≤ k) : isohyetlaw18_LevelSteps.f k a0 a1 a2 = some true := by
  have h0 := and_le a0 65535 (by omega)
  have h1 := and_le a1 127 (by omega)
  have h2 := and_le a2 4095 (by omega)
  unfold isohyetlaw18_LevelSteps.f
  rw [fit_l (by omega), Option.bind_some, if_pos rfl]
  have e0 : (65535 : Int) = ((65535 : Nat) : Int) := rfl
  have e1 : (127 : Int) = ((127 : Nat) : Int) := rfl
  have e2 : (4095 : Int) = ((4095 : Nat) : Int) := rfl
  rw [e0, e1, e2]
  generalize Go.bits .and .i64 a0 ((65535 : Nat) : Int) = x at *
  generalize Go.bits .and .i64 a1 ((127 : Nat) : Int) = y at *
  generalize Go.bits .and .i64 a2 ((4095 : Nat) : Int) = z at *
  obtain ⟨n, rfl⟩ : ∃ n : Nat, y = (n : Int) := ⟨y.toNat, by omega⟩
  rw [w64 (x := x - 32768) (by omega) (by omega), w64 (x := 1 + z) (by omega) (by omega), wi1 (by omega)]
  exact Steps_l0 (by omega) (by omega) (by omega) (by omega) (by omega) (n + 1) 0 k (by omega) (by omega)
end Go.Proofs.YtpdgjhaimfpacaaGreatDoor.Mg
namespace Go.Proofs.YtpdgjhaimfpacaaGreatDoor.Pure
open Go.Proofs.YtpdgjhaimfpacaaGreatDoor.M
theorem LevelSteps : ∀ (a0 a1 a2 : Int), (Lit.int .i64 a0).wf = true → (Lit.int .i64 a1).wf = true → (Lit.int .i64 a2).wf = true → ∃ k, isohyetlaw18_LevelSteps.f k a0 a1 a2 = some true := fun _ _ _ _ _ _ => ⟨64000, Mg.LevelSteps_f (Nat.le_refl _)⟩
end Go.Proofs.YtpdgjhaimfpacaaGreatDoor.Pure
