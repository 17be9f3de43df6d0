/- DataBack answers true: samples and faults that are printed are read as they were. -/
import Derived.Test.YtknekneicecgiaaGreatDoorX11
import Derived.Test.YtknekneicecgiaaGreatDoorX10
import Derived.Test.YtknekneicecgiaaGreatDoorKBack
namespace Go.Proofs.YtknekneicecgiaaGreatDoor.Mg
open Go.RowKit Go.Proofs.YtknekneicecgiaaGreatDoorW.PrintWords Go.Proofs.YtknekneicecgiaaGreatDoorW.PrintMore Go.Proofs.YtknekneicecgiaaGreatDoor.MB Go.Proofs.YtknekneicecgiaaGreatDoor.M
set_option linter.unusedVariables false
set_option linter.unusedSimpArgs false
def lnS (K Z : Nat) (s : S34) : List UInt8 := fixZ s.f0 K ++ [32] ++ fixZ s.f1 K ++ [32] ++ fixZ s.f2 Z ++ [10]
def lnF (K : Nat) (s : S52) : List UInt8 := fixZ s.f0.f0 K ++ [32] ++ fixZ s.f0.f1 K ++ [32] ++ fixZ s.f1.f0 K ++ [32] ++ fixZ s.f1.f1 K ++ [10]
def txS (K Z : Nat) (L : List S34) : List UInt8 := (L.map (lnS K Z)).flatten
def txF (K : Nat) (L : List S52) : List UInt8 := (L.map (lnF K)).flatten
def inR (n : Int) : Prop := -2147483648 ≤ n ∧ n ≤ 2147483648
def okS (s : S34) : Prop := inR s.f0 ∧ inR s.f1 ∧ inR s.f2
def okF (s : S52) : Prop := (inR s.f0.f0 ∧ inR s.f0.f1) ∧ inR s.f1.f0 ∧ inR s.f1.f1
theorem sc_ex (a : Int) : ∃ K : Nat, mn (mx a 0) 9 = (K : Int) ∧ K ≤ 9 := by
  have h : 0 ≤ mn (mx a 0) 9 ∧ mn (mx a 0) 9 ≤ 9 := by
    unfold mn mx
    (repeat' split) <;> omega
  exact ⟨(mn (mx a 0) 9).toNat, by omega, by omega⟩
theorem bring_in (n : Int) : inR (mn (mx n (-2147483648)) 2147483648) := by
  unfold inR mn mx
  (repeat' split) <;> omega
theorem len_in {n : Int} {K : Nat} (h : inR n) (hK : K ≤ 9) : (fixZ n K).length ≤ 60 := fixZ_len (by have := h.1; omega) (by have := h.2; omega) hK
theorem text_in {n a : Int} {k K : Nat} (h : inR n) (hK : mn (mx a 0) 9 = (K : Int)) (hK9 : K ≤ 9) (hk : 24000 ≤ k) : deci_Text.f k n a = some ⟨(fixZ n K).toArray⟩ := Text_f (by have := h.1; omega) (by have := h.2; omega) hK hK9 hk
theorem txS_cons (K Z : Nat) (s : S34) (L : List S34) : txS K Z (s :: L) = lnS K Z s ++ txS K Z L := by simp [txS]
theorem txF_cons (K : Nat) (s : S52) (L : List S52) : txF K (s :: L) = lnF K s ++ txF K L := by simp [txF]
theorem txS_snoc (K Z : Nat) (s : S34) (L : List S34) : txS K Z (L ++ [s]) = txS K Z L ++ lnS K Z s := by simp [txS]
theorem txF_snoc (K : Nat) (s : S52) (L : List S52) : txF K (L ++ [s]) = txF K L ++ lnF K s := by simp [txF]
theorem txS_len {K Z : Nat} (hK : K ≤ 9) (hZ : Z ≤ 9) : ∀ L : List S34, (∀ s ∈ L, okS s) → (txS K Z L).length ≤ 183 * L.length
  | [], _ => by simp [txS]
  | s :: L, h => by
    have ih := txS_len hK hZ L (fun x hx => h x (List.mem_cons_of_mem _ hx))
    obtain ⟨h0, h1, h2⟩ := h s List.mem_cons_self
    have l0 := len_in h0 hK
    have l1 := len_in h1 hK
    have l2 := len_in h2 hZ
    rw [txS_cons, List.length_append]
    simp only [lnS, List.length_append, List.length_cons, List.length_nil]
    omega
theorem txF_len {K : Nat} (hK : K ≤ 9) : ∀ L : List S52, (∀ s ∈ L, okF s) → (txF K L).length ≤ 244 * L.length
  | [], _ => by simp [txF]
  | s :: L, h => by
    have ih := txF_len hK L (fun x hx => h x (List.mem_cons_of_mem _ hx))
    obtain ⟨⟨h0, h1⟩, h2, h3⟩ := h s List.mem_cons_self
    have l0 := len_in h0 hK
    have l1 := len_in h1 hK
    have l2 := len_in h2 hK
    have l3 := len_in h3 hK
    rw [txF_cons, List.length_append]
    simp only [lnF, List.length_append, List.length_cons, List.length_nil]
    omega
theorem no10S (K Z : Nat) (s : S34) : (10 : UInt8) ∉ fixZ s.f0 K ++ [32] ++ fixZ s.f1 K ++ [32] ++ fixZ s.f2 Z := by
  simp only [List.mem_append, not_or]
  exact ⟨⟨⟨⟨fixZ_no2 (.inl rfl), by decide⟩, fixZ_no2 (.inl rfl)⟩, by decide⟩, fixZ_no2 (.inl rfl)⟩
theorem no10F (K : Nat) (s : S52) : (10 : UInt8) ∉ fixZ s.f0.f0 K ++ [32] ++ fixZ s.f0.f1 K ++ [32] ++ fixZ s.f1.f0 K ++ [32] ++ fixZ s.f1.f1 K := by
  simp only [List.mem_append, not_or]
  exact ⟨⟨⟨⟨⟨⟨fixZ_no2 (.inl rfl), by decide⟩, fixZ_no2 (.inl rfl)⟩, by decide⟩, fixZ_no2 (.inl rfl)⟩, by decide⟩, fixZ_no2 (.inl rfl)⟩
theorem cutS (K Z : Nat) : ∀ L : List S34, (cutL (txS K Z L)).length = L.length + 1
  | [] => rfl
  | s :: L => by
    rw [txS_cons, lnS, List.append_assoc, List.singleton_append, cutL_line _ _ (no10S K Z s), List.length_cons, cutS K Z L, List.length_cons]
theorem cutF (K : Nat) : ∀ L : List S52, (cutL (txF K L)).length = L.length + 1
  | [] => rfl
  | s :: L => by
    rw [txF_cons, lnF, List.append_assoc, List.singleton_append, cutL_line _ _ (no10F K s), List.length_cons, cutF K L, List.length_cons]
theorem toldS {a b : Int} {K Z : Nat} (hK : mn (mx a 0) 9 = (K : Int)) (hK9 : K ≤ 9) (hZ : mn (mx b 0) 9 = (Z : Int)) (hZ9 : Z ≤ 9) : ∀ (L : List S34) (T : List UInt8) (smps : List S34), Told a b T smps → (∀ s ∈ L, okS s) → Told a b (T ++ txS K Z L) (smps ++ L)
  | [], T, smps, h, _ => by simpa [txS] using h
  | s :: L, T, smps, h, hL => by
    obtain ⟨h0, h1, h2⟩ := hL s List.mem_cons_self
    have hb : ∀ q ∈ ([32] : List UInt8), isBlank q = true := by decide
    have hn : ∀ q ∈ ([] : List UInt8), isBlank q = true := by decide
    have hw := three_words (a := []) (b := [32]) (c := [32]) (d := []) (x := s.f0) (y := s.f1) (z := s.f2) (K := K) (L := K) (M := Z) hn hb hb hn (by decide) (by decide)
    rw [List.nil_append, List.append_nil] at hw
    have ht := told_line (n := [s.f0, s.f1, s.f2]) h (no10S K Z s) (by rw [hw]; simp) (by rw [hw]; exact numsT h0 h1 h2 hK hK9 hZ hZ9)
    have ih := toldS hK hK9 hZ hZ9 L _ _ ht (fun x hx => hL x (List.mem_cons_of_mem _ hx))
    rw [txS_cons, lnS]
    simp only [List.append_assoc, List.singleton_append] at ih ⊢
    exact ih
theorem toldF {a : Int} {K : Nat} (hK : mn (mx a 0) 9 = (K : Int)) (hK9 : K ≤ 9) : ∀ (L : List S52) (T : List UInt8) (smps : List S52), ToldF a T smps → (∀ s ∈ L, okF s) → ToldF a (T ++ txF K L) (smps ++ L)
  | [], T, smps, h, _ => by simpa [txF] using h
  | s :: L, T, smps, h, hL => by
    obtain ⟨⟨h0, h1⟩, h2, h3⟩ := hL s List.mem_cons_self
    have hw := four_words (x := s.f0.f0) (y := s.f0.f1) (z := s.f1.f0) (v := s.f1.f1) (K := K)
    have ht := toldf_line (n := [s.f0.f0, s.f0.f1, s.f1.f0, s.f1.f1]) h (no10F K s) (by rw [hw]; simp) (by rw [hw]; exact numsF h0 h1 h2 h3 hK hK9)
    have ih := toldF hK hK9 L _ _ ht (fun x hx => hL x (List.mem_cons_of_mem _ hx))
    rw [txF_cons, lnF]
    simp only [List.append_assoc, List.singleton_append] at ih ⊢
    exact ih
theorem Samples_back {a b : Int} {K Z k : Nat} (hK : mn (mx a 0) 9 = (K : Int)) (hK9 : K ≤ 9) (hZ : mn (mx b 0) 9 = (Z : Int)) (hZ9 : Z ≤ 9) {L : List S34} (hl : L.length ≤ 30) (hL : ∀ s ∈ L, okS s) (hk : 60200 ≤ k) : data_Samples.f k ⟨(txS K Z L).toArray⟩ a b = some (L, 0, 0) := by
  have h1 := txS_len hK9 hZ9 L hL
  have h2 := toldS hK hK9 hZ hZ9 L [] [] (told_nil a b) hL
  rw [List.nil_append, List.nil_append] at h2
  obtain ⟨n, _, h3⟩ := told_all h2
  rw [Samples_g (by rw [szl]; omega) (by rw [cut_mk, cutS]; omega) hk, cut_mk, h3]
  dsimp only
  rw [if_pos rfl]
theorem Faults_back {a : Int} {K k : Nat} (hK : mn (mx a 0) 9 = (K : Int)) (hK9 : K ≤ 9) {L : List S52} (hl : L.length ≤ 30) (hL : ∀ s ∈ L, okF s) (hk : 60200 ≤ k) : data_Faults.f k ⟨(txF K L).toArray⟩ a = some (L, 0, 0) := by
  have h1 := txF_len hK9 L hL
  have h2 := toldF hK hK9 L [] [] (toldf_nil a) hL
  rw [List.nil_append, List.nil_append] at h2
  obtain ⟨n, _, h3⟩ := toldf_all h2
  rw [Faults_g (by rw [szl]; omega) (by rw [cut_mk, cutF]; omega) hk, cut_mk, h3]
  dsimp only
  rw [if_pos rfl]
theorem rd34 {l : List S34} {i : Nat} (h : i < l.length) : rd_T34 l (i : Int) = l[i] := by
  show l.getD (i : Int).toNat z34 = _
  rw [Int.toNat_natCast]
  simp [List.getD, h]
theorem rd52 {l : List S52} {i : Nat} (h : i < l.length) : rd_T52 l (i : Int) = l[i] := by
  show l.getD (i : Int).toNat z52 = _
  rw [Int.toNat_natCast]
  simp [List.getD, h]
theorem PrintS_l0 {a b : Int} {K Z : Nat} (hK : mn (mx a 0) 9 = (K : Int)) (hK9 : K ≤ 9) (hZ : mn (mx b 0) 9 = (Z : Int)) (hZ9 : Z ≤ 9) {L : List S34} (hl : L.length ≤ 30) (hL : ∀ s ∈ L, okS s) : ∀ (d i k : Nat) (T : List UInt8), i + d = L.length → 30000 + d ≤ k → T.length ≤ 183 * i →
    data_PrintSamples.l0 k a b ⟨T.toArray⟩ L (L.length : Int) (i : Int) = some ⟨(T ++ txS K Z (L.drop i)).toArray⟩
  | 0, i, k, T, hd, hk, hT => by
    obtain ⟨k, rfl⟩ : ∃ n, k = n + 1 := ⟨k - 1, by omega⟩
    simp only [data_PrintSamples.l0]
    rw [if_neg (by omega), List.drop_eq_nil_of_le (by omega)]
    simp [txS]
  | d + 1, i, k, T, hd, hk, hT => by
    obtain ⟨k, rfl⟩ : ∃ n, k = n + 1 := ⟨k - 1, by omega⟩
    have hi : i < L.length := by omega
    obtain ⟨h0, h1, h2⟩ := hL L[i] (List.getElem_mem hi)
    have l0 := len_in h0 hK9
    have l1 := len_in h1 hK9
    have l2 := len_in h2 hZ9
    simp only [data_PrintSamples.l0]
    rw [if_pos (by omega), if_pos (by omega), if_pos (by omega), rd34 hi, text_in h0 hK hK9 (by omega), text_in h1 hK hK9 (by omega), text_in h2 hZ hZ9 (by omega)]
    simp only [Option.bind_some, ba_app, szl, List.length_append, List.length_cons, List.length_nil]
    rw [if_pos (by omega), if_pos (by omega), if_pos (by omega), if_pos (by omega), if_pos (by omega), if_pos (by omega), wrap2 (by omega), List.drop_eq_getElem_cons hi, txS_cons]
    rw [PrintS_l0 hK hK9 hZ hZ9 hl hL d (i + 1) k _ (by omega) (by omega) (by simp only [List.length_append, List.length_cons, List.length_nil]; omega)]
    simp only [lnS, List.append_assoc]
theorem PrintF_l0 {a : Int} {K : Nat} (hK : mn (mx a 0) 9 = (K : Int)) (hK9 : K ≤ 9) {L : List S52} (hl : L.length ≤ 30) (hL : ∀ s ∈ L, okF s) : ∀ (d i k : Nat) (T : List UInt8), i + d = L.length → 30000 + d ≤ k → T.length ≤ 244 * i →
    data_PrintFaults.l0 k a ⟨T.toArray⟩ L (L.length : Int) (i : Int) = some ⟨(T ++ txF K (L.drop i)).toArray⟩
  | 0, i, k, T, hd, hk, hT => by
    obtain ⟨k, rfl⟩ : ∃ n, k = n + 1 := ⟨k - 1, by omega⟩
    simp only [data_PrintFaults.l0]
    rw [if_neg (by omega), List.drop_eq_nil_of_le (by omega)]
    simp [txF]
  | d + 1, i, k, T, hd, hk, hT => by
    obtain ⟨k, rfl⟩ : ∃ n, k = n + 1 := ⟨k - 1, by omega⟩
    have hi : i < L.length := by omega
    obtain ⟨⟨h0, h1⟩, h2, h3⟩ := hL L[i] (List.getElem_mem hi)
    have l0 := len_in h0 hK9
    have l1 := len_in h1 hK9
    have l2 := len_in h2 hK9
    have l3 := len_in h3 hK9
    simp only [data_PrintFaults.l0]
    rw [if_pos (by omega), if_pos (by omega), if_pos (by omega), rd52 hi, text_in h0 hK hK9 (by omega), text_in h1 hK hK9 (by omega), text_in h2 hK hK9 (by omega), text_in h3 hK hK9 (by omega)]
    simp only [Option.bind_some, ba_app, szl, List.length_append, List.length_cons, List.length_nil]
    rw [if_pos (by omega), if_pos (by omega), if_pos (by omega), if_pos (by omega), if_pos (by omega), if_pos (by omega), if_pos (by omega), if_pos (by omega), wrap2 (by omega), List.drop_eq_getElem_cons hi, txF_cons]
    rw [PrintF_l0 hK hK9 hl hL d (i + 1) k _ (by omega) (by omega) (by simp only [List.length_append, List.length_cons, List.length_nil]; omega)]
    simp only [lnF, List.append_assoc]
theorem PrintS_f {a b : Int} {K Z k : Nat} (hK : mn (mx a 0) 9 = (K : Int)) (hK9 : K ≤ 9) (hZ : mn (mx b 0) 9 = (Z : Int)) (hZ9 : Z ≤ 9) {L : List S34} (hl : L.length ≤ 30) (hL : ∀ s ∈ L, okS s) (hk : 30100 ≤ k) : data_PrintSamples.f k L a b = some ⟨(txS K Z L).toArray⟩ :=
  PrintS_l0 hK hK9 hZ hZ9 hl hL L.length 0 k [] (by omega) (by omega) (by simp)
theorem PrintF_f {a : Int} {K k : Nat} (hK : mn (mx a 0) 9 = (K : Int)) (hK9 : K ≤ 9) {L : List S52} (hl : L.length ≤ 30) (hL : ∀ s ∈ L, okF s) (hk : 30100 ≤ k) : data_PrintFaults.f k L a = some ⟨(txF K L).toArray⟩ :=
  PrintF_l0 hK hK9 hl hL L.length 0 k [] (by omega) (by omega) (by simp)
theorem Back_l2 {es : List S52} (hl : es.length ≤ 30) : ∀ (d i k : Nat), i + d = es.length → d + 1 ≤ k → isohyetlaw25_DataBack.l2 k es es (es.length : Int) (i : Int) = some true
  | 0, i, k, hd, hk => by
    obtain ⟨k, rfl⟩ : ∃ n, k = n + 1 := ⟨k - 1, by omega⟩
    simp only [isohyetlaw25_DataBack.l2]
    rw [if_neg (by omega)]
  | d + 1, i, k, hd, hk => by
    obtain ⟨k, rfl⟩ : ∃ n, k = n + 1 := ⟨k - 1, by omega⟩
    simp only [isohyetlaw25_DataBack.l2]
    rw [if_pos (by omega), if_pos (by omega), if_pos (by omega), if_pos (by omega), if_neg (by simp), wrap2 (by omega)]
    exact Back_l2 hl d (i + 1) k (by omega) (by omega)
theorem Back_l1 {xs : List S34} {es : List S52} (hx : xs.length ≤ 30) (hl : es.length ≤ 30) : ∀ (d i k : Nat), i + d = xs.length → d + 50 ≤ k → isohyetlaw25_DataBack.l1 k xs es xs es (xs.length : Int) (i : Int) = some true
  | 0, i, k, hd, hk => by
    obtain ⟨k, rfl⟩ : ∃ n, k = n + 1 := ⟨k - 1, by omega⟩
    simp only [isohyetlaw25_DataBack.l1]
    rw [if_neg (by omega)]
    exact Back_l2 hl es.length 0 k (by omega) (by omega)
  | d + 1, i, k, hd, hk => by
    obtain ⟨k, rfl⟩ : ∃ n, k = n + 1 := ⟨k - 1, by omega⟩
    simp only [isohyetlaw25_DataBack.l1]
    rw [if_pos (by omega), if_pos (by omega), if_pos (by omega), if_pos (by omega), if_neg (by simp), wrap2 (by omega)]
    exact Back_l1 hx hl d (i + 1) k (by omega) (by omega)
theorem Back_l0 {a b : Int} {K Z : Nat} (hK : mn (mx a 0) 9 = (K : Int)) (hK9 : K ≤ 9) (hZ : mn (mx b 0) 9 = (Z : Int)) (hZ9 : Z ≤ 9) {L : List S34} (hL : L.length ≤ 30) : ∀ (d i k : Nat) (xs : List S34) (es : List S52), i + d = L.length → 90000 + d ≤ k → xs.length = i → es.length ≤ i → (∀ s ∈ xs, okS s) → (∀ e ∈ es, okF e) →
    isohyetlaw25_DataBack.l0 k a b xs es ⟨(txS K Z xs).toArray⟩ ⟨(txF K es).toArray⟩ L (L.length : Int) (i : Int) = some true
  | 0, i, k, xs, es, hd, hk, hx, he, hxs, hes => by
    obtain ⟨k, rfl⟩ : ∃ n, k = n + 1 := ⟨k - 1, by omega⟩
    simp only [isohyetlaw25_DataBack.l0]
    rw [if_neg (by omega), Samples_back hK hK9 hZ hZ9 (by omega) hxs (by omega), Option.bind_some, Faults_back hK hK9 (by omega) hes (by omega), Option.bind_some, PrintS_f hK hK9 hZ hZ9 (by omega) hxs (by omega), Option.bind_some, if_pos rfl, PrintF_f hK hK9 (by omega) hes (by omega), Option.bind_some, if_pos rfl]
    dsimp only
    rw [if_pos rfl, if_pos rfl, if_pos rfl]
    obtain ⟨k, rfl⟩ : ∃ n, k = n + 1 := ⟨k - 1, by omega⟩
    simp only [isohyetlaw25_DataBack.j1]
    rw [if_neg (by simp)]
    exact Back_l1 (by omega) (by omega) xs.length 0 k (by omega) (by omega)
  | d + 1, i, k, xs, es, hd, hk, hx, he, hxs, hes => by
    obtain ⟨k, rfl⟩ : ∃ n, k = n + 1 := ⟨k - 1, by omega⟩
    have hX := bring_in (rd_T34 L (i : Int)).f0
    have hY := bring_in (rd_T34 L (i : Int)).f1
    have hV := bring_in (rd_T34 L (i : Int)).f2
    have lxs := txS_len hK9 hZ9 xs hxs
    have les := txF_len hK9 es hes
    simp only [isohyetlaw25_DataBack.l0, isohyetlaw25_bring.f, Option.bind_some]
    rw [if_pos (by omega), if_pos (by omega), if_pos (by omega), if_pos (by omega)]
    generalize mn (mx (rd_T34 L (i : Int)).f0 (-2147483648)) 2147483648 = X at hX ⊢
    generalize mn (mx (rd_T34 L (i : Int)).f1 (-2147483648)) 2147483648 = Y at hY ⊢
    generalize mn (mx (rd_T34 L (i : Int)).f2 (-2147483648)) 2147483648 = V at hV ⊢
    have hs : okS ⟨X, Y, V⟩ := ⟨hX, hY, hV⟩
    have hxs' : ∀ s ∈ xs ++ [(⟨X, Y, V⟩ : S34)], okS s := fun s hm => by
      rcases List.mem_append.1 hm with hm | hm
      · exact hxs s hm
      · rw [List.mem_singleton.1 hm]
        exact hs
    have lX := len_in hX hK9
    have lY := len_in hY hK9
    have lV := len_in hV hZ9
    have eS := txS_snoc K Z ⟨X, Y, V⟩ xs
    simp only [lnS] at eS
    rw [text_in hX hK hK9 (by omega), text_in hY hK hK9 (by omega), text_in hV hZ hZ9 (by omega)]
    by_cases h0 : (i : Int) > 0
    · have hw : wrap64 ((i : Int) - 1) = ((i - 1 : Nat) : Int) := by unfold wrap64; omega
      have hp : okS (rd_T34 (xs ++ [(⟨X, Y, V⟩ : S34)]) ((i - 1 : Nat) : Int)) := by
        rw [rd34 (by simp; omega)]
        exact hxs' _ (List.getElem_mem _)
      rw [hw]
      have hlen : (((xs ++ [(⟨X, Y, V⟩ : S34)]).length : Nat) : Int) = (i : Int) + 1 := by simp; omega
      generalize rd_T34 (xs ++ [(⟨X, Y, V⟩ : S34)]) ((i - 1 : Nat) : Int) = p at hp ⊢
      obtain ⟨hp0, hp1, hp2⟩ := hp
      have lp0 := len_in hp0 hK9
      have lp1 := len_in hp1 hK9
      rw [text_in hp0 hK hK9 (by omega), text_in hp1 hK hK9 (by omega), hlen]
      simp only [Option.bind_some, ba_app, szl, List.length_append, List.length_cons, List.length_nil]
      rw [if_pos (by omega), if_pos (by omega), if_pos (by omega), if_pos (by omega), if_pos (by omega), if_pos (by omega), if_pos h0, if_pos (by omega), if_pos (by omega), if_pos (by omega), if_pos (by omega), if_pos (by omega), if_pos (by omega), if_pos (by omega), if_pos (by omega), if_pos (by omega), if_pos (by omega), if_pos (by omega), wrap2 (by omega)]
      have eF := txF_snoc K ⟨⟨p.f0, p.f1⟩, ⟨X, Y⟩⟩ es
      simp only [lnF] at eF
      rw [← eS, ← eF]
      exact Back_l0 hK hK9 hZ hZ9 hL d (i + 1) k _ _ (by omega) (by omega) (by simp; omega) (by simp; omega) hxs' (fun s hm => by
        rcases List.mem_append.1 hm with hm | hm
        · exact hes s hm
        · rw [List.mem_singleton.1 hm]
          exact ⟨⟨hp0, hp1⟩, hX, hY⟩)
    · simp only [Option.bind_some, ba_app, szl, List.length_append, List.length_cons, List.length_nil]
      rw [if_pos (by omega), if_pos (by omega), if_pos (by omega), if_pos (by omega), if_pos (by omega), if_pos (by omega), if_neg h0, wrap2 (by omega), ← eS]
      exact Back_l0 hK hK9 hZ hZ9 hL d (i + 1) k _ _ (by omega) (by omega) (by simp; omega) (by omega) hxs' hes
theorem DataBack_f {L : List S34} {a b : Int} {k : Nat} (hk : 100000 ≤ k) : isohyetlaw25_DataBack.f k L a b = some true := by
  unfold isohyetlaw25_DataBack.f isohyetlaw25_fit.f
  rw [Option.bind_some, if_pos rfl]
  by_cases h : (L.length : Int) > 30
  · rw [if_pos h]
  · rw [if_neg h]
    obtain ⟨K, hK, hK9⟩ := sc_ex a
    obtain ⟨Z, hZ, hZ9⟩ := sc_ex b
    exact Back_l0 hK hK9 hZ hZ9 (by omega) L.length 0 k [] [] (by omega) (by omega) rfl (by simp) (by simp) (by simp)
end Go.Proofs.YtknekneicecgiaaGreatDoor.Mg
namespace Go.Proofs.YtknekneicecgiaaGreatDoor.Pure
open Go.Proofs.YtknekneicecgiaaGreatDoor.M
theorem DataBack : ∀ (l0 : List S34) (a1 a2 : Int), (Lit.int .i64 a1).wf = true → (Lit.int .i64 a2).wf = true → ∃ k, isohyetlaw25_DataBack.f k l0 a1 a2 = some true := fun _ _ _ _ _ => ⟨100000, Mg.DataBack_f (Nat.le_refl _)⟩
end Go.Proofs.YtknekneicecgiaaGreatDoor.Pure
