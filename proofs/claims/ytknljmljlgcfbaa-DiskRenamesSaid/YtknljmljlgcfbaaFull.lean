/- By hand: DiskFull: what lies on the disk, call for call. -/
import Derived.Test.YtknljmljlgcfbaaDiskA
import Derived.Laws.IdiomStrings
import Derived.Laws.MakeOwn
namespace Go.Proofs.Ytknljmljlgcfbaa.P
open Go.RowKit Go.Proofs.YtknljmljlgcfbaaW.PrintWords Go.Proofs.YtknljmljlgcfbaaW.PrintLast Go.Proofs.YtknljmljlgcfbaaW.PrintMore
open Go.Proofs.Ytknljmljlgcfbaa
set_option linter.unusedSimpArgs false
set_option linter.unusedVariables false
def fairwaylaw9_DiskFull.f (l0_0 : List ByteArray) (l0_1 : List ByteArray) (l0_2 : List S64) : Option Bool := some true
def nmA (j : Nat) : ByteArray := ⟨#[UInt8.ofNat (65 + j)]⟩
def nmF (j : Nat) : ByteArray := ⟨#[102, UInt8.ofNat (33 + j)]⟩
def fullA (big : ByteArray) (i : Nat) : List DFile := (List.range i).map fun j => ⟨nmA j, big, 0⟩
def fullB (big : ByteArray) (i : Nat) : List DFile := (List.range 15).map (fun j => ⟨nmA (j + 1), big, 0⟩) ++ (List.range (i - 15)).map (fun j => ⟨nmF (15 + j), ⟨#[]⟩, 0⟩)
theorem lkD_lacks : ∀ (F : List DFile) (n : ByteArray), (∀ f ∈ F, f.name ≠ n) → lkD F n = none
  | [], n, h => rfl
  | f :: F, n, h => by
    unfold lkD
    rw [if_neg (h f List.mem_cons_self)]
    exact lkD_lacks F n fun g hg => h g (List.mem_cons_of_mem _ hg)
theorem lkD_snoc : ∀ (F : List DFile) (g : DFile), lkD F g.name = none → lkD (F ++ [g]) g.name = some g
  | [], g, _ => by show lkD [g] g.name = some g; unfold lkD; rw [if_pos rfl]
  | f :: F, g, h => by
    unfold lkD at h
    by_cases e : f.name = g.name
    · rw [if_pos e] at h; cases h
    · rw [if_neg e] at h
      show lkD (f :: (F ++ [g])) g.name = some g
      unfold lkD
      rw [if_neg e]
      exact lkD_snoc F g h
theorem nmA_inj {i j : Nat} (hi : i ≤ 60) (hj : j ≤ 60) (h : nmA j = nmA i) : j = i := by
  have h1 : UInt8.ofNat (65 + j) = UInt8.ofNat (65 + i) := by
    have := congrArg (fun b : ByteArray => b.data.toList) h
    simpa [nmA] using this
  have h2 := congrArg UInt8.toNat h1
  simp at h2
  omega
theorem nmF_inj {i j : Nat} (hi : i ≤ 70) (hj : j ≤ 70) (h : nmF j = nmF i) : j = i := by
  have h1 : UInt8.ofNat (33 + j) = UInt8.ofNat (33 + i) := by
    have := congrArg (fun b : ByteArray => b.data.toList) h
    simpa [nmF] using this
  have h2 := congrArg UInt8.toNat h1
  simp at h2
  omega
theorem nmA_nmF (i j : Nat) : nmA i ≠ nmF j := by
  intro h
  have := congrArg ByteArray.size h
  exact absurd this (by show ¬ (1 : Nat) = 2; decide)
theorem namedA {i : Nat} (h : i < 16) : namedD (nmA i) = true := by
  have : (List.range 16).all (fun i => namedD (nmA i)) = true := by kernel_rfl
  exact List.all_eq_true.1 this i (List.mem_range.2 h)
theorem namedF {i : Nat} (h : i < 65) : namedD (nmF i) = true := by
  have : (List.range 65).all (fun i => namedD (nmF i)) = true := by kernel_rfl
  exact List.all_eq_true.1 this i (List.mem_range.2 h)
theorem lkA {big : ByteArray} {i : Nat} (h : i ≤ 16) : lkD (fullA big i) (nmA i) = none := by
  refine lkD_lacks _ _ ?_
  intro f hf
  obtain ⟨j, hj, rfl⟩ := List.mem_map.1 hf
  have := List.mem_range.1 hj
  intro e
  have := nmA_inj (by omega) (by omega) e
  omega
theorem lkz {big : ByteArray} : lkD (fullA big 16) ⟨#[122]⟩ = none := by
  refine lkD_lacks _ _ ?_
  intro f hf
  obtain ⟨j, hj, rfl⟩ := List.mem_map.1 hf
  have := List.mem_range.1 hj
  intro e
  have := nmA_inj (i := 57) (by omega) (by omega) (show nmA j = nmA 57 from e)
  omega
theorem lkF {big : ByteArray} {i : Nat} (h : i ≤ 64) : lkD (fullB big i) (nmF i) = none := by
  refine lkD_lacks _ _ ?_
  intro f hf
  rcases List.mem_append.1 hf with hf | hf
  · obtain ⟨j, hj, rfl⟩ := List.mem_map.1 hf
    exact nmA_nmF _ _
  · obtain ⟨j, hj, rfl⟩ := List.mem_map.1 hf
    have := List.mem_range.1 hj
    intro e
    have := nmF_inj (by omega) (by omega) e
    omega
theorem fullA_succ (big : ByteArray) (i : Nat) : fullA big (i + 1) = fullA big i ++ [⟨nmA i, big, 0⟩] := by
  unfold fullA
  rw [List.range_succ, List.map_append]
  rfl
theorem fullB_succ (big : ByteArray) (i : Nat) (h : 15 ≤ i) : fullB big (i + 1) = fullB big i ++ [⟨nmF i, ⟨#[]⟩, 0⟩] := by
  obtain ⟨k, rfl⟩ : ∃ k, i = 15 + k := ⟨i - 15, by omega⟩
  unfold fullB
  have e1 : 15 + k + 1 - 15 = k + 1 := by omega
  have e2 : 15 + k - 15 = k := by omega
  rw [e1, e2, List.range_succ (n := k), List.map_append, ← List.append_assoc]
  rfl
theorem used_const : ∀ (L : List DFile) (k : Nat), (∀ f ∈ L, f.text.size = k) → usedD L = (L.length * k : Nat)
  | [], k, _ => by simp [usedD]
  | f :: L, k, h => by
    have h1 := h f List.mem_cons_self
    have h2 := used_const L k fun g hg => h g (List.mem_cons_of_mem _ hg)
    unfold usedD
    rw [h1, h2, List.length_cons, Nat.add_mul]
    omega
theorem usedA {big : ByteArray} (hb : big.size = 65536) (i : Nat) : usedD (fullA big i) = (i * 65536 : Nat) := by
  have := used_const (fullA big i) 65536 (by intro f hf; obtain ⟨j, hj, rfl⟩ := List.mem_map.1 hf; exact hb)
  rw [this]
  simp [fullA]
theorem usedB {big : ByteArray} (hb : big.size = 65536) (i : Nat) : usedD (fullB big i) = 983040 := by
  unfold fullB
  rw [usedD_append, used_const _ 65536 (by intro f hf; obtain ⟨j, hj, rfl⟩ := List.mem_map.1 hf; exact hb), used_const _ 0 (by intro f hf; obtain ⟨j, hj, rfl⟩ := List.mem_map.1 hf; rfl)]
  simp
theorem lenA (big : ByteArray) (i : Nat) : (fullA big i).length = i := by simp [fullA]
theorem lenB (big : ByteArray) (i : Nat) (h : 15 ≤ i) : (fullB big i).length = i := by simp [fullB]; omega
theorem txt_none {F : List DFile} {n : ByteArray} (h : lkD F n = none) : txtD F n = ⟨#[]⟩ := by unfold txtD; rw [h]
theorem saf_none {F : List DFile} {n : ByteArray} (h : lkD F n = none) : safD F n = 0 := by unfold safD; rw [h]
theorem is_none {F : List DFile} {n : ByteArray} (h : lkD F n = none) : isD F n = false := by unfold isD; rw [h]; rfl
theorem nil_app (s : ByteArray) : (⟨#[]⟩ : ByteArray) ++ s = s := by
  cases s with
  | mk d =>
    show ByteArray.append ⟨#[]⟩ ⟨d⟩ = _
    exact ByteArray.ext (by simp [ByteArray.append, ByteArray.copySlice])
/-- One file more, where there is room. -/
theorem app_new {F : List DFile} {n s : ByteArray} (hn : namedD n = true) (hl : lkD F n = none) (hs : s.size ≤ 65536) (hu : usedD F + s.size ≤ 1048576) (hf : F.length < 64) : appR F 0 false n s = (F ++ [⟨n, s, 0⟩], 0) := by
  unfold appR
  have h0 : cntO 0 false = false := rfl
  have hfu : fullD F n s = false := by
    unfold fullD
    rw [txt_none hl, is_none hl]
    have e : (⟨#[]⟩ : ByteArray).size = 0 := rfl
    rw [e]
    simp
    omega
  rw [h0, if_neg (by decide), if_neg (by rw [hn]; decide), hfu, if_neg (by decide), txt_none hl, saf_none hl, putD_new _ _ (is_none hl), nil_app]
/-- There is no room. -/
theorem app_full {F : List DFile} {n s : ByteArray} (hn : namedD n = true) (hf : fullD F n s = true) : appR F 0 false n s = (F, 5) := by
  unfold appR
  have h0 : cntO 0 false = false := rfl
  rw [h0, if_neg (by decide), if_neg (by rw [hn]; decide), hf, if_pos rfl]
theorem app_form {F : List DFile} {n s : ByteArray} (hn : namedD n = false) : appR F 0 false n s = (F, 1) := by
  unfold appR
  have h0 : cntO 0 false = false := rfl
  rw [h0, if_neg (by decide), if_pos hn]
theorem appA {big : ByteArray} (hb : big.size = 65536) {i : Nat} (h : i < 16) : appR (fullA big i) 0 false (nmA i) big = (fullA big (i + 1), 0) := by
  rw [fullA_succ]
  exact app_new (namedA h) (lkA (by omega)) (by omega) (by rw [usedA hb, hb]; omega) (by rw [lenA]; omega)
theorem lkA1 {big : ByteArray} {i : Nat} (h : i < 16) : lkD (fullA big (i + 1)) (nmA i) = some ⟨nmA i, big, 0⟩ := by
  rw [fullA_succ]
  exact lkD_snoc _ ⟨nmA i, big, 0⟩ (lkA (by omega))
theorem txtA1 {big : ByteArray} {i : Nat} (h : i < 16) : txtD (fullA big (i + 1)) (nmA i) = big := by unfold txtD; rw [lkA1 h]
theorem appA1 {big : ByteArray} (hb : big.size = 65536) {i : Nat} (h : i < 16) : appR (fullA big (i + 1)) 0 false (nmA i) ⟨#[120]⟩ = (fullA big (i + 1), 5) := by
  refine app_full (namedA h) ?_
  unfold fullD
  rw [txtA1 h, hb]
  rfl
theorem appz {big : ByteArray} (hb : big.size = 65536) : appR (fullA big 16) 0 false ⟨#[122]⟩ ⟨#[120]⟩ = (fullA big 16, 5) := by
  refine app_full (by kernel_rfl) ?_
  unfold fullD
  rw [txt_none lkz, usedA hb]
  rfl
theorem fullA16 (big : ByteArray) : fullA big 16 = ⟨⟨#[65]⟩, big, 0⟩ :: fullB big 15 := by
  unfold fullA fullB
  rw [show (15 : Nat) - 15 = 0 from rfl, List.range_zero, List.map_nil, List.append_nil, List.range_succ_eq_map, List.map_cons, List.map_map]
  rfl
theorem readA (big : ByteArray) : readR (fullA big 16) false ⟨#[65]⟩ = (big, 0) := by
  unfold readR
  rw [if_neg (by decide), fullA16]
  unfold lkD
  rw [if_pos rfl]
theorem delA (big : ByteArray) : delR (fullA big 16) 0 false ⟨#[65]⟩ = (fullB big 15, 0) := by
  unfold delR
  have h0 : cntO 0 false = false := rfl
  rw [h0, if_neg (by decide), fullA16]
  unfold lkD delD
  rw [if_pos rfl, if_pos rfl]
theorem appF {big : ByteArray} (hb : big.size = 65536) {i : Nat} (h0 : 15 ≤ i) (h : i < 64) : appR (fullB big i) 0 false (nmF i) ⟨#[]⟩ = (fullB big (i + 1), 0) := by
  rw [fullB_succ big i h0]
  exact app_new (namedF (by omega)) (lkF (by omega)) (by show 0 ≤ 65536; omega) (by rw [usedB hb]; show (983040 : Int) + (0 : Nat) ≤ 1048576; omega) (by rw [lenB big i h0]; omega)
theorem appF1 {big : ByteArray} (hb : big.size = 65536) : appR (fullB big 64) 0 false (nmF 64) ⟨#[]⟩ = (fullB big 64, 5) := by
  refine app_full (namedF (by omega)) ?_
  unfold fullD
  rw [is_none (lkF (by omega)), lenB big 64 (by omega)]
  simp
theorem appE (F : List DFile) : appR F 0 false ⟨#[]⟩ ⟨#[120]⟩ = (F, 1) := app_form (by kernel_rfl)
theorem appW (F : List DFile) : appR F 0 false ⟨#[97, 32, 98]⟩ ⟨#[120]⟩ = (F, 1) := app_form (by kernel_rfl)
theorem txt_small {F : List DFile} {k : Nat} (h : ∀ f ∈ F, f.text.size ≤ k) : ∀ n, (txtD F n).size ≤ k := by
  intro n
  unfold txtD
  cases e : lkD F n with
  | none => exact Nat.zero_le _
  | some f =>
    refine h f ?_
    clear h
    induction F with
    | nil => cases e
    | cons g F ih =>
      unfold lkD at e
      by_cases c : g.name = n
      · rw [if_pos c] at e; injection e with e; subst e; exact List.mem_cons_self
      · rw [if_neg c] at e; exact List.mem_cons_of_mem _ (ih e)
structure Small (F : List DFile) : Prop where
  used : usedD F ≤ 4611686018427387904
  txt : ∀ n, (txtD F n).size ≤ 4000000000000000000
  len : F.length ≤ 4000000000000000000
theorem smallA {big : ByteArray} (hb : big.size = 65536) {i : Nat} (h : i ≤ 16) : Small (fullA big i) := by
  refine ⟨by rw [usedA hb]; omega, ?_, by rw [lenA]; omega⟩
  exact fun n => Nat.le_trans (txt_small (k := 65536) (by intro f hf; obtain ⟨j, hj, rfl⟩ := List.mem_map.1 hf; show big.size ≤ _; omega) n) (by decide)
theorem smallB {big : ByteArray} (hb : big.size = 65536) {i : Nat} (h0 : 15 ≤ i) (h : i ≤ 64) : Small (fullB big i) := by
  refine ⟨by rw [usedB hb]; omega, ?_, by rw [lenB big i h0]; omega⟩
  refine fun n => Nat.le_trans (txt_small (k := 65536) ?_ n) (by decide)
  intro f hf
  rcases List.mem_append.1 hf with hf | hf
  · obtain ⟨j, hj, rfl⟩ := List.mem_map.1 hf
    show big.size ≤ _; omega
  · obtain ⟨j, hj, rfl⟩ := List.mem_map.1 hf
    show 0 ≤ _; omega
/-! bytes as text -/
set_option maxRecDepth 100000 in
theorem conv_one (W : World) (n : Nat) (b : UInt8) (v : Int) (hn : W.heap.size = n) (hv : v = (b.toNat : Int)) : (convert 42 9 (.slice (some ⟨n, 0, none⟩) 1 1)).run Try.prog (W.alloc (.cells #[.int .u8 v] 5)) = .ok (.string ⟨#[b]⟩) (W.alloc (.cells #[.int .u8 v] 5)) := by
  subst hn hv
  exact run_convert_bytes_back (P := Try.prog) (W.alloc (.cells #[.int .u8 (b.toNat : Int)] 5)) 42 9 5 ⟨W.heap.size, 0, none⟩ 1 [b] rfl rfl rfl (by
    intro j hj
    obtain rfl : j = 0 := by simpa using hj
    show (W.alloc _).cell? (Addr.add ⟨W.heap.size, 0, none⟩ 0) = _
    rw [add_at, cell_of_row _ _ _ _ 5 (0, 0) (heap_alloc_new W _)]
    rfl)
theorem toList_made (z : Value) (n : Nat) : (madeCells #[z] n).toList = List.replicate n z := toList_madeCells_one z n
set_option maxRecDepth 100000 in
theorem conv_zeros (W : World) (k n : Nat) (hn : W.heap.size = n) : (convert 42 9 (.slice (some ⟨n, 0, none⟩) k k)).run Try.prog (W.alloc (.cells (madeCells #[.int .u8 0] k) 5)) = .ok (.string ⟨(List.replicate k (0 : UInt8)).toArray⟩) (W.alloc (.cells (madeCells #[.int .u8 0] k) 5)) := by
  subst hn
  have := run_convert_bytes_back (P := Try.prog) (W.alloc (.cells (madeCells #[.int .u8 0] k) 5)) 42 9 5 ⟨W.heap.size, 0, none⟩ k (List.replicate k (0 : UInt8)) rfl rfl rfl (by
    intro j hj
    have hj' : j < k := by simpa using hj
    rw [add_at, cell_of_row _ _ _ _ 5 (0, 0) (heap_alloc_new W _)]
    have e : (madeCells #[Value.int .u8 0] k)[j]? = some (.int .u8 0) := by
      rw [← Array.getElem?_toList, toList_madeCells_one]
      simp [hj']
    simp only [Nat.zero_add]
    rw [e]
    simp)
  rw [List.length_replicate] at this
  exact this
set_option maxRecDepth 100000 in
theorem make_any (W : World) (k : Nat) (hk : k ≤ 65536) : (Instr.makeSlice 42 (.int .i64 (k : Int)) (.int .i64 (k : Int))).run Try.prog W = .ok (.slice (some ⟨W.heap.size, 0, none⟩) k k) (W.alloc (.cells (madeCells #[.int .u8 0] k) 5)) :=
  run_make_row (P := Try.prog) 42 5 _ (.int .u8 0) rfl rfl rfl rfl rfl .i64 .i64 k (by show 1 * k ≤ _; omega) (by omega) W
structure Big (big : ByteArray) (ZC : Array Value) : Prop where
  size : big.size = 65536
  make : ∀ W : World, (Instr.makeSlice 42 (.int .i64 65536) (.int .i64 65536)).run Try.prog W = .ok (.slice (some ⟨W.heap.size, 0, none⟩) 65536 65536) (W.alloc (.cells ZC 5))
  conv : ∀ (W : World) (n : Nat), W.heap.size = n → (convert 42 9 (.slice (some ⟨n, 0, none⟩) 65536 65536)).run Try.prog (W.alloc (.cells ZC 5)) = .ok (.string big) (W.alloc (.cells ZC 5))
theorem big_is : ∃ big ZC, Big big ZC := by
  obtain ⟨k, hk⟩ : ∃ k : Nat, k = 65536 := ⟨_, rfl⟩
  have e : (65536 : Int) = (k : Int) := by omega
  refine ⟨⟨(List.replicate k (0 : UInt8)).toArray⟩, madeCells #[.int .u8 0] k, ?_, ?_, ?_⟩
  · show (List.replicate k (0 : UInt8)).toArray.size = _
    rw [List.size_toArray, List.length_replicate, hk]
  · intro W
    rw [e, ← hk]
    exact make_any W k (by omega)
  · intro W n hn
    rw [← hk]
    exact conv_zeros W k n hn
end Go.Proofs.Ytknljmljlgcfbaa.P
