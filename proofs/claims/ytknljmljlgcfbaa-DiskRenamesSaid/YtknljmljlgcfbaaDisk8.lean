/- By hand: the disk: Crash. -/
import Derived.Test.YtknljmljlgcfbaaDisk7
namespace Go.Proofs.Ytknljmljlgcfbaa.P
open Go.RowKit Go.Proofs.YtknljmljlgcfbaaW.PrintWords Go.Proofs.YtknljmljlgcfbaaW.PrintLast Go.Proofs.YtknljmljlgcfbaaW.PrintMore
open Go.Proofs.Ytknljmljlgcfbaa
attribute [local go_sem] max2_int min2_int max_two min_two max_three min_three max_four min_four
set_option linter.unusedSimpArgs false
set_option linter.unusedVariables false
/-- Two rows of strings of the call's own, apart. -/
structure R2 (w : World) (B : Nat) (v : Value) (xs : List ByteArray) (u : Value) (ys : List ByteArray) : Prop where
  one : Kd.R Kd.string 9 w B (fun k => some k ≠ u.ownBlock) v xs
  two : Kd.R Kd.string 9 w B (fun k => some k ≠ v.ownBlock) u ys
theorem R2.none (w : World) (B : Nat) : R2 w B (.slice none 0 0) [] (.slice none 0 0) [] := ⟨Kd.R_nil _ _ _ _ _, Kd.R_nil _ _ _ _ _⟩
theorem R2.swap {w : World} {B : Nat} {v u : Value} {xs ys : List ByteArray} (h : R2 w B v xs u ys) : R2 w B u ys v xs := ⟨h.two, h.one⟩
theorem R2.below {w w' : World} {B : Nat} {v u : Value} {xs ys : List ByteArray} (h : R2 w B v xs u ys) (hb : Below w.heap.size w w') : R2 w' B v xs u ys := ⟨Kd.R_below h.one hb, Kd.R_below h.two hb⟩
theorem R2.fresh {w : World} {B : Nat} {v u : Value} {xs ys : List ByteArray} (h : R2 w B v xs u ys) : ∀ k, w.heap.size ≤ k → some k ≠ u.ownBlock := fun k hk e => by
  have := Kd.R_lt h.two k e.symm
  omega
/-- The first one has grown. -/
theorem R2.grown {w w1 : World} {B : Nat} {v v1 u : Value} {xs xs' ys : List ByteArray} (h : R2 w B v xs u ys) (ho : Kd.R Kd.string 9 w1 B (fun k => some k ≠ u.ownBlock) v1 xs') (hg : w.grownBy w1 v.ownBlock)
    (hat : v1.ownBlock = v.ownBlock ∨ ∃ b, v1.ownBlock = some b ∧ w.heap.size ≤ b) : R2 w1 B v1 xs' u ys := by
  refine ⟨ho, ?_⟩
  refine Kd.R_mono (Kd.R_step (Kd.R_bound h.two) (fun k hk hlt => hg.block k hlt (fun e => hk.1 e))) (fun k hk e => ?_)
  rcases hat with e2 | ⟨b, e2, hb⟩
  · exact hk.1 (e.trans e2)
  · rw [e2] at e
    injection e with e
    have := hk.2.2.1
    omega
theorem R2.step {w w' : World} {B : Nat} {v u : Value} {xs ys : List ByteArray} (h : R2 w B v xs u ys) (hm : ∀ k, B ≤ k → k < w.heap.size → w'.heap[k]? = w.heap[k]?) : R2 w' B v xs u ys :=
  ⟨Kd.R_mono (Kd.R_step (Kd.R_bound h.one) (fun k hk hlt => hm k hk.2.1 hlt)) (fun _ hk => hk.1), Kd.R_mono (Kd.R_step (Kd.R_bound h.two) (fun k hk hlt => hm k hk.2.1 hlt)) (fun _ hk => hk.1)⟩
theorem R2.lower {w : World} {B B' : Nat} {v u : Value} {xs ys : List ByteArray} (h : R2 w B v xs u ys) (hb : B' ≤ B) : R2 w B' v xs u ys := ⟨Kd.R_lower h.one hb, Kd.R_lower h.two hb⟩
def crM (i : Nat) (picks : List Int) : Int := if i < picks.length then mx (rd picks (i : Int)) 0 else 0
def crT (f : DFile) (i : Nat) (picks : List Int) : ByteArray := f.text.extract 0 (f.safe + mn (crM i picks) ((f.text.size : Int) - f.safe)).toNat
def crText (F : List DFile) (picks : List Int) (n : ByteArray) (i : Nat) : ByteArray := match lkD F n with | some f => crT f i picks | none => ⟨#[]⟩
def crTs (F : List DFile) (picks : List Int) : List ByteArray → Nat → List ByteArray
  | [], _ => []
  | n :: xs, i => crText F picks n i :: crTs F picks xs (i + 1)
theorem crTs_len (F : List DFile) (picks : List Int) : ∀ (xs : List ByteArray) (i : Nat), (crTs F picks xs i).length = xs.length
  | [], _ => rfl
  | n :: xs, i => by simp [crTs, crTs_len F picks xs (i + 1)]
theorem crTs_at (F : List DFile) (picks : List Int) : ∀ (xs : List ByteArray) (i j : Nat) (h : j < xs.length), (crTs F picks xs i)[j]? = some (crText F picks xs[j] (i + j))
  | n :: xs, i, 0, h => by simp [crTs]
  | n :: xs, i, j + 1, h => by
    simp only [crTs, List.getElem?_cons_succ, List.getElem_cons_succ]
    rw [crTs_at F picks xs (i + 1) j (by simpa using h)]
    congr 2
    omega
theorem lkD_mem : ∀ (F : List DFile) (n : ByteArray), n ∈ F.map (·.name) → ∃ f, lkD F n = some f ∧ f ∈ F ∧ f.name = n
  | [], n, h => by cases h
  | g :: F, n, h => by
    unfold lkD
    by_cases e : g.name = n
    · rw [if_pos e]; exact ⟨g, rfl, .head _, e⟩
    · rw [if_neg e]
      obtain ⟨f, hf, hm, hn⟩ := lkD_mem F n (by
        rw [List.map_cons] at h
        cases h with
        | head => exact absurd rfl e
        | tail _ h => exact h)
      exact ⟨f, hf, .tail _ hm, hn⟩
theorem look1D {w : World} {m : Nat} {F : List DFile} (h : SMap w m (encF F)) {n : ByteArray} {f : DFile} (hn : lkD F n = some f) :
    (Instr.lookup 46 (.map (some m)) (.string n) false).run Try.prog w = .ok (.agg #[.string f.text, .int .i64 f.safe]) w := by
  have := SMap.lookup1 (P := Try.prog) Try.underlying46 Try.underlying9 zeroF h n
  rw [lk_enc, hn] at this
  exact this
theorem take_next {xs : List ByteArray} {i : Nat} {x : ByteArray} (h : xs[i]? = some x) : xs.take i ++ [x] = xs.take (i + 1) := by
  obtain ⟨hi, rfl⟩ := List.getElem?_eq_some_iff.1 h
  exact (List.take_succ_eq_append_getElem hi).symm
open Go.Maps Go.Sort Go.Shelf in
set_option maxRecDepth 100000 in
set_option maxHeartbeats 8000000 in
theorem disk_Crash.calls (w : World) (d m : Nat) (F : List DFile) (left : Int) (off : Bool) (A1 : Option Addr) (c1 : Nat) (picks : List Int) (h : DiskAt w d m F left off) (hk : OkD F) (hp : Kd.C (Kd.int .i64) w A1 picks.length picks) (hc1 : picks.length ≤ c1) :
    Calls Try.prog 19 #[.pointer (some ⟨d, 0, none⟩), .slice A1 picks.length c1] w fun e w' => ∃ (v u : Value) (xs : List ByteArray), e = .returned (.tuple #[v, u]) ∧ NamesOf F xs ∧ R2 w' w.heap.size v xs u (crTs F picks xs 0) ∧ DiskAt w' d m F left true ∧ Fr w w' (fun k => k = d) := by
  have g0 : w.cell? ⟨d, 0, none⟩ = some (.map (some m)) := (blk_cell h.cells 0).trans rfl
  have HK := Aside0.mk (disk_keys w m F h.map hk)
  have HD := Aside0.mk h
  have HO := Aside0.mk hk
  have HP := Aside0.mk hp
  clear h hk hp
  go_enter Try.func19, Try.ntmps19
  go_wp2_with (first
    | (go_at_call 27; (refine (callsIn_wide.1 (Try.maps_Keys_27 _ _)).mono ?_); rintro _ _ ⟨rfl, rfl⟩)
    | (go_at_call 26; (refine HK.out.mono ?_); rintro _ w1 ⟨v, xs, rfl, hn, hr, hb⟩; have HN := Aside0.mk hn; have HR := Aside0.mk hr; have HB := Aside0.mk hb; clear hn hr hb; obtain ⟨A, c, e0, hc0, hrd⟩ := Kd.R_reads HR.out; subst e0; have HRD := Aside0.mk hrd; have HC0 := Aside0.mk hc0; clear hrd hc0))
  have HW := Aside0.mk (below_then (below_alloc (Below.refl _ w) (.cells #[.map (some m)] 46)) (by rw [size_alloc']; omega) (by rw [size_alloc']; exact HB.out))
  have HD1 := Aside0.mk (HD.out.below HW.out)
  have HP1 := Aside0.mk (Kd.C_below HP.out HW.out)
  have HX : Aside0 (xs.length ≤ 64) := ⟨by have := HN.out.perm.length_eq; rw [List.length_map] at this; have := HO.out.many; omega⟩
  go_loopw [17, 4, 5, 6, 7, 8, 9] (fun v17 v4 v5 _ _ _ _ w' => ∃ i : Nat, i ≤ xs.length ∧ v17 = .int .i64 i ∧ Aside0 (R2 w' w1.heap.size v4 (xs.take i) v5 ((crTs F picks xs 0).take i)) ∧ Aside0 (Below w1.heap.size w1 w')) (fun v17 _ _ _ _ _ _ _ => xs.length - (intOf v17).toNat)
  case atStart => exact ⟨0, by omega, rfl, ⟨R2.none _ _⟩, ⟨Below.refl _ _⟩⟩
  case round =>
    rename_i wr _
    obtain ⟨i, hi, rfl, HR2, HB2⟩ := hrel
    have hx64 := HX.out
    by_cases hlt : i < xs.length
    · have p0 : (0 : Int) ≤ (i : Int) := by omega
      have q0 : (i : Int) < (xs.length : Int) := by omega
      have d0 : decide ((i : Int) < (xs.length : Int)) = true := decide_eq_true q0
      obtain ⟨ad, e0, hx0⟩ := Kd.at_string (Kd.C_below HRD.out HB2.out) (i : Int) p0 q0
      subst e0
      simp only [Int.toNat_natCast] at hx0
      have en : rdOf ByteArray.empty xs (i : Int) = xs[i] := by unfold rdOf; simp [List.getElem?_eq_getElem hlt]
      rw [en] at hx0
      obtain ⟨n, hn⟩ : ∃ n, n = xs[i] := ⟨_, rfl⟩
      rw [← hn] at hx0
      obtain ⟨f, hf, hfm, _⟩ := lkD_mem F n (HN.out.perm.subset (by rw [hn]; exact List.getElem_mem hlt))
      have hft := HO.out.text f hfm
      have hxn : xs[i]? = some n := by rw [hn]; exact List.getElem?_eq_getElem hlt
      have htn : (crTs F picks xs 0)[i]? = some (crT f i picks) := by
        rw [crTs_at F picks xs 0 i hlt, ← hn, Nat.zero_add]
        unfold crText
        rw [hf]
      have HXN := Aside0.mk hxn
      have HTN := Aside0.mk htn
      have HI := Aside0.mk hlt
      have HDr := Aside0.mk (HD1.out.below HB2.out)
      have k0 : wr.cell? ⟨d, 0, none⟩ = some (.map (some m)) := (blk_cell HDr.out.cells 0).trans rfl
      have hlk := look1D HDr.out.map hf
      obtain ⟨more, hmore⟩ : ∃ q, q = crM i picks := ⟨_, rfl⟩
      have hm0 : 0 ≤ more := by rw [hmore]; unfold crM; split <;> (try unfold mx) <;> (try split) <;> omega
      obtain ⟨k, hk⟩ : ∃ k : Nat, (k : Int) = f.safe + mn more ((f.text.size : Int) - f.safe) := ⟨(f.safe + mn more ((f.text.size : Int) - f.safe)).toNat, by unfold mn; split <;> omega⟩
      have hkl : k ≤ f.text.size := by have : (k : Int) ≤ f.text.size := by rw [hk]; unfold mn; split <;> omega
                                       omega
      have hcr : crT f i picks = f.text.extract 0 k := by unfold crT; rw [← hmore, ← hk, Int.toNat_natCast]
      have HCR := Aside0.mk hcr
      have q1 : IntKind.i64.wrap ((f.text.size : Int) - f.safe) = (f.text.size : Int) - f.safe := by rw [IntKind.wrap_i64]; omega
      have q2 : IntKind.i64.wrap ((i : Int) + 1) = ((i + 1 : Nat) : Int) := by rw [IntKind.wrap_i64]; omega
      have p1 : (0 : Int) ≤ (k : Int) := by omega
      have p2 : (k : Int) ≤ (f.text.size : Int) := by omega
      have q3 : ∀ z : Int, f.safe + z = (k : Int) → IntKind.i64.wrap (f.safe + z) = (k : Int) := fun z hz => by rw [hz, IntKind.wrap_i64]; omega
      clear hn hfm en hcr hxn htn hf hx64
      by_cases hpk : i < picks.length
      · have d1 : decide ((i : Int) < (picks.length : Int)) = true := by simp; omega
        have q5 : (i : Int) < (picks.length : Int) := by omega
        obtain ⟨ap, e1, hy0⟩ := Kd.at_int (Kd.C_below HP1.out (HB2.out.alloc HB2.out.size (.cells #[.string f.text, .int .i64 f.safe] 50))) (i : Int) p0 q5
        subst e1
        simp only [Int.toNat_natCast] at hy0
        rcases Int.lt_or_le (rd picks (i : Int)) 0 with hmx | hmx
        · have hx1 : ¬ 0 ≤ rd picks (i : Int) := by omega
          have hx2 : rd picks (i : Int) ≤ 0 := by omega
          have em : more = 0 := by rw [hmore]; unfold crM; rw [if_pos hpk]; unfold mx; split <;> omega
          subst em
          clear hmore
          rcases Int.lt_or_le ((f.text.size : Int) - f.safe) 0 with hmn | hmn
          · have mm2 : ¬ (0 ≤ (f.text.size : Int) - f.safe) := by omega
            have mm3 : decide ((f.text.size : Int) - f.safe < 0) = true := by simp; omega
            have hq := q3 ((f.text.size : Int) - f.safe) (by rw [hk]; unfold mn; split <;> omega)
            clear q3 hk hft
            go_wp2_with (first | ((with_reducible refine gate_builtin (b := .append) (xs := #[.tmp 37, .tmp 39]) rfl ?_); at_builtin; go_loud (refine Kd.R_append Kd.string (w0 := w1) w1.heap.size rfl (.tmp 37) (.tmp 39) 22 9 (.string ⟨#[]⟩) 16 rfl Try.underlying22 info9 rfl (by decide) (by omega) u4 (xs.take i) n [.string n] (fun k => some k ≠ u5.ownBlock) (fun _ => False) rfl (by first | rfl | (rw [size_alloc']; rfl)) ?aP (fun _ hk => hk.elim) ?aF ?aO ?aB ?aS ?aL ?_); (go_loud (case aP => exact rfl)); (go_loud (case aO => exact (HR2.out.below (below_alloc (Below.refl _ _) _)).one)); (go_loud (case aF => exact (HR2.out.below (below_alloc (Below.refl _ _) (.cells #[.string f.text, .int .i64 f.safe] 50))).fresh)); (go_loud (case aB => exact HB2.out.alloc HB2.out.size _)); (go_loud (case aS => exact (HB2.out.alloc HB2.out.size _).size)); (go_loud (case aL => have := HI.out; have := HX.out; rw [List.length_take]; omega)); go_loud (intro v1 w2 ho hb1 hg hat; have HR3 := Aside0.mk ((HR2.out.below (below_alloc (Below.refl _ _) (.cells #[.string f.text, .int .i64 f.safe] 50))).grown (take_next HXN.out ▸ ho) hg hat); have HB3 := Aside0.mk hb1; have HG3 : Aside0 (FBlk w2 wr.heap.size f.text f.safe) := ⟨blk_grown (heap_alloc_new wr _) hg (fun e => by have := Kd.R_lt HR2.out.one _ e.symm; omega)⟩; have x0 : w2.cell? ⟨wr.heap.size, 0, none⟩ = some (.string f.text) := (blk_cell HG3.out 0).trans rfl; have x1 : w2.cell? ⟨wr.heap.size, 1, none⟩ = some (.int .i64 f.safe) := (blk_cell HG3.out 1).trans rfl; clear ho hb1 hg hat)) | ((with_reducible refine gate_builtin (b := .append) (xs := #[.tmp 41, .tmp 56]) rfl ?_); at_builtin; go_loud (refine Kd.R_append Kd.string (w0 := w1) w1.heap.size rfl (.tmp 41) (.tmp 56) 22 9 (.string ⟨#[]⟩) 16 rfl Try.underlying22 info9 rfl (by decide) (by omega) u5 ((crTs F picks xs 0).take i) (f.text.extract 0 k) [.string (f.text.extract 0 k)] (fun k => some k ≠ v1.ownBlock) (fun _ => False) rfl (by first | rfl | (rw [size_alloc']; rfl)) ?aP (fun _ hk => hk.elim) ?aF ?aO ?aB ?aS ?aL ?_); (go_loud (case aP => exact rfl)); (go_loud (case aO => exact HR3.out.two)); (go_loud (case aF => exact HR3.out.swap.fresh)); (go_loud (case aB => exact HB3.out)); (go_loud (case aS => exact HB3.out.size)); (go_loud (case aL => have := HI.out; have := HX.out; rw [List.length_take, crTs_len]; omega)); go_loud (intro v2 w3 ho hb1 hg hat; have HR4 := Aside0.mk (HR3.out.swap.grown (take_next (x := f.text.extract 0 k) (HCR.out ▸ HTN.out) ▸ ho) hg hat).swap; have HB4 := Aside0.mk hb1; clear ho hb1 hg hat)))
            go_roundw
            case rel => exact ⟨i + 1, by have := HI.out; omega, rfl, HR4, HB4⟩
            case measure => have := HI.out; simp [intOf]; omega
          · have mm2 : ¬ ((f.text.size : Int) - f.safe < 0) := by omega
            have mm3 : decide ((f.text.size : Int) - f.safe < 0) = false := by simp; omega
            have hq := q3 (0) (by rw [hk]; unfold mn; split <;> omega)
            have hq2 : IntKind.i64.wrap f.safe = (k : Int) := by have h0 := hq; rwa [Int.add_zero] at h0
            clear q3 hk hft
            go_wp2_with (first | ((with_reducible refine gate_builtin (b := .append) (xs := #[.tmp 37, .tmp 39]) rfl ?_); at_builtin; go_loud (refine Kd.R_append Kd.string (w0 := w1) w1.heap.size rfl (.tmp 37) (.tmp 39) 22 9 (.string ⟨#[]⟩) 16 rfl Try.underlying22 info9 rfl (by decide) (by omega) u4 (xs.take i) n [.string n] (fun k => some k ≠ u5.ownBlock) (fun _ => False) rfl (by first | rfl | (rw [size_alloc']; rfl)) ?aP (fun _ hk => hk.elim) ?aF ?aO ?aB ?aS ?aL ?_); (go_loud (case aP => exact rfl)); (go_loud (case aO => exact (HR2.out.below (below_alloc (Below.refl _ _) _)).one)); (go_loud (case aF => exact (HR2.out.below (below_alloc (Below.refl _ _) (.cells #[.string f.text, .int .i64 f.safe] 50))).fresh)); (go_loud (case aB => exact HB2.out.alloc HB2.out.size _)); (go_loud (case aS => exact (HB2.out.alloc HB2.out.size _).size)); (go_loud (case aL => have := HI.out; have := HX.out; rw [List.length_take]; omega)); go_loud (intro v1 w2 ho hb1 hg hat; have HR3 := Aside0.mk ((HR2.out.below (below_alloc (Below.refl _ _) (.cells #[.string f.text, .int .i64 f.safe] 50))).grown (take_next HXN.out ▸ ho) hg hat); have HB3 := Aside0.mk hb1; have HG3 : Aside0 (FBlk w2 wr.heap.size f.text f.safe) := ⟨blk_grown (heap_alloc_new wr _) hg (fun e => by have := Kd.R_lt HR2.out.one _ e.symm; omega)⟩; have x0 : w2.cell? ⟨wr.heap.size, 0, none⟩ = some (.string f.text) := (blk_cell HG3.out 0).trans rfl; have x1 : w2.cell? ⟨wr.heap.size, 1, none⟩ = some (.int .i64 f.safe) := (blk_cell HG3.out 1).trans rfl; clear ho hb1 hg hat)) | ((with_reducible refine gate_builtin (b := .append) (xs := #[.tmp 41, .tmp 56]) rfl ?_); at_builtin; go_loud (refine Kd.R_append Kd.string (w0 := w1) w1.heap.size rfl (.tmp 41) (.tmp 56) 22 9 (.string ⟨#[]⟩) 16 rfl Try.underlying22 info9 rfl (by decide) (by omega) u5 ((crTs F picks xs 0).take i) (f.text.extract 0 k) [.string (f.text.extract 0 k)] (fun k => some k ≠ v1.ownBlock) (fun _ => False) rfl (by first | rfl | (rw [size_alloc']; rfl)) ?aP (fun _ hk => hk.elim) ?aF ?aO ?aB ?aS ?aL ?_); (go_loud (case aP => exact rfl)); (go_loud (case aO => exact HR3.out.two)); (go_loud (case aF => exact HR3.out.swap.fresh)); (go_loud (case aB => exact HB3.out)); (go_loud (case aS => exact HB3.out.size)); (go_loud (case aL => have := HI.out; have := HX.out; rw [List.length_take, crTs_len]; omega)); go_loud (intro v2 w3 ho hb1 hg hat; have HR4 := Aside0.mk (HR3.out.swap.grown (take_next (x := f.text.extract 0 k) (HCR.out ▸ HTN.out) ▸ ho) hg hat).swap; have HB4 := Aside0.mk hb1; clear ho hb1 hg hat)))
            go_roundw
            case rel => exact ⟨i + 1, by have := HI.out; omega, rfl, HR4, HB4⟩
            case measure => have := HI.out; simp [intOf]; omega
        · have hx1 : ¬ rd picks (i : Int) < 0 := by omega
          have em : more = rd picks (i : Int) := by rw [hmore]; unfold crM; rw [if_pos hpk]; unfold mx; split <;> omega
          subst em
          clear hmore
          rcases Int.lt_or_le ((f.text.size : Int) - f.safe) (rd picks (i : Int)) with hmn | hmn
          · have mm2 : ¬ ((rd picks (i : Int)) ≤ (f.text.size : Int) - f.safe) := by omega
            have mm3 : decide ((f.text.size : Int) - f.safe < (rd picks (i : Int))) = true := by simp; omega
            have hq := q3 ((f.text.size : Int) - f.safe) (by rw [hk]; unfold mn; split <;> omega)
            clear q3 hk hft
            go_wp2_with (first | ((with_reducible refine gate_builtin (b := .append) (xs := #[.tmp 37, .tmp 39]) rfl ?_); at_builtin; go_loud (refine Kd.R_append Kd.string (w0 := w1) w1.heap.size rfl (.tmp 37) (.tmp 39) 22 9 (.string ⟨#[]⟩) 16 rfl Try.underlying22 info9 rfl (by decide) (by omega) u4 (xs.take i) n [.string n] (fun k => some k ≠ u5.ownBlock) (fun _ => False) rfl (by first | rfl | (rw [size_alloc']; rfl)) ?aP (fun _ hk => hk.elim) ?aF ?aO ?aB ?aS ?aL ?_); (go_loud (case aP => exact rfl)); (go_loud (case aO => exact (HR2.out.below (below_alloc (Below.refl _ _) _)).one)); (go_loud (case aF => exact (HR2.out.below (below_alloc (Below.refl _ _) (.cells #[.string f.text, .int .i64 f.safe] 50))).fresh)); (go_loud (case aB => exact HB2.out.alloc HB2.out.size _)); (go_loud (case aS => exact (HB2.out.alloc HB2.out.size _).size)); (go_loud (case aL => have := HI.out; have := HX.out; rw [List.length_take]; omega)); go_loud (intro v1 w2 ho hb1 hg hat; have HR3 := Aside0.mk ((HR2.out.below (below_alloc (Below.refl _ _) (.cells #[.string f.text, .int .i64 f.safe] 50))).grown (take_next HXN.out ▸ ho) hg hat); have HB3 := Aside0.mk hb1; have HG3 : Aside0 (FBlk w2 wr.heap.size f.text f.safe) := ⟨blk_grown (heap_alloc_new wr _) hg (fun e => by have := Kd.R_lt HR2.out.one _ e.symm; omega)⟩; have x0 : w2.cell? ⟨wr.heap.size, 0, none⟩ = some (.string f.text) := (blk_cell HG3.out 0).trans rfl; have x1 : w2.cell? ⟨wr.heap.size, 1, none⟩ = some (.int .i64 f.safe) := (blk_cell HG3.out 1).trans rfl; clear ho hb1 hg hat)) | ((with_reducible refine gate_builtin (b := .append) (xs := #[.tmp 41, .tmp 56]) rfl ?_); at_builtin; go_loud (refine Kd.R_append Kd.string (w0 := w1) w1.heap.size rfl (.tmp 41) (.tmp 56) 22 9 (.string ⟨#[]⟩) 16 rfl Try.underlying22 info9 rfl (by decide) (by omega) u5 ((crTs F picks xs 0).take i) (f.text.extract 0 k) [.string (f.text.extract 0 k)] (fun k => some k ≠ v1.ownBlock) (fun _ => False) rfl (by first | rfl | (rw [size_alloc']; rfl)) ?aP (fun _ hk => hk.elim) ?aF ?aO ?aB ?aS ?aL ?_); (go_loud (case aP => exact rfl)); (go_loud (case aO => exact HR3.out.two)); (go_loud (case aF => exact HR3.out.swap.fresh)); (go_loud (case aB => exact HB3.out)); (go_loud (case aS => exact HB3.out.size)); (go_loud (case aL => have := HI.out; have := HX.out; rw [List.length_take, crTs_len]; omega)); go_loud (intro v2 w3 ho hb1 hg hat; have HR4 := Aside0.mk (HR3.out.swap.grown (take_next (x := f.text.extract 0 k) (HCR.out ▸ HTN.out) ▸ ho) hg hat).swap; have HB4 := Aside0.mk hb1; clear ho hb1 hg hat)))
            go_roundw
            case rel => exact ⟨i + 1, by have := HI.out; omega, rfl, HR4, HB4⟩
            case measure => have := HI.out; simp [intOf]; omega
          · have mm2 : ¬ ((f.text.size : Int) - f.safe < (rd picks (i : Int))) := by omega
            have mm3 : decide ((f.text.size : Int) - f.safe < (rd picks (i : Int))) = false := by simp; omega
            have hq := q3 ((rd picks (i : Int))) (by rw [hk]; unfold mn; split <;> omega)
            clear q3 hk hft
            go_wp2_with (first | ((with_reducible refine gate_builtin (b := .append) (xs := #[.tmp 37, .tmp 39]) rfl ?_); at_builtin; go_loud (refine Kd.R_append Kd.string (w0 := w1) w1.heap.size rfl (.tmp 37) (.tmp 39) 22 9 (.string ⟨#[]⟩) 16 rfl Try.underlying22 info9 rfl (by decide) (by omega) u4 (xs.take i) n [.string n] (fun k => some k ≠ u5.ownBlock) (fun _ => False) rfl (by first | rfl | (rw [size_alloc']; rfl)) ?aP (fun _ hk => hk.elim) ?aF ?aO ?aB ?aS ?aL ?_); (go_loud (case aP => exact rfl)); (go_loud (case aO => exact (HR2.out.below (below_alloc (Below.refl _ _) _)).one)); (go_loud (case aF => exact (HR2.out.below (below_alloc (Below.refl _ _) (.cells #[.string f.text, .int .i64 f.safe] 50))).fresh)); (go_loud (case aB => exact HB2.out.alloc HB2.out.size _)); (go_loud (case aS => exact (HB2.out.alloc HB2.out.size _).size)); (go_loud (case aL => have := HI.out; have := HX.out; rw [List.length_take]; omega)); go_loud (intro v1 w2 ho hb1 hg hat; have HR3 := Aside0.mk ((HR2.out.below (below_alloc (Below.refl _ _) (.cells #[.string f.text, .int .i64 f.safe] 50))).grown (take_next HXN.out ▸ ho) hg hat); have HB3 := Aside0.mk hb1; have HG3 : Aside0 (FBlk w2 wr.heap.size f.text f.safe) := ⟨blk_grown (heap_alloc_new wr _) hg (fun e => by have := Kd.R_lt HR2.out.one _ e.symm; omega)⟩; have x0 : w2.cell? ⟨wr.heap.size, 0, none⟩ = some (.string f.text) := (blk_cell HG3.out 0).trans rfl; have x1 : w2.cell? ⟨wr.heap.size, 1, none⟩ = some (.int .i64 f.safe) := (blk_cell HG3.out 1).trans rfl; clear ho hb1 hg hat)) | ((with_reducible refine gate_builtin (b := .append) (xs := #[.tmp 41, .tmp 56]) rfl ?_); at_builtin; go_loud (refine Kd.R_append Kd.string (w0 := w1) w1.heap.size rfl (.tmp 41) (.tmp 56) 22 9 (.string ⟨#[]⟩) 16 rfl Try.underlying22 info9 rfl (by decide) (by omega) u5 ((crTs F picks xs 0).take i) (f.text.extract 0 k) [.string (f.text.extract 0 k)] (fun k => some k ≠ v1.ownBlock) (fun _ => False) rfl (by first | rfl | (rw [size_alloc']; rfl)) ?aP (fun _ hk => hk.elim) ?aF ?aO ?aB ?aS ?aL ?_); (go_loud (case aP => exact rfl)); (go_loud (case aO => exact HR3.out.two)); (go_loud (case aF => exact HR3.out.swap.fresh)); (go_loud (case aB => exact HB3.out)); (go_loud (case aS => exact HB3.out.size)); (go_loud (case aL => have := HI.out; have := HX.out; rw [List.length_take, crTs_len]; omega)); go_loud (intro v2 w3 ho hb1 hg hat; have HR4 := Aside0.mk (HR3.out.swap.grown (take_next (x := f.text.extract 0 k) (HCR.out ▸ HTN.out) ▸ ho) hg hat).swap; have HB4 := Aside0.mk hb1; clear ho hb1 hg hat)))
            go_roundw
            case rel => exact ⟨i + 1, by have := HI.out; omega, rfl, HR4, HB4⟩
            case measure => have := HI.out; simp [intOf]; omega
      · have d1 : decide ((i : Int) < (picks.length : Int)) = false := by simp; omega
        have em : more = 0 := by rw [hmore]; unfold crM; rw [if_neg hpk]
        subst em
        clear hmore
        rcases Int.lt_or_le ((f.text.size : Int) - f.safe) 0 with hmn | hmn
        · have mm2 : ¬ (0 ≤ (f.text.size : Int) - f.safe) := by omega
          have mm3 : decide ((f.text.size : Int) - f.safe < 0) = true := by simp; omega
          have hq := q3 ((f.text.size : Int) - f.safe) (by rw [hk]; unfold mn; split <;> omega)
          clear q3 hk hft
          go_wp2_with (first | ((with_reducible refine gate_builtin (b := .append) (xs := #[.tmp 37, .tmp 39]) rfl ?_); at_builtin; go_loud (refine Kd.R_append Kd.string (w0 := w1) w1.heap.size rfl (.tmp 37) (.tmp 39) 22 9 (.string ⟨#[]⟩) 16 rfl Try.underlying22 info9 rfl (by decide) (by omega) u4 (xs.take i) n [.string n] (fun k => some k ≠ u5.ownBlock) (fun _ => False) rfl (by first | rfl | (rw [size_alloc']; rfl)) ?aP (fun _ hk => hk.elim) ?aF ?aO ?aB ?aS ?aL ?_); (go_loud (case aP => exact rfl)); (go_loud (case aO => exact (HR2.out.below (below_alloc (Below.refl _ _) _)).one)); (go_loud (case aF => exact (HR2.out.below (below_alloc (Below.refl _ _) (.cells #[.string f.text, .int .i64 f.safe] 50))).fresh)); (go_loud (case aB => exact HB2.out.alloc HB2.out.size _)); (go_loud (case aS => exact (HB2.out.alloc HB2.out.size _).size)); (go_loud (case aL => have := HI.out; have := HX.out; rw [List.length_take]; omega)); go_loud (intro v1 w2 ho hb1 hg hat; have HR3 := Aside0.mk ((HR2.out.below (below_alloc (Below.refl _ _) (.cells #[.string f.text, .int .i64 f.safe] 50))).grown (take_next HXN.out ▸ ho) hg hat); have HB3 := Aside0.mk hb1; have HG3 : Aside0 (FBlk w2 wr.heap.size f.text f.safe) := ⟨blk_grown (heap_alloc_new wr _) hg (fun e => by have := Kd.R_lt HR2.out.one _ e.symm; omega)⟩; have x0 : w2.cell? ⟨wr.heap.size, 0, none⟩ = some (.string f.text) := (blk_cell HG3.out 0).trans rfl; have x1 : w2.cell? ⟨wr.heap.size, 1, none⟩ = some (.int .i64 f.safe) := (blk_cell HG3.out 1).trans rfl; clear ho hb1 hg hat)) | ((with_reducible refine gate_builtin (b := .append) (xs := #[.tmp 41, .tmp 56]) rfl ?_); at_builtin; go_loud (refine Kd.R_append Kd.string (w0 := w1) w1.heap.size rfl (.tmp 41) (.tmp 56) 22 9 (.string ⟨#[]⟩) 16 rfl Try.underlying22 info9 rfl (by decide) (by omega) u5 ((crTs F picks xs 0).take i) (f.text.extract 0 k) [.string (f.text.extract 0 k)] (fun k => some k ≠ v1.ownBlock) (fun _ => False) rfl (by first | rfl | (rw [size_alloc']; rfl)) ?aP (fun _ hk => hk.elim) ?aF ?aO ?aB ?aS ?aL ?_); (go_loud (case aP => exact rfl)); (go_loud (case aO => exact HR3.out.two)); (go_loud (case aF => exact HR3.out.swap.fresh)); (go_loud (case aB => exact HB3.out)); (go_loud (case aS => exact HB3.out.size)); (go_loud (case aL => have := HI.out; have := HX.out; rw [List.length_take, crTs_len]; omega)); go_loud (intro v2 w3 ho hb1 hg hat; have HR4 := Aside0.mk (HR3.out.swap.grown (take_next (x := f.text.extract 0 k) (HCR.out ▸ HTN.out) ▸ ho) hg hat).swap; have HB4 := Aside0.mk hb1; clear ho hb1 hg hat)))
          go_roundw
          case rel => exact ⟨i + 1, by have := HI.out; omega, rfl, HR4, HB4⟩
          case measure => have := HI.out; simp [intOf]; omega
        · have mm2 : ¬ ((f.text.size : Int) - f.safe < 0) := by omega
          have mm3 : decide ((f.text.size : Int) - f.safe < 0) = false := by simp; omega
          have hq := q3 (0) (by rw [hk]; unfold mn; split <;> omega)
          have hq2 : IntKind.i64.wrap f.safe = (k : Int) := by have h0 := hq; rwa [Int.add_zero] at h0
          clear q3 hk hft
          go_wp2_with (first | ((with_reducible refine gate_builtin (b := .append) (xs := #[.tmp 37, .tmp 39]) rfl ?_); at_builtin; go_loud (refine Kd.R_append Kd.string (w0 := w1) w1.heap.size rfl (.tmp 37) (.tmp 39) 22 9 (.string ⟨#[]⟩) 16 rfl Try.underlying22 info9 rfl (by decide) (by omega) u4 (xs.take i) n [.string n] (fun k => some k ≠ u5.ownBlock) (fun _ => False) rfl (by first | rfl | (rw [size_alloc']; rfl)) ?aP (fun _ hk => hk.elim) ?aF ?aO ?aB ?aS ?aL ?_); (go_loud (case aP => exact rfl)); (go_loud (case aO => exact (HR2.out.below (below_alloc (Below.refl _ _) _)).one)); (go_loud (case aF => exact (HR2.out.below (below_alloc (Below.refl _ _) (.cells #[.string f.text, .int .i64 f.safe] 50))).fresh)); (go_loud (case aB => exact HB2.out.alloc HB2.out.size _)); (go_loud (case aS => exact (HB2.out.alloc HB2.out.size _).size)); (go_loud (case aL => have := HI.out; have := HX.out; rw [List.length_take]; omega)); go_loud (intro v1 w2 ho hb1 hg hat; have HR3 := Aside0.mk ((HR2.out.below (below_alloc (Below.refl _ _) (.cells #[.string f.text, .int .i64 f.safe] 50))).grown (take_next HXN.out ▸ ho) hg hat); have HB3 := Aside0.mk hb1; have HG3 : Aside0 (FBlk w2 wr.heap.size f.text f.safe) := ⟨blk_grown (heap_alloc_new wr _) hg (fun e => by have := Kd.R_lt HR2.out.one _ e.symm; omega)⟩; have x0 : w2.cell? ⟨wr.heap.size, 0, none⟩ = some (.string f.text) := (blk_cell HG3.out 0).trans rfl; have x1 : w2.cell? ⟨wr.heap.size, 1, none⟩ = some (.int .i64 f.safe) := (blk_cell HG3.out 1).trans rfl; clear ho hb1 hg hat)) | ((with_reducible refine gate_builtin (b := .append) (xs := #[.tmp 41, .tmp 56]) rfl ?_); at_builtin; go_loud (refine Kd.R_append Kd.string (w0 := w1) w1.heap.size rfl (.tmp 41) (.tmp 56) 22 9 (.string ⟨#[]⟩) 16 rfl Try.underlying22 info9 rfl (by decide) (by omega) u5 ((crTs F picks xs 0).take i) (f.text.extract 0 k) [.string (f.text.extract 0 k)] (fun k => some k ≠ v1.ownBlock) (fun _ => False) rfl (by first | rfl | (rw [size_alloc']; rfl)) ?aP (fun _ hk => hk.elim) ?aF ?aO ?aB ?aS ?aL ?_); (go_loud (case aP => exact rfl)); (go_loud (case aO => exact HR3.out.two)); (go_loud (case aF => exact HR3.out.swap.fresh)); (go_loud (case aB => exact HB3.out)); (go_loud (case aS => exact HB3.out.size)); (go_loud (case aL => have := HI.out; have := HX.out; rw [List.length_take, crTs_len]; omega)); go_loud (intro v2 w3 ho hb1 hg hat; have HR4 := Aside0.mk (HR3.out.swap.grown (take_next (x := f.text.extract 0 k) (HCR.out ▸ HTN.out) ▸ ho) hg hat).swap; have HB4 := Aside0.mk hb1; clear ho hb1 hg hat)))
          go_roundw
          case rel => exact ⟨i + 1, by have := HI.out; omega, rfl, HR4, HB4⟩
          case measure => have := HI.out; simp [intOf]; omega
    · obtain rfl : i = xs.length := by omega
      have d0 : decide ((xs.length : Int) < (xs.length : Int)) = false := by simp
      have HDr := Aside0.mk (HD1.out.below HB2.out)
      have k2 : wr.cell? ⟨d, 2, none⟩ = some (.bool off) := (blk_cell HDr.out.cells 2).trans rfl
      have z2 : wr.frozen? ⟨d, 2, none⟩ = false := blk_frozen HDr.out.cells 2
      have hcell : DBlk (wr.setCell ⟨d, 2, none⟩ (.bool true)) d m left true := by simpa using blk_set HDr.out.cells 2 (.bool true)
      have HC2 := Aside0.mk hcell
      clear hcell
      go_wp2
      go_ret2
      have hdl := HD1.out.lt.1
      refine ⟨u4, u5, xs, rfl, HN.out, ?_, ⟨HC2.out, HDr.out.map.setCell _ _⟩, ?_⟩
      · have h1 := HR2.out
        rw [List.take_of_length_le (Nat.le_refl _), List.take_of_length_le (by rw [crTs_len]; exact Nat.le_refl _)] at h1
        exact (h1.step (fun k hk _ => Below.heap_setCell wr ⟨d, 2, none⟩ _ k (by show k ≠ d; omega))).lower HW.out.size
      · exact Fr.setCell (S := fun k => k = d) (p := ⟨d, 2, none⟩) (Fr.of_below (below_step HW.out HB2.out) _) (.inl rfl) _
end Go.Proofs.Ytknljmljlgcfbaa.P
