/- By hand: the page's own disk: Crash. -/
import Derived.Test.YtknljmljlgcfbaaRef6
namespace Go.Proofs.Ytknljmljlgcfbaa.P
open Go.RowKit Go.Proofs.YtknljmljlgcfbaaW.PrintWords Go.Proofs.YtknljmljlgcfbaaW.PrintLast Go.Proofs.YtknljmljlgcfbaaW.PrintMore
open Go.Proofs.Ytknljmljlgcfbaa
attribute [local go_sem] max2_int min2_int max_two min_two max_three min_three max_four min_four
set_option linter.unusedSimpArgs false
set_option linter.unusedVariables false
def gcr (picks : List Int) : List DFile → Nat → List ByteArray
  | [], _ => []
  | f :: G, i => crT f i picks :: gcr picks G (i + 1)
theorem gcr_len (picks : List Int) : ∀ (G : List DFile) (i : Nat), (gcr picks G i).length = G.length
  | [], _ => rfl
  | f :: G, i => by simp [gcr, gcr_len picks G (i + 1)]
theorem gcr_at (picks : List Int) : ∀ (G : List DFile) (i j : Nat) (f : DFile), G[j]? = some f → (gcr picks G i)[j]? = some (crT f (i + j) picks)
  | g :: G, i, 0, f, h => by simp at h; subst h; simp [gcr]
  | g :: G, i, j + 1, f, h => by
    simp only [gcr, List.getElem?_cons_succ] at h ⊢
    rw [gcr_at picks G (i + 1) j f h]
    congr 2
    omega
set_option maxRecDepth 100000 in
set_option maxHeartbeats 16000000 in
theorem ref_Crash.calls (w : World) (d : Nat) (m : Nat → Prop) (r B : Nat) (v : Value) (G : List DFile) (A1 : Option Addr) (c1 : Nat) (picks : List Int) (h : RefAt w d m r B v G) (hG : ∀ f ∈ G, f.text.size ≤ 65536 ∧ 0 ≤ f.safe ∧ f.safe ≤ f.text.size) (h64 : G.length ≤ 64) (hp : Kd.C (Kd.int .i64) w A1 picks.length picks) (hc1 : picks.length ≤ c1) :
    Calls Try.prog 51 #[.pointer (some ⟨r, 0, none⟩), .slice A1 picks.length c1] w fun e w' => ∃ (v u : Value), e = .returned (.tuple #[v, u]) ∧ R2 w' w.heap.size v (G.map (·.name)) u (gcr picks G 0) ∧ Fr w w' (fun k => k = r) := by
  obtain ⟨A, c, ev, hc, hC⟩ := h.reads
  subst ev
  have HR := Aside0.mk h
  have HC := Aside0.mk hC
  have HG := Aside0.mk hG
  have H64 := Aside0.mk h64
  have HP := Aside0.mk hp
  obtain ⟨ns, hns⟩ : ∃ ns, ns = G.map (·.name) := ⟨_, rfl⟩
  obtain ⟨ts, hts⟩ : ∃ ts, ts = gcr picks G 0 := ⟨_, rfl⟩
  rw [← hns, ← hts]
  have HNS := Aside0.mk hns
  have HTS := Aside0.mk hts
  have HNL : Aside0 (ns.length = G.length) := ⟨by rw [hns]; simp⟩
  have HTL : Aside0 (ts.length = G.length) := ⟨by rw [hts, gcr_len]⟩
  have g0 : w.cell? ⟨r, 0, none⟩ = some (.slice A G.length c) := (blk_cell h.blk 0).trans rfl
  clear h hC hG h64 hp hns hts
  go_enter Try.func51, Try.ntmps51
  go_wp2
  go_loopw [8, 6, 7, 9, 10] (fun v8 v6 v7 _ _ w' => ∃ i : Nat, i ≤ G.length ∧ v8 = .int .i64 i ∧ Aside0 (R2 w' w.heap.size v6 (ns.take i) v7 (ts.take i)) ∧ Aside0 (Below w.heap.size w w')) (fun v8 _ _ _ _ _ => G.length - (intOf v8).toNat)
  case atStart => exact ⟨0, by omega, rfl, ⟨R2.none _ _⟩, ⟨Below.refl _ _⟩⟩
  case round =>
    obtain ⟨i, hi, rfl, HR2, HB2⟩ := hrel
    have g0 : wr.cell? ⟨r, 0, none⟩ = some (.slice A G.length c) := (blk_cell (HR.out.below HB2.out).blk 0).trans rfl
    have hx64 := H64.out
    by_cases hlt : i < G.length
    · have p0 : (0 : Int) ≤ (i : Int) := by omega
      have q0 : (i : Int) < (G.length : Int) := by omega
      have d0 : decide ((i : Int) < (G.length : Int)) = true := decide_eq_true q0
      obtain ⟨f, hf⟩ : ∃ f, G[i]? = some f := ⟨_, List.getElem?_eq_getElem hlt⟩
      obtain ⟨ad, e0, x0, x1, x2⟩ := at_N (Kd.C_below HC.out HB2.out) hlt hf
      subst e0
      have hft := HG.out f (List.mem_of_getElem? hf)
      have HXN : Aside0 (ns[i]? = some f.name) := ⟨by rw [HNS.out]; simp [hf]⟩
      have hxt : ts[i]? = some (crT f i picks) := by
        have := gcr_at picks G 0 i f hf
        rw [Nat.zero_add] at this
        rw [HTS.out]; exact this
      have HI := Aside0.mk hlt
      obtain ⟨more, hmore⟩ : ∃ q, q = crM i picks := ⟨_, rfl⟩
      have hm0 : 0 ≤ more := by rw [hmore]; unfold crM; split <;> (try unfold mx) <;> (try split) <;> omega
      obtain ⟨k, hk⟩ : ∃ k : Nat, (k : Int) = f.safe + mn more ((f.text.size : Int) - f.safe) := ⟨(f.safe + mn more ((f.text.size : Int) - f.safe)).toNat, by unfold mn; split <;> omega⟩
      have hkl : k ≤ f.text.size := by
        have : (k : Int) ≤ f.text.size := by rw [hk]; unfold mn; split <;> omega
        omega
      have hcr : crT f i picks = f.text.extract 0 k := by unfold crT; rw [← hmore, ← hk, Int.toNat_natCast]
      rw [hcr] at hxt
      have HTN := Aside0.mk hxt
      have q1 : IntKind.i64.wrap ((f.text.size : Int) - f.safe) = (f.text.size : Int) - f.safe := by rw [IntKind.wrap_i64]; omega
      have q2 : IntKind.i64.wrap ((i : Int) + 1) = ((i + 1 : Nat) : Int) := by rw [IntKind.wrap_i64]; omega
      have p1 : (0 : Int) ≤ (k : Int) := by omega
      have p2 : (k : Int) ≤ (f.text.size : Int) := by omega
      have q3 : ∀ z : Int, f.safe + z = (k : Int) → IntKind.i64.wrap (f.safe + z) = (k : Int) := fun z hz => by rw [hz, IntKind.wrap_i64]; omega
      have hmn0 : ¬ ((f.text.size : Int) - f.safe < 0) := by omega
      have hmn1 : decide ((f.text.size : Int) - f.safe < 0) = false := by simp; omega
      clear hcr hxt hf hx64
      by_cases hpk : i < picks.length
      · have d1 : decide ((i : Int) < (picks.length : Int)) = true := by simp; omega
        have q5 : (i : Int) < (picks.length : Int) := by omega
        obtain ⟨ap, e1, hy0⟩ := Kd.at_int (Kd.C_below HP.out (HB2.out.alloc HB2.out.size (.cells #[.string f.name, .string f.text, .int .i64 f.safe] 90))) (i : Int) p0 q5
        subst e1
        simp only [Int.toNat_natCast] at hy0
        rcases Int.lt_or_le 0 (rd picks (i : Int)) with hmx | hmx
        · have hx3 : decide (0 < rd picks (i : Int)) = true := by simp; omega
          have em : more = rd picks (i : Int) := by rw [hmore]; unfold crM; rw [if_pos hpk]; unfold mx; split <;> omega
          subst em
          clear hmore
          rcases Int.lt_or_le ((f.text.size : Int) - f.safe) (rd picks (i : Int)) with hmn | hmn
          · have mm2 : ¬ ((rd picks (i : Int)) ≤ (f.text.size : Int) - f.safe) := by omega
            have mm3 : decide ((f.text.size : Int) - f.safe < (rd picks (i : Int))) = true := by simp; omega
            have hq := q3 ((f.text.size : Int) - f.safe) (by rw [hk]; unfold mn; split <;> omega)
            clear q3 hk hft
            go_wp2_with (first | ((with_reducible refine gate_builtin (b := .append) (xs := #[.tmp 42, .tmp 45]) rfl ?_); at_builtin; (refine Kd.R_append Kd.string (w0 := w) w.heap.size rfl (.tmp 42) (.tmp 45) 22 9 (.string ⟨#[]⟩) 16 rfl Try.underlying22 info9 rfl (by decide) (by omega) u6 (ns.take i) f.name [.string f.name] (fun k => some k ≠ u7.ownBlock) (fun _ => False) rfl (by first | rfl | (rw [size_alloc']; rfl)) ?aP (fun _ hk => hk.elim) ?aF ?aO ?aB ?aS ?aL ?_); ((case aP => exact rfl)); ((case aO => exact (HR2.out.below (below_alloc (Below.refl _ _) _)).one)); ((case aF => exact (HR2.out.below (below_alloc (Below.refl _ _) (.cells #[.string f.name, .string f.text, .int .i64 f.safe] 90))).fresh)); ((case aB => exact HB2.out.alloc HB2.out.size _)); ((case aS => exact (HB2.out.alloc HB2.out.size _).size)); ((case aL => have := HI.out; have := H64.out; have := HNL.out; rw [List.length_take]; omega)); (intro v1 w2 ho hb1 hg hat; have HR3 := Aside0.mk ((HR2.out.below (below_alloc (Below.refl _ _) (.cells #[.string f.name, .string f.text, .int .i64 f.safe] 90))).grown (take_next HXN.out ▸ ho) hg hat); have HB3 := Aside0.mk hb1; have HG3 : Aside0 (FBk w2 wr.heap.size f) := ⟨blk_grown (heap_alloc_new wr _) hg (fun e => by have := Kd.R_lt HR2.out.one _ e.symm; omega)⟩; have y0 : w2.cell? ⟨wr.heap.size, 0, none⟩ = some (.string f.name) := (blk_cell HG3.out 0).trans rfl; have y1 : w2.cell? ⟨wr.heap.size, 1, none⟩ = some (.string f.text) := (blk_cell HG3.out 1).trans rfl; have y2 : w2.cell? ⟨wr.heap.size, 2, none⟩ = some (.int .i64 f.safe) := (blk_cell HG3.out 2).trans rfl; clear ho hb1 hg hat)) | ((with_reducible refine gate_builtin (b := .append) (xs := #[.tmp 47, .tmp 62]) rfl ?_); at_builtin; (refine Kd.R_append Kd.string (w0 := w) w.heap.size rfl (.tmp 47) (.tmp 62) 22 9 (.string ⟨#[]⟩) 16 rfl Try.underlying22 info9 rfl (by decide) (by omega) u7 (ts.take i) (f.text.extract 0 k) [.string (f.text.extract 0 k)] (fun k => some k ≠ v1.ownBlock) (fun _ => False) rfl (by first | rfl | (rw [size_alloc']; rfl)) ?aP (fun _ hk => hk.elim) ?aF ?aO ?aB ?aS ?aL ?_); ((case aP => exact rfl)); ((case aO => exact HR3.out.two)); ((case aF => exact HR3.out.swap.fresh)); ((case aB => exact HB3.out)); ((case aS => exact HB3.out.size)); ((case aL => have := HI.out; have := H64.out; have := HTL.out; rw [List.length_take]; omega)); (intro v2 w3 ho hb1 hg hat; have HR4 := Aside0.mk (HR3.out.swap.grown (take_next HTN.out ▸ ho) hg hat).swap; have HB4 := Aside0.mk hb1; clear ho hb1 hg hat)))
            go_roundw
            case rel => exact ⟨i + 1, by have := HI.out; omega, rfl, HR4, HB4⟩
            case measure => have := HI.out; simp [intOf]; omega
          · have mm2 : ¬ ((f.text.size : Int) - f.safe < (rd picks (i : Int))) := by omega
            have mm3 : decide ((f.text.size : Int) - f.safe < (rd picks (i : Int))) = false := by simp; omega
            have hq := q3 ((rd picks (i : Int))) (by rw [hk]; unfold mn; split <;> omega)
            clear q3 hk hft
            go_wp2_with (first | ((with_reducible refine gate_builtin (b := .append) (xs := #[.tmp 42, .tmp 45]) rfl ?_); at_builtin; (refine Kd.R_append Kd.string (w0 := w) w.heap.size rfl (.tmp 42) (.tmp 45) 22 9 (.string ⟨#[]⟩) 16 rfl Try.underlying22 info9 rfl (by decide) (by omega) u6 (ns.take i) f.name [.string f.name] (fun k => some k ≠ u7.ownBlock) (fun _ => False) rfl (by first | rfl | (rw [size_alloc']; rfl)) ?aP (fun _ hk => hk.elim) ?aF ?aO ?aB ?aS ?aL ?_); ((case aP => exact rfl)); ((case aO => exact (HR2.out.below (below_alloc (Below.refl _ _) _)).one)); ((case aF => exact (HR2.out.below (below_alloc (Below.refl _ _) (.cells #[.string f.name, .string f.text, .int .i64 f.safe] 90))).fresh)); ((case aB => exact HB2.out.alloc HB2.out.size _)); ((case aS => exact (HB2.out.alloc HB2.out.size _).size)); ((case aL => have := HI.out; have := H64.out; have := HNL.out; rw [List.length_take]; omega)); (intro v1 w2 ho hb1 hg hat; have HR3 := Aside0.mk ((HR2.out.below (below_alloc (Below.refl _ _) (.cells #[.string f.name, .string f.text, .int .i64 f.safe] 90))).grown (take_next HXN.out ▸ ho) hg hat); have HB3 := Aside0.mk hb1; have HG3 : Aside0 (FBk w2 wr.heap.size f) := ⟨blk_grown (heap_alloc_new wr _) hg (fun e => by have := Kd.R_lt HR2.out.one _ e.symm; omega)⟩; have y0 : w2.cell? ⟨wr.heap.size, 0, none⟩ = some (.string f.name) := (blk_cell HG3.out 0).trans rfl; have y1 : w2.cell? ⟨wr.heap.size, 1, none⟩ = some (.string f.text) := (blk_cell HG3.out 1).trans rfl; have y2 : w2.cell? ⟨wr.heap.size, 2, none⟩ = some (.int .i64 f.safe) := (blk_cell HG3.out 2).trans rfl; clear ho hb1 hg hat)) | ((with_reducible refine gate_builtin (b := .append) (xs := #[.tmp 47, .tmp 62]) rfl ?_); at_builtin; (refine Kd.R_append Kd.string (w0 := w) w.heap.size rfl (.tmp 47) (.tmp 62) 22 9 (.string ⟨#[]⟩) 16 rfl Try.underlying22 info9 rfl (by decide) (by omega) u7 (ts.take i) (f.text.extract 0 k) [.string (f.text.extract 0 k)] (fun k => some k ≠ v1.ownBlock) (fun _ => False) rfl (by first | rfl | (rw [size_alloc']; rfl)) ?aP (fun _ hk => hk.elim) ?aF ?aO ?aB ?aS ?aL ?_); ((case aP => exact rfl)); ((case aO => exact HR3.out.two)); ((case aF => exact HR3.out.swap.fresh)); ((case aB => exact HB3.out)); ((case aS => exact HB3.out.size)); ((case aL => have := HI.out; have := H64.out; have := HTL.out; rw [List.length_take]; omega)); (intro v2 w3 ho hb1 hg hat; have HR4 := Aside0.mk (HR3.out.swap.grown (take_next HTN.out ▸ ho) hg hat).swap; have HB4 := Aside0.mk hb1; clear ho hb1 hg hat)))
            go_roundw
            case rel => exact ⟨i + 1, by have := HI.out; omega, rfl, HR4, HB4⟩
            case measure => have := HI.out; simp [intOf]; omega
        · have hx3 : decide (0 < rd picks (i : Int)) = false := by simp; omega
          have hx1 : ¬ 0 < rd picks (i : Int) := by omega
          have em : more = 0 := by rw [hmore]; unfold crM; rw [if_pos hpk]; unfold mx; split <;> omega
          subst em
          clear hmore
          have hq := q3 (0) (by rw [hk]; unfold mn; split <;> omega)
          have hq2 : IntKind.i64.wrap f.safe = (k : Int) := by have h0 := hq; rwa [Int.add_zero] at h0
          clear q3 hk hft
          go_wp2_with (first | ((with_reducible refine gate_builtin (b := .append) (xs := #[.tmp 42, .tmp 45]) rfl ?_); at_builtin; (refine Kd.R_append Kd.string (w0 := w) w.heap.size rfl (.tmp 42) (.tmp 45) 22 9 (.string ⟨#[]⟩) 16 rfl Try.underlying22 info9 rfl (by decide) (by omega) u6 (ns.take i) f.name [.string f.name] (fun k => some k ≠ u7.ownBlock) (fun _ => False) rfl (by first | rfl | (rw [size_alloc']; rfl)) ?aP (fun _ hk => hk.elim) ?aF ?aO ?aB ?aS ?aL ?_); ((case aP => exact rfl)); ((case aO => exact (HR2.out.below (below_alloc (Below.refl _ _) _)).one)); ((case aF => exact (HR2.out.below (below_alloc (Below.refl _ _) (.cells #[.string f.name, .string f.text, .int .i64 f.safe] 90))).fresh)); ((case aB => exact HB2.out.alloc HB2.out.size _)); ((case aS => exact (HB2.out.alloc HB2.out.size _).size)); ((case aL => have := HI.out; have := H64.out; have := HNL.out; rw [List.length_take]; omega)); (intro v1 w2 ho hb1 hg hat; have HR3 := Aside0.mk ((HR2.out.below (below_alloc (Below.refl _ _) (.cells #[.string f.name, .string f.text, .int .i64 f.safe] 90))).grown (take_next HXN.out ▸ ho) hg hat); have HB3 := Aside0.mk hb1; have HG3 : Aside0 (FBk w2 wr.heap.size f) := ⟨blk_grown (heap_alloc_new wr _) hg (fun e => by have := Kd.R_lt HR2.out.one _ e.symm; omega)⟩; have y0 : w2.cell? ⟨wr.heap.size, 0, none⟩ = some (.string f.name) := (blk_cell HG3.out 0).trans rfl; have y1 : w2.cell? ⟨wr.heap.size, 1, none⟩ = some (.string f.text) := (blk_cell HG3.out 1).trans rfl; have y2 : w2.cell? ⟨wr.heap.size, 2, none⟩ = some (.int .i64 f.safe) := (blk_cell HG3.out 2).trans rfl; clear ho hb1 hg hat)) | ((with_reducible refine gate_builtin (b := .append) (xs := #[.tmp 47, .tmp 62]) rfl ?_); at_builtin; (refine Kd.R_append Kd.string (w0 := w) w.heap.size rfl (.tmp 47) (.tmp 62) 22 9 (.string ⟨#[]⟩) 16 rfl Try.underlying22 info9 rfl (by decide) (by omega) u7 (ts.take i) (f.text.extract 0 k) [.string (f.text.extract 0 k)] (fun k => some k ≠ v1.ownBlock) (fun _ => False) rfl (by first | rfl | (rw [size_alloc']; rfl)) ?aP (fun _ hk => hk.elim) ?aF ?aO ?aB ?aS ?aL ?_); ((case aP => exact rfl)); ((case aO => exact HR3.out.two)); ((case aF => exact HR3.out.swap.fresh)); ((case aB => exact HB3.out)); ((case aS => exact HB3.out.size)); ((case aL => have := HI.out; have := H64.out; have := HTL.out; rw [List.length_take]; omega)); (intro v2 w3 ho hb1 hg hat; have HR4 := Aside0.mk (HR3.out.swap.grown (take_next HTN.out ▸ ho) hg hat).swap; have HB4 := Aside0.mk hb1; clear ho hb1 hg hat)))
          go_roundw
          case rel => exact ⟨i + 1, by have := HI.out; omega, rfl, HR4, HB4⟩
          case measure => have := HI.out; simp [intOf]; omega
      · have d1 : decide ((i : Int) < (picks.length : Int)) = false := by simp; omega
        have em : more = 0 := by rw [hmore]; unfold crM; rw [if_neg hpk]
        subst em
        clear hmore
        have hq := q3 (0) (by rw [hk]; unfold mn; split <;> omega)
        have hq2 : IntKind.i64.wrap f.safe = (k : Int) := by have h0 := hq; rwa [Int.add_zero] at h0
        clear q3 hk hft
        go_wp2_with (first | ((with_reducible refine gate_builtin (b := .append) (xs := #[.tmp 42, .tmp 45]) rfl ?_); at_builtin; (refine Kd.R_append Kd.string (w0 := w) w.heap.size rfl (.tmp 42) (.tmp 45) 22 9 (.string ⟨#[]⟩) 16 rfl Try.underlying22 info9 rfl (by decide) (by omega) u6 (ns.take i) f.name [.string f.name] (fun k => some k ≠ u7.ownBlock) (fun _ => False) rfl (by first | rfl | (rw [size_alloc']; rfl)) ?aP (fun _ hk => hk.elim) ?aF ?aO ?aB ?aS ?aL ?_); ((case aP => exact rfl)); ((case aO => exact (HR2.out.below (below_alloc (Below.refl _ _) _)).one)); ((case aF => exact (HR2.out.below (below_alloc (Below.refl _ _) (.cells #[.string f.name, .string f.text, .int .i64 f.safe] 90))).fresh)); ((case aB => exact HB2.out.alloc HB2.out.size _)); ((case aS => exact (HB2.out.alloc HB2.out.size _).size)); ((case aL => have := HI.out; have := H64.out; have := HNL.out; rw [List.length_take]; omega)); (intro v1 w2 ho hb1 hg hat; have HR3 := Aside0.mk ((HR2.out.below (below_alloc (Below.refl _ _) (.cells #[.string f.name, .string f.text, .int .i64 f.safe] 90))).grown (take_next HXN.out ▸ ho) hg hat); have HB3 := Aside0.mk hb1; have HG3 : Aside0 (FBk w2 wr.heap.size f) := ⟨blk_grown (heap_alloc_new wr _) hg (fun e => by have := Kd.R_lt HR2.out.one _ e.symm; omega)⟩; have y0 : w2.cell? ⟨wr.heap.size, 0, none⟩ = some (.string f.name) := (blk_cell HG3.out 0).trans rfl; have y1 : w2.cell? ⟨wr.heap.size, 1, none⟩ = some (.string f.text) := (blk_cell HG3.out 1).trans rfl; have y2 : w2.cell? ⟨wr.heap.size, 2, none⟩ = some (.int .i64 f.safe) := (blk_cell HG3.out 2).trans rfl; clear ho hb1 hg hat)) | ((with_reducible refine gate_builtin (b := .append) (xs := #[.tmp 47, .tmp 62]) rfl ?_); at_builtin; (refine Kd.R_append Kd.string (w0 := w) w.heap.size rfl (.tmp 47) (.tmp 62) 22 9 (.string ⟨#[]⟩) 16 rfl Try.underlying22 info9 rfl (by decide) (by omega) u7 (ts.take i) (f.text.extract 0 k) [.string (f.text.extract 0 k)] (fun k => some k ≠ v1.ownBlock) (fun _ => False) rfl (by first | rfl | (rw [size_alloc']; rfl)) ?aP (fun _ hk => hk.elim) ?aF ?aO ?aB ?aS ?aL ?_); ((case aP => exact rfl)); ((case aO => exact HR3.out.two)); ((case aF => exact HR3.out.swap.fresh)); ((case aB => exact HB3.out)); ((case aS => exact HB3.out.size)); ((case aL => have := HI.out; have := H64.out; have := HTL.out; rw [List.length_take]; omega)); (intro v2 w3 ho hb1 hg hat; have HR4 := Aside0.mk (HR3.out.swap.grown (take_next HTN.out ▸ ho) hg hat).swap; have HB4 := Aside0.mk hb1; clear ho hb1 hg hat)))
        go_roundw
        case rel => exact ⟨i + 1, by have := HI.out; omega, rfl, HR4, HB4⟩
        case measure => have := HI.out; simp [intOf]; omega
    · obtain rfl : i = G.length := by omega
      have d0 : decide ((G.length : Int) < (G.length : Int)) = false := by simp
      have hbk := (HR.out.below HB2.out).blk
      have k2 : wr.cell? ⟨r, 3, none⟩ = some (.bool false) := (blk_cell hbk 3).trans rfl
      have z2 : wr.frozen? ⟨r, 3, none⟩ = false := blk_frozen hbk 3
      clear hbk
      go_wp2
      go_ret2
      have hlt := HR.out.lt
      refine ⟨u6, u7, rfl, ?_, ?_⟩
      · have h1 := HR2.out
        rw [List.take_of_length_le (Nat.le_of_eq HNL.out), List.take_of_length_le (Nat.le_of_eq HTL.out)] at h1
        exact h1.step (fun k hk _ => Below.heap_setCell wr ⟨r, 3, none⟩ _ k (by show k ≠ r; omega))
      · exact Fr.setCell (S := fun k => k = r) (p := ⟨r, 3, none⟩) (Fr.of_below HB2.out _) (.inl rfl) _
end Go.Proofs.Ytknljmljlgcfbaa.P
