/- By hand: the page's own disk: a file taken away. -/
import Derived.Test.YtknljmljlgcfbaaRef2
namespace Go.Proofs.Ytknljmljlgcfbaa.P
open Go.RowKit Go.Proofs.YtknljmljlgcfbaaW.PrintWords Go.Proofs.YtknljmljlgcfbaaW.PrintLast Go.Proofs.YtknljmljlgcfbaaW.PrintMore
open Go.Proofs.Ytknljmljlgcfbaa
set_option linter.unusedSimpArgs false
set_option linter.unusedVariables false
set_option maxRecDepth 100000 in
set_option maxHeartbeats 8000000 in
theorem ref_del.calls (w : World) (d : Nat) (m : Nat → Prop) (r B : Nat) (v : Value) (G : List DFile) (i : Nat) (h : RefAt w d m r B v G) (hi : i < G.length) (hl : G.length ≤ 1000000) :
    Calls Try.prog 62 #[.pointer (some ⟨r, 0, none⟩), .int .i64 i] w fun e w' => e = .returned (.tuple #[]) ∧ (∃ v', RefAt w' d m r B v' (G.eraseIdx i)) ∧ Fr w w' (RS d m B) := by
  obtain ⟨A, c, ev, hc, hC⟩ := h.reads
  subst ev
  obtain ⟨ad, eA, _⟩ := hC.2.2 (by omega)
  subst eA
  have HR := Aside0.mk h
  have HC := Aside0.mk hC
  have HL := Aside0.mk hl
  have HE : Aside0 (G.eraseIdx i = G.take i ++ G.drop (i + 1)) := ⟨List.eraseIdx_eq_take_drop_succ _ _⟩
  have HI := Aside0.mk (show i ≤ G.length by omega)
  have HI1 := Aside0.mk (show i + 1 ≤ G.length by omega)
  have HCap := Aside0.mk hc
  have w1_ : IntKind.i64.wrap ((i : Int) + 1) = ((i + 1 : Nat) : Int) := by rw [IntKind.wrap_i64]; omega
  have g0 : ∀ o, (w.alloc o).cell? ⟨r, 0, none⟩ = some (.slice (some ad) G.length c) := fun o => (blk_cell (h.below (below_alloc (Below.refl _ w) o)).blk 0).trans rfl
  have HO0 := Aside0.mk (new_nil (W := w.alloc (.cells #[] 90)) (w := w) (Nat.le_refl _) (heap_alloc_new w _))
  have HB0 := Aside0.mk (below_alloc (Below.refl _ w) (.cells #[] 90))
  have p1 : (i : Int) ≤ (c : Int) := by omega
  have p2 : ((i + 1 : Nat) : Int) ≤ (G.length : Int) := by omega
  have p3 : i ≤ c := by omega
  have p4 : i + 1 ≤ G.length := by omega
  clear h hC hl
  by_cases hci : c = i + 1
  · have hG : G.length = i + 1 := by omega
    have HD : Aside0 (G.drop (i + 1) = []) := ⟨List.drop_eq_nil_of_le (by omega)⟩
    go_enter Try.func62, Try.ntmps62
    go_wp2_with (first
      | ((with_reducible refine gate_builtin (b := .append) (xs := #[.tmp 5, .tmp 11]) rfl ?_); at_builtin; (refine Kd.R_append_rows kF (w0 := w) w.heap.size rfl (.tmp 5) (.tmp 11) 85 90 _ 40 rfl undF infoF rfl kF_pos1 kF_pos2 (.slice (some ⟨w.heap.size, 0, none⟩) 0 0) [] (G.take i) _ _ _ (fun _ => True) (fun _ => False) rfl rfl (HO0.out) (Kd.C_below (C_front HC.out HI.out) (below_alloc (Below.refl _ w) _)) (kF_KM _ _ _ _) (fun _ h => h.elim) (fun _ _ => trivial) (HB0.out) (HB0.out).size (by have := HL.out; have := HI1.out; first | omega | (simp; done) | (simp; omega)) ?_); (intro v1 Y1 ho hb hg hat; have HO1 := Aside0.mk ho; have HB1 := Aside0.mk hb; have g1 : Y1.cell? ⟨r, 0, none⟩ = some (.slice (some ad) G.length c) := (blk_cell (HR.out.below hb).blk 0).trans rfl; clear ho hb hg hat))
      | ((with_reducible refine gate_builtin (b := .append) (xs := #[.tmp 14, .tmp 21]) rfl ?_); at_builtin; (refine Kd.R_append_rows kF (w0 := w) w.heap.size rfl (.tmp 14) (.tmp 21) 85 90 _ 40 rfl undF infoF rfl kF_pos1 kF_pos2 v1 (G.take i) [] _ _ _ (fun _ => True) (fun _ => False) rfl rfl (HO1.out) (C_zero _ _) (kF_KM _ _ _ _) (fun _ h => h.elim) (fun _ _ => trivial) (HB1.out) (HB1.out).size (by have := HL.out; have := HI1.out; first | omega | (simp; done) | (simp; omega)) ?_); (intro v2 Y2 ho hb hg hat; obtain ⟨A3, c3, e3, _, _⟩ := Kd.R_reads ho; obtain ⟨L3, hL3⟩ : ∃ q : Nat, q = (G.take i ++ []).length := ⟨_, rfl⟩; rw [← hL3] at e3; subst e3; clear hL3; have g3 : Y2.cell? ⟨r, 0, none⟩ = some (.slice (some ad) G.length c) := (blk_cell (HR.out.below hb).blk 0).trans rfl; have z3 : Y2.frozen? ⟨r, 0, none⟩ = false := blk_frozen (HR.out.below hb).blk 0; have HO2 := Aside0.mk ho; have HB2 := Aside0.mk hb;  clear ho hb hg hat)))
    (first | go_end0 | ((try simp only [Exit.inBlock, Exit.then]); refine bodyPost_ret (results_none rfl _ _ _) rfl ?_))
    have := HR.out.put HB2.out HO2.out
    exact ⟨rfl, ⟨_, by rw [HE.out]; rw [HD.out]; exact this.1⟩, this.2⟩
  · go_enter Try.func62, Try.ntmps62
    go_wp2_with (first
      | ((with_reducible refine gate_builtin (b := .append) (xs := #[.tmp 5, .tmp 11]) rfl ?_); at_builtin; (refine Kd.R_append_rows kF (w0 := w) w.heap.size rfl (.tmp 5) (.tmp 11) 85 90 _ 40 rfl undF infoF rfl kF_pos1 kF_pos2 (.slice (some ⟨w.heap.size, 0, none⟩) 0 0) [] (G.take i) _ _ _ (fun _ => True) (fun _ => False) rfl rfl (HO0.out) (Kd.C_below (C_front HC.out HI.out) (below_alloc (Below.refl _ w) _)) (kF_KM _ _ _ _) (fun _ h => h.elim) (fun _ _ => trivial) (HB0.out) (HB0.out).size (by have := HL.out; have := HI1.out; first | omega | (simp; done) | (simp; omega)) ?_); (intro v1 Y1 ho hb hg hat; have HO1 := Aside0.mk ho; have HB1 := Aside0.mk hb; have g1 : Y1.cell? ⟨r, 0, none⟩ = some (.slice (some ad) G.length c) := (blk_cell (HR.out.below hb).blk 0).trans rfl; clear ho hb hg hat))
      | ((with_reducible refine gate_builtin (b := .append) (xs := #[.tmp 14, .tmp 21]) rfl ?_); at_builtin; (refine Kd.R_append_rows kF (w0 := w) w.heap.size rfl (.tmp 14) (.tmp 21) 85 90 _ 40 rfl undF infoF rfl kF_pos1 kF_pos2 v1 (G.take i) (G.drop (i + 1)) _ _ _ (fun _ => True) (fun _ => False) rfl rfl (HO1.out) (Kd.C_below (C_back_some HC.out HI1.out HCap.out hci) HB1.out) (kF_KM _ _ _ _) (fun _ h => h.elim) (fun _ _ => trivial) (HB1.out) (HB1.out).size (by have := HL.out; have := HI1.out; first | omega | (simp; done) | (simp; omega)) ?_); (intro v2 Y2 ho hb hg hat; obtain ⟨A3, c3, e3, _, _⟩ := Kd.R_reads ho; obtain ⟨L3, hL3⟩ : ∃ q : Nat, q = (G.take i ++ (G.drop (i + 1))).length := ⟨_, rfl⟩; rw [← hL3] at e3; subst e3; clear hL3; have g3 : Y2.cell? ⟨r, 0, none⟩ = some (.slice (some ad) G.length c) := (blk_cell (HR.out.below hb).blk 0).trans rfl; have z3 : Y2.frozen? ⟨r, 0, none⟩ = false := blk_frozen (HR.out.below hb).blk 0; have HO2 := Aside0.mk ho; have HB2 := Aside0.mk hb;  clear ho hb hg hat)))
    (first | go_end0 | ((try simp only [Exit.inBlock, Exit.then]); refine bodyPost_ret (results_none rfl _ _ _) rfl ?_))
    have := HR.out.put HB2.out HO2.out
    exact ⟨rfl, ⟨_, by rw [HE.out];  exact this.1⟩, this.2⟩
def gdel (G : List DFile) (n : ByteArray) : List DFile × Int := match ixG G n with | none => (G, 3) | some i => (G.eraseIdx i, 0)
theorem ixG_lt : ∀ {G : List DFile} {n : ByteArray} {i : Nat}, ixG G n = some i → ∃ f, G[i]? = some f ∧ f.name = n
  | [], _, _, h => by cases h
  | f :: G, n, i, h => by
    unfold ixG at h
    by_cases e : f.name = n
    · rw [if_pos e] at h; injection h with h; subst h; exact ⟨f, rfl, e⟩
    · rw [if_neg e] at h
      cases e2 : ixG G n with
      | none => rw [e2] at h; cases h
      | some j =>
        rw [e2] at h; injection h with h; subst h
        obtain ⟨g, h1, h2⟩ := ixG_lt e2
        exact ⟨g, by simpa using h1, h2⟩
set_option maxRecDepth 100000 in
set_option maxHeartbeats 8000000 in
theorem ref_Del.calls (w : World) (d : Nat) (m : Nat → Prop) (r B : Nat) (v : Value) (G : List DFile) (n : ByteArray) (h : RefAt w d m r B v G) (hl : G.length ≤ 1000000) :
    Calls Try.prog 48 #[.pointer (some ⟨r, 0, none⟩), .string n] w fun e w' => e = .returned (.int .i64 (gdel G n).2) ∧ (∃ v', RefAt w' d m r B v' (gdel G n).1) ∧ Fr w w' (RS d m B) := by
  obtain ⟨A, c, ev, hc, hC⟩ := h.reads
  subst ev
  have HR := Aside0.mk h
  have HC := Aside0.mk hC
  have HL := Aside0.mk hl
  clear h hC hl hc
  unfold gdel
  cases e : ixG G n with
  | none =>
    have HN := Aside0.mk (show ixI (ixG G n) = -1 by rw [e]; rfl)
    clear e
    go_enter Try.func48, Try.ntmps48
    go_wp2_with (first
      | (go_at_call 60; ((with_reducible refine (ref_counts.calls _ r _ HR.out.blk).mono ?_); rintro _ _ ⟨rfl, ⟨n1, rfl⟩⟩; have HB1 := Aside0.mk (pw_below_drewN (Below.refl w.heap.size w) n1)))
      | (go_at_call 59; ((with_reducible refine (ref_find.calls _ r _ _ G n (HR.out.below HB1.out).blk (Kd.C_below HC.out HB1.out) (Nat.le_trans HL.out (by decide))).mono ?_); rw [HN.out]; rintro _ _ ⟨rfl, ⟨n2, rfl⟩⟩; have HB2 := Aside0.mk (pw_below_drewN (Below.refl w.heap.size w) (n1 + n2)))))
    go_ret
    exact ⟨rfl, ⟨_, HR.out.below HB2.out⟩, Fr.of_below HB2.out _⟩
  | some i =>
    obtain ⟨f, hf, hn⟩ := ixG_lt e
    have hlt := (List.getElem?_eq_some_iff.1 hf).1
    have HN := Aside0.mk (show ixI (ixG G n) = i by rw [e]; rfl)
    have HLT := Aside0.mk hlt
    have k0 : decide ((i : Int) < 0) = false := by simp
    clear e hf hlt
    go_enter Try.func48, Try.ntmps48
    go_wp2_with (first
      | (go_at_call 60; ((with_reducible refine (ref_counts.calls _ r _ HR.out.blk).mono ?_); rintro _ _ ⟨rfl, ⟨n1, rfl⟩⟩; have HB1 := Aside0.mk (pw_below_drewN (Below.refl w.heap.size w) n1)))
      | (go_at_call 59; ((with_reducible refine (ref_find.calls _ r _ _ G n (HR.out.below HB1.out).blk (Kd.C_below HC.out HB1.out) (Nat.le_trans HL.out (by decide))).mono ?_); rw [HN.out]; rintro _ _ ⟨rfl, ⟨n2, rfl⟩⟩; have HB2 := Aside0.mk (pw_below_drewN (Below.refl w.heap.size w) (n1 + n2))))
      | (go_at_call 62; ((with_reducible refine (ref_del.calls _ d m r B _ G i (HR.out.below HB2.out) HLT.out HL.out).mono ?_); rintro _ w3 ⟨rfl, ⟨v3, hr3⟩, hf3⟩; have HR3 := Aside0.mk hr3; have HF3 := Aside0.mk hf3; clear hr3 hf3)))
    go_ret
    exact ⟨rfl, ⟨_, HR3.out⟩, (Fr.of_below HB2.out _).trans HF3.out (fun k hk => .inl hk)⟩
end Go.Proofs.Ytknljmljlgcfbaa.P
