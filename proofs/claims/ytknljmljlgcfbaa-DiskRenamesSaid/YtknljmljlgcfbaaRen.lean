/- By hand: the page's own disk: Rename; it is the disk's. -/
import Derived.Test.YtknljmljlgcfbaaRel
namespace Go.Proofs.Ytknljmljlgcfbaa.P
open Go.RowKit Go.Proofs.YtknljmljlgcfbaaW.PrintWords Go.Proofs.YtknljmljlgcfbaaW.PrintLast Go.Proofs.YtknljmljlgcfbaaW.PrintMore
open Go.Proofs.Ytknljmljlgcfbaa
set_option linter.unusedSimpArgs false
set_option linter.unusedVariables false
def gren2 (G : List DFile) (t : ByteArray) : List DFile := match ixG G t with | none => G | some k => G.eraseIdx k
def gren (G : List DFile) (n t : ByteArray) : List DFile × Int := match ixG G n with
  | none => (G, 3)
  | some i => if namedD t = false then (G, 1) else if (rdF G (i : Int)).safe < ((rdF G (i : Int)).text.size : Int) then (G, 6) else (gput (gren2 (G.eraseIdx i) t) ⟨t, (rdF G (i : Int)).text, (rdF G (i : Int)).safe⟩, 0)
theorem RefAt.less' {w : World} {d : Nat} {m m' : Nat → Prop} {r B : Nat} {v : Value} {G : List DFile} (h : RefAt w d m r B v G) (hm : ∀ k, m' k → m k) : RefAt w d m' r B v G :=
  ⟨h.blk, Kd.R_mono h.row (fun k hk => ⟨hk.1, hk.2.1, fun e => hk.2.2 (hm k e)⟩), h.base, h.r0, h.ltd, fun k hk => h.ltm k (hm k hk), h.nd, fun e => h.nm (hm r e)⟩
abbrev MB (m : Nat → Prop) (gb : Nat) (k : Nat) : Prop := m k ∨ k = gb
theorem RefAt.boxed {w : World} {d : Nat} {m : Nat → Prop} {r B : Nat} {v : Value} {G : List DFile} (h : RefAt w d m r B v G) (o : Obj) : RefAt (w.alloc o) d (MB m w.heap.size) r B v G := by
  have h1 := h.below (below_alloc (Below.refl _ w) o)
  refine h1.more ?_ ?_ ?_
  · intro k hk
    rw [size_alloc']
    rcases hk with hk | hk
    · have := h.ltm k hk; omega
    · omega
  · intro e
    rcases e with e | e
    · exact h.nm e
    · have := h.lt; omega
  · intro k hk e
    have hlt := Kd.R_lt h.row k e.symm
    rcases hk with hk | hk
    · exact (h.row.1 k e.symm).2.2 hk
    · omega
set_option maxRecDepth 100000 in
set_option maxHeartbeats 16000000 in
theorem ref_Rename.calls (w : World) (d : Nat) (m : Nat → Prop) (r B : Nat) (v : Value) (G : List DFile) (n t : ByteArray) (h : RefAt w d m r B v G) (hl : G.length ≤ 1000000) (ht : t.size ≤ 4000000000000000000) :
    Calls Try.prog 47 #[.pointer (some ⟨r, 0, none⟩), .string n, .string t] w fun e w' => e = .returned (.int .i64 (gren G n t).2) ∧ (∃ v', RefAt w' d m r B v' (gren G n t).1) ∧ Fr w w' (RS d m B) := by
  obtain ⟨A, c, ev, hc, hC⟩ := h.reads
  have HR := Aside0.mk h
  have HC := Aside0.mk hC
  have HL := Aside0.mk hl
  have NAMEF := Aside0.mk (fun W : World => refName.named t ht W)
  unfold gren
  cases e : ixG G n with
  | none =>
    subst ev
    have HN := Aside0.mk (show ixI (ixG G n) = -1 by rw [e]; rfl)
    clear e h hC hl hc ht
    go_enter Try.func47, Try.ntmps47
    go_wp2_with (first
      | (go_at_call 60; ((with_reducible refine (ref_counts.calls _ r _ HR.out.blk).mono ?_); rintro _ _ ⟨rfl, ⟨n1, rfl⟩⟩; have HB1 := Aside0.mk (pw_below_drewN (Below.refl w.heap.size w) n1)))
      | (go_at_call 59; ((with_reducible refine (ref_find.calls _ r _ _ G _ (HR.out.below HB1.out).blk (Kd.C_below HC.out HB1.out) (Nat.le_trans HL.out (by decide))).mono ?_); rw [HN.out]; rintro _ _ ⟨rfl, ⟨n2, rfl⟩⟩; have HB2 := Aside0.mk (pw_below_drewN (Below.refl w.heap.size w) (n1 + n2)))))
    go_ret
    exact ⟨rfl, ⟨_, HR.out.below HB2.out⟩, Fr.of_below HB2.out _⟩
  | some i =>
    obtain ⟨f, hf, hn⟩ := ixG_lt e
    obtain ⟨g, c', eg, hblk, _, _, _, _, _, _⟩ := h.at_ hf
    rw [ev] at eg
    injection eg with eA _ ec
    subst ec
    subst eA
    subst ev
    subst hn
    have HN := Aside0.mk (show ixI (ixG G f.name) = i by rw [e]; rfl)
    have hlt := (List.getElem?_eq_some_iff.1 hf).1
    have HLT := Aside0.mk hlt
    have HF := Aside0.mk hf
    have k0 : decide ((i : Int) < 0) = false := by simp
    have k1 : (i : Int) < (G.length : Int) := by omega
    have ef : rdF G (i : Int) = f := rdF_at hf
    obtain ⟨Z, hZ⟩ : ∃ Z, Z = if namedD t = false then (G, (1 : Int)) else if f.safe < (f.text.size : Int) then (G, 6) else (gput (gren2 (G.eraseIdx i) t) ⟨t, f.text, f.safe⟩, 0) := ⟨_, rfl⟩
    show Calls _ _ _ _ fun e w' => e = .returned (.int .i64 (if namedD t = false then (G, (1 : Int)) else if (rdF G (i : Int)).safe < ((rdF G (i : Int)).text.size : Int) then (G, 6) else (gput (gren2 (G.eraseIdx i) t) ⟨t, (rdF G (i : Int)).text, (rdF G (i : Int)).safe⟩, 0)).2) ∧ (∃ v', RefAt w' d m r B v' (if namedD t = false then (G, (1 : Int)) else if (rdF G (i : Int)).safe < ((rdF G (i : Int)).text.size : Int) then (G, 6) else (gput (gren2 (G.eraseIdx i) t) ⟨t, (rdF G (i : Int)).text, (rdF G (i : Int)).safe⟩, 0)).1) ∧ Fr w w' (RS d m B)
    rw [ef, ← hZ]
    have HZ := Aside0.mk hZ
    clear e hf hlt hC hl hc h hblk ef hZ ht
    have hx : ∀ W, Below w.heap.size w W → W.cell? ⟨r, 0, none⟩ = some (.slice (some ⟨g, 0, none⟩) G.length c) ∧ W.cell? ⟨g, i * 3, none⟩ = some (.string f.name) ∧ W.cell? ⟨g, i * 3 + 1, none⟩ = some (.string f.text) ∧ W.cell? ⟨g, i * 3 + 2, none⟩ = some (.int .i64 f.safe) := fun W hW => by
      obtain ⟨g', c2, eg, hblk, x0, x1, x2, z, _, _⟩ := (HR.out.below hW).at_ HF.out
      injection eg with eA _ ec
      injection eA with eA
      injection eA with eA
      subst eA; subst ec
      exact ⟨(blk_cell hblk 0).trans rfl, x0, x1, x2⟩
    have HX := Aside0.mk hx
    clear hx
    cases hnm : namedD t with
    | false =>
      rw [hnm] at NAMEF
      have HZ2 : Aside0 (Z = (G, 1)) := ⟨by rw [HZ.out, if_pos hnm]⟩
      clear hnm
      go_enter Try.func47, Try.ntmps47
      go_wp2_with (first
        | (go_at_call 60; ((with_reducible refine (ref_counts.calls _ r _ HR.out.blk).mono ?_); rintro _ _ ⟨rfl, ⟨n1, rfl⟩⟩; have HB1 := Aside0.mk (pw_below_drewN (Below.refl w.heap.size w) n1)))
        | (go_at_call 59; ((with_reducible refine (ref_find.calls _ r _ _ G _ (HR.out.below HB1.out).blk (Kd.C_below HC.out HB1.out) (Nat.le_trans HL.out (by decide))).mono ?_); rw [HN.out]; rintro _ _ ⟨rfl, ⟨n2, rfl⟩⟩; have HB2 := Aside0.mk (pw_below_drewN (Below.refl w.heap.size w) (n1 + n2))))
        | (go_at_call 56; ((with_reducible refine (NAMEF.out _).mono ?_); rintro _ W3 ⟨rfl, ⟨n3, hw3⟩⟩; have HB3 := Aside0.mk (show Below w.heap.size w W3 by rw [hw3]; exact pw_below_drewN (pw_below_drewN (Below.refl w.heap.size w) _) n3); clear hw3; obtain ⟨g0, x0, x1, x2⟩ := HX.out _ HB3.out)))
      go_ret
      exact ⟨by rw [HZ2.out]; rfl, ⟨_, by rw [HZ2.out]; exact HR.out.below HB3.out⟩, Fr.of_below HB3.out _⟩
    | true =>
      rw [hnm] at NAMEF
      have tf : ¬ namedD t = false := by rw [hnm]; decide
      by_cases hsf : f.safe < (f.text.size : Int)
      · have HZ2 : Aside0 (Z = (G, 6)) := ⟨by rw [HZ.out, if_neg tf, if_pos hsf]⟩
        have d1 : decide (f.safe < (f.text.size : Int)) = true := decide_eq_true hsf
        clear hnm tf
        go_enter Try.func47, Try.ntmps47
        go_wp2_with (first
          | (go_at_call 60; ((with_reducible refine (ref_counts.calls _ r _ HR.out.blk).mono ?_); rintro _ _ ⟨rfl, ⟨n1, rfl⟩⟩; have HB1 := Aside0.mk (pw_below_drewN (Below.refl w.heap.size w) n1)))
          | (go_at_call 59; ((with_reducible refine (ref_find.calls _ r _ _ G _ (HR.out.below HB1.out).blk (Kd.C_below HC.out HB1.out) (Nat.le_trans HL.out (by decide))).mono ?_); rw [HN.out]; rintro _ _ ⟨rfl, ⟨n2, rfl⟩⟩; have HB2 := Aside0.mk (pw_below_drewN (Below.refl w.heap.size w) (n1 + n2))))
          | (go_at_call 56; ((with_reducible refine (NAMEF.out _).mono ?_); rintro _ W3 ⟨rfl, ⟨n3, hw3⟩⟩; have HB3 := Aside0.mk (show Below w.heap.size w W3 by rw [hw3]; exact pw_below_drewN (pw_below_drewN (Below.refl w.heap.size w) _) n3); clear hw3; obtain ⟨g0, x0, x1, x2⟩ := HX.out _ HB3.out)))
        go_ret
        exact ⟨by rw [HZ2.out]; rfl, ⟨_, by rw [HZ2.out]; exact (HR.out.below HB3.out).below (below_alloc (Below.refl _ _) _)⟩, (Fr.of_below HB3.out _).alloc _⟩
      · have HZ2 : Aside0 (Z = (gput (gren2 (G.eraseIdx i) t) ⟨t, f.text, f.safe⟩, 0)) := ⟨by rw [HZ.out, if_neg tf, if_neg hsf]⟩
        have d1 : decide (f.safe < (f.text.size : Int)) = false := decide_eq_false hsf
        have HL1 : Aside0 ((G.eraseIdx i).length ≤ 1000000) := ⟨Nat.le_trans (List.eraseIdx_sublist G i).length_le HL.out⟩
        clear hnm tf
        cases e2 : ixG (G.eraseIdx i) t with
        | none =>
          have HN2 := Aside0.mk (show ixI (ixG (G.eraseIdx i) t) = -1 by rw [e2]; rfl)
          have HG2 : Aside0 (gren2 (G.eraseIdx i) t = G.eraseIdx i) := ⟨by unfold gren2; rw [e2]⟩
          clear e2
          go_enter Try.func47, Try.ntmps47
          go_wp2_with (first
            | (go_at_call 60; ((with_reducible refine (ref_counts.calls _ r _ HR.out.blk).mono ?_); rintro _ _ ⟨rfl, ⟨n1, rfl⟩⟩; have HB1 := Aside0.mk (pw_below_drewN (Below.refl w.heap.size w) n1)))
            | (go_at_call 59; ((refine (ref_find.calls _ r _ _ (G.eraseIdx i) t HR4.out.blk HC4.out (Nat.le_trans HL1.out (by decide))).mono ?_); rw [HN2.out]; rintro _ _ ⟨rfl, ⟨n4, rfl⟩⟩; have hg5 : FBk (w4.drewN n4) W3.heap.size f := HG4.out; have y0 : (w4.drewN n4).cell? ⟨W3.heap.size, 0, none⟩ = some (.string f.name) := (blk_cell hg5 0).trans rfl; have z0 : (w4.drewN n4).frozen? ⟨W3.heap.size, 0, none⟩ = false := blk_frozen hg5 0; have hst : FBk ((w4.drewN n4).setCell ⟨W3.heap.size, 0, none⟩ (.string t)) W3.heap.size ⟨t, f.text, f.safe⟩ := blk_put hg5 0 (.string t) rfl; have s0 : ((w4.drewN n4).setCell ⟨W3.heap.size, 0, none⟩ (.string t)).cell? ⟨W3.heap.size, 0, none⟩ = some (.string t) := (blk_cell hst 0).trans rfl; have s1 : ((w4.drewN n4).setCell ⟨W3.heap.size, 0, none⟩ (.string t)).cell? ⟨W3.heap.size, 1, none⟩ = some (.string f.text) := (blk_cell hst 1).trans rfl; have s2 : ((w4.drewN n4).setCell ⟨W3.heap.size, 0, none⟩ (.string t)).cell? ⟨W3.heap.size, 2, none⟩ = some (.int .i64 f.safe) := (blk_cell hst 2).trans rfl; have HR5 := Aside0.mk ((HR4.out.below (pw_below_drewN (Below.refl _ w4) n4)).fr ((Fr.refl _ (fun k => k = W3.heap.size)).setCell (p := ⟨W3.heap.size, 0, none⟩) (.inl rfl) (.string t)) (fun k hk => .inr (.inr hk))); have HF5 := Aside0.mk ((HF4.out.drewN n4).setCell (p := ⟨W3.heap.size, 0, none⟩) (.inr HB3.out.size) (.string t)); clear hg5 hst))
            | (go_at_call 59; ((with_reducible refine (ref_find.calls _ r _ _ G _ (HR.out.below HB1.out).blk (Kd.C_below HC.out HB1.out) (Nat.le_trans HL.out (by decide))).mono ?_); rw [HN.out]; rintro _ _ ⟨rfl, ⟨n2, rfl⟩⟩; have HB2 := Aside0.mk (pw_below_drewN (Below.refl w.heap.size w) (n1 + n2))))
            | (go_at_call 56; ((with_reducible refine (NAMEF.out _).mono ?_); rintro _ W3 ⟨rfl, ⟨n3, hw3⟩⟩; have HB3 := Aside0.mk (show Below w.heap.size w W3 by rw [hw3]; exact pw_below_drewN (pw_below_drewN (Below.refl w.heap.size w) _) n3); clear hw3; obtain ⟨g0, x0, x1, x2⟩ := HX.out _ HB3.out))
            | (go_at_call 62; ((refine (ref_del.calls _ d (MB m W3.heap.size) r B _ G i ((HR.out.below HB3.out).boxed (.cells #[.string f.name, .string f.text, .int .i64 f.safe] 90)) HLT.out HL.out).mono ?_); rintro _ w4 ⟨rfl, ⟨v4, hr⟩, hf⟩; have HF4 := Aside0.mk (((Fr.of_below HB3.out (RS d m B)).alloc (.cells #[.string f.name, .string f.text, .int .i64 f.safe] 90)).trans hf (fun k hk => .inl ⟨hk.1, hk.2.1, fun e => hk.2.2 (.inl e)⟩)); have HG4 : Aside0 (FBk w4 W3.heap.size f) := ⟨hf.block (heap_alloc_new _ _) (fun e => e.2.2 (.inr rfl))⟩; have HR4 := Aside0.mk hr; obtain ⟨A4, c4, e4, _, hC4⟩ := hr.reads; have HC4 := Aside0.mk hC4; subst e4; clear hr hf hC4))
            | (go_at_call 58; ((refine (ref_put.calls _ d (MB m W3.heap.size) r B _ (G.eraseIdx i) ⟨t, f.text, f.safe⟩ HR5.out HL1.out).mono ?_); rintro _ w6 ⟨rfl, ⟨v6, hr⟩, hf⟩; have HR6 := Aside0.mk hr; have HF6 := Aside0.mk (HF5.out.trans hf (fun k hk => .inl ⟨hk.1, hk.2.1, fun e => hk.2.2 (.inl e)⟩)); clear hr hf)))
          go_ret
          exact ⟨by rw [HZ2.out]; rfl, ⟨v6, by rw [HZ2.out, HG2.out]; exact HR6.out.less' (fun k hk => .inl hk)⟩, HF6.out⟩
        | some k =>
          obtain ⟨f2, hf2, hn2⟩ := ixG_lt e2
          have HLT2 := Aside0.mk (List.getElem?_eq_some_iff.1 hf2).1
          have HN2 := Aside0.mk (show ixI (ixG (G.eraseIdx i) t) = k by rw [e2]; rfl)
          have k2 : decide ((0 : Int) ≤ (k : Int)) = true := by simp
          have HG2 : Aside0 (gren2 (G.eraseIdx i) t = (G.eraseIdx i).eraseIdx k) := ⟨by unfold gren2; rw [e2]⟩
          have HL2 : Aside0 (((G.eraseIdx i).eraseIdx k).length ≤ 1000000) := ⟨Nat.le_trans (List.eraseIdx_sublist _ k).length_le HL1.out⟩
          clear e2 hf2 hn2
          go_enter Try.func47, Try.ntmps47
          go_wp2_with (first
            | (go_at_call 60; ((with_reducible refine (ref_counts.calls _ r _ HR.out.blk).mono ?_); rintro _ _ ⟨rfl, ⟨n1, rfl⟩⟩; have HB1 := Aside0.mk (pw_below_drewN (Below.refl w.heap.size w) n1)))
            | (go_at_call 59; ((refine (ref_find.calls _ r _ _ (G.eraseIdx i) t HR4.out.blk HC4.out (Nat.le_trans HL1.out (by decide))).mono ?_); rw [HN2.out]; rintro _ _ ⟨rfl, ⟨n4, rfl⟩⟩; have hg5 : FBk (w4.drewN n4) W3.heap.size f := HG4.out; have y0 : (w4.drewN n4).cell? ⟨W3.heap.size, 0, none⟩ = some (.string f.name) := (blk_cell hg5 0).trans rfl; have z0 : (w4.drewN n4).frozen? ⟨W3.heap.size, 0, none⟩ = false := blk_frozen hg5 0; have hst : FBk ((w4.drewN n4).setCell ⟨W3.heap.size, 0, none⟩ (.string t)) W3.heap.size ⟨t, f.text, f.safe⟩ := blk_put hg5 0 (.string t) rfl; have s0 : ((w4.drewN n4).setCell ⟨W3.heap.size, 0, none⟩ (.string t)).cell? ⟨W3.heap.size, 0, none⟩ = some (.string t) := (blk_cell hst 0).trans rfl; have s1 : ((w4.drewN n4).setCell ⟨W3.heap.size, 0, none⟩ (.string t)).cell? ⟨W3.heap.size, 1, none⟩ = some (.string f.text) := (blk_cell hst 1).trans rfl; have s2 : ((w4.drewN n4).setCell ⟨W3.heap.size, 0, none⟩ (.string t)).cell? ⟨W3.heap.size, 2, none⟩ = some (.int .i64 f.safe) := (blk_cell hst 2).trans rfl; have HR5 := Aside0.mk ((HR4.out.below (pw_below_drewN (Below.refl _ w4) n4)).fr ((Fr.refl _ (fun k => k = W3.heap.size)).setCell (p := ⟨W3.heap.size, 0, none⟩) (.inl rfl) (.string t)) (fun k hk => .inr (.inr hk))); have HF5 := Aside0.mk ((HF4.out.drewN n4).setCell (p := ⟨W3.heap.size, 0, none⟩) (.inr HB3.out.size) (.string t)); clear hg5 hst))
            | (go_at_call 59; ((with_reducible refine (ref_find.calls _ r _ _ G _ (HR.out.below HB1.out).blk (Kd.C_below HC.out HB1.out) (Nat.le_trans HL.out (by decide))).mono ?_); rw [HN.out]; rintro _ _ ⟨rfl, ⟨n2, rfl⟩⟩; have HB2 := Aside0.mk (pw_below_drewN (Below.refl w.heap.size w) (n1 + n2))))
            | (go_at_call 56; ((with_reducible refine (NAMEF.out _).mono ?_); rintro _ W3 ⟨rfl, ⟨n3, hw3⟩⟩; have HB3 := Aside0.mk (show Below w.heap.size w W3 by rw [hw3]; exact pw_below_drewN (pw_below_drewN (Below.refl w.heap.size w) _) n3); clear hw3; obtain ⟨g0, x0, x1, x2⟩ := HX.out _ HB3.out))
            | (go_at_call 62; ((refine (ref_del.calls _ d (MB m W3.heap.size) r B _ (G.eraseIdx i) k (HR4.out.below (pw_below_drewN (Below.refl _ w4) n4)) HLT2.out HL1.out).mono ?_); rintro _ w5 ⟨rfl, ⟨v5, hr⟩, hf⟩; have hg5 : FBk w5 W3.heap.size f := hf.block (show (w4.drewN n4).heap[W3.heap.size]? = some _ from HG4.out) (fun e => e.2.2 (.inr rfl)); have y0 : w5.cell? ⟨W3.heap.size, 0, none⟩ = some (.string f.name) := (blk_cell hg5 0).trans rfl; have z0 : w5.frozen? ⟨W3.heap.size, 0, none⟩ = false := blk_frozen hg5 0; have hst : FBk (w5.setCell ⟨W3.heap.size, 0, none⟩ (.string t)) W3.heap.size ⟨t, f.text, f.safe⟩ := blk_put hg5 0 (.string t) rfl; have s0 : (w5.setCell ⟨W3.heap.size, 0, none⟩ (.string t)).cell? ⟨W3.heap.size, 0, none⟩ = some (.string t) := (blk_cell hst 0).trans rfl; have s1 : (w5.setCell ⟨W3.heap.size, 0, none⟩ (.string t)).cell? ⟨W3.heap.size, 1, none⟩ = some (.string f.text) := (blk_cell hst 1).trans rfl; have s2 : (w5.setCell ⟨W3.heap.size, 0, none⟩ (.string t)).cell? ⟨W3.heap.size, 2, none⟩ = some (.int .i64 f.safe) := (blk_cell hst 2).trans rfl; have HR5 := Aside0.mk (hr.fr ((Fr.refl _ (fun k => k = W3.heap.size)).setCell (p := ⟨W3.heap.size, 0, none⟩) (.inl rfl) (.string t)) (fun k hk => .inr (.inr hk))); have HF5 := Aside0.mk (((HF4.out.drewN n4).trans hf (fun k hk => .inl ⟨hk.1, hk.2.1, fun e => hk.2.2 (.inl e)⟩)).setCell (p := ⟨W3.heap.size, 0, none⟩) (.inr HB3.out.size) (.string t)); clear hg5 hst hr hf))
            | (go_at_call 62; ((refine (ref_del.calls _ d (MB m W3.heap.size) r B _ G i ((HR.out.below HB3.out).boxed (.cells #[.string f.name, .string f.text, .int .i64 f.safe] 90)) HLT.out HL.out).mono ?_); rintro _ w4 ⟨rfl, ⟨v4, hr⟩, hf⟩; have HF4 := Aside0.mk (((Fr.of_below HB3.out (RS d m B)).alloc (.cells #[.string f.name, .string f.text, .int .i64 f.safe] 90)).trans hf (fun k hk => .inl ⟨hk.1, hk.2.1, fun e => hk.2.2 (.inl e)⟩)); have HG4 : Aside0 (FBk w4 W3.heap.size f) := ⟨hf.block (heap_alloc_new _ _) (fun e => e.2.2 (.inr rfl))⟩; have HR4 := Aside0.mk hr; obtain ⟨A4, c4, e4, _, hC4⟩ := hr.reads; have HC4 := Aside0.mk hC4; subst e4; clear hr hf hC4))
            | (go_at_call 58; ((refine (ref_put.calls _ d (MB m W3.heap.size) r B _ ((G.eraseIdx i).eraseIdx k) ⟨t, f.text, f.safe⟩ HR5.out HL2.out).mono ?_); rintro _ w6 ⟨rfl, ⟨v6, hr⟩, hf⟩; have HR6 := Aside0.mk hr; have HF6 := Aside0.mk (HF5.out.trans hf (fun k hk => .inl ⟨hk.1, hk.2.1, fun e => hk.2.2 (.inl e)⟩)); clear hr hf)))
          go_ret
          exact ⟨by rw [HZ2.out]; rfl, ⟨v6, by rw [HZ2.out, HG2.out]; exact HR6.out.less' (fun k hk => .inl hk)⟩, HF6.out⟩
theorem St.of_perm {F F' G : List DFile} (h : St F G) (hp : F'.Perm F) : St F' G := ⟨hp.trans h.perm, h.rise, h.file, h.used, h.many⟩
theorem St.gone {F G : List DFile} (h : St F G) {n : ByteArray} {i : Nat} {f : DFile} (hf : G[i]? = some f) (hn : f.name = n) : ixG (G.eraseIdx i) n = none := by
  cases e : ixG (G.eraseIdx i) n with
  | none => rfl
  | some j =>
    obtain ⟨g, hg, hgn⟩ := ixG_lt e
    have hnd : ((f :: G.eraseIdx i).map (·.name)).Nodup := ((erase_perm hf).map _).nodup_iff.1 (rise_nodup h.rise)
    rw [List.map_cons, List.nodup_cons] at hnd
    exact absurd (by rw [hn, ← hgn]; exact List.mem_map_of_mem (List.mem_of_getElem? hg)) hnd.1
theorem same_ren {F G : List DFile} (h : St F G) (n t : ByteArray) : Same (renR F 0 false n t) (gren G n t) := by
  unfold renR gren
  rw [cnt0, if_neg (by decide)]
  cases e : ixG G n with
  | none => rw [h.miss e]; exact ⟨rfl, h⟩
  | some i =>
    obtain ⟨f, hf, hn, hl⟩ := h.hit e
    rw [hl]
    simp only [rdF_at hf]
    have hff := h.file f (List.mem_of_getElem? hf)
    cases hnm : namedD t with
    | false => exact ⟨rfl, h⟩
    | true =>
      have tf : ¬ (true = false) := by decide
      rw [if_neg tf, if_neg tf]
      by_cases hs : f.safe < (f.text.size : Int)
      · rw [if_pos hs, if_pos hs]; exact ⟨rfl, h⟩
      · rw [if_neg hs, if_neg hs]
        have h1 := h.del_ hf hl
        have hu := h.used_rest hf
        have hu0 := h.used
        have hlen : (G.eraseIdx i).length < 64 := by
          have := (List.getElem?_eq_some_iff.1 hf).1
          rw [List.length_eraseIdx_of_lt this]
          have := h.many
          omega
        refine ⟨rfl, ?_⟩
        show St (putD (delD F n) ⟨t, f.text, f.safe⟩) (gput (gren2 (G.eraseIdx i) t) ⟨t, f.text, f.safe⟩)
        unfold gren2
        cases e2 : ixG (G.eraseIdx i) t with
        | none => exact h1.put_ (g := ⟨t, f.text, f.safe⟩) e2 hnm hff.2 (by show usedD (G.eraseIdx i) + f.text.size ≤ 1048576; omega) hlen
        | some k =>
          obtain ⟨f2, hf2, hn2, hl2⟩ := h1.hit e2
          have h2 := h1.del_ hf2 hl2
          have hg := h1.gone hf2 hn2
          have hu2 := h1.used_rest hf2
          have hsub := (List.eraseIdx_sublist (G.eraseIdx i) k).length_le
          have h3 := h2.put_ (g := ⟨t, f.text, f.safe⟩) hg hnm hff.2 (by show usedD ((G.eraseIdx i).eraseIdx k) + f.text.size ≤ 1048576; omega) (by omega)
          refine h3.of_perm ?_
          rw [putD_new (delD (delD F n) t) ⟨t, f.text, f.safe⟩ (is_none (h2.miss hg))]
          exact (putD_perm (g := ⟨t, f.text, f.safe⟩) hl2).trans (List.perm_append_comm (l₁ := [(⟨t, f.text, f.safe⟩ : DFile)]))
end Go.Proofs.Ytknljmljlgcfbaa.P
