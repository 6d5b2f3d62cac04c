/- By hand: the page's own disk: Sync, Cut. -/
import Derived.Test.YtknljmljlgcfbaaRef3
import Derived.Test.YtknljmljlgcfbaaP1
import Derived.StillTailTactics
import Derived.BigQuiet
namespace Go.Proofs.Ytknljmljlgcfbaa.P
open Go.RowKit Go.Proofs.YtknljmljlgcfbaaW.PrintWords Go.Proofs.YtknljmljlgcfbaaW.PrintLast Go.Proofs.YtknljmljlgcfbaaW.PrintMore
open Go.Proofs.Ytknljmljlgcfbaa
attribute [local go_sem] max2_int min2_int max_two min_two max_three min_three max_four min_four
set_option linter.unusedSimpArgs false
set_option linter.unusedVariables false
theorem RefAt.at_ {w : World} {d : Nat} {m : Nat → Prop} {r B : Nat} {v : Value} {G : List DFile} (h : RefAt w d m r B v G) {i : Nat} {f : DFile} (hf : G[i]? = some f) :
    ∃ g c, v = .slice (some ⟨g, 0, none⟩) G.length c ∧ RBlk w r (.slice (some ⟨g, 0, none⟩) G.length c) false ∧ w.cell? ⟨g, i * 3, none⟩ = some (.string f.name) ∧ w.cell? ⟨g, i * 3 + 1, none⟩ = some (.string f.text) ∧ w.cell? ⟨g, i * 3 + 2, none⟩ = some (.int .i64 f.safe) ∧ (∀ j, w.frozen? ⟨g, j, none⟩ = false) ∧ B ≤ g ∧ RK d m r g := by
  have hlt := (List.getElem?_eq_some_iff.1 hf).1
  rcases Raw.R_cases h.row with ⟨rfl, rfl⟩ | ⟨g, c, rfl⟩
  · simp at hf
  · obtain ⟨cur, hb, hok, _, _, _, hg, _, _⟩ := Raw.R_open h.row
    obtain ⟨_, _, hC⟩ := Kd.R_reads' h.row
    obtain ⟨ad, ea, x0, x1, x2⟩ := at_N hC hlt hf
    injection ea with ea
    subst ea
    rw [add_at] at x0 x1 x2
    simp only [Nat.zero_add] at x0 x1 x2
    exact ⟨g, c, rfl, h.blk, x0, x1, x2, fun j => blk_frozen hg j, hb, hok⟩
theorem RefAt.set_ {w : World} {d : Nat} {m : Nat → Prop} {r B g c : Nat} {G : List DFile} (h : RefAt w d m r B (.slice (some ⟨g, 0, none⟩) G.length c) G) {i : Nat} {f f' : DFile} (hf : G[i]? = some f) (j : Nat) (u : Value) (hj : j < 3)
    (hs : [Value.string f.name, .string f.text, .int .i64 f.safe].take j ++ [u] ++ [Value.string f.name, .string f.text, .int .i64 f.safe].drop (j + 1) = [Value.string f'.name, .string f'.text, .int .i64 f'.safe]) :
    RefAt (w.setCell ⟨g, i * 3 + j, none⟩ u) d m r B (.slice (some ⟨g, 0, none⟩) (G.set i f').length c) (G.set i f') ∧ Fr w (w.setCell ⟨g, i * 3 + j, none⟩ u) (RS d m B) := by
  have hlt := (List.getElem?_eq_some_iff.1 hf).1
  obtain ⟨g', c', e, _, x0, x1, x2, _, hb, hok⟩ := h.at_ hf
  injection e with e1 e2 e3
  injection e1 with e1
  injection e1 with e1
  subst e1; subst e3
  have hr := Kd.R_seg h.row (i : Int) (by omega) (by omega) (c := [.string f.name, .string f.text, .int .i64 f.safe]) (seg := [u]) (j := j) (x' := f') (okp := fun _ => False) rfl (by
    intro q y hq
    simp only [Int.toNat_natCast]
    show w.cell? ⟨g, i * 3 + q, none⟩ = some y
    match q, hq with
    | 0, hq => simp at hq; subst hq; exact x0
    | 1, hq => simp at hq; subst hq; exact x1
    | 2, hq => simp at hq; subst hq; exact x2
    | q + 3, hq => simp at hq) (by show j + 1 ≤ 3; omega) (by show kF.M w B _ f' ([Value.string f.name, .string f.text, .int .i64 f.safe].take j ++ [u] ++ [Value.string f.name, .string f.text, .int .i64 f.safe].drop (j + 1)); rw [hs]; exact kF_mkM _ _ _ _) (fun k hk => hk.elim)
  have e : w.setCells g ((i : Int).toNat * kF.sz + j) [u] = w.setCell ⟨g, i * 3 + j, none⟩ u := by
    simp only [Int.toNat_natCast]
    rfl
  rw [e] at hr
  simp only [Int.toNat_natCast] at hr
  have hfr : Fr w (w.setCell ⟨g, i * 3 + j, none⟩ u) (RS d m B) := (Fr.refl w _).setCell (.inl ⟨hb, hok.2.1, hok.2.2⟩) _
  refine ⟨⟨by have := blk_far h.blk (p := ⟨g, i * 3 + j, none⟩) (fun e => hok.1 e.symm) u; rw [List.length_set]; exact this, by rw [List.length_set]; exact hr.1, Nat.le_trans h.base hfr.size, h.r0, Nat.lt_of_lt_of_le h.ltd hfr.size, fun k hk => Nat.lt_of_lt_of_le (h.ltm k hk) hfr.size, h.nd, h.nm⟩, hfr⟩
def gsync (G : List DFile) (n : ByteArray) : List DFile × Int := match ixG G n with | none => (G, 3) | some i => (G.set i ⟨n, (rdF G (i : Int)).text, (rdF G (i : Int)).text.size⟩, 0)
set_option maxRecDepth 100000 in
set_option maxHeartbeats 8000000 in
theorem ref_Sync.calls (w : World) (d : Nat) (m : Nat → Prop) (r B : Nat) (v : Value) (G : List DFile) (n : ByteArray) (h : RefAt w d m r B v G) (hl : G.length ≤ 1000000) :
    Calls Try.prog 44 #[.pointer (some ⟨r, 0, none⟩), .string n] w fun e w' => e = .returned (.int .i64 (gsync G n).2) ∧ (∃ v', RefAt w' d m r B v' (gsync G n).1) ∧ Fr w w' (RS d m B) := by
  obtain ⟨A, c, ev, hc, hC⟩ := h.reads
  have HR := Aside0.mk h
  have HC := Aside0.mk hC
  have HL := Aside0.mk hl
  unfold gsync
  cases e : ixG G n with
  | none =>
    subst ev
    have HN := Aside0.mk (show ixI (ixG G n) = -1 by rw [e]; rfl)
    clear e h hC hl hc
    go_enter Try.func44, Try.ntmps44
    go_wp2_with (first
      | (go_at_call 60; ((with_reducible refine (ref_counts.calls _ r _ HR.out.blk).mono ?_); rintro _ _ ⟨rfl, ⟨n1, rfl⟩⟩; have HB1 := Aside0.mk (pw_below_drewN (Below.refl w.heap.size w) n1)))
      | (go_at_call 59; ((with_reducible refine (ref_find.calls _ r _ _ G _ (HR.out.below HB1.out).blk (Kd.C_below HC.out HB1.out) (Nat.le_trans HL.out (by decide))).mono ?_); rw [HN.out]; rintro _ _ ⟨rfl, ⟨n2, rfl⟩⟩; have HB2 := Aside0.mk (pw_below_drewN (Below.refl w.heap.size w) (n1 + n2)))))
    go_ret
    exact ⟨rfl, ⟨_, HR.out.below HB2.out⟩, Fr.of_below HB2.out _⟩
  | some i =>
    obtain ⟨f, hf, hn⟩ := ixG_lt e
    obtain ⟨g, c', eg, hblk, _, _, _, _, _, _⟩ := h.at_ hf
    rw [ev] at eg
    injection eg with eA _ ec
    subst ec
    subst eA
    subst ev
    subst hn
    have HN := Aside0.mk (show ixI (ixG G f.name) = i by rw [e]; rfl)
    have hlt := (List.getElem?_eq_some_iff.1 hf).1
    have HLT := Aside0.mk hlt
    have HF := Aside0.mk hf
    have k0 : decide ((i : Int) < 0) = false := by simp
    have k1 : (i : Int) < (G.length : Int) := by omega
    have ef : rdF G (i : Int) = f := rdF_at hf
    show Calls _ _ _ _ fun e w' => e = .returned (.int .i64 0) ∧ (∃ v', RefAt w' d m r B v' (G.set i ⟨f.name, (rdF G (i : Int)).text, (rdF G (i : Int)).text.size⟩)) ∧ Fr w w' (RS d m B)
    rw [ef]
    clear e hf hlt hC hl hc h hblk ef
    go_enter Try.func44, Try.ntmps44
    go_wp2_with (first
      | (go_at_call 60; ((with_reducible refine (ref_counts.calls _ r _ HR.out.blk).mono ?_); rintro _ _ ⟨rfl, ⟨n1, rfl⟩⟩; have HB1 := Aside0.mk (pw_below_drewN (Below.refl w.heap.size w) n1)))
      | (go_at_call 59; ((with_reducible refine (ref_find.calls _ r _ _ G _ (HR.out.below HB1.out).blk (Kd.C_below HC.out HB1.out) (Nat.le_trans HL.out (by decide))).mono ?_); rw [HN.out]; rintro _ _ ⟨rfl, ⟨n2, rfl⟩⟩; have HB2 := Aside0.mk (pw_below_drewN (Below.refl w.heap.size w) (n1 + n2)))))
    generalize w.drewN (n1 + n2) = W at *
    obtain ⟨g', c2, eg, hblk, x0, x1, x2, z, _, _⟩ := (HR.out.below HB2.out).at_ HF.out
    injection eg with eA _ ec
    injection eA with eA
    injection eA with eA
    subst eA; subst ec
    have g0 : W.cell? ⟨r, 0, none⟩ = some (.slice (some ⟨g, 0, none⟩) G.length c) := (blk_cell hblk 0).trans rfl
    have z2 := z (i * 3 + 2)
    have HS := Aside0.mk ((HR.out.below HB2.out).below (below_drew (Below.refl _ W)) |>.set_ HF.out 2 (.int .i64 f.text.size) (by decide) (f' := ⟨f.name, f.text, f.text.size⟩) rfl)
    clear hblk x0 z
    go_still_tail 16, (by kernel_rfl)
    change wpList _ _ _ _ _ W.drew
    go_wp2
    go_ret
    exact ⟨rfl, ⟨_, HS.out.1⟩, (Fr.of_below (below_drew HB2.out) _).trans HS.out.2 (fun k hk => .inl hk)⟩
def gcut (G : List DFile) (n : ByteArray) (k : Int) : List DFile × Int := match ixG G n with
  | none => (G, 3)
  | some i => if k < 0 then (G, 1) else if ((rdF G (i : Int)).text.size : Int) < k then (G, 1) else (G.set i ⟨n, (rdF G (i : Int)).text.extract 0 k.toNat, mn (rdF G (i : Int)).safe k⟩, 0)
set_option maxRecDepth 100000 in
set_option maxHeartbeats 8000000 in
theorem ref_Cut.calls (w : World) (d : Nat) (m : Nat → Prop) (r B : Nat) (v : Value) (G : List DFile) (n : ByteArray) (k : Int) (h : RefAt w d m r B v G) (hl : G.length ≤ 1000000) :
    Calls Try.prog 46 #[.pointer (some ⟨r, 0, none⟩), .string n, .int .i64 k] w fun e w' => e = .returned (.int .i64 (gcut G n k).2) ∧ (∃ v', RefAt w' d m r B v' (gcut G n k).1) ∧ Fr w w' (RS d m B) := by
  obtain ⟨A, c, ev, hc, hC⟩ := h.reads
  have HR := Aside0.mk h
  have HC := Aside0.mk hC
  have HL := Aside0.mk hl
  unfold gcut
  cases e : ixG G n with
  | none =>
    subst ev
    have HN := Aside0.mk (show ixI (ixG G n) = -1 by rw [e]; rfl)
    clear e h hC hl hc
    go_enter Try.func46, Try.ntmps46
    go_wp2_with (first
      | (go_at_call 60; ((with_reducible refine (ref_counts.calls _ r _ HR.out.blk).mono ?_); rintro _ _ ⟨rfl, ⟨n1, rfl⟩⟩; have HB1 := Aside0.mk (pw_below_drewN (Below.refl w.heap.size w) n1)))
      | (go_at_call 59; ((with_reducible refine (ref_find.calls _ r _ _ G _ (HR.out.below HB1.out).blk (Kd.C_below HC.out HB1.out) (Nat.le_trans HL.out (by decide))).mono ?_); rw [HN.out]; rintro _ _ ⟨rfl, ⟨n2, rfl⟩⟩; have HB2 := Aside0.mk (pw_below_drewN (Below.refl w.heap.size w) (n1 + n2)))))
    go_ret
    exact ⟨rfl, ⟨_, HR.out.below HB2.out⟩, Fr.of_below HB2.out _⟩
  | some i =>
    obtain ⟨f, hf, hn⟩ := ixG_lt e
    obtain ⟨g, c', eg, hblk, _, _, _, _, _, _⟩ := h.at_ hf
    rw [ev] at eg
    injection eg with eA _ ec
    subst ec
    subst eA
    subst ev
    subst hn
    have HN := Aside0.mk (show ixI (ixG G f.name) = i by rw [e]; rfl)
    have hlt := (List.getElem?_eq_some_iff.1 hf).1
    have HLT := Aside0.mk hlt
    have HF := Aside0.mk hf
    have k0 : decide ((i : Int) < 0) = false := by simp
    have k1 : (i : Int) < (G.length : Int) := by omega
    have ef : rdF G (i : Int) = f := rdF_at hf
    obtain ⟨Z, hZ⟩ : ∃ Z, Z = if k < 0 then (G, (1 : Int)) else if (f.text.size : Int) < k then (G, 1) else (G.set i ⟨f.name, f.text.extract 0 k.toNat, mn f.safe k⟩, 0) := ⟨_, rfl⟩
    show Calls _ _ _ _ fun e w' => e = .returned (.int .i64 (if k < 0 then (G, (1 : Int)) else if ((rdF G (i : Int)).text.size : Int) < k then (G, 1) else (G.set i ⟨f.name, (rdF G (i : Int)).text.extract 0 k.toNat, mn (rdF G (i : Int)).safe k⟩, 0)).2) ∧ (∃ v', RefAt w' d m r B v' (if k < 0 then (G, (1 : Int)) else if ((rdF G (i : Int)).text.size : Int) < k then (G, 1) else (G.set i ⟨f.name, (rdF G (i : Int)).text.extract 0 k.toNat, mn (rdF G (i : Int)).safe k⟩, 0)).1) ∧ Fr w w' (RS d m B)
    rw [ef, ← hZ]
    have HZ := Aside0.mk hZ
    clear e hf hlt hC hl hc h hblk ef hZ
    have hx : ∀ W, Below w.heap.size w W → W.cell? ⟨r, 0, none⟩ = some (.slice (some ⟨g, 0, none⟩) G.length c) ∧ W.cell? ⟨g, i * 3 + 1, none⟩ = some (.string f.text) := fun W hW => by
      obtain ⟨g', c2, eg, hblk, x0, x1, x2, z, _, _⟩ := (HR.out.below hW).at_ HF.out
      injection eg with eA _ ec
      injection eA with eA
      injection eA with eA
      subst eA; subst ec
      exact ⟨(blk_cell hblk 0).trans rfl, x1⟩
    have HX := Aside0.mk hx
    clear hx
    have NUMF : Aside0 (∀ W : World, Calls Try.prog 61 #[.int .i64 k, .int .i64 f.text.size] W fun e w' => e = .returned (.bool (decide (0 ≤ k) && decide (k ≤ (f.text.size : Int)))) ∧ Drawn0 W w') := ⟨fun W => by
      by_cases h0 : k ≥ 0
      · have := fairwayref0_Num.calls k f.text.size (decide (k ≤ (f.text.size : Int))) W (by unfold fairwayref0_Num.f; rw [if_pos h0])
        rw [decide_eq_true (show 0 ≤ k from h0), Bool.true_and]
        exact this
      · have := fairwayref0_Num.calls k f.text.size false W (by unfold fairwayref0_Num.f; rw [if_neg h0])
        rw [decide_eq_false (show ¬ 0 ≤ k by omega), Bool.false_and]
        exact this⟩
    by_cases hk0 : 0 ≤ k ∧ k ≤ (f.text.size : Int)
    · obtain ⟨q, rfl⟩ : ∃ q : Nat, k = q := ⟨k.toNat, by omega⟩
      have e0 : (decide (0 ≤ (q : Int)) && decide ((q : Int) ≤ (f.text.size : Int))) = true := by simp; omega
      rw [e0] at NUMF
      have hq2 : q ≤ f.text.size := by omega
      have hq3 : (q : Int) ≤ (f.text.size : Int) := hk0.2
      have HZ2 : Aside0 (Z = (G.set i ⟨f.name, f.text.extract 0 q, mn f.safe q⟩, 0)) := ⟨by rw [HZ.out, if_neg (by omega), if_neg (by omega)]; rfl⟩
      clear hk0 e0
      go_enter Try.func46, Try.ntmps46
      go_wp2_with (first
        | (go_at_call 60; ((with_reducible refine (ref_counts.calls _ r _ HR.out.blk).mono ?_); rintro _ _ ⟨rfl, ⟨n1, rfl⟩⟩; have HB1 := Aside0.mk (pw_below_drewN (Below.refl w.heap.size w) n1)))
        | (go_at_call 59; ((with_reducible refine (ref_find.calls _ r _ _ G _ (HR.out.below HB1.out).blk (Kd.C_below HC.out HB1.out) (Nat.le_trans HL.out (by decide))).mono ?_); rw [HN.out]; rintro _ _ ⟨rfl, ⟨n2, rfl⟩⟩; have HB2 := Aside0.mk (pw_below_drewN (Below.refl w.heap.size w) (n1 + n2)); obtain ⟨g0, x1⟩ := HX.out _ HB2.out))
        | (go_at_call 61; ((with_reducible refine (NUMF.out _).mono ?_); rintro _ _ ⟨rfl, ⟨n3, rfl⟩⟩; have HB3 := Aside0.mk (pw_below_drewN (Below.refl w.heap.size w) (n1 + n2 + n3)))))
      generalize (w.drewN (n1 + n2 + n3)) = W at *
      have HR3 := Aside0.mk (HR.out.below HB3.out)
      obtain ⟨g', c2, eg, hblk, x0, x1_, x2, z, _, _⟩ := HR3.out.at_ HF.out
      injection eg with eA _ ec
      injection eA with eA
      injection eA with eA
      subst eA; subst ec
      have g0_ : W.cell? ⟨r, 0, none⟩ = some (.slice (some ⟨g, 0, none⟩) G.length c) := (blk_cell hblk 0).trans rfl
      have z1 := z (i * 3 + 1)
      have HS := Aside0.mk ((HR3.out.below (below_drew (Below.refl _ W))).set_ HF.out 1 (.string (f.text.extract 0 q)) (by decide) (f' := ⟨f.name, f.text.extract 0 q, f.safe⟩) rfl)
      clear hblk x0 x2 z
      go_still_tail 17, (by kernel_rfl)
      change wpList _ _ _ _ _ W.drew
      go_wp2
      have HFr1 := Aside0.mk ((Fr.of_below (below_drew HB3.out) (RS d m B)).trans HS.out.2 (fun k hk => .inl hk))
      replace HS : Aside0 (RefAt ((W.setCell ⟨g, i * 3 + 1, none⟩ (.string (f.text.extract 0 q))).drew) d m r B (.slice (some ⟨g, 0, none⟩) (G.set i ⟨f.name, f.text.extract 0 q, f.safe⟩).length c) (G.set i ⟨f.name, f.text.extract 0 q, f.safe⟩) ∧ Fr W.drew ((W.setCell ⟨g, i * 3 + 1, none⟩ (.string (f.text.extract 0 q))).drew) (RS d m B)) := HS
      replace HFr1 : Aside0 (Fr w ((W.setCell ⟨g, i * 3 + 1, none⟩ (.string (f.text.extract 0 q))).drew) (RS d m B)) := HFr1
      generalize (W.setCell ⟨g, i * 3 + 1, none⟩ (.string (f.text.extract 0 q))).drew = W1 at *
      have HF1 : Aside0 ((G.set i ⟨f.name, f.text.extract 0 q, f.safe⟩)[i]? = some ⟨f.name, f.text.extract 0 q, f.safe⟩) := ⟨by simp [HLT.out]⟩
      have HR4 := Aside0.mk HS.out.1
      obtain ⟨g', c2, eg, hblk, x0, x1_, x2, z, _, _⟩ := HR4.out.at_ HF1.out
      injection eg with eA _ ec
      injection eA with eA
      injection eA with eA
      subst eA; subst ec
      rw [List.length_set] at hblk
      have g0_ : W1.cell? ⟨r, 0, none⟩ = some (.slice (some ⟨g, 0, none⟩) G.length c) := (blk_cell hblk 0).trans rfl
      have z2 := z (i * 3 + 2)
      replace x2 : W1.cell? ⟨g, i * 3 + 2, none⟩ = some (.int .i64 f.safe) := x2
      clear hblk x0 x1_ z z1 g0 x1
      rcases Int.lt_or_le (q : Int) f.safe with hm | hm
      · have mm : (q : Int) < f.safe := by omega
        have mm3 : decide ((q : Int) < f.safe) = true := by simp; omega
        have em : Aside0 (mn f.safe q = q) := ⟨by unfold mn; first | omega | (split <;> omega)⟩
        have HS2 := Aside0.mk ((HR4.out.below (below_drew (Below.refl _ W1))).set_ HF1.out 2 (.int .i64 q) (by decide) (f' := ⟨f.name, f.text.extract 0 q, q⟩) rfl)
        refine start_ (n := 18) (S := fun w' => w'.cell? ⟨r, 0, none⟩ = some (.slice (some ⟨g, 0, none⟩) G.length c) ∧ w'.cell? ⟨g, i * 3 + 2, none⟩ = some (.int .i64 f.safe)) (ds := [17]) #[false, false, false, false, false, false, false, false, false, false, false, false, false, false, false, false, false, false] (by kernel_rfl) rfl rfl ⟨g0_, x2⟩ (fun hHeld => ?_)
        refine pure_ (i := 0) (N := some 44) (v := ?_) (a' := ?_) #[true, false, false, false, false, false, false, false, false, false, false, false, false, false, false, false, false, false] rfl rfl (by kernel_rfl) (fun _ _ _ h => h) (Or.inl ⟨by rfl, ?_⟩) ?_ ?_
        rotate_left
        · intro w'
          go_simp
          with_reducible rfl
        rotate_left
        · simp only [Act.put, List.setIfInBounds_toArray, List.set_cons_zero, List.set_cons_succ, i64_w, i32_w]
          rfl
        refine pure_ (i := 1) (N := some 45) (v := ?_) (a' := ?_) #[true, true, false, false, false, false, false, false, false, false, false, false, false, false, false, false, false, false] rfl rfl (by kernel_rfl) (fun _ _ _ h => h) (Or.inl ⟨by rfl, ?_⟩) ?_ ?_
        rotate_left
        · intro w'
          go_simp
          with_reducible rfl
        rotate_left
        · simp only [Act.put, List.setIfInBounds_toArray, List.set_cons_zero, List.set_cons_succ, i64_w, i32_w]
          rfl
        refine pure_ (i := 2) (N := some 46) (v := ?_) (a' := ?_) #[true, true, true, false, false, false, false, false, false, false, false, false, false, false, false, false, false, false] rfl rfl (by kernel_rfl) (fun _ _ _ h => h) (Or.inl ⟨by rfl, ?_⟩) ?_ ?_
        rotate_left
        · intro w'
          go_simp
          with_reducible rfl
        rotate_left
        · simp only [Act.put, List.setIfInBounds_toArray, List.set_cons_zero, List.set_cons_succ, i64_w, i32_w]
          rfl
        refine pure_ (i := 4) (N := some 48) (v := ?_) (a' := ?_) #[true, true, true, false, true, false, false, false, false, false, false, false, false, false, false, false, false, false] rfl rfl (by kernel_rfl) (fun _ _ _ h => h) (Or.inl ⟨by rfl, ?_⟩) ?_ ?_
        rotate_left
        · intro w'
          go_simp
          with_reducible rfl
        rotate_left
        · simp only [Act.put, List.setIfInBounds_toArray, List.set_cons_zero, List.set_cons_succ, i64_w, i32_w]
          rfl
        refine pure_ (i := 5) (N := some 49) (v := ?_) (a' := ?_) #[true, true, true, false, true, true, false, false, false, false, false, false, false, false, false, false, false, false] rfl rfl (by kernel_rfl) (fun _ _ _ h => h) (Or.inl ⟨by rfl, ?_⟩) ?_ ?_
        rotate_left
        · intro w'
          go_simp
          with_reducible rfl
        rotate_left
        · simp only [Act.put, List.setIfInBounds_toArray, List.set_cons_zero, List.set_cons_succ, i64_w, i32_w]
          rfl
        refine pure_ (i := 6) (N := some 50) (v := ?_) (a' := ?_) #[true, true, true, false, true, true, true, false, false, false, false, false, false, false, false, false, false, false] rfl rfl (by kernel_rfl) (fun _ _ _ h => h) (Or.inl ⟨by rfl, ?_⟩) ?_ ?_
        rotate_left
        · intro w'
          go_simp
          with_reducible rfl
        rotate_left
        · simp only [Act.put, List.setIfInBounds_toArray, List.set_cons_zero, List.set_cons_succ, i64_w, i32_w]
          rfl
        refine pure_ (i := 7) (N := some 51) (v := ?_) (a' := ?_) #[true, true, true, false, true, true, true, true, false, false, false, false, false, false, false, false, false, false] rfl rfl (by kernel_rfl) (fun _ _ _ h => h) (Or.inl ⟨by rfl, ?_⟩) ?_ ?_
        rotate_left
        · intro w'
          go_simp
          with_reducible rfl
        rotate_left
        · simp only [Act.put, List.setIfInBounds_toArray, List.set_cons_zero, List.set_cons_succ, i64_w, i32_w]
          rfl
        refine pure_ (i := 9) (N := some 53) (v := ?_) (a' := ?_) #[true, true, true, false, true, true, true, true, false, true, false, false, false, false, false, false, false, false] rfl rfl (by kernel_rfl) (fun _ _ _ h => h) (Or.inl ⟨by rfl, ?_⟩) ?_ ?_
        rotate_left
        · intro w'
          go_simp
          with_reducible rfl
        rotate_left
        · simp only [Act.put, List.setIfInBounds_toArray, List.set_cons_zero, List.set_cons_succ, i64_w, i32_w]
          rfl
        refine pure_ (i := 13) (N := some 57) (v := ?_) (a' := ?_) #[true, true, true, false, true, true, true, true, false, true, false, false, false, true, false, false, false, false] rfl rfl (by kernel_rfl) (fun _ _ _ h => h) (Or.inl ⟨by rfl, ?_⟩) ?_ ?_
        rotate_left
        · intro w'
          go_simp
          with_reducible rfl
        rotate_left
        · simp only [Act.put, List.setIfInBounds_toArray, List.set_cons_zero, List.set_cons_succ, i64_w, i32_w]
          rfl
        refine take_ (i := 3) (N := some 47) (v := ?_) (a' := ?_) #[true, true, true, true, true, true, true, true, false, true, false, false, false, true, false, false, false, false] rfl rfl (by kernel_rfl) (fun _ _ _ h => h) (Or.inl ⟨by rfl, ?_⟩) hHeld ?_ ?_
        rotate_left
        · rintro w' ⟨s0, s1⟩
          go_simp
          with_reducible rfl
        rotate_left
        · simp only [Act.put, List.setIfInBounds_toArray, List.set_cons_zero, List.set_cons_succ, i64_w, i32_w]
          rfl
        refine take_ (i := 8) (N := some 52) (v := ?_) (a' := ?_) #[true, true, true, true, true, true, true, true, true, true, false, false, false, true, false, false, false, false] rfl rfl (by kernel_rfl) (fun _ _ _ h => h) (Or.inl ⟨by rfl, ?_⟩) hHeld ?_ ?_
        rotate_left
        · rintro w' ⟨s0, s1⟩
          go_simp
          with_reducible rfl
        rotate_left
        · simp only [Act.put, List.setIfInBounds_toArray, List.set_cons_zero, List.set_cons_succ, i64_w, i32_w]
          rfl
        refine pure_ (i := 10) (N := some 54) (v := ?_) (a' := ?_) #[true, true, true, true, true, true, true, true, true, true, true, false, false, true, false, false, false, false] rfl rfl (by kernel_rfl) (fun _ _ _ h => h) (Or.inl ⟨by rfl, ?_⟩) ?_ ?_
        rotate_left
        · intro w'
          go_simp
          with_reducible rfl
        rotate_left
        · simp only [Act.put, List.setIfInBounds_toArray, List.set_cons_zero, List.set_cons_succ, i64_w, i32_w]
          rfl
        refine pure_ (i := 11) (N := some 55) (v := ?_) (a' := ?_) #[true, true, true, true, true, true, true, true, true, true, true, true, false, true, false, false, false, false] rfl rfl (by kernel_rfl) (fun _ _ _ h => h) (Or.inl ⟨by rfl, ?_⟩) ?_ ?_
        rotate_left
        · intro w'
          go_simp
          with_reducible rfl
        rotate_left
        · simp only [Act.put, List.setIfInBounds_toArray, List.set_cons_zero, List.set_cons_succ, i64_w, i32_w]
          rfl
        refine take_ (i := 12) (N := some 56) (v := ?_) (a' := ?_) #[true, true, true, true, true, true, true, true, true, true, true, true, true, true, false, false, false, false] rfl rfl (by kernel_rfl) (fun _ _ _ h => h) (Or.inl ⟨by rfl, ?_⟩) hHeld ?_ ?_
        rotate_left
        · rintro w' ⟨s0, s1⟩
          go_simp
          with_reducible rfl
        rotate_left
        · simp only [Act.put, List.setIfInBounds_toArray, List.set_cons_zero, List.set_cons_succ, i64_w, i32_w]
          rfl
        refine pure_ (i := 14) (N := some 58) (v := ?_) (a' := ?_) #[true, true, true, true, true, true, true, true, true, true, true, true, true, true, true, false, false, false] rfl rfl (by kernel_rfl) (fun _ _ _ h => h) (Or.inl ⟨by rfl, ?_⟩) ?_ ?_
        rotate_left
        · intro w'
          go_simp
          with_reducible rfl
        rotate_left
        · simp only [Act.put, List.setIfInBounds_toArray, List.set_cons_zero, List.set_cons_succ, i64_w, i32_w]
          rfl
        refine pure_ (i := 15) (N := some 59) (v := ?_) (a' := ?_) #[true, true, true, true, true, true, true, true, true, true, true, true, true, true, true, true, false, false] rfl rfl (by kernel_rfl) (fun _ _ _ h => h) (Or.inl ⟨by rfl, ?_⟩) ?_ ?_
        rotate_left
        · intro w'
          go_simp
          with_reducible rfl
        rotate_left
        · simp only [Act.put, List.setIfInBounds_toArray, List.set_cons_zero, List.set_cons_succ, i64_w, i32_w]
          rfl
        refine pure_ (i := 16) (N := some 60) (v := ?_) (a' := ?_) #[true, true, true, true, true, true, true, true, true, true, true, true, true, true, true, true, true, false] rfl rfl (by kernel_rfl) (fun _ _ _ h => h) (Or.inl ⟨by rfl, ?_⟩) ?_ ?_
        rotate_left
        · intro w'
          go_simp
          with_reducible rfl
        rotate_left
        · simp only [Act.put, List.setIfInBounds_toArray, List.set_cons_zero, List.set_cons_succ, i64_w, i32_w]
          rfl
        refine last_ (i := 17) (N := none) #[true, true, true, true, true, true, true, true, true, true, true, true, true, true, true, true, true, true] rfl rfl (by kernel_rfl) (by decide) (fun K hK => ?_)
        refine skip_ (w1 := ?_) (by rfl) rfl ?_ ?_
        rotate_left
        · go_simp
          rfl
        refine hK.out _ _ ?_
        clear hK K
        refine done_ (by kernel_rfl) ?_
        go_wp2
        go_ret
        exact ⟨by rw [HZ2.out]; rfl, ⟨_, by rw [HZ2.out]; have := HS2.out.1; rw [List.set_set] at this; rw [em.out]; exact this⟩, (HFr1.out.trans (Fr.of_below (below_drew (Below.refl _ _)) (RS d m B)) (fun k hk => .inl hk)).trans HS2.out.2 (fun k hk => .inl hk)⟩
      · have mm : ¬ (q : Int) < f.safe := by omega
        have mm3 : decide ((q : Int) < f.safe) = false := by simp; omega
        have em : Aside0 (mn f.safe q = f.safe) := ⟨by unfold mn; first | omega | (split <;> omega)⟩
        have HS2 := Aside0.mk ((HR4.out.below (below_drew (Below.refl _ W1))).set_ HF1.out 2 (.int .i64 f.safe) (by decide) (f' := ⟨f.name, f.text.extract 0 q, f.safe⟩) rfl)
        refine start_ (n := 18) (S := fun w' => w'.cell? ⟨r, 0, none⟩ = some (.slice (some ⟨g, 0, none⟩) G.length c) ∧ w'.cell? ⟨g, i * 3 + 2, none⟩ = some (.int .i64 f.safe)) (ds := [17]) #[false, false, false, false, false, false, false, false, false, false, false, false, false, false, false, false, false, false] (by kernel_rfl) rfl rfl ⟨g0_, x2⟩ (fun hHeld => ?_)
        refine pure_ (i := 0) (N := some 44) (v := ?_) (a' := ?_) #[true, false, false, false, false, false, false, false, false, false, false, false, false, false, false, false, false, false] rfl rfl (by kernel_rfl) (fun _ _ _ h => h) (Or.inl ⟨by rfl, ?_⟩) ?_ ?_
        rotate_left
        · intro w'
          go_simp
          with_reducible rfl
        rotate_left
        · simp only [Act.put, List.setIfInBounds_toArray, List.set_cons_zero, List.set_cons_succ, i64_w, i32_w]
          rfl
        refine pure_ (i := 1) (N := some 45) (v := ?_) (a' := ?_) #[true, true, false, false, false, false, false, false, false, false, false, false, false, false, false, false, false, false] rfl rfl (by kernel_rfl) (fun _ _ _ h => h) (Or.inl ⟨by rfl, ?_⟩) ?_ ?_
        rotate_left
        · intro w'
          go_simp
          with_reducible rfl
        rotate_left
        · simp only [Act.put, List.setIfInBounds_toArray, List.set_cons_zero, List.set_cons_succ, i64_w, i32_w]
          rfl
        refine pure_ (i := 2) (N := some 46) (v := ?_) (a' := ?_) #[true, true, true, false, false, false, false, false, false, false, false, false, false, false, false, false, false, false] rfl rfl (by kernel_rfl) (fun _ _ _ h => h) (Or.inl ⟨by rfl, ?_⟩) ?_ ?_
        rotate_left
        · intro w'
          go_simp
          with_reducible rfl
        rotate_left
        · simp only [Act.put, List.setIfInBounds_toArray, List.set_cons_zero, List.set_cons_succ, i64_w, i32_w]
          rfl
        refine pure_ (i := 4) (N := some 48) (v := ?_) (a' := ?_) #[true, true, true, false, true, false, false, false, false, false, false, false, false, false, false, false, false, false] rfl rfl (by kernel_rfl) (fun _ _ _ h => h) (Or.inl ⟨by rfl, ?_⟩) ?_ ?_
        rotate_left
        · intro w'
          go_simp
          with_reducible rfl
        rotate_left
        · simp only [Act.put, List.setIfInBounds_toArray, List.set_cons_zero, List.set_cons_succ, i64_w, i32_w]
          rfl
        refine pure_ (i := 5) (N := some 49) (v := ?_) (a' := ?_) #[true, true, true, false, true, true, false, false, false, false, false, false, false, false, false, false, false, false] rfl rfl (by kernel_rfl) (fun _ _ _ h => h) (Or.inl ⟨by rfl, ?_⟩) ?_ ?_
        rotate_left
        · intro w'
          go_simp
          with_reducible rfl
        rotate_left
        · simp only [Act.put, List.setIfInBounds_toArray, List.set_cons_zero, List.set_cons_succ, i64_w, i32_w]
          rfl
        refine pure_ (i := 6) (N := some 50) (v := ?_) (a' := ?_) #[true, true, true, false, true, true, true, false, false, false, false, false, false, false, false, false, false, false] rfl rfl (by kernel_rfl) (fun _ _ _ h => h) (Or.inl ⟨by rfl, ?_⟩) ?_ ?_
        rotate_left
        · intro w'
          go_simp
          with_reducible rfl
        rotate_left
        · simp only [Act.put, List.setIfInBounds_toArray, List.set_cons_zero, List.set_cons_succ, i64_w, i32_w]
          rfl
        refine pure_ (i := 7) (N := some 51) (v := ?_) (a' := ?_) #[true, true, true, false, true, true, true, true, false, false, false, false, false, false, false, false, false, false] rfl rfl (by kernel_rfl) (fun _ _ _ h => h) (Or.inl ⟨by rfl, ?_⟩) ?_ ?_
        rotate_left
        · intro w'
          go_simp
          with_reducible rfl
        rotate_left
        · simp only [Act.put, List.setIfInBounds_toArray, List.set_cons_zero, List.set_cons_succ, i64_w, i32_w]
          rfl
        refine pure_ (i := 9) (N := some 53) (v := ?_) (a' := ?_) #[true, true, true, false, true, true, true, true, false, true, false, false, false, false, false, false, false, false] rfl rfl (by kernel_rfl) (fun _ _ _ h => h) (Or.inl ⟨by rfl, ?_⟩) ?_ ?_
        rotate_left
        · intro w'
          go_simp
          with_reducible rfl
        rotate_left
        · simp only [Act.put, List.setIfInBounds_toArray, List.set_cons_zero, List.set_cons_succ, i64_w, i32_w]
          rfl
        refine pure_ (i := 13) (N := some 57) (v := ?_) (a' := ?_) #[true, true, true, false, true, true, true, true, false, true, false, false, false, true, false, false, false, false] rfl rfl (by kernel_rfl) (fun _ _ _ h => h) (Or.inl ⟨by rfl, ?_⟩) ?_ ?_
        rotate_left
        · intro w'
          go_simp
          with_reducible rfl
        rotate_left
        · simp only [Act.put, List.setIfInBounds_toArray, List.set_cons_zero, List.set_cons_succ, i64_w, i32_w]
          rfl
        refine take_ (i := 3) (N := some 47) (v := ?_) (a' := ?_) #[true, true, true, true, true, true, true, true, false, true, false, false, false, true, false, false, false, false] rfl rfl (by kernel_rfl) (fun _ _ _ h => h) (Or.inl ⟨by rfl, ?_⟩) hHeld ?_ ?_
        rotate_left
        · rintro w' ⟨s0, s1⟩
          go_simp
          with_reducible rfl
        rotate_left
        · simp only [Act.put, List.setIfInBounds_toArray, List.set_cons_zero, List.set_cons_succ, i64_w, i32_w]
          rfl
        refine take_ (i := 8) (N := some 52) (v := ?_) (a' := ?_) #[true, true, true, true, true, true, true, true, true, true, false, false, false, true, false, false, false, false] rfl rfl (by kernel_rfl) (fun _ _ _ h => h) (Or.inl ⟨by rfl, ?_⟩) hHeld ?_ ?_
        rotate_left
        · rintro w' ⟨s0, s1⟩
          go_simp
          with_reducible rfl
        rotate_left
        · simp only [Act.put, List.setIfInBounds_toArray, List.set_cons_zero, List.set_cons_succ, i64_w, i32_w]
          rfl
        refine pure_ (i := 10) (N := some 54) (v := ?_) (a' := ?_) #[true, true, true, true, true, true, true, true, true, true, true, false, false, true, false, false, false, false] rfl rfl (by kernel_rfl) (fun _ _ _ h => h) (Or.inl ⟨by rfl, ?_⟩) ?_ ?_
        rotate_left
        · intro w'
          go_simp
          with_reducible rfl
        rotate_left
        · simp only [Act.put, List.setIfInBounds_toArray, List.set_cons_zero, List.set_cons_succ, i64_w, i32_w]
          rfl
        refine pure_ (i := 11) (N := some 55) (v := ?_) (a' := ?_) #[true, true, true, true, true, true, true, true, true, true, true, true, false, true, false, false, false, false] rfl rfl (by kernel_rfl) (fun _ _ _ h => h) (Or.inl ⟨by rfl, ?_⟩) ?_ ?_
        rotate_left
        · intro w'
          go_simp
          with_reducible rfl
        rotate_left
        · simp only [Act.put, List.setIfInBounds_toArray, List.set_cons_zero, List.set_cons_succ, i64_w, i32_w]
          rfl
        refine take_ (i := 12) (N := some 56) (v := ?_) (a' := ?_) #[true, true, true, true, true, true, true, true, true, true, true, true, true, true, false, false, false, false] rfl rfl (by kernel_rfl) (fun _ _ _ h => h) (Or.inl ⟨by rfl, ?_⟩) hHeld ?_ ?_
        rotate_left
        · rintro w' ⟨s0, s1⟩
          go_simp
          with_reducible rfl
        rotate_left
        · simp only [Act.put, List.setIfInBounds_toArray, List.set_cons_zero, List.set_cons_succ, i64_w, i32_w]
          rfl
        refine pure_ (i := 14) (N := some 58) (v := ?_) (a' := ?_) #[true, true, true, true, true, true, true, true, true, true, true, true, true, true, true, false, false, false] rfl rfl (by kernel_rfl) (fun _ _ _ h => h) (Or.inl ⟨by rfl, ?_⟩) ?_ ?_
        rotate_left
        · intro w'
          go_simp
          with_reducible rfl
        rotate_left
        · simp only [Act.put, List.setIfInBounds_toArray, List.set_cons_zero, List.set_cons_succ, i64_w, i32_w]
          rfl
        refine pure_ (i := 15) (N := some 59) (v := ?_) (a' := ?_) #[true, true, true, true, true, true, true, true, true, true, true, true, true, true, true, true, false, false] rfl rfl (by kernel_rfl) (fun _ _ _ h => h) (Or.inl ⟨by rfl, ?_⟩) ?_ ?_
        rotate_left
        · intro w'
          go_simp
          with_reducible rfl
        rotate_left
        · simp only [Act.put, List.setIfInBounds_toArray, List.set_cons_zero, List.set_cons_succ, i64_w, i32_w]
          rfl
        refine pure_ (i := 16) (N := some 60) (v := ?_) (a' := ?_) #[true, true, true, true, true, true, true, true, true, true, true, true, true, true, true, true, true, false] rfl rfl (by kernel_rfl) (fun _ _ _ h => h) (Or.inl ⟨by rfl, ?_⟩) ?_ ?_
        rotate_left
        · intro w'
          go_simp
          with_reducible rfl
        rotate_left
        · simp only [Act.put, List.setIfInBounds_toArray, List.set_cons_zero, List.set_cons_succ, i64_w, i32_w]
          rfl
        refine last_ (i := 17) (N := none) #[true, true, true, true, true, true, true, true, true, true, true, true, true, true, true, true, true, true] rfl rfl (by kernel_rfl) (by decide) (fun K hK => ?_)
        refine skip_ (w1 := ?_) (by rfl) rfl ?_ ?_
        rotate_left
        · go_simp
          rfl
        refine hK.out _ _ ?_
        clear hK K
        refine done_ (by kernel_rfl) ?_
        go_wp2
        go_ret
        exact ⟨by rw [HZ2.out]; rfl, ⟨_, by rw [HZ2.out]; have := HS2.out.1; rw [List.set_set] at this; rw [em.out]; exact this⟩, (HFr1.out.trans (Fr.of_below (below_drew (Below.refl _ _)) (RS d m B)) (fun k hk => .inl hk)).trans HS2.out.2 (fun k hk => .inl hk)⟩
    · have e0 : (decide (0 ≤ k) && decide (k ≤ (f.text.size : Int))) = false := by
        by_cases h0 : 0 ≤ k
        · rw [decide_eq_false (show ¬ k ≤ (f.text.size : Int) from fun h => hk0 ⟨h0, h⟩), Bool.and_false]
        · rw [decide_eq_false h0, Bool.false_and]
      rw [e0] at NUMF
      have HZ2 : Aside0 (Z = (G, 1)) := ⟨by
        rw [HZ.out]
        by_cases h0 : k < 0
        · rw [if_pos h0]
        · rw [if_neg h0, if_pos (by omega)]⟩
      clear hk0 e0
      go_enter Try.func46, Try.ntmps46
      go_wp2_with (first
        | (go_at_call 60; ((with_reducible refine (ref_counts.calls _ r _ HR.out.blk).mono ?_); rintro _ _ ⟨rfl, ⟨n1, rfl⟩⟩; have HB1 := Aside0.mk (pw_below_drewN (Below.refl w.heap.size w) n1)))
        | (go_at_call 59; ((with_reducible refine (ref_find.calls _ r _ _ G _ (HR.out.below HB1.out).blk (Kd.C_below HC.out HB1.out) (Nat.le_trans HL.out (by decide))).mono ?_); rw [HN.out]; rintro _ _ ⟨rfl, ⟨n2, rfl⟩⟩; have HB2 := Aside0.mk (pw_below_drewN (Below.refl w.heap.size w) (n1 + n2)); obtain ⟨g0, x1⟩ := HX.out _ HB2.out))
        | (go_at_call 61; ((with_reducible refine (NUMF.out _).mono ?_); rintro _ _ ⟨rfl, ⟨n3, rfl⟩⟩; have HB3 := Aside0.mk (pw_below_drewN (Below.refl w.heap.size w) (n1 + n2 + n3)))))
      go_ret
      exact ⟨by rw [HZ2.out]; rfl, ⟨_, by rw [HZ2.out]; exact HR.out.below HB3.out⟩, Fr.of_below HB3.out _⟩
end Go.Proofs.Ytknljmljlgcfbaa.P
