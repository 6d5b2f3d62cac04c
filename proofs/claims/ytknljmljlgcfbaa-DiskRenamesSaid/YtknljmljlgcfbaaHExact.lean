/- By hand: DiskExact: whatever is asked of a disk, each call answers what the page says. -/
import Derived.Test.YtknljmljlgcfbaaExact
namespace Go.Proofs.Ytknljmljlgcfbaa.P
open Go.RowKit Go.Proofs.YtknljmljlgcfbaaW.PrintWords Go.Proofs.YtknljmljlgcfbaaW.PrintLast Go.Proofs.YtknljmljlgcfbaaW.PrintMore
open Go.Proofs.Ytknljmljlgcfbaa
attribute [local go_sem] max2_int min2_int max_two min_two max_three min_three max_four min_four
set_option linter.unusedSimpArgs false
set_option linter.unusedVariables false
theorem disk_New.none_ (A0 : Option Addr) (c0 : Nat) (names : List ByteArray) (A1 : Option Addr) (c1 : Nat) (texts : List ByteArray) (w : World) (hr0 : Kd.C Kd.string w A0 names.length names) (hc0 : names.length ≤ c0) (hr1 : Kd.C Kd.string w A1 texts.length texts) (hc1 : texts.length ≤ c1) (hn : newR names texts = none) :
    Calls Try.prog 11 #[.slice A0 names.length c0, .slice A1 texts.length c1] w fun e w' => e = .returned (.tuple #[.pointer none, .int .i64 1]) ∧ Below w.heap.size w w' := by
  have := disk_New.calls A0 c0 names A1 c1 texts w hr0 hc0 hr1 hc1
  rw [hn] at this
  exact this
set_option maxRecDepth 100000 in
set_option maxHeartbeats 32000000 in
theorem fairwaylaw9_DiskExact.calls (A0_0 : Option Addr) (c0_0 : Nat) (l0_0 : List ByteArray) (A0_1 : Option Addr) (c0_1 : Nat) (l0_1 : List ByteArray) (A0_2 : Option Addr) (c0_2 : Nat) (l0_2 : List S64) (r : Bool) (w : World) (hr0_0 : Kd.C Kd.string w A0_0 l0_0.length l0_0) (hc0_0 : l0_0.length ≤ c0_0) (hr0_1 : Kd.C Kd.string w A0_1 l0_1.length l0_1) (hc0_1 : l0_1.length ≤ c0_1) (hr0_2 : Kd.C k64 w A0_2 l0_2.length l0_2) (hc0_2 : l0_2.length ≤ c0_2) (h : fairwaylaw9_DiskExact.f l0_0 l0_1 l0_2 = some r) :
    Calls Try.prog 32 #[.agg #[.slice A0_0 l0_0.length c0_0, .slice A0_1 l0_1.length c0_1, .slice A0_2 l0_2.length c0_2]] w fun e w' => e = .returned (.bool r) ∧ Below w.heap.size w w' := by
  unfold fairwaylaw9_DiskExact.f at h
  by_cases hok : exactOk l0_0 l0_1 l0_2 = true
  case neg => rw [if_neg hok] at h; cases h
  rw [if_pos hok] at h
  obtain rfl : true = r := Option.some.inj h
  have HE := Aside0.mk (exactOk_is hok)
  have HR0 := Aside0.mk hr0_0
  have HR1 := Aside0.mk hr0_1
  have HR2 := Aside0.mk hr0_2
  have HC0 := Aside0.mk hc0_0
  have HC1 := Aside0.mk hc0_1
  have HC2 := Aside0.mk hc0_2
  clear h hok hr0_0 hr0_1 hr0_2 hc0_0 hc0_1 hc0_2
  obtain ⟨b, hb, _⟩ := heavy_total l0_0 l0_1 l0_2 (Nat.le_trans HE.out.n (by decide)) (Nat.le_trans HE.out.t (by decide)) (Nat.le_trans HE.out.l (by decide)) (l0_0.length + l0_1.length + l0_2.length + 1) (by omega) (by omega) (by omega)
  have HV := Aside0.mk hb
  clear hb
  obtain ⟨wa, hwa⟩ : ∃ wa, wa = w.alloc (.cells #[.slice A0_0 l0_0.length c0_0, .slice A0_1 l0_1.length c0_1, .slice A0_2 l0_2.length c0_2] 25) := ⟨_, rfl⟩
  have HBK : Aside0 (wa.heap[w.heap.size]? = some (.cells #[.slice A0_0 l0_0.length c0_0, .slice A0_1 l0_1.length c0_1, .slice A0_2 l0_2.length c0_2] 25 (0, 0))) := ⟨by rw [hwa]; exact heap_alloc_new w _⟩
  have HB0 : Aside0 (Below w.heap.size w wa) := ⟨by rw [hwa]; exact below_alloc (Below.refl _ w) _⟩
  have HX : Aside0 (∀ W, Below wa.heap.size wa W → W.cell? ⟨w.heap.size, 0, none⟩ = some (.slice A0_0 l0_0.length c0_0) ∧ W.cell? ⟨w.heap.size, 1, none⟩ = some (.slice A0_1 l0_1.length c0_1) ∧ W.cell? ⟨w.heap.size, 2, none⟩ = some (.slice A0_2 l0_2.length c0_2)) := ⟨fun W hW => by
    have hk := (hW.block _ (blk_lt HBK.out)).trans HBK.out
    exact ⟨(blk_cell hk 0).trans rfl, (blk_cell hk 1).trans rfl, (blk_cell hk 2).trans rfl⟩⟩
  obtain ⟨x0, x1, x2⟩ := HX.out _ (Below.refl _ wa)
  cases b with
  | true =>
    go_enter Try.func32, Try.ntmps32
    rw [hwa] at x0 x1 x2
    go_wp2_with (first
      | (rw [← hwa]; (go_at_call 31; ((with_reducible refine (fairwaylaw9_heavy.calls _ _ _ l0_0 _ _ l0_1 _ _ l0_2 _ _ (Kd.C_below HR0.out HB0.out) HC0.out (Kd.C_below HR1.out HB0.out) HC1.out (Kd.C_below HR2.out HB0.out) HC2.out HV.out).mono ?_); rintro _ w1 ⟨rfl, hb⟩; have HB1 := Aside0.mk hb; clear hb; obtain ⟨x0, x1, x2⟩ := HX.out _ HB1.out))))
    go_ret
    exact ⟨rfl, below_then HB0.out HB0.out.size HB1.out⟩
  | false =>
    cases hnw : newR l0_0 l0_1 with
    | none =>
      have HNW := Aside0.mk hnw
      have HMY : Aside0 (mayG l0_0 l0_1 = false) := ⟨by rw [mayG_new, hnw]; rfl⟩
      clear hnw
      go_enter Try.func32, Try.ntmps32
      rw [hwa] at x0 x1 x2
      go_wp2_with (first
        | (rw [← hwa]; (go_at_call 31; ((with_reducible refine (fairwaylaw9_heavy.calls _ _ _ l0_0 _ _ l0_1 _ _ l0_2 _ _ (Kd.C_below HR0.out HB0.out) HC0.out (Kd.C_below HR1.out HB0.out) HC1.out (Kd.C_below HR2.out HB0.out) HC2.out HV.out).mono ?_); rintro _ w1 ⟨rfl, hb⟩; have HB1 := Aside0.mk hb; clear hb; obtain ⟨x0, x1, x2⟩ := HX.out _ HB1.out))))
      refine start_ (n := 12) (S := fun w' => w'.cell? ⟨w.heap.size, 0, none⟩ = some (.slice A0_0 l0_0.length c0_0) ∧ w'.cell? ⟨w.heap.size, 1, none⟩ = some (.slice A0_1 l0_1.length c0_1)) (ds := []) #[false, false, false, false, false, false, false, false, false, false, false, false] (by kernel_rfl) rfl rfl ⟨x0, x1⟩ (fun hHeld => ?_)
      refine pure_ (i := 0) (N := some 32) (v := ?_) (a' := ?_) #[true, false, false, false, false, false, false, false, false, false, false, false] rfl rfl (by kernel_rfl) (fun _ _ _ h => h) (Or.inl ⟨by rfl, ?_⟩) ?_ ?_
      rotate_left
      · intro w'
        go_simp
        with_reducible rfl
      rotate_left
      · simp only [Act.put, List.setIfInBounds_toArray, List.set_cons_zero, List.set_cons_succ, i64_w, i32_w]
        rfl
      refine pure_ (i := 3) (N := some 35) (v := ?_) (a' := ?_) #[true, false, false, true, false, false, false, false, false, false, false, false] rfl rfl (by kernel_rfl) (fun _ _ _ h => h) (Or.inl ⟨by rfl, ?_⟩) ?_ ?_
      rotate_left
      · intro w'
        go_simp
        with_reducible rfl
      rotate_left
      · simp only [Act.put, List.setIfInBounds_toArray, List.set_cons_zero, List.set_cons_succ, i64_w, i32_w]
        rfl
      refine take_ (i := 1) (N := some 33) (v := ?_) (a' := ?_) #[true, true, false, true, false, false, false, false, false, false, false, false] rfl rfl (by kernel_rfl) (fun _ _ _ h => h) (Or.inl ⟨by rfl, ?_⟩) hHeld ?_ ?_
      rotate_left
      · rintro w' ⟨s0, s1⟩
        go_simp
        with_reducible rfl
      rotate_left
      · simp only [Act.put, List.setIfInBounds_toArray, List.set_cons_zero, List.set_cons_succ, i64_w, i32_w]
        rfl
      refine take_ (i := 4) (N := some 36) (v := ?_) (a' := ?_) #[true, true, false, true, true, false, false, false, false, false, false, false] rfl rfl (by kernel_rfl) (fun _ _ _ h => h) (Or.inl ⟨by rfl, ?_⟩) hHeld ?_ ?_
      rotate_left
      · rintro w' ⟨s0, s1⟩
        go_simp
        with_reducible rfl
      rotate_left
      · simp only [Act.put, List.setIfInBounds_toArray, List.set_cons_zero, List.set_cons_succ, i64_w, i32_w]
        rfl
      refine one_ (i := 2) (N := some 34) #[true, true, true, true, true, false, false, false, false, false, false, false] rfl rfl (by kernel_rfl) (by decide) (fun K hK => ?_)
      refine goes_ Try.func37 (by kernel_rfl) rfl #[.slice A0_0 l0_0.length c0_0] (by rfl) rfl rfl (by simp only [List.map_toArray, List.map_cons, List.map_nil]; rfl) ?_
      with_reducible refine (fairwayref0_CopyStrings.calls (l0_0.length + 1) _ _ l0_0 l0_0 _ (Kd.C_below HR0.out (below_then HB0.out HB0.out.size (below_drew HB1.out))) HC0.out (copyS_f l0_0 HE.out.n)).mono ?_
      rintro _ wc0 ⟨vc0, rfl, hr, hb⟩
      refine ⟨_, rfl, ?_⟩
      have HBc0 := Aside0.mk (below_step (below_drew HB1.out) hb)
      have HRc0 := Aside0.mk hr
      clear hr hb
      refine hK.out _ _ ⟨(HX.out _ HBc0.out).1, (HX.out _ HBc0.out).2.1⟩ (fun hHeld => ?_)
      clear hK K
      refine norm_ (a' := ?_) ?_ ?_
      rotate_left
      · show Act.put _ (some 34) _ = _
        simp only [Act.put, List.setIfInBounds_toArray, List.set_cons_zero, List.set_cons_succ, i64_w, i32_w]
        rfl
      refine one_ (i := 5) (N := some 37) #[true, true, true, true, true, true, false, false, false, false, false, false] rfl rfl (by kernel_rfl) (by decide) (fun K hK => ?_)
      refine goes_ Try.func37 (by kernel_rfl) rfl #[.slice A0_1 l0_1.length c0_1] (by rfl) rfl rfl (by simp only [List.map_toArray, List.map_cons, List.map_nil]; rfl) ?_
      with_reducible refine (fairwayref0_CopyStrings.calls (l0_1.length + 1) _ _ l0_1 l0_1 _ (Kd.C_below HR1.out (below_then HB0.out HB0.out.size HBc0.out)) HC1.out (copyS_f l0_1 HE.out.t)).mono ?_
      rintro _ wc1 ⟨vc1, rfl, hr, hb⟩
      refine ⟨_, rfl, ?_⟩
      have HBc1 := Aside0.mk (below_step HBc0.out hb)
      have HRc1 := Aside0.mk hr
      have HRc0 := Aside0.mk (Kd.R_below HRc0.out hb)
      clear hr hb
      obtain ⟨An, cn, e0, hcn, hCn⟩ := Kd.R_reads HRc0.out
      obtain ⟨At, ct, e1, hct, hCt⟩ := Kd.R_reads HRc1.out
      subst e0
      subst e1
      have HB2 := Aside0.mk HBc1.out
      have HCn := Aside0.mk hCn
      have HCt := Aside0.mk hCt
      have Hcn := Aside0.mk hcn
      have Hct := Aside0.mk hct
      clear hCn hCt hcn hct
      refine hK.out _ _ ⟨(HX.out _ HBc1.out).1, (HX.out _ HBc1.out).2.1⟩ (fun hHeld => ?_)
      clear hK K
      refine norm_ (a' := ?_) ?_ ?_
      rotate_left
      · show Act.put _ (some 37) _ = _
        simp only [Act.put, List.setIfInBounds_toArray, List.set_cons_zero, List.set_cons_succ, i64_w, i32_w]
        rfl
      refine one_ (i := 6) (N := some 38) #[true, true, true, true, true, true, true, false, false, false, false, false] rfl rfl (by kernel_rfl) (by decide) (fun K hK => ?_)
      refine goes_ Try.func11 (by kernel_rfl) rfl #[.slice An l0_0.length cn, .slice At l0_1.length ct] (by rfl) rfl rfl (by simp only [List.map_toArray, List.map_cons, List.map_nil]; rfl) ?_
      with_reducible refine (disk_New.none_ An cn l0_0 At ct l0_1 _ HCn.out Hcn.out HCt.out Hct.out HNW.out).mono ?_
      rintro _ w3 ⟨rfl, hb⟩
      refine ⟨_, rfl, ?_⟩
      have HB3 := Aside0.mk (below_step HB2.out hb)
      clear hb
      refine hK.out _ _ ⟨(HX.out _ HB3.out).1, (HX.out _ HB3.out).2.1⟩ (fun hHeld => ?_)
      clear hK K
      refine norm_ (a' := ?_) ?_ ?_
      rotate_left
      · show Act.put _ (some 38) _ = _
        simp only [Act.put, List.setIfInBounds_toArray, List.set_cons_zero, List.set_cons_succ, i64_w, i32_w]
        rfl
      refine pure_ (i := 7) (N := some 31) (v := ?_) (a' := ?_) #[true, true, true, true, true, true, true, true, false, false, false, false] rfl rfl (by kernel_rfl) (fun _ _ _ h => h) (Or.inl ⟨by rfl, ?_⟩) ?_ ?_
      rotate_left
      · intro w'
        go_simp
        with_reducible rfl
      rotate_left
      · simp only [Act.put, List.setIfInBounds_toArray, List.set_cons_zero, List.set_cons_succ, i64_w, i32_w]
        rfl
      refine pure_ (i := 8) (N := some 39) (v := ?_) (a' := ?_) #[true, true, true, true, true, true, true, true, true, false, false, false] rfl rfl (by kernel_rfl) (fun _ _ _ h => h) (Or.inl ⟨by rfl, ?_⟩) ?_ ?_
      rotate_left
      · intro w'
        go_simp
        with_reducible rfl
      rotate_left
      · simp only [Act.put, List.setIfInBounds_toArray, List.set_cons_zero, List.set_cons_succ, i64_w, i32_w]
        rfl
      refine pure_ (i := 9) (N := some 40) (v := ?_) (a' := ?_) #[true, true, true, true, true, true, true, true, true, true, false, false] rfl rfl (by kernel_rfl) (fun _ _ _ h => h) (Or.inl ⟨by rfl, ?_⟩) ?_ ?_
      rotate_left
      · intro w'
        go_simp
        with_reducible rfl
      rotate_left
      · simp only [Act.put, List.setIfInBounds_toArray, List.set_cons_zero, List.set_cons_succ, i64_w, i32_w]
        rfl
      refine pure_ (i := 10) (N := some 3) (v := ?_) (a' := ?_) #[true, true, true, true, true, true, true, true, true, true, true, false] rfl rfl (by kernel_rfl) (fun _ _ _ h => h) (Or.inl ⟨by rfl, ?_⟩) ?_ ?_
      rotate_left
      · intro w'
        go_simp
        with_reducible rfl
      rotate_left
      · simp only [Act.put, List.setIfInBounds_toArray, List.set_cons_zero, List.set_cons_succ, i64_w, i32_w]
        rfl
      refine pure_ (i := 11) (N := some 4) (v := ?_) (a' := ?_) #[true, true, true, true, true, true, true, true, true, true, true, true] rfl rfl (by kernel_rfl) (fun _ _ _ h => h) (Or.inl ⟨by rfl, ?_⟩) ?_ ?_
      rotate_left
      · intro w'
        go_simp
        with_reducible rfl
      rotate_left
      · simp only [Act.put, List.setIfInBounds_toArray, List.set_cons_zero, List.set_cons_succ, i64_w, i32_w]
        rfl
      refine done_ (by kernel_rfl) ?_
      obtain ⟨x0, x1, x2⟩ := HX.out _ HB3.out
      go_wp2_with (first
        | (go_at_call 38; ((refine (ref_May.calls A0_0 c0_0 l0_0 A0_1 c0_1 l0_1 _ (Kd.C_below HR0.out (below_then HB0.out HB0.out.size HB3.out)) HC0.out (Kd.C_below HR1.out (below_then HB0.out HB0.out.size HB3.out)) HC1.out (fun n hn => Nat.le_trans (HE.out.names n hn) (by decide)) (fun n hn => Nat.le_trans (HE.out.texts n hn) (by decide))).mono ?_); rw [HMY.out]; rintro _ _ ⟨rfl, ⟨nm, rfl⟩⟩))
        | (go_at_call 16; (refine (disk_wakes.calls _).mono ?_); rintro _ w9 ⟨rfl, hb⟩; have HB9 := Aside0.mk (below_step (by (iterate 6 (try (first | (with_reducible apply pw_below_drewN) | (with_reducible apply below_drew) | (with_reducible apply below_alloc)))); exact (HB3).out) hb); clear hb)
        | (go_at_call 12; (with_reducible refine (fairwaylaw9_num.calls _ _ _ rfl).mono ?_); rintro _ _ ⟨rfl, ⟨nd, rfl⟩⟩))
      go_ret
      exact ⟨rfl, below_then HB0.out HB0.out.size HB9.out⟩
    | some F =>
      have HNW := Aside0.mk hnw
      have HMY : Aside0 (mayG l0_0 l0_1 = true) := ⟨by rw [mayG_new, hnw]; rfl⟩
      have HST := Aside0.mk (same_new hnw)
      clear hnw
      go_enter Try.func32, Try.ntmps32
      rw [hwa] at x0 x1 x2
      go_wp2_with (first
        | (rw [← hwa]; (go_at_call 31; ((with_reducible refine (fairwaylaw9_heavy.calls _ _ _ l0_0 _ _ l0_1 _ _ l0_2 _ _ (Kd.C_below HR0.out HB0.out) HC0.out (Kd.C_below HR1.out HB0.out) HC1.out (Kd.C_below HR2.out HB0.out) HC2.out HV.out).mono ?_); rintro _ w1 ⟨rfl, hb⟩; have HB1 := Aside0.mk hb; clear hb; obtain ⟨x0, x1, x2⟩ := HX.out _ HB1.out))))
      refine start_ (n := 12) (S := fun w' => w'.cell? ⟨w.heap.size, 0, none⟩ = some (.slice A0_0 l0_0.length c0_0) ∧ w'.cell? ⟨w.heap.size, 1, none⟩ = some (.slice A0_1 l0_1.length c0_1)) (ds := []) #[false, false, false, false, false, false, false, false, false, false, false, false] (by kernel_rfl) rfl rfl ⟨x0, x1⟩ (fun hHeld => ?_)
      refine pure_ (i := 0) (N := some 32) (v := ?_) (a' := ?_) #[true, false, false, false, false, false, false, false, false, false, false, false] rfl rfl (by kernel_rfl) (fun _ _ _ h => h) (Or.inl ⟨by rfl, ?_⟩) ?_ ?_
      rotate_left
      · intro w'
        go_simp
        with_reducible rfl
      rotate_left
      · simp only [Act.put, List.setIfInBounds_toArray, List.set_cons_zero, List.set_cons_succ, i64_w, i32_w]
        rfl
      refine pure_ (i := 3) (N := some 35) (v := ?_) (a' := ?_) #[true, false, false, true, false, false, false, false, false, false, false, false] rfl rfl (by kernel_rfl) (fun _ _ _ h => h) (Or.inl ⟨by rfl, ?_⟩) ?_ ?_
      rotate_left
      · intro w'
        go_simp
        with_reducible rfl
      rotate_left
      · simp only [Act.put, List.setIfInBounds_toArray, List.set_cons_zero, List.set_cons_succ, i64_w, i32_w]
        rfl
      refine take_ (i := 1) (N := some 33) (v := ?_) (a' := ?_) #[true, true, false, true, false, false, false, false, false, false, false, false] rfl rfl (by kernel_rfl) (fun _ _ _ h => h) (Or.inl ⟨by rfl, ?_⟩) hHeld ?_ ?_
      rotate_left
      · rintro w' ⟨s0, s1⟩
        go_simp
        with_reducible rfl
      rotate_left
      · simp only [Act.put, List.setIfInBounds_toArray, List.set_cons_zero, List.set_cons_succ, i64_w, i32_w]
        rfl
      refine take_ (i := 4) (N := some 36) (v := ?_) (a' := ?_) #[true, true, false, true, true, false, false, false, false, false, false, false] rfl rfl (by kernel_rfl) (fun _ _ _ h => h) (Or.inl ⟨by rfl, ?_⟩) hHeld ?_ ?_
      rotate_left
      · rintro w' ⟨s0, s1⟩
        go_simp
        with_reducible rfl
      rotate_left
      · simp only [Act.put, List.setIfInBounds_toArray, List.set_cons_zero, List.set_cons_succ, i64_w, i32_w]
        rfl
      refine one_ (i := 2) (N := some 34) #[true, true, true, true, true, false, false, false, false, false, false, false] rfl rfl (by kernel_rfl) (by decide) (fun K hK => ?_)
      refine goes_ Try.func37 (by kernel_rfl) rfl #[.slice A0_0 l0_0.length c0_0] (by rfl) rfl rfl (by simp only [List.map_toArray, List.map_cons, List.map_nil]; rfl) ?_
      with_reducible refine (fairwayref0_CopyStrings.calls (l0_0.length + 1) _ _ l0_0 l0_0 _ (Kd.C_below HR0.out (below_then HB0.out HB0.out.size (below_drew HB1.out))) HC0.out (copyS_f l0_0 HE.out.n)).mono ?_
      rintro _ wc0 ⟨vc0, rfl, hr, hb⟩
      refine ⟨_, rfl, ?_⟩
      have HBc0 := Aside0.mk (below_step (below_drew HB1.out) hb)
      have HRc0 := Aside0.mk hr
      clear hr hb
      refine hK.out _ _ ⟨(HX.out _ HBc0.out).1, (HX.out _ HBc0.out).2.1⟩ (fun hHeld => ?_)
      clear hK K
      refine norm_ (a' := ?_) ?_ ?_
      rotate_left
      · show Act.put _ (some 34) _ = _
        simp only [Act.put, List.setIfInBounds_toArray, List.set_cons_zero, List.set_cons_succ, i64_w, i32_w]
        rfl
      refine one_ (i := 5) (N := some 37) #[true, true, true, true, true, true, false, false, false, false, false, false] rfl rfl (by kernel_rfl) (by decide) (fun K hK => ?_)
      refine goes_ Try.func37 (by kernel_rfl) rfl #[.slice A0_1 l0_1.length c0_1] (by rfl) rfl rfl (by simp only [List.map_toArray, List.map_cons, List.map_nil]; rfl) ?_
      with_reducible refine (fairwayref0_CopyStrings.calls (l0_1.length + 1) _ _ l0_1 l0_1 _ (Kd.C_below HR1.out (below_then HB0.out HB0.out.size HBc0.out)) HC1.out (copyS_f l0_1 HE.out.t)).mono ?_
      rintro _ wc1 ⟨vc1, rfl, hr, hb⟩
      refine ⟨_, rfl, ?_⟩
      have HBc1 := Aside0.mk (below_step HBc0.out hb)
      have HRc1 := Aside0.mk hr
      have HRc0 := Aside0.mk (Kd.R_below HRc0.out hb)
      clear hr hb
      obtain ⟨An, cn, e0, hcn, hCn⟩ := Kd.R_reads HRc0.out
      obtain ⟨At, ct, e1, hct, hCt⟩ := Kd.R_reads HRc1.out
      subst e0
      subst e1
      have HB2 := Aside0.mk HBc1.out
      have HCn := Aside0.mk hCn
      have HCt := Aside0.mk hCt
      have Hcn := Aside0.mk hcn
      have Hct := Aside0.mk hct
      clear hCn hCt hcn hct
      refine hK.out _ _ ⟨(HX.out _ HBc1.out).1, (HX.out _ HBc1.out).2.1⟩ (fun hHeld => ?_)
      clear hK K
      refine norm_ (a' := ?_) ?_ ?_
      rotate_left
      · show Act.put _ (some 37) _ = _
        simp only [Act.put, List.setIfInBounds_toArray, List.set_cons_zero, List.set_cons_succ, i64_w, i32_w]
        rfl
      refine one_ (i := 6) (N := some 38) #[true, true, true, true, true, true, true, false, false, false, false, false] rfl rfl (by kernel_rfl) (by decide) (fun K hK => ?_)
      refine goes_ Try.func11 (by kernel_rfl) rfl #[.slice An l0_0.length cn, .slice At l0_1.length ct] (by rfl) rfl rfl (by simp only [List.map_toArray, List.map_cons, List.map_nil]; rfl) ?_
      with_reducible refine (disk_New.to An cn l0_0 At ct l0_1 F _ HCn.out Hcn.out HCt.out Hct.out HNW.out).mono ?_
      rintro _ w3 ⟨d, m, h1, h2, rfl, h4, h5⟩
      refine ⟨_, rfl, ?_⟩
      have HD3 := Aside0.mk h4
      have HB3 := Aside0.mk (below_step HB2.out h5)
      have H1 := Aside0.mk (Nat.le_trans HB2.out.size h1)
      have H2 := Aside0.mk (Nat.le_trans HB2.out.size h2)
      clear h1 h2 h4 h5
      refine hK.out _ _ ⟨(HX.out _ HB3.out).1, (HX.out _ HB3.out).2.1⟩ (fun hHeld => ?_)
      clear hK K
      refine norm_ (a' := ?_) ?_ ?_
      rotate_left
      · show Act.put _ (some 38) _ = _
        simp only [Act.put, List.setIfInBounds_toArray, List.set_cons_zero, List.set_cons_succ, i64_w, i32_w]
        rfl
      refine pure_ (i := 7) (N := some 31) (v := ?_) (a' := ?_) #[true, true, true, true, true, true, true, true, false, false, false, false] rfl rfl (by kernel_rfl) (fun _ _ _ h => h) (Or.inl ⟨by rfl, ?_⟩) ?_ ?_
      rotate_left
      · intro w'
        go_simp
        with_reducible rfl
      rotate_left
      · simp only [Act.put, List.setIfInBounds_toArray, List.set_cons_zero, List.set_cons_succ, i64_w, i32_w]
        rfl
      refine pure_ (i := 8) (N := some 39) (v := ?_) (a' := ?_) #[true, true, true, true, true, true, true, true, true, false, false, false] rfl rfl (by kernel_rfl) (fun _ _ _ h => h) (Or.inl ⟨by rfl, ?_⟩) ?_ ?_
      rotate_left
      · intro w'
        go_simp
        with_reducible rfl
      rotate_left
      · simp only [Act.put, List.setIfInBounds_toArray, List.set_cons_zero, List.set_cons_succ, i64_w, i32_w]
        rfl
      refine pure_ (i := 9) (N := some 40) (v := ?_) (a' := ?_) #[true, true, true, true, true, true, true, true, true, true, false, false] rfl rfl (by kernel_rfl) (fun _ _ _ h => h) (Or.inl ⟨by rfl, ?_⟩) ?_ ?_
      rotate_left
      · intro w'
        go_simp
        with_reducible rfl
      rotate_left
      · simp only [Act.put, List.setIfInBounds_toArray, List.set_cons_zero, List.set_cons_succ, i64_w, i32_w]
        rfl
      refine pure_ (i := 10) (N := some 3) (v := ?_) (a' := ?_) #[true, true, true, true, true, true, true, true, true, true, true, false] rfl rfl (by kernel_rfl) (fun _ _ _ h => h) (Or.inl ⟨by rfl, ?_⟩) ?_ ?_
      rotate_left
      · intro w'
        go_simp
        with_reducible rfl
      rotate_left
      · simp only [Act.put, List.setIfInBounds_toArray, List.set_cons_zero, List.set_cons_succ, i64_w, i32_w]
        rfl
      refine pure_ (i := 11) (N := some 4) (v := ?_) (a' := ?_) #[true, true, true, true, true, true, true, true, true, true, true, true] rfl rfl (by kernel_rfl) (fun _ _ _ h => h) (Or.inl ⟨by rfl, ?_⟩) ?_ ?_
      rotate_left
      · intro w'
        go_simp
        with_reducible rfl
      rotate_left
      · simp only [Act.put, List.setIfInBounds_toArray, List.set_cons_zero, List.set_cons_succ, i64_w, i32_w]
        rfl
      refine done_ (by kernel_rfl) ?_
      obtain ⟨x0, x1, x2⟩ := HX.out _ HB3.out
      go_wp2_with (first
        | (go_at_call 38; ((refine (ref_May.calls A0_0 c0_0 l0_0 A0_1 c0_1 l0_1 _ (Kd.C_below HR0.out (below_then HB0.out HB0.out.size HB3.out)) HC0.out (Kd.C_below HR1.out (below_then HB0.out HB0.out.size HB3.out)) HC1.out (fun n hn => Nat.le_trans (HE.out.names n hn) (by decide)) (fun n hn => Nat.le_trans (HE.out.texts n hn) (by decide))).mono ?_); rw [HMY.out]; rintro _ _ ⟨rfl, ⟨nm, rfl⟩⟩))
        | (go_at_call 39; ((refine (ref_New.calls A0_0 c0_0 l0_0 A0_1 c0_1 l0_1 _ d (fun k => k = m) (Nat.lt_of_lt_of_le HD3.out.lt.1 (show w3.heap.size ≤ _ from ((by iterate 6 (try (first | (with_reducible exact Below.refl _ _) | (with_reducible apply pw_below_drewN) | (with_reducible apply below_drew) | (with_reducible apply below_alloc)))) : Below w3.heap.size w3 _).size)) (fun k hk => by rw [hk]; exact Nat.lt_of_lt_of_le HD3.out.map.lt (show w3.heap.size ≤ _ from ((by iterate 6 (try (first | (with_reducible exact Below.refl _ _) | (with_reducible apply pw_below_drewN) | (with_reducible apply below_drew) | (with_reducible apply below_alloc)))) : Below w3.heap.size w3 _).size)) (Kd.C_below HR0.out (below_then HB0.out HB0.out.size (by (iterate 6 (try (first | (with_reducible apply pw_below_drewN) | (with_reducible apply below_drew) | (with_reducible apply below_alloc)))); exact (HB3).out))) HC0.out (Kd.C_below HR1.out (below_then HB0.out HB0.out.size (by (iterate 6 (try (first | (with_reducible apply pw_below_drewN) | (with_reducible apply below_drew) | (with_reducible apply below_alloc)))); exact (HB3).out))) HC1.out HST.out.2.1 HST.out.2.2).mono ?_); rintro _ w4 ⟨r, v, rfl, hr, hb⟩; have HRf := Aside0.mk (hr.lower (show wa.heap.size ≤ _ from HB3.out.size)); have HD4 := Aside0.mk ((HD3.out.drewN _).below hb); have HB4 := Aside0.mk (below_step (pw_below_drewN HB3.out _) hb); clear hr hb))
        | (go_at_call 12; (with_reducible refine (fairwaylaw9_num.calls _ _ _ rfl).mono ?_); rintro _ _ ⟨rfl, ⟨nd, rfl⟩⟩))
      clear x0 x1 x2
      go_loopw [6, 3, 5, 2, 7, 8, 9, 10, 11, 12, 13, 14, 15, 16, 17, 18, 19, 20, 21, 22, 23] (fun v6 v3 v5 _ _ _ _ _ _ _ _ _ _ _ _ _ _ _ _ _ _ w' => ∃ (i d m r : Nat) (v : Value) (F G : List DFile), v6 = .int .i64 i ∧ v3 = .pointer (some ⟨d, 0, none⟩) ∧ v5 = .pointer (some ⟨r, 0, none⟩) ∧ i ≤ l0_2.length ∧ Aside0 (DiskAt w' d m F 0 false) ∧ Aside0 (RefAt w' d (fun k => k = m) r wa.heap.size v G) ∧ Aside0 (St F G) ∧ Aside0 (Below wa.heap.size wa w') ∧ Aside0 (wa.heap.size ≤ d ∧ wa.heap.size ≤ m)) (fun v6 _ _ _ _ _ _ _ _ _ _ _ _ _ _ _ _ _ _ _ _ _ => (l0_2.length - intOf v6).toNat)
      case atStart => exact ⟨0, d, m, r, v, F, _, rfl, rfl, rfl, by omega, HD4, HRf, ⟨HST.out.1⟩, HB4, ⟨H1.out, H2.out⟩⟩
      case round =>
        clear HD3 HB3 HD4 HRf HB4 H1 H2
        obtain ⟨i, d, m, r, v, F, G, rfl, rfl, rfl, hi, HDr, HRr, HS0, HBr, HDM⟩ := hrel
        obtain ⟨x0, x1, x2⟩ := HX.out _ HBr.out
        have hl200 := HE.out.l
        by_cases hlt : i < l0_2.length
        · have d0 : decide ((i : Int) < (l0_2.length : Int)) = true := by simp; omega
          by_cases h40 : i < 40
          · have d1 : decide ((i : Int) < 40) = true := by simp; omega
            have d2 : (i : Int) < 40 := by omega
            have d3 : ¬ (40 : Int) ≤ (i : Int) := by omega
            have d4 : (i : Int) < (l0_2.length : Int) := by omega
            have HI1 := Aside0.mk (show i + 1 ≤ l0_2.length by omega)
            have w1_ : IntKind.i64.wrap ((i : Int) + 1) = ((i + 1 : Nat) : Int) := by rw [IntKind.wrap_i64]; omega
            obtain ⟨ad, A5, c5, e0, y0, y1, y2, y3, y4, y5, hc5, hC5⟩ := at_T64 HR2.out (i : Int) (by omega) (by omega)
            subst e0
            simp only [Int.toNat_natCast] at y0 y1 y2 y3 y4 y5
            have hbw := below_then HB0.out HB0.out.size HBr.out
            replace y0 := cellBelow y0 hbw
            replace y1 := cellBelow y1 hbw
            replace y2 := cellBelow y2 hbw
            replace y3 := cellBelow y3 hbw
            replace y4 := cellBelow y4 hbw
            replace y5 := cellBelow y5 hbw
            clear hbw
            have HA : Aside0 (ActOk (rd_T64 l0_2 (i : Int))) := ⟨HE.out.acts _ (by
              have : rd_T64 l0_2 (i : Int) = l0_2[i] := by unfold rd_T64; simp [List.getElem?_eq_getElem hlt]
              rw [this]; exact List.getElem_mem hlt)⟩
            have HP5 := Aside0.mk hC5
            have HC5 := Aside0.mk hc5
            clear hC5 hc5
            generalize rd_T64 l0_2 (i : Int) = a at *
            have hdo := HA.out.do_
            clear hlt h40 hi hl200
            rcases hdo with hdo | hdo
            · rw [hdo] at y0
              clear hdo
              obtain ⟨bc, hbc⟩ : ∃ bc : Array Value, bc = #[.int .i64 3, .int .i64 a.f1, .string a.f2, .string a.f3, .string a.f4, .slice A5 a.f5.length c5] := ⟨_, rfl⟩
              have HT := Aside0.mk (TS.mk_ bc HDr.out HRr.out HBr.out HDM.out.1 HDM.out.2)
              have HS2 := Aside0.mk (same_app HS0.out a.f2 a.f4)
              obtain ⟨Fd, ed, hFd⟩ : ∃ Fd ed, appR F 0 false a.f2 a.f4 = (Fd, ed) := ⟨_, _, rfl⟩
              obtain ⟨Gd, eg, hGd⟩ : ∃ Gd eg, gapp G a.f2 a.f4 = (Gd, eg) := ⟨_, _, rfl⟩
              have hse := HS2.out.err
              have hst := HS2.out.st
              rw [hFd, hGd] at hse hst
              obtain rfl : ed = eg := hse
              have HS3 := Aside0.mk hst
              have DC : Aside0 (∀ W, DiskAt W d m F 0 false → Calls Try.prog 15 #[.pointer (some ⟨d, 0, none⟩), .string a.f2, .string a.f4] W fun e w' => e = .returned (.int .i64 ed) ∧ DiskAt w' d m Fd 0 false ∧ Fr W w' (DM d m)) := ⟨fun W hW => by
                have := disk_Append.calls W d m F 0 false a.f2 a.f4 hW (by decide) HS0.out.small.1 (HS0.out.small.2.1 _) HS0.out.small.2.2 (Nat.le_trans HA.out.text (by decide))
                rw [hFd] at this
                exact this⟩
              have RC : Aside0 (∀ W v, RefAt W d (MX m wr.heap.size) r wa.heap.size v G → Calls Try.prog 52 #[.pointer (some ⟨r, 0, none⟩), .string a.f2, .string a.f4] W fun e w' => e = .returned (.int .i64 ed) ∧ (∃ v', RefAt w' d (MX m wr.heap.size) r wa.heap.size v' Gd) ∧ Fr W w' (RS d (MX m wr.heap.size) wa.heap.size)) := ⟨fun W v hW => by
                have := ref_Append.calls W d (MX m wr.heap.size) r wa.heap.size v G a.f2 a.f4 hW (Nat.le_trans HS0.out.many (by decide)) (Nat.le_trans HA.out.name (by decide)) (Nat.le_trans HA.out.text (by decide)) (by have := HS0.out.used; omega)
                rw [hGd] at this
                exact this⟩
              clear hst hFd hGd
              go_wp2_with (first
                | (go_at_call 40; (with_reducible refine (fairwaylaw0_Within.calls _ 13 3 _ (by kernel_rfl)).mono ?_); rintro _ _ ⟨rfl, ⟨nw, rfl⟩⟩)
                | (go_at_call 12; (with_reducible refine (fairwaylaw9_num.calls _ _ _ rfl).mono ?_); rintro _ _ ⟨rfl, ⟨nd, rfl⟩⟩))
              replace HT := Aside0.mk (HT.out.step (below_drewN' (wr.alloc (.cells bc 64)) nw))
              rw [hbc] at HT
              generalize (wr.alloc (.cells #[.int .i64 3, .int .i64 a.f1, .string a.f2, .string a.f3, .string a.f4, .slice A5 a.f5.length c5] 64)).drewN nw = W at *
              refine start_ (n := 14) (S := fun w' => w'.cell? ⟨wr.heap.size, 2, none⟩ = some (.string a.f2) ∧ w'.cell? ⟨wr.heap.size, 4, none⟩ = some (.string a.f4)) (ds := []) #[false, false, false, false, false, false, false, false, false, false, false, false, false, false] (by kernel_rfl) rfl rfl ⟨((blk_cell HT.out.box 2).trans rfl), ((blk_cell HT.out.box 4).trans rfl)⟩ (fun hHeld => ?_)
              refine pure_ (i := 0) (N := some 95) (v := ?_) (a' := ?_) #[true, false, false, false, false, false, false, false, false, false, false, false, false, false] rfl rfl (by kernel_rfl) (fun _ _ _ h => h) (Or.inl ⟨by rfl, ?_⟩) ?_ ?_
              rotate_left
              · intro w'
                go_simp
                with_reducible rfl
              rotate_left
              · simp only [Act.put, List.setIfInBounds_toArray, List.set_cons_zero, List.set_cons_succ, i64_w, i32_w]
                rfl
              refine pure_ (i := 1) (N := some 96) (v := ?_) (a' := ?_) #[true, true, false, false, false, false, false, false, false, false, false, false, false, false] rfl rfl (by kernel_rfl) (fun _ _ _ h => h) (Or.inl ⟨by rfl, ?_⟩) ?_ ?_
              rotate_left
              · intro w'
                go_simp
                with_reducible rfl
              rotate_left
              · simp only [Act.put, List.setIfInBounds_toArray, List.set_cons_zero, List.set_cons_succ, i64_w, i32_w]
                rfl
              refine pure_ (i := 3) (N := some 98) (v := ?_) (a' := ?_) #[true, true, false, true, false, false, false, false, false, false, false, false, false, false] rfl rfl (by kernel_rfl) (fun _ _ _ h => h) (Or.inl ⟨by rfl, ?_⟩) ?_ ?_
              rotate_left
              · intro w'
                go_simp
                with_reducible rfl
              rotate_left
              · simp only [Act.put, List.setIfInBounds_toArray, List.set_cons_zero, List.set_cons_succ, i64_w, i32_w]
                rfl
              refine pure_ (i := 6) (N := some 101) (v := ?_) (a' := ?_) #[true, true, false, true, false, false, true, false, false, false, false, false, false, false] rfl rfl (by kernel_rfl) (fun _ _ _ h => h) (Or.inl ⟨by rfl, ?_⟩) ?_ ?_
              rotate_left
              · intro w'
                go_simp
                with_reducible rfl
              rotate_left
              · simp only [Act.put, List.setIfInBounds_toArray, List.set_cons_zero, List.set_cons_succ, i64_w, i32_w]
                rfl
              refine pure_ (i := 7) (N := some 102) (v := ?_) (a' := ?_) #[true, true, false, true, false, false, true, true, false, false, false, false, false, false] rfl rfl (by kernel_rfl) (fun _ _ _ h => h) (Or.inl ⟨by rfl, ?_⟩) ?_ ?_
              rotate_left
              · intro w'
                go_simp
                with_reducible rfl
              rotate_left
              · simp only [Act.put, List.setIfInBounds_toArray, List.set_cons_zero, List.set_cons_succ, i64_w, i32_w]
                rfl
              refine pure_ (i := 9) (N := some 104) (v := ?_) (a' := ?_) #[true, true, false, true, false, false, true, true, false, true, false, false, false, false] rfl rfl (by kernel_rfl) (fun _ _ _ h => h) (Or.inl ⟨by rfl, ?_⟩) ?_ ?_
              rotate_left
              · intro w'
                go_simp
                with_reducible rfl
              rotate_left
              · simp only [Act.put, List.setIfInBounds_toArray, List.set_cons_zero, List.set_cons_succ, i64_w, i32_w]
                rfl
              refine take_ (i := 2) (N := some 97) (v := ?_) (a' := ?_) #[true, true, true, true, false, false, true, true, false, true, false, false, false, false] rfl rfl (by kernel_rfl) (fun _ _ _ h => h) (Or.inl ⟨by rfl, ?_⟩) hHeld ?_ ?_
              rotate_left
              · rintro w' ⟨s0, s1⟩
                go_simp
                with_reducible rfl
              rotate_left
              · simp only [Act.put, List.setIfInBounds_toArray, List.set_cons_zero, List.set_cons_succ, i64_w, i32_w]
                rfl
              refine take_ (i := 4) (N := some 99) (v := ?_) (a' := ?_) #[true, true, true, true, true, false, true, true, false, true, false, false, false, false] rfl rfl (by kernel_rfl) (fun _ _ _ h => h) (Or.inl ⟨by rfl, ?_⟩) hHeld ?_ ?_
              rotate_left
              · rintro w' ⟨s0, s1⟩
                go_simp
                with_reducible rfl
              rotate_left
              · simp only [Act.put, List.setIfInBounds_toArray, List.set_cons_zero, List.set_cons_succ, i64_w, i32_w]
                rfl
              refine take_ (i := 8) (N := some 103) (v := ?_) (a' := ?_) #[true, true, true, true, true, false, true, true, true, true, false, false, false, false] rfl rfl (by kernel_rfl) (fun _ _ _ h => h) (Or.inl ⟨by rfl, ?_⟩) hHeld ?_ ?_
              rotate_left
              · rintro w' ⟨s0, s1⟩
                go_simp
                with_reducible rfl
              rotate_left
              · simp only [Act.put, List.setIfInBounds_toArray, List.set_cons_zero, List.set_cons_succ, i64_w, i32_w]
                rfl
              refine take_ (i := 10) (N := some 105) (v := ?_) (a' := ?_) #[true, true, true, true, true, false, true, true, true, true, true, false, false, false] rfl rfl (by kernel_rfl) (fun _ _ _ h => h) (Or.inl ⟨by rfl, ?_⟩) hHeld ?_ ?_
              rotate_left
              · rintro w' ⟨s0, s1⟩
                go_simp
                with_reducible rfl
              rotate_left
              · simp only [Act.put, List.setIfInBounds_toArray, List.set_cons_zero, List.set_cons_succ, i64_w, i32_w]
                rfl
              refine one_ (i := 5) (N := some 100) #[true, true, true, true, true, true, true, true, true, true, true, false, false, false] rfl rfl (by kernel_rfl) (by decide) (fun K hK => ?_)
              refine goes_ Try.func15 (by kernel_rfl) rfl #[.pointer (some ⟨d, 0, none⟩), .string a.f2, .string a.f4] (by rfl) rfl rfl (by simp only [List.map_toArray, List.map_cons, List.map_nil]; rfl) ?_
              with_reducible refine (DC.out _ (HT.out.step (below_drew (Below.refl _ _))).disk).mono ?_
              rintro _ wd ⟨rfl, hd, hf⟩
              refine ⟨_, rfl, ?_⟩
              have HTd := Aside0.mk ((HT.out.step (below_drew (Below.refl _ _))).disk_ hd hf)
              clear hd hf
              refine hK.out _ _ ⟨((blk_cell HTd.out.box 2).trans rfl), ((blk_cell HTd.out.box 4).trans rfl)⟩ (fun hHeld => ?_)
              clear hK K
              refine norm_ (a' := ?_) ?_ ?_
              rotate_left
              · show Act.put _ (some 100) _ = _
                simp only [Act.put, List.setIfInBounds_toArray, List.set_cons_zero, List.set_cons_succ, i64_w, i32_w]
                rfl
              refine one_ (i := 11) (N := some 106) #[true, true, true, true, true, true, true, true, true, true, true, true, false, false] rfl rfl (by kernel_rfl) (by decide) (fun K hK => ?_)
              obtain ⟨vr, hvr⟩ := HTd.out.ref
              refine goes_ Try.func52 (by kernel_rfl) rfl #[.pointer (some ⟨r, 0, none⟩), .string a.f2, .string a.f4] (by rfl) rfl rfl (by simp only [List.map_toArray, List.map_cons, List.map_nil]; rfl) ?_
              with_reducible refine (RC.out _ vr hvr).mono ?_
              rintro _ wf ⟨rfl, hr, hf⟩
              refine ⟨_, rfl, ?_⟩
              have HTr := Aside0.mk (HTd.out.ref_ hr hf)
              clear hr hf hvr
              refine hK.out _ _ ⟨((blk_cell HTr.out.box 2).trans rfl), ((blk_cell HTr.out.box 4).trans rfl)⟩ (fun hHeld => ?_)
              clear hK K
              refine norm_ (a' := ?_) ?_ ?_
              rotate_left
              · show Act.put _ (some 106) _ = _
                simp only [Act.put, List.setIfInBounds_toArray, List.set_cons_zero, List.set_cons_succ, i64_w, i32_w]
                rfl
              refine pure_ (i := 12) (N := some 8) (v := ?_) (a' := ?_) #[true, true, true, true, true, true, true, true, true, true, true, true, true, false] rfl rfl (by kernel_rfl) (fun _ _ _ h => h) (Or.inl ⟨by rfl, ?_⟩) ?_ ?_
              rotate_left
              · intro w'
                go_simp
                with_reducible rfl
              rotate_left
              · simp only [Act.put, List.setIfInBounds_toArray, List.set_cons_zero, List.set_cons_succ, i64_w, i32_w]
                rfl
              refine pure_ (i := 13) (N := some 9) (v := ?_) (a' := ?_) #[true, true, true, true, true, true, true, true, true, true, true, true, true, true] rfl rfl (by kernel_rfl) (fun _ _ _ h => h) (Or.inl ⟨by rfl, ?_⟩) ?_ ?_
              rotate_left
              · intro w'
                go_simp
                with_reducible rfl
              rotate_left
              · simp only [Act.put, List.setIfInBounds_toArray, List.set_cons_zero, List.set_cons_succ, i64_w, i32_w]
                rfl
              refine done_ (by kernel_rfl) ?_
              obtain ⟨vf, hvf⟩ := HTr.out.ref
              have HRf := Aside0.mk (hvf.less (m' := fun k => k = m) (fun k hk => .inl hk))
              have HDf := Aside0.mk HTr.out.disk
              have HBf := Aside0.mk HTr.out.below
              clear hvf
              go_wp2_with (first
                | (go_at_call 12; (with_reducible refine (fairwaylaw9_num.calls _ _ _ rfl).mono ?_); rintro _ _ ⟨rfl, ⟨nd, rfl⟩⟩))
              go_roundw
              case rel => exact ⟨i + 1, d, m, r, vf, Fd, Gd, rfl, rfl, rfl, HI1.out, ⟨HDf.out.below (by iterate 6 (try (first | (with_reducible exact Below.refl _ _) | (with_reducible apply pw_below_drewN) | (with_reducible apply below_drew) | (with_reducible apply below_alloc))))⟩, ⟨HRf.out.below (by iterate 6 (try (first | (with_reducible exact Below.refl _ _) | (with_reducible apply pw_below_drewN) | (with_reducible apply below_drew) | (with_reducible apply below_alloc))))⟩, HS3, ⟨(by (iterate 6 (try (first | (with_reducible apply pw_below_drewN) | (with_reducible apply below_drew) | (with_reducible apply below_alloc)))); exact (HBf).out)⟩, HDM⟩
              case measure => have := HI1.out; simp [intOf]; omega
            · rw [hdo] at y0
              clear hdo
              obtain ⟨bc, hbc⟩ : ∃ bc : Array Value, bc = #[.int .i64 9, .int .i64 a.f1, .string a.f2, .string a.f3, .string a.f4, .slice A5 a.f5.length c5] := ⟨_, rfl⟩
              have HT := Aside0.mk (TS.mk_ bc HDr.out HRr.out HBr.out HDM.out.1 HDM.out.2)
              have HS2 := Aside0.mk (same_ren HS0.out a.f2 a.f3)
              obtain ⟨Fd, ed, hFd⟩ : ∃ Fd ed, renR F 0 false a.f2 a.f3 = (Fd, ed) := ⟨_, _, rfl⟩
              obtain ⟨Gd, eg, hGd⟩ : ∃ Gd eg, gren G a.f2 a.f3 = (Gd, eg) := ⟨_, _, rfl⟩
              have hse := HS2.out.err
              have hst := HS2.out.st
              rw [hFd, hGd] at hse hst
              obtain rfl : ed = eg := hse
              have HS3 := Aside0.mk hst
              have DC : Aside0 (∀ W, DiskAt W d m F 0 false → Calls Try.prog 18 #[.pointer (some ⟨d, 0, none⟩), .string a.f2, .string a.f3] W fun e w' => e = .returned (.int .i64 ed) ∧ DiskAt w' d m Fd 0 false ∧ Fr W w' (DM d m)) := ⟨fun W hW => by
                have := disk_Rename.calls W d m F 0 false a.f2 a.f3 hW (by decide)
                rw [hFd] at this
                exact this⟩
              have RC : Aside0 (∀ W v, RefAt W d (MX m wr.heap.size) r wa.heap.size v G → Calls Try.prog 47 #[.pointer (some ⟨r, 0, none⟩), .string a.f2, .string a.f3] W fun e w' => e = .returned (.int .i64 ed) ∧ (∃ v', RefAt w' d (MX m wr.heap.size) r wa.heap.size v' Gd) ∧ Fr W w' (RS d (MX m wr.heap.size) wa.heap.size)) := ⟨fun W v hW => by
                have := ref_Rename.calls W d (MX m wr.heap.size) r wa.heap.size v G a.f2 a.f3 hW (Nat.le_trans HS0.out.many (by decide)) (Nat.le_trans HA.out.dest (by decide))
                rw [hGd] at this
                exact this⟩
              clear hst hFd hGd
              go_wp2_with (first
                | (go_at_call 40; (with_reducible refine (fairwaylaw0_Within.calls _ 13 9 _ (by kernel_rfl)).mono ?_); rintro _ _ ⟨rfl, ⟨nw, rfl⟩⟩)
                | (go_at_call 12; (with_reducible refine (fairwaylaw9_num.calls _ _ _ rfl).mono ?_); rintro _ _ ⟨rfl, ⟨nd, rfl⟩⟩))
              replace HT := Aside0.mk (HT.out.step (below_drewN' (wr.alloc (.cells bc 64)) nw))
              rw [hbc] at HT
              generalize (wr.alloc (.cells #[.int .i64 9, .int .i64 a.f1, .string a.f2, .string a.f3, .string a.f4, .slice A5 a.f5.length c5] 64)).drewN nw = W at *
              refine start_ (n := 14) (S := fun w' => w'.cell? ⟨wr.heap.size, 2, none⟩ = some (.string a.f2) ∧ w'.cell? ⟨wr.heap.size, 3, none⟩ = some (.string a.f3)) (ds := []) #[false, false, false, false, false, false, false, false, false, false, false, false, false, false] (by kernel_rfl) rfl rfl ⟨((blk_cell HT.out.box 2).trans rfl), ((blk_cell HT.out.box 3).trans rfl)⟩ (fun hHeld => ?_)
              refine pure_ (i := 0) (N := some 194) (v := ?_) (a' := ?_) #[true, false, false, false, false, false, false, false, false, false, false, false, false, false] rfl rfl (by kernel_rfl) (fun _ _ _ h => h) (Or.inl ⟨by rfl, ?_⟩) ?_ ?_
              rotate_left
              · intro w'
                go_simp
                with_reducible rfl
              rotate_left
              · simp only [Act.put, List.setIfInBounds_toArray, List.set_cons_zero, List.set_cons_succ, i64_w, i32_w]
                rfl
              refine pure_ (i := 1) (N := some 195) (v := ?_) (a' := ?_) #[true, true, false, false, false, false, false, false, false, false, false, false, false, false] rfl rfl (by kernel_rfl) (fun _ _ _ h => h) (Or.inl ⟨by rfl, ?_⟩) ?_ ?_
              rotate_left
              · intro w'
                go_simp
                with_reducible rfl
              rotate_left
              · simp only [Act.put, List.setIfInBounds_toArray, List.set_cons_zero, List.set_cons_succ, i64_w, i32_w]
                rfl
              refine pure_ (i := 3) (N := some 197) (v := ?_) (a' := ?_) #[true, true, false, true, false, false, false, false, false, false, false, false, false, false] rfl rfl (by kernel_rfl) (fun _ _ _ h => h) (Or.inl ⟨by rfl, ?_⟩) ?_ ?_
              rotate_left
              · intro w'
                go_simp
                with_reducible rfl
              rotate_left
              · simp only [Act.put, List.setIfInBounds_toArray, List.set_cons_zero, List.set_cons_succ, i64_w, i32_w]
                rfl
              refine pure_ (i := 6) (N := some 200) (v := ?_) (a' := ?_) #[true, true, false, true, false, false, true, false, false, false, false, false, false, false] rfl rfl (by kernel_rfl) (fun _ _ _ h => h) (Or.inl ⟨by rfl, ?_⟩) ?_ ?_
              rotate_left
              · intro w'
                go_simp
                with_reducible rfl
              rotate_left
              · simp only [Act.put, List.setIfInBounds_toArray, List.set_cons_zero, List.set_cons_succ, i64_w, i32_w]
                rfl
              refine pure_ (i := 7) (N := some 201) (v := ?_) (a' := ?_) #[true, true, false, true, false, false, true, true, false, false, false, false, false, false] rfl rfl (by kernel_rfl) (fun _ _ _ h => h) (Or.inl ⟨by rfl, ?_⟩) ?_ ?_
              rotate_left
              · intro w'
                go_simp
                with_reducible rfl
              rotate_left
              · simp only [Act.put, List.setIfInBounds_toArray, List.set_cons_zero, List.set_cons_succ, i64_w, i32_w]
                rfl
              refine pure_ (i := 9) (N := some 203) (v := ?_) (a' := ?_) #[true, true, false, true, false, false, true, true, false, true, false, false, false, false] rfl rfl (by kernel_rfl) (fun _ _ _ h => h) (Or.inl ⟨by rfl, ?_⟩) ?_ ?_
              rotate_left
              · intro w'
                go_simp
                with_reducible rfl
              rotate_left
              · simp only [Act.put, List.setIfInBounds_toArray, List.set_cons_zero, List.set_cons_succ, i64_w, i32_w]
                rfl
              refine take_ (i := 2) (N := some 196) (v := ?_) (a' := ?_) #[true, true, true, true, false, false, true, true, false, true, false, false, false, false] rfl rfl (by kernel_rfl) (fun _ _ _ h => h) (Or.inl ⟨by rfl, ?_⟩) hHeld ?_ ?_
              rotate_left
              · rintro w' ⟨s0, s1⟩
                go_simp
                with_reducible rfl
              rotate_left
              · simp only [Act.put, List.setIfInBounds_toArray, List.set_cons_zero, List.set_cons_succ, i64_w, i32_w]
                rfl
              refine take_ (i := 4) (N := some 198) (v := ?_) (a' := ?_) #[true, true, true, true, true, false, true, true, false, true, false, false, false, false] rfl rfl (by kernel_rfl) (fun _ _ _ h => h) (Or.inl ⟨by rfl, ?_⟩) hHeld ?_ ?_
              rotate_left
              · rintro w' ⟨s0, s1⟩
                go_simp
                with_reducible rfl
              rotate_left
              · simp only [Act.put, List.setIfInBounds_toArray, List.set_cons_zero, List.set_cons_succ, i64_w, i32_w]
                rfl
              refine take_ (i := 8) (N := some 202) (v := ?_) (a' := ?_) #[true, true, true, true, true, false, true, true, true, true, false, false, false, false] rfl rfl (by kernel_rfl) (fun _ _ _ h => h) (Or.inl ⟨by rfl, ?_⟩) hHeld ?_ ?_
              rotate_left
              · rintro w' ⟨s0, s1⟩
                go_simp
                with_reducible rfl
              rotate_left
              · simp only [Act.put, List.setIfInBounds_toArray, List.set_cons_zero, List.set_cons_succ, i64_w, i32_w]
                rfl
              refine take_ (i := 10) (N := some 204) (v := ?_) (a' := ?_) #[true, true, true, true, true, false, true, true, true, true, true, false, false, false] rfl rfl (by kernel_rfl) (fun _ _ _ h => h) (Or.inl ⟨by rfl, ?_⟩) hHeld ?_ ?_
              rotate_left
              · rintro w' ⟨s0, s1⟩
                go_simp
                with_reducible rfl
              rotate_left
              · simp only [Act.put, List.setIfInBounds_toArray, List.set_cons_zero, List.set_cons_succ, i64_w, i32_w]
                rfl
              refine one_ (i := 5) (N := some 199) #[true, true, true, true, true, true, true, true, true, true, true, false, false, false] rfl rfl (by kernel_rfl) (by decide) (fun K hK => ?_)
              refine goes_ Try.func18 (by kernel_rfl) rfl #[.pointer (some ⟨d, 0, none⟩), .string a.f2, .string a.f3] (by rfl) rfl rfl (by simp only [List.map_toArray, List.map_cons, List.map_nil]; rfl) ?_
              with_reducible refine (DC.out _ (HT.out.step (below_drew (Below.refl _ _))).disk).mono ?_
              rintro _ wd ⟨rfl, hd, hf⟩
              refine ⟨_, rfl, ?_⟩
              have HTd := Aside0.mk ((HT.out.step (below_drew (Below.refl _ _))).disk_ hd hf)
              clear hd hf
              refine hK.out _ _ ⟨((blk_cell HTd.out.box 2).trans rfl), ((blk_cell HTd.out.box 3).trans rfl)⟩ (fun hHeld => ?_)
              clear hK K
              refine norm_ (a' := ?_) ?_ ?_
              rotate_left
              · show Act.put _ (some 199) _ = _
                simp only [Act.put, List.setIfInBounds_toArray, List.set_cons_zero, List.set_cons_succ, i64_w, i32_w]
                rfl
              refine one_ (i := 11) (N := some 205) #[true, true, true, true, true, true, true, true, true, true, true, true, false, false] rfl rfl (by kernel_rfl) (by decide) (fun K hK => ?_)
              obtain ⟨vr, hvr⟩ := HTd.out.ref
              refine goes_ Try.func47 (by kernel_rfl) rfl #[.pointer (some ⟨r, 0, none⟩), .string a.f2, .string a.f3] (by rfl) rfl rfl (by simp only [List.map_toArray, List.map_cons, List.map_nil]; rfl) ?_
              with_reducible refine (RC.out _ vr hvr).mono ?_
              rintro _ wf ⟨rfl, hr, hf⟩
              refine ⟨_, rfl, ?_⟩
              have HTr := Aside0.mk (HTd.out.ref_ hr hf)
              clear hr hf hvr
              refine hK.out _ _ ⟨((blk_cell HTr.out.box 2).trans rfl), ((blk_cell HTr.out.box 3).trans rfl)⟩ (fun hHeld => ?_)
              clear hK K
              refine norm_ (a' := ?_) ?_ ?_
              rotate_left
              · show Act.put _ (some 205) _ = _
                simp only [Act.put, List.setIfInBounds_toArray, List.set_cons_zero, List.set_cons_succ, i64_w, i32_w]
                rfl
              refine pure_ (i := 12) (N := some 8) (v := ?_) (a' := ?_) #[true, true, true, true, true, true, true, true, true, true, true, true, true, false] rfl rfl (by kernel_rfl) (fun _ _ _ h => h) (Or.inl ⟨by rfl, ?_⟩) ?_ ?_
              rotate_left
              · intro w'
                go_simp
                with_reducible rfl
              rotate_left
              · simp only [Act.put, List.setIfInBounds_toArray, List.set_cons_zero, List.set_cons_succ, i64_w, i32_w]
                rfl
              refine pure_ (i := 13) (N := some 9) (v := ?_) (a' := ?_) #[true, true, true, true, true, true, true, true, true, true, true, true, true, true] rfl rfl (by kernel_rfl) (fun _ _ _ h => h) (Or.inl ⟨by rfl, ?_⟩) ?_ ?_
              rotate_left
              · intro w'
                go_simp
                with_reducible rfl
              rotate_left
              · simp only [Act.put, List.setIfInBounds_toArray, List.set_cons_zero, List.set_cons_succ, i64_w, i32_w]
                rfl
              refine done_ (by kernel_rfl) ?_
              obtain ⟨vf, hvf⟩ := HTr.out.ref
              have HRf := Aside0.mk (hvf.less (m' := fun k => k = m) (fun k hk => .inl hk))
              have HDf := Aside0.mk HTr.out.disk
              have HBf := Aside0.mk HTr.out.below
              clear hvf
              go_wp2_with (first
                | (go_at_call 12; (with_reducible refine (fairwaylaw9_num.calls _ _ _ rfl).mono ?_); rintro _ _ ⟨rfl, ⟨nd, rfl⟩⟩))
              go_roundw
              case rel => exact ⟨i + 1, d, m, r, vf, Fd, Gd, rfl, rfl, rfl, HI1.out, ⟨HDf.out.below (by iterate 6 (try (first | (with_reducible exact Below.refl _ _) | (with_reducible apply pw_below_drewN) | (with_reducible apply below_drew) | (with_reducible apply below_alloc))))⟩, ⟨HRf.out.below (by iterate 6 (try (first | (with_reducible exact Below.refl _ _) | (with_reducible apply pw_below_drewN) | (with_reducible apply below_drew) | (with_reducible apply below_alloc))))⟩, HS3, ⟨(by (iterate 6 (try (first | (with_reducible apply pw_below_drewN) | (with_reducible apply below_drew) | (with_reducible apply below_alloc)))); exact (HBf).out)⟩, HDM⟩
              case measure => have := HI1.out; simp [intOf]; omega
          · have d1 : decide ((i : Int) < 40) = false := by simp; omega
            have d2 : ¬ (i : Int) < 40 := by omega
            have d3 : (40 : Int) ≤ (i : Int) := by omega
            have d4 : (i : Int) < (l0_2.length : Int) := by omega
            obtain ⟨ad, A5, c5, e0, _, _, _, _, _, y5, hc5, hC5⟩ := at_T64 HR2.out (0 : Int) (by omega) (by omega)
            subst e0
            replace y5 : wr.cell? ⟨ad.block, ad.off + 5, none⟩ = some (.slice A5 (rd_T64 l0_2 0).f5.length c5) := cellBelow y5 (below_then HB0.out HB0.out.size HBr.out)
            generalize (rd_T64 l0_2 0).f5 = pk at *
            have HP5 := Aside0.mk hC5
            have HC5 := Aside0.mk hc5
            have e1_ : (0 : Int) < (l0_2.length : Int) := by omega
            have e2_ : decide ((0 : Int) < (l0_2.length : Int)) = true := decide_eq_true e1_
            have e3_ : 0 < l0_2.length := by omega
            clear hC5 hc5
            go_wp2_with (first
              | (go_at_call 19; ((refine (disk_Crash.calls _ d m F 0 false A5 c5 pk (HDr.out.below (by iterate 6 (try (first | (with_reducible exact Below.refl _ _) | (with_reducible apply pw_below_drewN) | (with_reducible apply below_drew) | (with_reducible apply below_alloc))))) HS0.out.okD (Kd.C_below HP5.out (below_then HB0.out HB0.out.size HBr.out)) HC5.out).mono ?_); rintro _ w6 ⟨v1, u1, xs, rfl, hn, hr2, hd, hf⟩; obtain rfl := names_of HS0.out hn; rw [crTs_gcr HS0.out pk G 0 (fun f hf => hf)] at hr2; have HRr6 := Aside0.mk ((HRr.out.below (by iterate 6 (try (first | (with_reducible exact Below.refl _ _) | (with_reducible apply pw_below_drewN) | (with_reducible apply below_drew) | (with_reducible apply below_alloc))))).fr hf (fun k hk => .inl hk)); have HB6 := Aside0.mk (Fr.below HBr.out hf HBr.out.size (fun k hk => by rw [hk]; exact HDM.out.1)); have HR26 := Aside0.mk hr2;  clear hn hr2 hd hf))
              | (go_at_call 51; ((refine (ref_Crash.calls _ d (fun k => k = m) r wa.heap.size v G A5 c5 pk (HRr6.out.below (by iterate 6 (try (first | (with_reducible exact Below.refl _ _) | (with_reducible apply pw_below_drewN) | (with_reducible apply below_drew) | (with_reducible apply below_alloc))))) (fun f hf => (HS0.out.file f hf).2) HS0.out.many (Kd.C_below HP5.out (below_then HB0.out HB0.out.size (by (iterate 6 (try (first | (with_reducible apply pw_below_drewN) | (with_reducible apply below_drew) | (with_reducible apply below_alloc)))); exact (HB6).out))) HC5.out).mono ?_); rintro _ w7 ⟨v2, u2, rfl, hr3, hf⟩; have hx := (HR26.out.below (by iterate 6 (try (first | (with_reducible exact Below.refl _ _) | (with_reducible apply pw_below_drewN) | (with_reducible apply below_drew) | (with_reducible apply below_alloc))))).step (fun k hk hlt => hf.kept.2 k hlt (by have := HRr.out.lt; show k ≠ r; omega)); have HB7 := Aside0.mk (Fr.below ((by (iterate 6 (try (first | (with_reducible apply pw_below_drewN) | (with_reducible apply below_drew) | (with_reducible apply below_alloc)))); exact (HB6).out) : Below wa.heap.size wa _) hf ((by (iterate 6 (try (first | (with_reducible apply pw_below_drewN) | (with_reducible apply below_drew) | (with_reducible apply below_alloc)))); exact (HB6).out) : Below wa.heap.size wa _).size (fun k hk => by rw [hk]; exact HRr6.out.r0)); obtain ⟨Ax, cx, ex, hcx, hCx⟩ := Kd.R_reads hx.one; obtain ⟨Ay, cy, ey, hcy, hCy⟩ := Kd.R_reads hx.two; obtain ⟨Au, cu, eu, hcu, hCu⟩ := Kd.R_reads hr3.one; obtain ⟨Av, cv, ev, hcv, hCv⟩ := Kd.R_reads hr3.two; rw [List.length_map] at ex eu hcx hcu; rw [gcr_len] at ey ev hcy hcv; subst ex; subst ey; subst eu; subst ev; have HCx := Aside0.mk hCx; have HCy := Aside0.mk hCy; have HCu := Aside0.mk hCu; have HCv := Aside0.mk hCv; have Hcx := Aside0.mk hcx; have Hcy := Aside0.mk hcy; have Hcu := Aside0.mk hcu; have Hcv := Aside0.mk hcv; clear hx hr3 hf hCx hCy hCu hCv hcx hcy hcu hcv))
              | (go_at_call 20; ((with_reducible refine (eqs_len Ax cx (G.map (·.name)) Au cu G.length _ (List.length_map _) ?s1 Hcx.out ?s3 Hcu.out HS0.out.many).mono ?_)); (case s1 => exact Kd.C_below HCx.out (by iterate 6 (try (first | (with_reducible exact Below.refl _ _) | (with_reducible apply pw_below_drewN) | (with_reducible apply below_drew) | (with_reducible apply below_alloc))))); (case s3 => exact Kd.C_below HCu.out (by iterate 6 (try (first | (with_reducible exact Below.refl _ _) | (with_reducible apply pw_below_drewN) | (with_reducible apply below_drew) | (with_reducible apply below_alloc))))); rintro _ _ ⟨rfl, ⟨ne1, rfl⟩⟩)
              | (go_at_call 20; ((with_reducible refine (eqs_len Ay cy (gcr pk G 0) Av cv G.length _ (gcr_len _ _ _) ?s1 Hcy.out ?s3 Hcv.out HS0.out.many).mono ?_)); (case s1 => exact Kd.C_below HCy.out (by iterate 6 (try (first | (with_reducible exact Below.refl _ _) | (with_reducible apply pw_below_drewN) | (with_reducible apply below_drew) | (with_reducible apply below_alloc))))); (case s3 => exact Kd.C_below HCv.out (by iterate 6 (try (first | (with_reducible exact Below.refl _ _) | (with_reducible apply pw_below_drewN) | (with_reducible apply below_drew) | (with_reducible apply below_alloc))))); rintro _ _ ⟨rfl, ⟨ne2, rfl⟩⟩)
              | (go_at_call 16; (refine (disk_wakes.calls _).mono ?_); rintro _ w8 ⟨rfl, hb⟩; have HB8 := Aside0.mk (below_step (by (iterate 6 (try (first | (with_reducible apply pw_below_drewN) | (with_reducible apply below_drew) | (with_reducible apply below_alloc)))); exact (HB7).out) hb); clear hb)
              | (go_at_call 12; (with_reducible refine (fairwaylaw9_num.calls _ _ _ rfl).mono ?_); rintro _ _ ⟨rfl, ⟨nd, rfl⟩⟩))
            go_ret
            exact ⟨rfl, below_then HB0.out HB0.out.size HB8.out⟩
        · have d0 : decide ((i : Int) < (l0_2.length : Int)) = false := by simp; omega
          have d4 : ¬ (i : Int) < (l0_2.length : Int) := by omega
          by_cases h0 : l0_2.length = 0
          · have e1_ : ¬ (0 : Int) < (l0_2.length : Int) := by omega
            have e2_ : decide ((0 : Int) < (l0_2.length : Int)) = false := decide_eq_false e1_
            have e3_ : ¬ 0 < l0_2.length := by omega
            go_wp2_with (first
              | (go_at_call 19; ((refine (disk_Crash.calls _ d m F 0 false none 0 [] (HDr.out.below (by iterate 6 (try (first | (with_reducible exact Below.refl _ _) | (with_reducible apply pw_below_drewN) | (with_reducible apply below_drew) | (with_reducible apply below_alloc))))) HS0.out.okD (Kd.C_nil _ _) (Nat.le_refl _)).mono ?_); rintro _ w6 ⟨v1, u1, xs, rfl, hn, hr2, hd, hf⟩; obtain rfl := names_of HS0.out hn; rw [crTs_gcr HS0.out [] G 0 (fun f hf => hf)] at hr2; have HRr6 := Aside0.mk ((HRr.out.below (by iterate 6 (try (first | (with_reducible exact Below.refl _ _) | (with_reducible apply pw_below_drewN) | (with_reducible apply below_drew) | (with_reducible apply below_alloc))))).fr hf (fun k hk => .inl hk)); have HB6 := Aside0.mk (Fr.below HBr.out hf HBr.out.size (fun k hk => by rw [hk]; exact HDM.out.1)); have HR26 := Aside0.mk hr2;  clear hn hr2 hd hf))
              | (go_at_call 51; ((refine (ref_Crash.calls _ d (fun k => k = m) r wa.heap.size v G none 0 [] (HRr6.out.below (by iterate 6 (try (first | (with_reducible exact Below.refl _ _) | (with_reducible apply pw_below_drewN) | (with_reducible apply below_drew) | (with_reducible apply below_alloc))))) (fun f hf => (HS0.out.file f hf).2) HS0.out.many (Kd.C_nil _ _) (Nat.le_refl _)).mono ?_); rintro _ w7 ⟨v2, u2, rfl, hr3, hf⟩; have hx := (HR26.out.below (by iterate 6 (try (first | (with_reducible exact Below.refl _ _) | (with_reducible apply pw_below_drewN) | (with_reducible apply below_drew) | (with_reducible apply below_alloc))))).step (fun k hk hlt => hf.kept.2 k hlt (by have := HRr.out.lt; show k ≠ r; omega)); have HB7 := Aside0.mk (Fr.below ((by (iterate 6 (try (first | (with_reducible apply pw_below_drewN) | (with_reducible apply below_drew) | (with_reducible apply below_alloc)))); exact (HB6).out) : Below wa.heap.size wa _) hf ((by (iterate 6 (try (first | (with_reducible apply pw_below_drewN) | (with_reducible apply below_drew) | (with_reducible apply below_alloc)))); exact (HB6).out) : Below wa.heap.size wa _).size (fun k hk => by rw [hk]; exact HRr6.out.r0)); obtain ⟨Ax, cx, ex, hcx, hCx⟩ := Kd.R_reads hx.one; obtain ⟨Ay, cy, ey, hcy, hCy⟩ := Kd.R_reads hx.two; obtain ⟨Au, cu, eu, hcu, hCu⟩ := Kd.R_reads hr3.one; obtain ⟨Av, cv, ev, hcv, hCv⟩ := Kd.R_reads hr3.two; rw [List.length_map] at ex eu hcx hcu; rw [gcr_len] at ey ev hcy hcv; subst ex; subst ey; subst eu; subst ev; have HCx := Aside0.mk hCx; have HCy := Aside0.mk hCy; have HCu := Aside0.mk hCu; have HCv := Aside0.mk hCv; have Hcx := Aside0.mk hcx; have Hcy := Aside0.mk hcy; have Hcu := Aside0.mk hcu; have Hcv := Aside0.mk hcv; clear hx hr3 hf hCx hCy hCu hCv hcx hcy hcu hcv))
              | (go_at_call 20; ((with_reducible refine (eqs_len Ax cx (G.map (·.name)) Au cu G.length _ (List.length_map _) ?s1 Hcx.out ?s3 Hcu.out HS0.out.many).mono ?_)); (case s1 => exact Kd.C_below HCx.out (by iterate 6 (try (first | (with_reducible exact Below.refl _ _) | (with_reducible apply pw_below_drewN) | (with_reducible apply below_drew) | (with_reducible apply below_alloc))))); (case s3 => exact Kd.C_below HCu.out (by iterate 6 (try (first | (with_reducible exact Below.refl _ _) | (with_reducible apply pw_below_drewN) | (with_reducible apply below_drew) | (with_reducible apply below_alloc))))); rintro _ _ ⟨rfl, ⟨ne1, rfl⟩⟩)
              | (go_at_call 20; ((with_reducible refine (eqs_len Ay cy (gcr [] G 0) Av cv G.length _ (gcr_len _ _ _) ?s1 Hcy.out ?s3 Hcv.out HS0.out.many).mono ?_)); (case s1 => exact Kd.C_below HCy.out (by iterate 6 (try (first | (with_reducible exact Below.refl _ _) | (with_reducible apply pw_below_drewN) | (with_reducible apply below_drew) | (with_reducible apply below_alloc))))); (case s3 => exact Kd.C_below HCv.out (by iterate 6 (try (first | (with_reducible exact Below.refl _ _) | (with_reducible apply pw_below_drewN) | (with_reducible apply below_drew) | (with_reducible apply below_alloc))))); rintro _ _ ⟨rfl, ⟨ne2, rfl⟩⟩)
              | (go_at_call 16; (refine (disk_wakes.calls _).mono ?_); rintro _ w8 ⟨rfl, hb⟩; have HB8 := Aside0.mk (below_step (by (iterate 6 (try (first | (with_reducible apply pw_below_drewN) | (with_reducible apply below_drew) | (with_reducible apply below_alloc)))); exact (HB7).out) hb); clear hb)
              | (go_at_call 12; (with_reducible refine (fairwaylaw9_num.calls _ _ _ rfl).mono ?_); rintro _ _ ⟨rfl, ⟨nd, rfl⟩⟩))
            go_ret
            exact ⟨rfl, below_then HB0.out HB0.out.size HB8.out⟩
          · obtain ⟨ad, A5, c5, e0, _, _, _, _, _, y5, hc5, hC5⟩ := at_T64 HR2.out (0 : Int) (by omega) (by omega)
            subst e0
            replace y5 : wr.cell? ⟨ad.block, ad.off + 5, none⟩ = some (.slice A5 (rd_T64 l0_2 0).f5.length c5) := cellBelow y5 (below_then HB0.out HB0.out.size HBr.out)
            generalize (rd_T64 l0_2 0).f5 = pk at *
            have HP5 := Aside0.mk hC5
            have HC5 := Aside0.mk hc5
            have e1_ : (0 : Int) < (l0_2.length : Int) := by omega
            have e2_ : decide ((0 : Int) < (l0_2.length : Int)) = true := decide_eq_true e1_
            have e3_ : 0 < l0_2.length := by omega
            clear hC5 hc5
            go_wp2_with (first
              | (go_at_call 19; ((refine (disk_Crash.calls _ d m F 0 false A5 c5 pk (HDr.out.below (by iterate 6 (try (first | (with_reducible exact Below.refl _ _) | (with_reducible apply pw_below_drewN) | (with_reducible apply below_drew) | (with_reducible apply below_alloc))))) HS0.out.okD (Kd.C_below HP5.out (below_then HB0.out HB0.out.size HBr.out)) HC5.out).mono ?_); rintro _ w6 ⟨v1, u1, xs, rfl, hn, hr2, hd, hf⟩; obtain rfl := names_of HS0.out hn; rw [crTs_gcr HS0.out pk G 0 (fun f hf => hf)] at hr2; have HRr6 := Aside0.mk ((HRr.out.below (by iterate 6 (try (first | (with_reducible exact Below.refl _ _) | (with_reducible apply pw_below_drewN) | (with_reducible apply below_drew) | (with_reducible apply below_alloc))))).fr hf (fun k hk => .inl hk)); have HB6 := Aside0.mk (Fr.below HBr.out hf HBr.out.size (fun k hk => by rw [hk]; exact HDM.out.1)); have HR26 := Aside0.mk hr2;  clear hn hr2 hd hf))
              | (go_at_call 51; ((refine (ref_Crash.calls _ d (fun k => k = m) r wa.heap.size v G A5 c5 pk (HRr6.out.below (by iterate 6 (try (first | (with_reducible exact Below.refl _ _) | (with_reducible apply pw_below_drewN) | (with_reducible apply below_drew) | (with_reducible apply below_alloc))))) (fun f hf => (HS0.out.file f hf).2) HS0.out.many (Kd.C_below HP5.out (below_then HB0.out HB0.out.size (by (iterate 6 (try (first | (with_reducible apply pw_below_drewN) | (with_reducible apply below_drew) | (with_reducible apply below_alloc)))); exact (HB6).out))) HC5.out).mono ?_); rintro _ w7 ⟨v2, u2, rfl, hr3, hf⟩; have hx := (HR26.out.below (by iterate 6 (try (first | (with_reducible exact Below.refl _ _) | (with_reducible apply pw_below_drewN) | (with_reducible apply below_drew) | (with_reducible apply below_alloc))))).step (fun k hk hlt => hf.kept.2 k hlt (by have := HRr.out.lt; show k ≠ r; omega)); have HB7 := Aside0.mk (Fr.below ((by (iterate 6 (try (first | (with_reducible apply pw_below_drewN) | (with_reducible apply below_drew) | (with_reducible apply below_alloc)))); exact (HB6).out) : Below wa.heap.size wa _) hf ((by (iterate 6 (try (first | (with_reducible apply pw_below_drewN) | (with_reducible apply below_drew) | (with_reducible apply below_alloc)))); exact (HB6).out) : Below wa.heap.size wa _).size (fun k hk => by rw [hk]; exact HRr6.out.r0)); obtain ⟨Ax, cx, ex, hcx, hCx⟩ := Kd.R_reads hx.one; obtain ⟨Ay, cy, ey, hcy, hCy⟩ := Kd.R_reads hx.two; obtain ⟨Au, cu, eu, hcu, hCu⟩ := Kd.R_reads hr3.one; obtain ⟨Av, cv, ev, hcv, hCv⟩ := Kd.R_reads hr3.two; rw [List.length_map] at ex eu hcx hcu; rw [gcr_len] at ey ev hcy hcv; subst ex; subst ey; subst eu; subst ev; have HCx := Aside0.mk hCx; have HCy := Aside0.mk hCy; have HCu := Aside0.mk hCu; have HCv := Aside0.mk hCv; have Hcx := Aside0.mk hcx; have Hcy := Aside0.mk hcy; have Hcu := Aside0.mk hcu; have Hcv := Aside0.mk hcv; clear hx hr3 hf hCx hCy hCu hCv hcx hcy hcu hcv))
              | (go_at_call 20; ((with_reducible refine (eqs_len Ax cx (G.map (·.name)) Au cu G.length _ (List.length_map _) ?s1 Hcx.out ?s3 Hcu.out HS0.out.many).mono ?_)); (case s1 => exact Kd.C_below HCx.out (by iterate 6 (try (first | (with_reducible exact Below.refl _ _) | (with_reducible apply pw_below_drewN) | (with_reducible apply below_drew) | (with_reducible apply below_alloc))))); (case s3 => exact Kd.C_below HCu.out (by iterate 6 (try (first | (with_reducible exact Below.refl _ _) | (with_reducible apply pw_below_drewN) | (with_reducible apply below_drew) | (with_reducible apply below_alloc))))); rintro _ _ ⟨rfl, ⟨ne1, rfl⟩⟩)
              | (go_at_call 20; ((with_reducible refine (eqs_len Ay cy (gcr pk G 0) Av cv G.length _ (gcr_len _ _ _) ?s1 Hcy.out ?s3 Hcv.out HS0.out.many).mono ?_)); (case s1 => exact Kd.C_below HCy.out (by iterate 6 (try (first | (with_reducible exact Below.refl _ _) | (with_reducible apply pw_below_drewN) | (with_reducible apply below_drew) | (with_reducible apply below_alloc))))); (case s3 => exact Kd.C_below HCv.out (by iterate 6 (try (first | (with_reducible exact Below.refl _ _) | (with_reducible apply pw_below_drewN) | (with_reducible apply below_drew) | (with_reducible apply below_alloc))))); rintro _ _ ⟨rfl, ⟨ne2, rfl⟩⟩)
              | (go_at_call 16; (refine (disk_wakes.calls _).mono ?_); rintro _ w8 ⟨rfl, hb⟩; have HB8 := Aside0.mk (below_step (by (iterate 6 (try (first | (with_reducible apply pw_below_drewN) | (with_reducible apply below_drew) | (with_reducible apply below_alloc)))); exact (HB7).out) hb); clear hb)
              | (go_at_call 12; (with_reducible refine (fairwaylaw9_num.calls _ _ _ rfl).mono ?_); rintro _ _ ⟨rfl, ⟨nd, rfl⟩⟩))
            go_ret
            exact ⟨rfl, below_then HB0.out HB0.out.size HB8.out⟩
end Go.Proofs.Ytknljmljlgcfbaa.P
