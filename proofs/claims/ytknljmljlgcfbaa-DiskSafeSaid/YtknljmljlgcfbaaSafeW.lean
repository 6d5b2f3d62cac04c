/- By hand: DiskSafe: the walk. -/
import Derived.Test.YtknljmljlgcfbaaSafe
namespace Go.Proofs.Ytknljmljlgcfbaa.P
open Go.RowKit Go.Proofs.YtknljmljlgcfbaaW.PrintWords Go.Proofs.YtknljmljlgcfbaaW.PrintLast Go.Proofs.YtknljmljlgcfbaaW.PrintMore
open Go.Proofs.Ytknljmljlgcfbaa
attribute [local go_sem] max2_int min2_int max_two min_two max_three min_three max_four min_four
set_option linter.unusedSimpArgs false
set_option linter.unusedVariables false
set_option maxRecDepth 100000 in
set_option maxHeartbeats 16000000 in
theorem fairwaylaw9_DiskSafe.calls (A0_0 : Option Addr) (c0_0 : Nat) (l0_0 : List ByteArray) (A0_1 : Option Addr) (c0_1 : Nat) (l0_1 : List ByteArray) (A0_2 : Option Addr) (c0_2 : Nat) (l0_2 : List S64) (r : Bool) (w : World) (hr0_0 : Kd.C Kd.string w A0_0 l0_0.length l0_0) (hc0_0 : l0_0.length ≤ c0_0) (hr0_1 : Kd.C Kd.string w A0_1 l0_1.length l0_1) (hc0_1 : l0_1.length ≤ c0_1) (hr0_2 : Kd.C k64 w A0_2 l0_2.length l0_2) (hc0_2 : l0_2.length ≤ c0_2) (h : fairwaylaw9_DiskSafe.f l0_0 l0_1 l0_2 = some r) :
    Calls Try.prog 4 #[.agg #[.slice A0_0 l0_0.length c0_0, .slice A0_1 l0_1.length c0_1, .slice A0_2 l0_2.length c0_2]] w fun e w' => e = .returned (.bool r) ∧ Below w.heap.size w w' := by
  obtain rfl : true = r := Option.some.inj h
  clear h hr0_0 hr0_1 hr0_2 hc0_0 hc0_1 hc0_2
  have dg : decide (0 ≤ (l0_2.length : Int)) = true := by simp
  have C0 : Aside0 (cntL 0 = 0) := ⟨rfl⟩
  have C1 : Aside0 (cntO 0 false = false) := ⟨rfl⟩
  have A1 : Aside0 (appR [] 0 false ⟨#[97]⟩ ⟨#[115, 97, 102, 101]⟩ = ([⟨⟨#[97]⟩, ⟨#[115, 97, 102, 101]⟩, 0⟩], 0)) := ⟨by kernel_rfl⟩
  have A2 : Aside0 (syncR [⟨⟨#[97]⟩, ⟨#[115, 97, 102, 101]⟩, 0⟩] 0 false ⟨#[97]⟩ = ([⟨⟨#[97]⟩, ⟨#[115, 97, 102, 101]⟩, 4⟩], 0)) := ⟨by kernel_rfl⟩
  have A3 : Aside0 (appR [⟨⟨#[97]⟩, ⟨#[115, 97, 102, 101]⟩, 4⟩] 0 false ⟨#[97]⟩ ⟨#[114, 101, 115, 116, 46]⟩ = ([⟨⟨#[97]⟩, ⟨#[115, 97, 102, 101, 114, 101, 115, 116, 46]⟩, 4⟩], 0)) := ⟨by kernel_rfl⟩
  have A4 : Aside0 (renR [⟨⟨#[97]⟩, ⟨#[115, 97, 102, 101, 114, 101, 115, 116, 46]⟩, 4⟩] 0 false ⟨#[97]⟩ ⟨#[98]⟩ = ([⟨⟨#[97]⟩, ⟨#[115, 97, 102, 101, 114, 101, 115, 116, 46]⟩, 4⟩], 6)) := ⟨by kernel_rfl⟩
  go_enter Try.func4, Try.ntmps4
  go_wp2
  have HBK : Aside0 ((w.alloc (.cells #[.slice A0_0 l0_0.length c0_0, .slice A0_1 l0_1.length c0_1, .slice A0_2 l0_2.length c0_2] 25)).heap[w.heap.size]? = some (.cells #[.slice A0_0 l0_0.length c0_0, .slice A0_1 l0_1.length c0_1, .slice A0_2 l0_2.length c0_2] 25 (0, 0))) := ⟨heap_alloc_new w _⟩
  have HB0 := Aside0.mk (below_alloc (Below.refl _ w) (.cells #[.slice A0_0 l0_0.length c0_0, .slice A0_1 l0_1.length c0_1, .slice A0_2 l0_2.length c0_2] 25))
  obtain ⟨wa, hwa⟩ : ∃ wa, wa = w.alloc (.cells #[.slice A0_0 l0_0.length c0_0, .slice A0_1 l0_1.length c0_1, .slice A0_2 l0_2.length c0_2] 25) := ⟨_, rfl⟩
  rw [← hwa] at HBK HB0 ⊢
  clear hwa
  go_loopw [3, 2, 4, 5, 6, 7, 8, 9, 10, 11, 12] (fun v3 _ _ _ _ _ _ _ _ _ _ w' => ∃ (n : Nat), v3 = .int .i64 n ∧ n ≤ 7 ∧ Aside0 (Below wa.heap.size wa w')) (fun v3 _ _ _ _ _ _ _ _ _ _ _ => (7 - intOf v3).toNat)
  case atStart => exact ⟨0, rfl, by omega, ⟨Below.refl _ _⟩⟩
  case round =>
    rename_i wr _
    obtain ⟨n, rfl, hn7, HBr⟩ := hrel
    obtain ⟨wo, hwo⟩ : ∃ wo : World, wo = wr := ⟨_, rfl⟩
    subst hwo
    by_cases hle : n ≤ 6
    · have d0 : decide ((n : Int) ≤ 6) = true := by simp; omega
      have d1 : ¬ (6 : Int) < (n : Int) := by omega
      have w1_ : IntKind.i64.wrap ((n : Int) + 1) = ((n + 1 : Nat) : Int) := by rw [IntKind.wrap_i64]; omega
      obtain ⟨T, hT⟩ : ∃ T, T = keepT n := ⟨_, rfl⟩
      have HF := Aside0.mk (safeFacts n hle)
      rw [← hT] at HF
      obtain ⟨kq, hkq⟩ : ∃ kq : Nat, kq = if n < 5 then 4 + n else 9 := ⟨_, rfl⟩
      obtain ⟨mq, hmq⟩ : ∃ mq : Int, mq = if (5 : Int) < (n : Int) then 5 else (n : Int) := ⟨_, rfl⟩
      have c0 : (if (5 : Int) < (n : Int) then 5 else (n : Int)) = mq := hmq.symm
      have c1 : wrap64 (4 + mq) = (kq : Int) := by unfold wrap64; subst hkq; subst hmq; split <;> split <;> omega
      have c2 : (0 : Int) ≤ (kq : Int) := by omega
      have c3 : (kq : Int) ≤ 9 := by subst hkq; split <;> omega
      have c4 : (ByteArray.mk #[115, 97, 102, 101, 114, 101, 115, 116, 46]).extract 0 kq = T := by rw [hT, hkq]; rfl
      clear hkq hT hmq
      go_wp2_with (first
          | (go_at_call 11; (with_reducible refine (disk_New.empty _).mono ?_); rintro _ w1 ⟨d, m, h1, h2, rfl, h4, h5⟩; have HD1 := Aside0.mk h4; have HB1 := Aside0.mk (below_step HBr.out h5); have H1 := Aside0.mk (Nat.le_trans HBr.out.size h1); have H2 := Aside0.mk (Nat.le_trans HBr.out.size h2); clear h1 h2 h4 h5)
          | (go_at_call 15; ((with_reducible refine (disk_Append.to _ d m _ _ 0 0 false false _ _ 0 (HD1.out.below (by (iterate 6 (try (first | (with_reducible exact Below.refl _ _) | (with_reducible apply pw_below_drewN) | (with_reducible apply below_drew) | (with_reducible apply below_alloc)))))) A1.out C0.out C1.out (by decide) (by decide) (by decide) (by decide) (by decide)).mono ?_); rintro _ w2 ⟨rfl, hd, hf⟩; have HD2 := Aside0.mk hd; have HB2 := Aside0.mk (Fr.below (by ((iterate 6 (try (first | (with_reducible apply pw_below_drewN) | (with_reducible apply below_drew) | (with_reducible apply below_alloc)))); exact (HB1).out)) hf (Nat.le_trans HB1.out.size (by (iterate 6 (try (first | (with_reducible exact Nat.le_refl _) | (with_reducible apply size_le_drewN) | (with_reducible apply size_le_drew) | (with_reducible apply size_le_alloc)))))) (fun k hk => by rcases hk with rfl | rfl; exact H1.out; exact H2.out)); clear hd hf))
          | (go_at_call 17; ((with_reducible refine (disk_Sync.to _ d m _ _ 0 0 false false _ 0 (HD2.out.below (by (iterate 6 (try (first | (with_reducible exact Below.refl _ _) | (with_reducible apply pw_below_drewN) | (with_reducible apply below_drew) | (with_reducible apply below_alloc)))))) A2.out C0.out C1.out (by decide)).mono ?_); rintro _ w3 ⟨rfl, hd, hf⟩; have HD3 := Aside0.mk hd; have HB3 := Aside0.mk (Fr.below (by ((iterate 6 (try (first | (with_reducible apply pw_below_drewN) | (with_reducible apply below_drew) | (with_reducible apply below_alloc)))); exact (HB2).out)) hf (Nat.le_trans HB2.out.size (by (iterate 6 (try (first | (with_reducible exact Nat.le_refl _) | (with_reducible apply size_le_drewN) | (with_reducible apply size_le_drew) | (with_reducible apply size_le_alloc)))))) (fun k hk => by rcases hk with rfl | rfl; exact H1.out; exact H2.out)); clear hd hf))
          | (go_at_call 15; ((with_reducible refine (disk_Append.to _ d m _ _ 0 0 false false _ _ 0 (HD3.out.below (by (iterate 6 (try (first | (with_reducible exact Below.refl _ _) | (with_reducible apply pw_below_drewN) | (with_reducible apply below_drew) | (with_reducible apply below_alloc)))))) A3.out C0.out C1.out (by decide) (by decide) (by decide) (by decide) (by decide)).mono ?_); rintro _ w4 ⟨rfl, hd, hf⟩; have HD4 := Aside0.mk hd; have HB4 := Aside0.mk (Fr.below (by ((iterate 6 (try (first | (with_reducible apply pw_below_drewN) | (with_reducible apply below_drew) | (with_reducible apply below_alloc)))); exact (HB3).out)) hf (Nat.le_trans HB3.out.size (by (iterate 6 (try (first | (with_reducible exact Nat.le_refl _) | (with_reducible apply size_le_drewN) | (with_reducible apply size_le_drew) | (with_reducible apply size_le_alloc)))))) (fun k hk => by rcases hk with rfl | rfl; exact H1.out; exact H2.out)); clear hd hf))
          | (go_at_call 18; ((with_reducible refine (disk_Rename.to _ d m _ _ 0 0 false false _ _ 6 (HD4.out.below (by (iterate 6 (try (first | (with_reducible exact Below.refl _ _) | (with_reducible apply pw_below_drewN) | (with_reducible apply below_drew) | (with_reducible apply below_alloc)))))) A4.out C0.out C1.out (by decide)).mono ?_); rintro _ w5 ⟨rfl, hd, hf⟩; have HD5 := Aside0.mk hd; have HB5 := Aside0.mk (Fr.below (by ((iterate 6 (try (first | (with_reducible apply pw_below_drewN) | (with_reducible apply below_drew) | (with_reducible apply below_alloc)))); exact (HB4).out)) hf (Nat.le_trans HB4.out.size (by (iterate 6 (try (first | (with_reducible exact Nat.le_refl _) | (with_reducible apply size_le_drewN) | (with_reducible apply size_le_drew) | (with_reducible apply size_le_alloc)))))) (fun k hk => by rcases hk with rfl | rfl; exact H1.out; exact H2.out)); clear hd hf))
          | (go_at_call 19; ((refine (disk_Crash.calls _ d m _ 0 false (some ⟨_, 0, none⟩) 1 [(n : Int)] (HD5.out.below (by (iterate 6 (try (first | (with_reducible exact Below.refl _ _) | (with_reducible apply pw_below_drewN) | (with_reducible apply below_drew) | (with_reducible apply below_alloc)))))) ok1 (litI_C (heap_alloc_new _ _)) (Nat.le_refl _)).mono ?_); rintro _ w6 ⟨v, u, xs, rfl, hn_, hr2, hd, hf⟩; obtain rfl := hn_.one; rw [HF.out.cr] at hr2; have HD6 := Aside0.mk hd; have HB6 := Aside0.mk (Fr.below (by ((iterate 6 (try (first | (with_reducible apply pw_below_drewN) | (with_reducible apply below_drew) | (with_reducible apply below_alloc)))); exact (HB5).out)) hf (Nat.le_trans HB5.out.size (by (iterate 6 (try (first | (with_reducible exact Nat.le_refl _) | (with_reducible apply size_le_drewN) | (with_reducible apply size_le_drew) | (with_reducible apply size_le_alloc)))))) (fun k hk => by rw [hk]; exact H1.out)); obtain ⟨Av, cv, ev, hcv, hCv⟩ := Kd.R_reads hr2.one; obtain ⟨Au, cu, eu, hcu, hCu⟩ := Kd.R_reads hr2.two; subst ev; subst eu; have HCVL := Aside0.mk hcv; have HCUL := Aside0.mk hcu; have HEA := Aside0.mk (eqs_one Av cv ⟨#[97]⟩ hcv); have HCV := Aside0.mk hCv; have HCU := Aside0.mk hCu; clear hn_ hr2 hd hf hCv hCu hcv hcu))
          | (go_at_call 14; ((refine (disk_Names.gone _ d m _ _ HD6.out).mono ?_); rintro _ w7 ⟨rfl, hb⟩; have HB7 := Aside0.mk (below_step HB6.out hb); have HCV7 := Aside0.mk (Kd.C_below HCV.out hb); have HCU7 := Aside0.mk (Kd.C_below HCU.out hb); obtain ⟨ad, e0, hx0⟩ := Kd.at_string HCU7.out (0 : Int) (by simp) (by simp); subst e0; have e1_ : rdOf ByteArray.empty [T] (0 : Int) = T := (rfl); rw [e1_] at hx0; replace hx0 : w7.cell? ad = some (.string T) := hx0; have HX0 := Aside0.mk hx0; have hxa := (fun o => cellBelow hx0 (below_alloc (Below.refl _ _) o)); clear hb hx0 e1_))
          | (go_at_call 12; (with_reducible refine (fairwaylaw9_num.calls _ _ _ rfl).mono ?_); rintro _ _ ⟨rfl, ⟨nd, rfl⟩⟩))
      refine start_ (n := 24) (S := fun w' => w'.cell? ad = some (.string T)) (ds := []) #[false, false, false, false, false, false, false, false, false, false, false, false, false, false, false, false, false, false, false, false, false, false, false, false] (by kernel_rfl) rfl rfl (HX0.out) (fun hHeld => ?_)
      refine pure_ (i := 0) (N := some 64) (v := ?_) (a' := ?_) #[true, false, false, false, false, false, false, false, false, false, false, false, false, false, false, false, false, false, false, false, false, false, false, false] rfl rfl (by kernel_rfl) (fun _ _ _ h => h) (Or.inl ⟨by rfl, ?_⟩) ?_ ?_
      rotate_left
      · intro w'
        go_simp
        with_reducible rfl
      rotate_left
      · simp only [Act.put, List.setIfInBounds_toArray, List.set_cons_zero, List.set_cons_succ, i64_w, i32_w]
        rfl
      refine one_ (i := 1) (N := some 65) #[true, true, false, false, false, false, false, false, false, false, false, false, false, false, false, false, false, false, false, false, false, false, false, false] rfl rfl (by kernel_rfl) (by decide) (fun K hK => ?_)
      refine value_ (w1 := ?_) (v := ?_) (by rfl) rfl ?_ ?_
      rotate_left 2
      · go_simp
        constructor
        · rfl
        · rfl
      refine hK.out _ _ ((cellBelow (w := w7) HX0.out (by (iterate 6 (try (first | (with_reducible exact Below.refl _ _) | (with_reducible apply pw_below_drewN) | (with_reducible apply below_drew) | (with_reducible apply below_alloc))))))) (fun hHeld => ?_)
      clear hK K
      refine norm_ (a' := ?_) ?_ ?_
      rotate_left
      · show Act.put _ (some 65) _ = _
        simp only [Act.put, List.setIfInBounds_toArray, List.set_cons_zero, List.set_cons_succ, i64_w, i32_w]
        rfl
      refine one_ (i := 2) (N := some 66) #[true, true, true, false, false, false, false, false, false, false, false, false, false, false, false, false, false, false, false, false, false, false, false, false] rfl rfl (by kernel_rfl) (by decide) (fun K hK => ?_)
      refine goes_ Try.func20 (by kernel_rfl) rfl #[.slice Av 1 cv, .slice (some ⟨w7.heap.size, 0, none⟩) 1 1] (by rfl) rfl rfl (by simp only [List.map_toArray, List.map_cons, List.map_nil]; rfl) ?_
      with_reducible refine (HEA.out _ _ (by exact Kd.C_below (HCV7).out (by (iterate 6 (try (first | (with_reducible exact Below.refl _ _) | (with_reducible apply pw_below_drewN) | (with_reducible apply below_drew) | (with_reducible apply below_alloc)))))) (Kd.C_below (lit_C (heap_alloc_new w7 _)) (by (iterate 6 (try (first | (with_reducible exact Below.refl _ _) | (with_reducible apply pw_below_drewN) | (with_reducible apply below_drew) | (with_reducible apply below_alloc))))))).mono ?_
      rintro _ _ ⟨rfl, ⟨nd2, rfl⟩⟩
      refine ⟨_, rfl, ?_⟩
      refine hK.out _ _ ((cellBelow (w := w7) HX0.out (by (iterate 6 (try (first | (with_reducible exact Below.refl _ _) | (with_reducible apply pw_below_drewN) | (with_reducible apply below_drew) | (with_reducible apply below_alloc))))))) (fun hHeld => ?_)
      clear hK K
      refine norm_ (a' := ?_) ?_ ?_
      rotate_left
      · show Act.put _ (some 66) _ = _
        simp only [Act.put, List.setIfInBounds_toArray, List.set_cons_zero, List.set_cons_succ, i64_w, i32_w]
        rfl
      refine pure_ (i := 3) (N := some 67) (v := ?_) (a' := ?_) #[true, true, true, true, false, false, false, false, false, false, false, false, false, false, false, false, false, false, false, false, false, false, false, false] rfl rfl (by kernel_rfl) (fun _ _ _ h => h) (Or.inl ⟨by rfl, ?_⟩) ?_ ?_
      rotate_left
      · intro w'
        go_simp
        with_reducible rfl
      rotate_left
      · simp only [Act.put, List.setIfInBounds_toArray, List.set_cons_zero, List.set_cons_succ, i64_w, i32_w]
        rfl
      refine pure_ (i := 4) (N := some 68) (v := ?_) (a' := ?_) #[true, true, true, true, true, false, false, false, false, false, false, false, false, false, false, false, false, false, false, false, false, false, false, false] rfl rfl (by kernel_rfl) (fun _ _ _ h => h) (Or.inl ⟨by rfl, ?_⟩) ?_ ?_
      rotate_left
      · intro w'
        go_simp
        with_reducible rfl
      rotate_left
      · simp only [Act.put, List.setIfInBounds_toArray, List.set_cons_zero, List.set_cons_succ, i64_w, i32_w]
        rfl
      refine pure_ (i := 5) (N := some 69) (v := ?_) (a' := ?_) #[true, true, true, true, true, true, false, false, false, false, false, false, false, false, false, false, false, false, false, false, false, false, false, false] rfl rfl (by kernel_rfl) (fun _ _ _ h => h) (Or.inl ⟨by rfl, ?_⟩) ?_ ?_
      rotate_left
      · intro w'
        go_simp
        with_reducible rfl
      rotate_left
      · simp only [Act.put, List.setIfInBounds_toArray, List.set_cons_zero, List.set_cons_succ, i64_w, i32_w]
        rfl
      refine pure_ (i := 6) (N := some 70) (v := ?_) (a' := ?_) #[true, true, true, true, true, true, true, false, false, false, false, false, false, false, false, false, false, false, false, false, false, false, false, false] rfl rfl (by kernel_rfl) (fun _ _ _ h => h) (Or.inl ⟨by rfl, ?_⟩) ?_ ?_
      rotate_left
      · intro w'
        go_simp
        with_reducible rfl
      rotate_left
      · simp only [Act.put, List.setIfInBounds_toArray, List.set_cons_zero, List.set_cons_succ, i64_w, i32_w]
        rfl
      refine pure_ (i := 7) (N := some 71) (v := ?_) (a' := ?_) #[true, true, true, true, true, true, true, true, false, false, false, false, false, false, false, false, false, false, false, false, false, false, false, false] rfl rfl (by kernel_rfl) (fun _ _ _ h => h) (Or.inl ⟨by rfl, ?_⟩) ?_ ?_
      rotate_left
      · intro w'
        go_simp
        with_reducible rfl
      rotate_left
      · simp only [Act.put, List.setIfInBounds_toArray, List.set_cons_zero, List.set_cons_succ, i64_w, i32_w]
        rfl
      refine pure_ (i := 8) (N := some 72) (v := ?_) (a' := ?_) #[true, true, true, true, true, true, true, true, true, false, false, false, false, false, false, false, false, false, false, false, false, false, false, false] rfl rfl (by kernel_rfl) (fun _ _ _ h => h) (Or.inl ⟨by rfl, ?_⟩) ?_ ?_
      rotate_left
      · intro w'
        go_simp
        with_reducible rfl
      rotate_left
      · simp only [Act.put, List.setIfInBounds_toArray, List.set_cons_zero, List.set_cons_succ, i64_w, i32_w]
        rfl
      refine pure_ (i := 9) (N := some 73) (v := ?_) (a' := ?_) #[true, true, true, true, true, true, true, true, true, true, false, false, false, false, false, false, false, false, false, false, false, false, false, false] rfl rfl (by kernel_rfl) (fun _ _ _ h => h) (Or.inl ⟨by rfl, ?_⟩) ?_ ?_
      rotate_left
      · intro w'
        go_simp
        with_reducible rfl
      rotate_left
      · simp only [Act.put, List.setIfInBounds_toArray, List.set_cons_zero, List.set_cons_succ, i64_w, i32_w]
        rfl
      refine pure_ (i := 10) (N := some 74) (v := ?_) (a' := ?_) #[true, true, true, true, true, true, true, true, true, true, true, false, false, false, false, false, false, false, false, false, false, false, false, false] rfl rfl (by kernel_rfl) (fun _ _ _ h => h) (Or.inl ⟨by rfl, ?_⟩) ?_ ?_
      rotate_left
      · intro w'
        go_simp
        with_reducible rfl
      rotate_left
      · simp only [Act.put, List.setIfInBounds_toArray, List.set_cons_zero, List.set_cons_succ, i64_w, i32_w]
        rfl
      refine pure_ (i := 11) (N := some 75) (v := ?_) (a' := ?_) #[true, true, true, true, true, true, true, true, true, true, true, true, false, false, false, false, false, false, false, false, false, false, false, false] rfl rfl (by kernel_rfl) (fun _ _ _ h => h) (Or.inl ⟨by rfl, ?_⟩) ?_ ?_
      rotate_left
      · intro w'
        go_simp
        with_reducible rfl
      rotate_left
      · simp only [Act.put, List.setIfInBounds_toArray, List.set_cons_zero, List.set_cons_succ, i64_w, i32_w]
        rfl
      refine pure_ (i := 13) (N := some 77) (v := ?_) (a' := ?_) #[true, true, true, true, true, true, true, true, true, true, true, true, false, true, false, false, false, false, false, false, false, false, false, false] rfl rfl (by kernel_rfl) (fun _ _ _ h => h) (Or.inl ⟨by rfl, ?_⟩) ?_ ?_
      rotate_left
      · intro w'
        go_simp
        with_reducible rfl
      rotate_left
      · simp only [Act.put, List.setIfInBounds_toArray, List.set_cons_zero, List.set_cons_succ, i64_w, i32_w]
        rfl
      refine pure_ (i := 14) (N := some 78) (v := ?_) (a' := ?_) #[true, true, true, true, true, true, true, true, true, true, true, true, false, true, true, false, false, false, false, false, false, false, false, false] rfl rfl (by kernel_rfl) (fun _ _ _ h => h) (Or.inl ⟨by rfl, ?_⟩) ?_ ?_
      rotate_left
      · intro w'
        go_simp
        with_reducible rfl
      rotate_left
      · simp only [Act.put, List.setIfInBounds_toArray, List.set_cons_zero, List.set_cons_succ, i64_w, i32_w]
        rfl
      refine pure_ (i := 15) (N := some 79) (v := ?_) (a' := ?_) #[true, true, true, true, true, true, true, true, true, true, true, true, false, true, true, true, false, false, false, false, false, false, false, false] rfl rfl (by kernel_rfl) (fun _ _ _ h => h) (Or.inl ⟨by rfl, ?_⟩) ?_ ?_
      rotate_left
      · intro w'
        go_simp
        with_reducible rfl
      rotate_left
      · simp only [Act.put, List.setIfInBounds_toArray, List.set_cons_zero, List.set_cons_succ, i64_w, i32_w]
        rfl
      refine pure_ (i := 16) (N := some 80) (v := ?_) (a' := ?_) #[true, true, true, true, true, true, true, true, true, true, true, true, false, true, true, true, true, false, false, false, false, false, false, false] rfl rfl (by kernel_rfl) (fun _ _ _ h => h) (Or.inl ⟨by rfl, ?_⟩) ?_ ?_
      rotate_left
      · intro w'
        go_simp
        with_reducible rfl
      rotate_left
      · simp only [Act.put, List.setIfInBounds_toArray, List.set_cons_zero, List.set_cons_succ, i64_w, i32_w]
        rfl
      refine take_ (i := 12) (N := some 76) (v := ?_) (a' := ?_) #[true, true, true, true, true, true, true, true, true, true, true, true, true, true, true, true, true, false, false, false, false, false, false, false] rfl rfl (by kernel_rfl) (fun _ _ _ h => h) (Or.inl ⟨by rfl, ?_⟩) hHeld ?_ ?_
      rotate_left
      · intro w' s0
        go_simp
        with_reducible rfl
      rotate_left
      · simp only [Act.put, List.setIfInBounds_toArray, List.set_cons_zero, List.set_cons_succ, i64_w, i32_w]
        rfl
      refine pure_ (i := 17) (N := some 81) (v := ?_) (a' := ?_) #[true, true, true, true, true, true, true, true, true, true, true, true, true, true, true, true, true, true, false, false, false, false, false, false] rfl rfl (by kernel_rfl) (fun _ _ _ h => h) (Or.inl ⟨by rfl, ?_⟩) ?_ ?_
      rotate_left
      · intro w'
        go_simp
        with_reducible rfl
      rotate_left
      · simp only [Act.put, List.setIfInBounds_toArray, List.set_cons_zero, List.set_cons_succ, i64_w, i32_w]
        rfl
      refine pure_ (i := 18) (N := some 82) (v := ?_) (a' := ?_) #[true, true, true, true, true, true, true, true, true, true, true, true, true, true, true, true, true, true, true, false, false, false, false, false] rfl rfl (by kernel_rfl) (fun _ _ _ h => h) (Or.inl ⟨by rfl, ?_⟩) ?_ ?_
      rotate_left
      · intro w'
        go_simp
        with_reducible rfl
      rotate_left
      · simp only [Act.put, List.setIfInBounds_toArray, List.set_cons_zero, List.set_cons_succ, i64_w, i32_w]
        rfl
      refine pure_ (i := 19) (N := some 83) (v := ?_) (a' := ?_) #[true, true, true, true, true, true, true, true, true, true, true, true, true, true, true, true, true, true, true, true, false, false, false, false] rfl rfl (by kernel_rfl) (fun _ _ _ h => h) (Or.inl ⟨by rfl, ?_⟩) ?_ ?_
      rotate_left
      · intro w'
        go_simp
        with_reducible rfl
      rotate_left
      · simp only [Act.put, List.setIfInBounds_toArray, List.set_cons_zero, List.set_cons_succ, i64_w, i32_w]
        rfl
      refine pure_ (i := 20) (N := some 84) (v := ?_) (a' := ?_) #[true, true, true, true, true, true, true, true, true, true, true, true, true, true, true, true, true, true, true, true, true, false, false, false] rfl rfl (by kernel_rfl) (fun _ _ _ h => h) (Or.inl ⟨by rfl, ?_⟩) ?_ ?_
      rotate_left
      · intro w'
        go_simp
        with_reducible rfl
      rotate_left
      · simp only [Act.put, List.setIfInBounds_toArray, List.set_cons_zero, List.set_cons_succ, i64_w, i32_w]
        rfl
      refine one_ (i := 21) (N := some 85) #[true, true, true, true, true, true, true, true, true, true, true, true, true, true, true, true, true, true, true, true, true, true, false, false] rfl rfl (by kernel_rfl) (by decide) (fun K hK => ?_)
      refine goes_ Try.func12 (by kernel_rfl) rfl #[.int .i64 10] (by rfl) rfl rfl (by simp only [List.map_toArray, List.map_cons, List.map_nil]; rfl) ?_
      with_reducible refine (fairwaylaw9_num.calls _ _ _ rfl).mono ?_
      rintro _ _ ⟨rfl, ⟨nd3, rfl⟩⟩
      refine ⟨_, rfl, ?_⟩
      refine hK.out _ _ ((cellBelow (w := w7) HX0.out (by (iterate 6 (try (first | (with_reducible exact Below.refl _ _) | (with_reducible apply pw_below_drewN) | (with_reducible apply below_drew) | (with_reducible apply below_alloc))))))) (fun hHeld => ?_)
      clear hK K
      refine norm_ (a' := ?_) ?_ ?_
      rotate_left
      · show Act.put _ (some 85) _ = _
        simp only [Act.put, List.setIfInBounds_toArray, List.set_cons_zero, List.set_cons_succ, i64_w, i32_w]
        rfl
      refine pure_ (i := 22) (N := some 86) (v := ?_) (a' := ?_) #[true, true, true, true, true, true, true, true, true, true, true, true, true, true, true, true, true, true, true, true, true, true, true, false] rfl rfl (by kernel_rfl) (fun _ _ _ h => h) (Or.inl ⟨by rfl, ?_⟩) ?_ ?_
      rotate_left
      · intro w'
        go_simp
        with_reducible rfl
      rotate_left
      · simp only [Act.put, List.setIfInBounds_toArray, List.set_cons_zero, List.set_cons_succ, i64_w, i32_w]
        rfl
      refine pure_ (i := 23) (N := some 87) (v := ?_) (a' := ?_) #[true, true, true, true, true, true, true, true, true, true, true, true, true, true, true, true, true, true, true, true, true, true, true, true] rfl rfl (by kernel_rfl) (fun _ _ _ h => h) (Or.inl ⟨by rfl, ?_⟩) ?_ ?_
      rotate_left
      · intro w'
        go_simp
        with_reducible rfl
      rotate_left
      · simp only [Act.put, List.setIfInBounds_toArray, List.set_cons_zero, List.set_cons_succ, i64_w, i32_w]
        rfl
      refine done_ (by kernel_rfl) ?_
      have HZ7 := Aside0.mk (show Below w7.heap.size w7 (((w7.alloc (Obj.cells #[Value.string ⟨#[97]⟩] 9)).drew.drewN nd2).drewN nd3) by (iterate 6 (try (first | (with_reducible exact Below.refl _ _) | (with_reducible apply pw_below_drewN) | (with_reducible apply below_drew) | (with_reducible apply below_alloc)))))
      clear hxa
      generalize (((w7.alloc (Obj.cells #[Value.string ⟨#[97]⟩] 9)).drew.drewN nd2).drewN nd3) = w7b at HZ7 ⊢
      have HB7 := Aside0.mk (below_step HB7.out HZ7.out)
      have HCV7 := Aside0.mk (Kd.C_below HCV7.out HZ7.out)
      have HCU7 := Aside0.mk (Kd.C_below HCU7.out HZ7.out)
      have HX0 := Aside0.mk (cellBelow HX0.out HZ7.out)
      obtain ⟨w7, hw7⟩ : ∃ q, q = w7b := ⟨_, rfl⟩
      subst hw7
      go_wp2_with (first
        | (go_at_call 11; ((refine (disk_New.to Av cv [⟨#[97]⟩] (some ad) cu [T] [⟨⟨#[97]⟩, T, T.size⟩] _ (by exact Kd.C_below (HCV7).out (by (iterate 6 (try (first | (with_reducible exact Below.refl _ _) | (with_reducible apply pw_below_drewN) | (with_reducible apply below_drew) | (with_reducible apply below_alloc)))))) HCVL.out (by exact Kd.C_below (HCU7).out (by (iterate 6 (try (first | (with_reducible exact Below.refl _ _) | (with_reducible apply pw_below_drewN) | (with_reducible apply below_drew) | (with_reducible apply below_alloc)))))) HCUL.out HF.out.new).mono ?_); rintro _ w8 ⟨d2, m2, h1, h2, rfl, h4, h5⟩; have HD8 := Aside0.mk h4; have HZ8 := Aside0.mk (below_step (show Below w7.heap.size w7 _ by (iterate 6 (try (first | (with_reducible exact Below.refl _ _) | (with_reducible apply pw_below_drewN) | (with_reducible apply below_drew) | (with_reducible apply below_alloc))))) h5); have H3 : Aside0 (w7.heap.size ≤ d2) := ⟨Nat.le_trans (by (iterate 6 (try (first | (with_reducible exact Nat.le_refl _) | (with_reducible apply size_le_drewN) | (with_reducible apply size_le_drew) | (with_reducible apply size_le_alloc))))) h1⟩; have H4 : Aside0 (w7.heap.size ≤ m2) := ⟨Nat.le_trans (by (iterate 6 (try (first | (with_reducible exact Nat.le_refl _) | (with_reducible apply size_le_drewN) | (with_reducible apply size_le_drew) | (with_reducible apply size_le_alloc))))) h2⟩; clear h1 h2 h4 h5))
          | (go_at_call 18; ((with_reducible refine (disk_Rename.to _ d2 m2 _ _ 0 0 false false _ _ 0 (HD8.out.below (by (iterate 6 (try (first | (with_reducible exact Below.refl _ _) | (with_reducible apply pw_below_drewN) | (with_reducible apply below_drew) | (with_reducible apply below_alloc)))))) HF.out.ren C0.out C1.out (by decide)).mono ?_); rintro _ w9 ⟨rfl, hd, hf⟩; have HD9 := Aside0.mk hd; have HZ9 := Aside0.mk (Fr.below (by ((iterate 6 (try (first | (with_reducible apply pw_below_drewN) | (with_reducible apply below_drew) | (with_reducible apply below_alloc)))); exact (HZ8).out)) hf (Nat.le_trans HZ8.out.size (by (iterate 6 (try (first | (with_reducible exact Nat.le_refl _) | (with_reducible apply size_le_drewN) | (with_reducible apply size_le_drew) | (with_reducible apply size_le_alloc)))))) (fun k hk => by rcases hk with rfl | rfl; exact H3.out; exact H4.out)); clear hd hf))
          | (go_at_call 15; ((with_reducible refine (disk_Append.to _ d2 m2 _ _ 0 0 false false _ _ 0 (HD9.out.below (by (iterate 6 (try (first | (with_reducible exact Below.refl _ _) | (with_reducible apply pw_below_drewN) | (with_reducible apply below_drew) | (with_reducible apply below_alloc)))))) HF.out.app C0.out C1.out (by decide) HF.out.us HF.out.tx (by simp) (by decide)).mono ?_); rintro _ w10 ⟨rfl, hd, hf⟩; have HD10 := Aside0.mk hd; have HZ10 := Aside0.mk (Fr.below (by ((iterate 6 (try (first | (with_reducible apply pw_below_drewN) | (with_reducible apply below_drew) | (with_reducible apply below_alloc)))); exact (HZ9).out)) hf (Nat.le_trans HZ9.out.size (by (iterate 6 (try (first | (with_reducible exact Nat.le_refl _) | (with_reducible apply size_le_drewN) | (with_reducible apply size_le_drew) | (with_reducible apply size_le_alloc)))))) (fun k hk => by rcases hk with rfl | rfl; exact H3.out; exact H4.out)); clear hd hf))
          | (go_at_call 19; ((refine (disk_Crash.calls _ d2 m2 _ 0 false none 0 [] (HD10.out.below (by (iterate 6 (try (first | (with_reducible exact Below.refl _ _) | (with_reducible apply pw_below_drewN) | (with_reducible apply below_drew) | (with_reducible apply below_alloc)))))) (ok2 HF.out.size) (Kd.C_nil _ _) (Nat.le_refl _)).mono ?_); rintro _ w11 ⟨v2, u2_, xs2, rfl, hn_, hr2, hd, hf⟩; obtain rfl := hn_.two; rw [HF.out.cr2] at hr2; have HZ11 := Aside0.mk (Fr.below (by ((iterate 6 (try (first | (with_reducible apply pw_below_drewN) | (with_reducible apply below_drew) | (with_reducible apply below_alloc)))); exact (HZ10).out)) hf (Nat.le_trans HZ10.out.size (by (iterate 6 (try (first | (with_reducible exact Nat.le_refl _) | (with_reducible apply size_le_drewN) | (with_reducible apply size_le_drew) | (with_reducible apply size_le_alloc)))))) (fun k hk => by rw [hk]; exact H3.out)); obtain ⟨Aw, cw, ew, hcw, hCw⟩ := Kd.R_reads hr2.one; obtain ⟨At, ct, et, hct, hCt⟩ := Kd.R_reads hr2.two; subst ew; subst et; have HEB := Aside0.mk (eqs_two Aw cw ⟨#[98]⟩ ⟨#[99]⟩ hcw); have HCW := Aside0.mk hCw; obtain ⟨ad2, e0, hx1⟩ := Kd.at_string hCt (0 : Int) (by simp) (by simp); subst e0; obtain ⟨ad3, e0, hx2⟩ := Kd.at_string hCt (1 : Int) (by simp) (by simp); injection e0 with e0; subst e0; have e1_ : rdOf ByteArray.empty [T, ⟨#[]⟩] (0 : Int) = T := (rfl); have e2_ : rdOf ByteArray.empty [T, ⟨#[]⟩] (1 : Int) = ⟨#[]⟩ := (rfl); rw [e1_] at hx1; rw [e2_] at hx2; replace hx1 : w11.cell? ad2 = some (.string T) := hx1; replace hx2 : w11.cell? ⟨ad2.block, ad2.off + 1, none⟩ = some (.string ⟨#[]⟩) := hx2; have HX1 := Aside0.mk hx1; have HX2 := Aside0.mk hx2; have HX3 := Aside0.mk (cellBelow HX0.out HZ11.out); have HB11 := Aside0.mk (below_step HB7.out HZ11.out); clear hx1 hx2 e1_ e2_ hn_ hr2 hd hf hCw hCt hcw hct))
        | (go_at_call 12; (with_reducible refine (fairwaylaw9_num.calls _ _ _ rfl).mono ?_); rintro _ _ ⟨rfl, ⟨nd, rfl⟩⟩))
      refine start_ (n := 24) (S := fun w' => w'.cell? ad2 = some (.string T) ∧ w'.cell? ad = some (.string T) ∧ w'.cell? ⟨ad2.block, ad2.off + 1, none⟩ = some (.string ⟨#[]⟩)) (ds := []) #[false, false, false, false, false, false, false, false, false, false, false, false, false, false, false, false, false, false, false, false, false, false, false, false] (by kernel_rfl) rfl rfl ⟨HX1.out, HX3.out, HX2.out⟩ (fun hHeld => ?_)
      refine pure_ (i := 0) (N := some 118) (v := ?_) (a' := ?_) #[true, false, false, false, false, false, false, false, false, false, false, false, false, false, false, false, false, false, false, false, false, false, false, false] rfl rfl (by kernel_rfl) (fun _ _ _ h => h) (Or.inl ⟨by rfl, ?_⟩) ?_ ?_
      rotate_left
      · intro w'
        go_simp
        with_reducible rfl
      rotate_left
      · simp only [Act.put, List.setIfInBounds_toArray, List.set_cons_zero, List.set_cons_succ, i64_w, i32_w]
        rfl
      refine one_ (i := 1) (N := some 119) #[true, true, false, false, false, false, false, false, false, false, false, false, false, false, false, false, false, false, false, false, false, false, false, false] rfl rfl (by kernel_rfl) (by decide) (fun K hK => ?_)
      refine value_ (w1 := ?_) (v := ?_) (by rfl) rfl ?_ ?_
      rotate_left 2
      · go_simp
        constructor
        · rfl
        · rfl
      refine hK.out _ _ ⟨(cellBelow (w := w11) HX1.out (by (iterate 6 (try (first | (with_reducible exact Below.refl _ _) | (with_reducible apply pw_below_drewN) | (with_reducible apply below_drew) | (with_reducible apply below_alloc)))))), (cellBelow (w := w11) HX3.out (by (iterate 6 (try (first | (with_reducible exact Below.refl _ _) | (with_reducible apply pw_below_drewN) | (with_reducible apply below_drew) | (with_reducible apply below_alloc)))))), (cellBelow (w := w11) HX2.out (by (iterate 6 (try (first | (with_reducible exact Below.refl _ _) | (with_reducible apply pw_below_drewN) | (with_reducible apply below_drew) | (with_reducible apply below_alloc))))))⟩ (fun hHeld => ?_)
      clear hK K
      refine norm_ (a' := ?_) ?_ ?_
      rotate_left
      · show Act.put _ (some 119) _ = _
        simp only [Act.put, List.setIfInBounds_toArray, List.set_cons_zero, List.set_cons_succ, i64_w, i32_w]
        rfl
      refine one_ (i := 2) (N := some 120) #[true, true, true, false, false, false, false, false, false, false, false, false, false, false, false, false, false, false, false, false, false, false, false, false] rfl rfl (by kernel_rfl) (by decide) (fun K hK => ?_)
      refine goes_ Try.func20 (by kernel_rfl) rfl #[.slice Aw 2 cw, .slice (some ⟨w11.heap.size, 0, none⟩) 2 2] (by rfl) rfl rfl (by simp only [List.map_toArray, List.map_cons, List.map_nil]; rfl) ?_
      with_reducible refine (HEB.out _ _ (by exact Kd.C_below (HCW).out (by (iterate 6 (try (first | (with_reducible exact Below.refl _ _) | (with_reducible apply pw_below_drewN) | (with_reducible apply below_drew) | (with_reducible apply below_alloc)))))) (Kd.C_below (lit2_C (heap_alloc_new w11 _)) (by (iterate 6 (try (first | (with_reducible exact Below.refl _ _) | (with_reducible apply pw_below_drewN) | (with_reducible apply below_drew) | (with_reducible apply below_alloc))))))).mono ?_
      rintro _ _ ⟨rfl, ⟨nd2, rfl⟩⟩
      refine ⟨_, rfl, ?_⟩
      refine hK.out _ _ ⟨(cellBelow (w := w11) HX1.out (by (iterate 6 (try (first | (with_reducible exact Below.refl _ _) | (with_reducible apply pw_below_drewN) | (with_reducible apply below_drew) | (with_reducible apply below_alloc)))))), (cellBelow (w := w11) HX3.out (by (iterate 6 (try (first | (with_reducible exact Below.refl _ _) | (with_reducible apply pw_below_drewN) | (with_reducible apply below_drew) | (with_reducible apply below_alloc)))))), (cellBelow (w := w11) HX2.out (by (iterate 6 (try (first | (with_reducible exact Below.refl _ _) | (with_reducible apply pw_below_drewN) | (with_reducible apply below_drew) | (with_reducible apply below_alloc))))))⟩ (fun hHeld => ?_)
      clear hK K
      refine norm_ (a' := ?_) ?_ ?_
      rotate_left
      · show Act.put _ (some 120) _ = _
        simp only [Act.put, List.setIfInBounds_toArray, List.set_cons_zero, List.set_cons_succ, i64_w, i32_w]
        rfl
      refine pure_ (i := 3) (N := some 121) (v := ?_) (a' := ?_) #[true, true, true, true, false, false, false, false, false, false, false, false, false, false, false, false, false, false, false, false, false, false, false, false] rfl rfl (by kernel_rfl) (fun _ _ _ h => h) (Or.inl ⟨by rfl, ?_⟩) ?_ ?_
      rotate_left
      · intro w'
        go_simp
        with_reducible rfl
      rotate_left
      · simp only [Act.put, List.setIfInBounds_toArray, List.set_cons_zero, List.set_cons_succ, i64_w, i32_w]
        rfl
      refine pure_ (i := 4) (N := some 122) (v := ?_) (a' := ?_) #[true, true, true, true, true, false, false, false, false, false, false, false, false, false, false, false, false, false, false, false, false, false, false, false] rfl rfl (by kernel_rfl) (fun _ _ _ h => h) (Or.inl ⟨by rfl, ?_⟩) ?_ ?_
      rotate_left
      · intro w'
        go_simp
        with_reducible rfl
      rotate_left
      · simp only [Act.put, List.setIfInBounds_toArray, List.set_cons_zero, List.set_cons_succ, i64_w, i32_w]
        rfl
      refine pure_ (i := 5) (N := some 123) (v := ?_) (a' := ?_) #[true, true, true, true, true, true, false, false, false, false, false, false, false, false, false, false, false, false, false, false, false, false, false, false] rfl rfl (by kernel_rfl) (fun _ _ _ h => h) (Or.inl ⟨by rfl, ?_⟩) ?_ ?_
      rotate_left
      · intro w'
        go_simp
        with_reducible rfl
      rotate_left
      · simp only [Act.put, List.setIfInBounds_toArray, List.set_cons_zero, List.set_cons_succ, i64_w, i32_w]
        rfl
      refine pure_ (i := 6) (N := some 124) (v := ?_) (a' := ?_) #[true, true, true, true, true, true, true, false, false, false, false, false, false, false, false, false, false, false, false, false, false, false, false, false] rfl rfl (by kernel_rfl) (fun _ _ _ h => h) (Or.inl ⟨by rfl, ?_⟩) ?_ ?_
      rotate_left
      · intro w'
        go_simp
        with_reducible rfl
      rotate_left
      · simp only [Act.put, List.setIfInBounds_toArray, List.set_cons_zero, List.set_cons_succ, i64_w, i32_w]
        rfl
      refine pure_ (i := 7) (N := some 125) (v := ?_) (a' := ?_) #[true, true, true, true, true, true, true, true, false, false, false, false, false, false, false, false, false, false, false, false, false, false, false, false] rfl rfl (by kernel_rfl) (fun _ _ _ h => h) (Or.inl ⟨by rfl, ?_⟩) ?_ ?_
      rotate_left
      · intro w'
        go_simp
        with_reducible rfl
      rotate_left
      · simp only [Act.put, List.setIfInBounds_toArray, List.set_cons_zero, List.set_cons_succ, i64_w, i32_w]
        rfl
      refine pure_ (i := 8) (N := some 126) (v := ?_) (a' := ?_) #[true, true, true, true, true, true, true, true, true, false, false, false, false, false, false, false, false, false, false, false, false, false, false, false] rfl rfl (by kernel_rfl) (fun _ _ _ h => h) (Or.inl ⟨by rfl, ?_⟩) ?_ ?_
      rotate_left
      · intro w'
        go_simp
        with_reducible rfl
      rotate_left
      · simp only [Act.put, List.setIfInBounds_toArray, List.set_cons_zero, List.set_cons_succ, i64_w, i32_w]
        rfl
      refine pure_ (i := 9) (N := some 127) (v := ?_) (a' := ?_) #[true, true, true, true, true, true, true, true, true, true, false, false, false, false, false, false, false, false, false, false, false, false, false, false] rfl rfl (by kernel_rfl) (fun _ _ _ h => h) (Or.inl ⟨by rfl, ?_⟩) ?_ ?_
      rotate_left
      · intro w'
        go_simp
        with_reducible rfl
      rotate_left
      · simp only [Act.put, List.setIfInBounds_toArray, List.set_cons_zero, List.set_cons_succ, i64_w, i32_w]
        rfl
      refine pure_ (i := 10) (N := some 128) (v := ?_) (a' := ?_) #[true, true, true, true, true, true, true, true, true, true, true, false, false, false, false, false, false, false, false, false, false, false, false, false] rfl rfl (by kernel_rfl) (fun _ _ _ h => h) (Or.inl ⟨by rfl, ?_⟩) ?_ ?_
      rotate_left
      · intro w'
        go_simp
        with_reducible rfl
      rotate_left
      · simp only [Act.put, List.setIfInBounds_toArray, List.set_cons_zero, List.set_cons_succ, i64_w, i32_w]
        rfl
      refine pure_ (i := 11) (N := some 129) (v := ?_) (a' := ?_) #[true, true, true, true, true, true, true, true, true, true, true, true, false, false, false, false, false, false, false, false, false, false, false, false] rfl rfl (by kernel_rfl) (fun _ _ _ h => h) (Or.inl ⟨by rfl, ?_⟩) ?_ ?_
      rotate_left
      · intro w'
        go_simp
        with_reducible rfl
      rotate_left
      · simp only [Act.put, List.setIfInBounds_toArray, List.set_cons_zero, List.set_cons_succ, i64_w, i32_w]
        rfl
      refine pure_ (i := 13) (N := some 131) (v := ?_) (a' := ?_) #[true, true, true, true, true, true, true, true, true, true, true, true, false, true, false, false, false, false, false, false, false, false, false, false] rfl rfl (by kernel_rfl) (fun _ _ _ h => h) (Or.inl ⟨by rfl, ?_⟩) ?_ ?_
      rotate_left
      · intro w'
        go_simp
        with_reducible rfl
      rotate_left
      · simp only [Act.put, List.setIfInBounds_toArray, List.set_cons_zero, List.set_cons_succ, i64_w, i32_w]
        rfl
      refine pure_ (i := 14) (N := some 132) (v := ?_) (a' := ?_) #[true, true, true, true, true, true, true, true, true, true, true, true, false, true, true, false, false, false, false, false, false, false, false, false] rfl rfl (by kernel_rfl) (fun _ _ _ h => h) (Or.inl ⟨by rfl, ?_⟩) ?_ ?_
      rotate_left
      · intro w'
        go_simp
        with_reducible rfl
      rotate_left
      · simp only [Act.put, List.setIfInBounds_toArray, List.set_cons_zero, List.set_cons_succ, i64_w, i32_w]
        rfl
      refine take_ (i := 12) (N := some 130) (v := ?_) (a' := ?_) #[true, true, true, true, true, true, true, true, true, true, true, true, true, true, true, false, false, false, false, false, false, false, false, false] rfl rfl (by kernel_rfl) (fun _ _ _ h => h) (Or.inl ⟨by rfl, ?_⟩) hHeld ?_ ?_
      rotate_left
      · rintro w' ⟨s0, s1, s2⟩
        go_simp
        with_reducible rfl
      rotate_left
      · simp only [Act.put, List.setIfInBounds_toArray, List.set_cons_zero, List.set_cons_succ, i64_w, i32_w]
        rfl
      refine take_ (i := 15) (N := some 133) (v := ?_) (a' := ?_) #[true, true, true, true, true, true, true, true, true, true, true, true, true, true, true, true, false, false, false, false, false, false, false, false] rfl rfl (by kernel_rfl) (fun _ _ _ h => h) (Or.inl ⟨by rfl, ?_⟩) hHeld ?_ ?_
      rotate_left
      · rintro w' ⟨s0, s1, s2⟩
        go_simp
        with_reducible rfl
      rotate_left
      · simp only [Act.put, List.setIfInBounds_toArray, List.set_cons_zero, List.set_cons_succ, i64_w, i32_w]
        rfl
      refine pure_ (i := 16) (N := some 134) (v := ?_) (a' := ?_) #[true, true, true, true, true, true, true, true, true, true, true, true, true, true, true, true, true, false, false, false, false, false, false, false] rfl rfl (by kernel_rfl) (fun _ _ _ h => h) (Or.inl ⟨by rfl, ?_⟩) ?_ ?_
      rotate_left
      · intro w'
        go_simp
        with_reducible rfl
      rotate_left
      · simp only [Act.put, List.setIfInBounds_toArray, List.set_cons_zero, List.set_cons_succ, i64_w, i32_w]
        rfl
      refine pure_ (i := 17) (N := some 135) (v := ?_) (a' := ?_) #[true, true, true, true, true, true, true, true, true, true, true, true, true, true, true, true, true, true, false, false, false, false, false, false] rfl rfl (by kernel_rfl) (fun _ _ _ h => h) (Or.inl ⟨by rfl, ?_⟩) ?_ ?_
      rotate_left
      · intro w'
        go_simp
        with_reducible rfl
      rotate_left
      · simp only [Act.put, List.setIfInBounds_toArray, List.set_cons_zero, List.set_cons_succ, i64_w, i32_w]
        rfl
      refine pure_ (i := 18) (N := some 136) (v := ?_) (a' := ?_) #[true, true, true, true, true, true, true, true, true, true, true, true, true, true, true, true, true, true, true, false, false, false, false, false] rfl rfl (by kernel_rfl) (fun _ _ _ h => h) (Or.inl ⟨by rfl, ?_⟩) ?_ ?_
      rotate_left
      · intro w'
        go_simp
        with_reducible rfl
      rotate_left
      · simp only [Act.put, List.setIfInBounds_toArray, List.set_cons_zero, List.set_cons_succ, i64_w, i32_w]
        rfl
      refine pure_ (i := 19) (N := some 137) (v := ?_) (a' := ?_) #[true, true, true, true, true, true, true, true, true, true, true, true, true, true, true, true, true, true, true, true, false, false, false, false] rfl rfl (by kernel_rfl) (fun _ _ _ h => h) (Or.inl ⟨by rfl, ?_⟩) ?_ ?_
      rotate_left
      · intro w'
        go_simp
        with_reducible rfl
      rotate_left
      · simp only [Act.put, List.setIfInBounds_toArray, List.set_cons_zero, List.set_cons_succ, i64_w, i32_w]
        rfl
      refine pure_ (i := 20) (N := some 138) (v := ?_) (a' := ?_) #[true, true, true, true, true, true, true, true, true, true, true, true, true, true, true, true, true, true, true, true, true, false, false, false] rfl rfl (by kernel_rfl) (fun _ _ _ h => h) (Or.inl ⟨by rfl, ?_⟩) ?_ ?_
      rotate_left
      · intro w'
        go_simp
        with_reducible rfl
      rotate_left
      · simp only [Act.put, List.setIfInBounds_toArray, List.set_cons_zero, List.set_cons_succ, i64_w, i32_w]
        rfl
      refine take_ (i := 21) (N := some 139) (v := ?_) (a' := ?_) #[true, true, true, true, true, true, true, true, true, true, true, true, true, true, true, true, true, true, true, true, true, true, false, false] rfl rfl (by kernel_rfl) (fun _ _ _ h => h) (Or.inl ⟨by rfl, ?_⟩) hHeld ?_ ?_
      rotate_left
      · rintro w' ⟨s0, s1, s2⟩
        go_simp
        with_reducible rfl
      rotate_left
      · simp only [Act.put, List.setIfInBounds_toArray, List.set_cons_zero, List.set_cons_succ, i64_w, i32_w]
        rfl
      refine pure_ (i := 22) (N := some 140) (v := ?_) (a' := ?_) #[true, true, true, true, true, true, true, true, true, true, true, true, true, true, true, true, true, true, true, true, true, true, true, false] rfl rfl (by kernel_rfl) (fun _ _ _ h => h) (Or.inl ⟨by rfl, ?_⟩) ?_ ?_
      rotate_left
      · intro w'
        go_simp
        with_reducible rfl
      rotate_left
      · simp only [Act.put, List.setIfInBounds_toArray, List.set_cons_zero, List.set_cons_succ, i64_w, i32_w]
        rfl
      refine pure_ (i := 23) (N := some 141) (v := ?_) (a' := ?_) #[true, true, true, true, true, true, true, true, true, true, true, true, true, true, true, true, true, true, true, true, true, true, true, true] rfl rfl (by kernel_rfl) (fun _ _ _ h => h) (Or.inl ⟨by rfl, ?_⟩) ?_ ?_
      rotate_left
      · intro w'
        go_simp
        with_reducible rfl
      rotate_left
      · simp only [Act.put, List.setIfInBounds_toArray, List.set_cons_zero, List.set_cons_succ, i64_w, i32_w]
        rfl
      refine done_ (by kernel_rfl) ?_
      go_wp2
      go_roundw
      case rel => exact ⟨n + 1, rfl, by omega, ⟨by ((iterate 6 (try (first | (with_reducible apply pw_below_drewN) | (with_reducible apply below_drew) | (with_reducible apply below_alloc)))); exact (HB11).out)⟩⟩
      case measure => simp [intOf]; omega
    · have d0 : decide ((n : Int) ≤ 6) = false := by simp; omega
      have d1 : (6 : Int) < (n : Int) := by omega
      have x2 : wo.cell? ⟨w.heap.size, 2, none⟩ = some (.slice A0_2 l0_2.length c0_2) := by
        rw [cell_of_row wo _ 2 _ 25 (0, 0) ((HBr.out.block _ (blk_lt HBK.out)).trans HBK.out)]
        rfl
      go_wp2_with (go_at_call 16; (refine (disk_wakes.calls _).mono ?_); rintro _ w5 ⟨rfl, hb⟩; have HB5 := Aside0.mk (below_step HBr.out hb); clear hb)
      go_ret
      exact ⟨rfl, below_then HB0.out HB0.out.size HB5.out⟩
end Go.Proofs.Ytknljmljlgcfbaa.P
