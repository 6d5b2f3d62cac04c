/- By hand: DiskFull: the walk. -/
import Derived.Test.YtknljmljlgcfbaaFull
import Derived.Test.YtknljmljlgcfbaaSafe
namespace Go.Proofs.Ytknljmljlgcfbaa.P
open Go.RowKit Go.Proofs.YtknljmljlgcfbaaW.PrintWords Go.Proofs.YtknljmljlgcfbaaW.PrintLast Go.Proofs.YtknljmljlgcfbaaW.PrintMore
open Go.Proofs.Ytknljmljlgcfbaa
attribute [local go_sem] max2_int min2_int max_two min_two max_three min_three max_four min_four
set_option linter.unusedSimpArgs false
set_option linter.unusedVariables false
set_option maxRecDepth 100000 in
set_option maxHeartbeats 16000000 in
theorem fairwaylaw9_DiskFull.calls (A0_0 : Option Addr) (c0_0 : Nat) (l0_0 : List ByteArray) (A0_1 : Option Addr) (c0_1 : Nat) (l0_1 : List ByteArray) (A0_2 : Option Addr) (c0_2 : Nat) (l0_2 : List S64) (r : Bool) (w : World) (hr0_0 : Kd.C Kd.string w A0_0 l0_0.length l0_0) (hc0_0 : l0_0.length ≤ c0_0) (hr0_1 : Kd.C Kd.string w A0_1 l0_1.length l0_1) (hc0_1 : l0_1.length ≤ c0_1) (hr0_2 : Kd.C k64 w A0_2 l0_2.length l0_2) (hc0_2 : l0_2.length ≤ c0_2) (h : fairwaylaw9_DiskFull.f l0_0 l0_1 l0_2 = some r) :
    Calls Try.prog 5 #[.agg #[.slice A0_0 l0_0.length c0_0, .slice A0_1 l0_1.length c0_1, .slice A0_2 l0_2.length c0_2]] w fun e w' => e = .returned (.bool r) ∧ Below w.heap.size w w' := by
  obtain rfl : true = r := Option.some.inj h
  clear h hr0_0 hr0_1 hr0_2 hc0_0 hc0_1 hc0_2
  have dg : decide (0 ≤ (l0_2.length : Int)) = true := by simp
  have C0 : Aside0 (cntL 0 = 0) := ⟨rfl⟩
  have C1 : Aside0 (cntO 0 false = false) := ⟨rfl⟩
  obtain ⟨big, ZC, hbig⟩ := big_is
  have hbs := Aside0.mk hbig.size
  have HSz : Aside0 (big.size ≤ 4000000000000000000) := ⟨by rw [hbig.size]; decide⟩
  have HBG := Aside0.mk hbig
  clear hbig
  obtain ⟨wa, hwa⟩ : ∃ wa, wa = w.alloc (.cells #[.slice A0_0 l0_0.length c0_0, .slice A0_1 l0_1.length c0_1, .slice A0_2 l0_2.length c0_2] 25) := ⟨_, rfl⟩
  have HBK : Aside0 (wa.heap[w.heap.size]? = some (.cells #[.slice A0_0 l0_0.length c0_0, .slice A0_1 l0_1.length c0_1, .slice A0_2 l0_2.length c0_2] 25 (0, 0))) := ⟨by rw [hwa]; exact heap_alloc_new w _⟩
  have HB0 : Aside0 (Below w.heap.size w wa) := ⟨by rw [hwa]; exact below_alloc (Below.refl _ w) _⟩
  go_enter Try.func5, Try.ntmps5
  go_wp2_with (first
    | (go_at_call 11; (with_reducible refine (disk_New.empty _).mono ?_); rintro _ w1 ⟨d, m, h1, h2, rfl, h4, h5⟩; rw [← hwa] at h1 h2 h5; clear hwa; have HD1 := Aside0.mk h4; have HB1 := Aside0.mk h5; have H1 := Aside0.mk h1; have H2 := Aside0.mk h2; have fmk := HBG.out.make w1; have fcv := HBG.out.conv w1 w1.heap.size rfl; clear h1 h2 h4 h5)
    | (go_at_call 12; (with_reducible refine (fairwaylaw9_num.calls _ _ _ rfl).mono ?_); rintro _ _ ⟨rfl, ⟨nd, rfl⟩⟩; have fmk := HBG.out.make (w1.drewN nd); have fcv := HBG.out.conv (w1.drewN nd) w1.heap.size rfl))
  go_loopw [6, 2, 7] (fun v6 _ _ w' => ∃ i : Nat, v6 = .int .i64 i ∧ i ≤ 16 ∧ Aside0 (DiskAt w' d m (fullA big i) 0 false) ∧ Aside0 (Below wa.heap.size wa w')) (fun v6 _ _ _ => (16 - intOf v6).toNat)
  case atStart => exact ⟨0, rfl, by omega, ⟨HD1.out.below (by (iterate 6 (try (first | (with_reducible exact Below.refl _ _) | (with_reducible apply pw_below_drewN) | (with_reducible apply below_drew) | (with_reducible apply below_alloc)))))⟩, ⟨by ((iterate 6 (try (first | (with_reducible apply pw_below_drewN) | (with_reducible apply below_drew) | (with_reducible apply below_alloc)))); exact (HB1).out)⟩⟩
  case round =>
    rename_i wr _
    obtain ⟨i, rfl, hi, HDr, HBr⟩ := hrel
    obtain ⟨wo, hwo⟩ : ∃ wo : World, wo = wr := ⟨_, rfl⟩
    subst hwo
    clear fmk fcv HD1 HB1
    by_cases hle : i < 16
    · have d0 : decide ((i : Int) < 16) = true := by simp; omega
      have d1 : ¬ (16 : Int) ≤ (i : Int) := by omega
      have w1_ : IntKind.i64.wrap ((i : Int) + 1) = ((i + 1 : Nat) : Int) := by rw [IntKind.wrap_i64]; omega
      obtain ⟨q, hq⟩ : ∃ q : Int, q = 65 + i := ⟨_, rfl⟩
      have wq : IntKind.i64.wrap (65 + (i : Int)) = q := by rw [IntKind.wrap_i64]; omega
      have wq8 : IntKind.u8.wrap q = q := by show q % 256 = q; omega
      obtain ⟨nm, hnm⟩ : ∃ nm, nm = nmA i := ⟨_, rfl⟩
      have fcv := conv_one wo wo.heap.size (UInt8.ofNat (65 + i)) q rfl (by rw [hq]; simp; omega)
      rw [show (⟨#[UInt8.ofNat (65 + i)]⟩ : ByteArray) = nm from hnm.symm] at fcv
      have A1 : Aside0 (appR (fullA big i) 0 false nm big = (fullA big (i + 1), 0)) := ⟨by rw [hnm]; exact appA hbs.out hle⟩
      have A2 : Aside0 (appR (fullA big (i + 1)) 0 false nm ⟨#[120]⟩ = (fullA big (i + 1), 5)) := ⟨by rw [hnm]; exact appA1 hbs.out hle⟩
      have S1 := Aside0.mk (smallA hbs.out (show i ≤ 16 by omega))
      have S2 := Aside0.mk (smallA hbs.out (show i + 1 ≤ 16 by omega))
      clear hnm hq
      go_wp2_with (first
        | (go_at_call 15; ((with_reducible refine (disk_Append.to _ d m _ _ 0 0 false false _ _ _ (HDr.out.below (by (iterate 6 (try (first | (with_reducible exact Below.refl _ _) | (with_reducible apply pw_below_drewN) | (with_reducible apply below_drew) | (with_reducible apply below_alloc)))))) A1.out C0.out C1.out (by decide) S1.out.used (S1.out.txt _) S1.out.len HSz.out).mono ?_); rintro _ w2 ⟨rfl, hd, hf⟩; have HD2 := Aside0.mk hd; have HB2 := Aside0.mk (Fr.below (by ((iterate 6 (try (first | (with_reducible apply pw_below_drewN) | (with_reducible apply below_drew) | (with_reducible apply below_alloc)))); exact (HBr).out)) hf (Nat.le_trans HBr.out.size (by (iterate 6 (try (first | (with_reducible exact Nat.le_refl _) | (with_reducible apply size_le_drewN) | (with_reducible apply size_le_drew) | (with_reducible apply size_le_alloc)))))) (fun k hk => by rcases hk with rfl | rfl; exact H1.out; exact H2.out)); clear hd hf))
        | (go_at_call 15; ((with_reducible refine (disk_Append.to _ d m _ _ 0 0 false false _ _ _ (HD2.out.below (by (iterate 6 (try (first | (with_reducible exact Below.refl _ _) | (with_reducible apply pw_below_drewN) | (with_reducible apply below_drew) | (with_reducible apply below_alloc)))))) A2.out C0.out C1.out (by decide) S2.out.used (S2.out.txt _) S2.out.len (by decide)).mono ?_); rintro _ w3 ⟨rfl, hd, hf⟩; have HD3 := Aside0.mk hd; have HB3 := Aside0.mk (Fr.below (by ((iterate 6 (try (first | (with_reducible apply pw_below_drewN) | (with_reducible apply below_drew) | (with_reducible apply below_alloc)))); exact (HB2).out)) hf (Nat.le_trans HB2.out.size (by (iterate 6 (try (first | (with_reducible exact Nat.le_refl _) | (with_reducible apply size_le_drewN) | (with_reducible apply size_le_drew) | (with_reducible apply size_le_alloc)))))) (fun k hk => by rcases hk with rfl | rfl; exact H1.out; exact H2.out)); clear hd hf))
        | (go_at_call 12; (with_reducible refine (fairwaylaw9_num.calls _ _ _ rfl).mono ?_); rintro _ _ ⟨rfl, ⟨nd, rfl⟩⟩))
      go_roundw
      case rel => exact ⟨i + 1, rfl, by omega, ⟨HD3.out.below (by (iterate 6 (try (first | (with_reducible exact Below.refl _ _) | (with_reducible apply pw_below_drewN) | (with_reducible apply below_drew) | (with_reducible apply below_alloc)))))⟩, ⟨by ((iterate 6 (try (first | (with_reducible apply pw_below_drewN) | (with_reducible apply below_drew) | (with_reducible apply below_alloc)))); exact (HB3).out)⟩⟩
      case measure => simp [intOf]; omega
    · have d0 : decide ((i : Int) < 16) = false := by simp; omega
      have d1 : (16 : Int) ≤ (i : Int) := by omega
      obtain rfl : i = 16 := by omega
      have A1 : Aside0 (appR (fullA big 16) 0 false ⟨#[122]⟩ ⟨#[120]⟩ = (fullA big 16, 5)) := ⟨appz hbs.out⟩
      have A2 : Aside0 (delR (fullA big 16) 0 false ⟨#[65]⟩ = (fullB big 15, 0)) := ⟨delA big⟩
      have R1 : Aside0 (readR (fullA big 16) false ⟨#[65]⟩ = (big, 0)) := ⟨readA big⟩
      have S1 := Aside0.mk (smallA hbs.out (Nat.le_refl 16))
      have hb6 : (big.size : Int) = 65536 := by rw [hbs.out]; rfl
      go_wp2_with (first
        | (go_at_call 21; ((with_reducible refine (disk_Size.calls _ d m _ 0 false _ (HDr.out.below (by (iterate 6 (try (first | (with_reducible exact Below.refl _ _) | (with_reducible apply pw_below_drewN) | (with_reducible apply below_drew) | (with_reducible apply below_alloc))))))).mono ?_); rw [R1.out]; rintro _ w4 ⟨rfl, hb⟩; have HD4 := Aside0.mk (HDr.out.below hb); have HB4 := Aside0.mk (below_step HBr.out hb); clear hb))
        | (go_at_call 15; ((with_reducible refine (disk_Append.to _ d m _ _ 0 0 false false _ _ _ (HD4.out.below (by (iterate 6 (try (first | (with_reducible exact Below.refl _ _) | (with_reducible apply pw_below_drewN) | (with_reducible apply below_drew) | (with_reducible apply below_alloc)))))) A1.out C0.out C1.out (by decide) S1.out.used (S1.out.txt _) S1.out.len (by decide)).mono ?_); rintro _ w5 ⟨rfl, hd, hf⟩; have HD5 := Aside0.mk hd; have HB5 := Aside0.mk (Fr.below (by ((iterate 6 (try (first | (with_reducible apply pw_below_drewN) | (with_reducible apply below_drew) | (with_reducible apply below_alloc)))); exact (HB4).out)) hf (Nat.le_trans HB4.out.size (by (iterate 6 (try (first | (with_reducible exact Nat.le_refl _) | (with_reducible apply size_le_drewN) | (with_reducible apply size_le_drew) | (with_reducible apply size_le_alloc)))))) (fun k hk => by rcases hk with rfl | rfl; exact H1.out; exact H2.out)); clear hd hf))
        | (go_at_call 22; ((with_reducible refine (disk_Del.to _ d m _ _ 0 0 false false _ _ (HD5.out.below (by (iterate 6 (try (first | (with_reducible exact Below.refl _ _) | (with_reducible apply pw_below_drewN) | (with_reducible apply below_drew) | (with_reducible apply below_alloc)))))) A2.out C0.out C1.out (by decide)).mono ?_); rintro _ w6 ⟨rfl, hd, hf⟩; have HD6 := Aside0.mk hd; have HB6 := Aside0.mk (Fr.below (by ((iterate 6 (try (first | (with_reducible apply pw_below_drewN) | (with_reducible apply below_drew) | (with_reducible apply below_alloc)))); exact (HB5).out)) hf (Nat.le_trans HB5.out.size (by (iterate 6 (try (first | (with_reducible exact Nat.le_refl _) | (with_reducible apply size_le_drewN) | (with_reducible apply size_le_drew) | (with_reducible apply size_le_alloc)))))) (fun k hk => by rcases hk with rfl | rfl; exact H1.out; exact H2.out)); clear hd hf))
        | (go_at_call 12; (with_reducible refine (fairwaylaw9_num.calls _ _ _ rfl).mono ?_); rintro _ _ ⟨rfl, ⟨nd, rfl⟩⟩))
      clear hb6 d0 d1 hle hi
      go_loopw [11, 2, 12] (fun v11 _ _ w' => ∃ i : Nat, v11 = .int .i64 i ∧ 15 ≤ i ∧ i ≤ 65 ∧ Aside0 (DiskAt w' d m (fullB big (min i 64)) 0 false) ∧ Aside0 (Below wa.heap.size wa w')) (fun v11 _ _ _ => (65 - intOf v11).toNat)
      case atStart => exact ⟨15, rfl, by omega, by omega, ⟨HD6.out.below (by (iterate 6 (try (first | (with_reducible exact Below.refl _ _) | (with_reducible apply pw_below_drewN) | (with_reducible apply below_drew) | (with_reducible apply below_alloc)))))⟩, ⟨by ((iterate 6 (try (first | (with_reducible apply pw_below_drewN) | (with_reducible apply below_drew) | (with_reducible apply below_alloc)))); exact (HB6).out)⟩⟩
      case round =>
        obtain ⟨i, rfl, hi0, hi, HDs, HBs⟩ := hrel
        obtain ⟨wo2, hwo2⟩ : ∃ wo2 : World, wo2 = wr := ⟨_, rfl⟩
        subst hwo2
        by_cases hle : i ≤ 64
        · have d0 : decide ((i : Int) ≤ 64) = true := by simp; omega
          have d1 : ¬ (64 : Int) < (i : Int) := by omega
          have w1_ : IntKind.i64.wrap ((i : Int) + 1) = ((i + 1 : Nat) : Int) := by rw [IntKind.wrap_i64]; omega
          obtain ⟨q, hq⟩ : ∃ q : Int, q = 33 + i := ⟨_, rfl⟩
          have wq : IntKind.i64.wrap (33 + (i : Int)) = q := by rw [IntKind.wrap_i64]; omega
          have wq8 : IntKind.u8.wrap q = q := by show q % 256 = q; omega
          obtain ⟨nm, hnm⟩ : ∃ nm : ByteArray, nm = ⟨#[UInt8.ofNat (33 + i)]⟩ := ⟨_, rfl⟩
          have fcv := conv_one wo2 wo2.heap.size (UInt8.ofNat (33 + i)) q rfl (by rw [hq]; simp; omega)
          rw [← hnm] at fcv
          obtain ⟨nf, hnf⟩ : ∃ nf, nf = nmF i := ⟨_, rfl⟩
          have fap : ByteArray.mk #[102] ++ nm = nf := by rw [hnm, hnf]; rfl
          have fsz : nm.size = 1 := by rw [hnm]; rfl
          have S1 := Aside0.mk (smallB hbs.out (show 15 ≤ min i 64 by omega) (by omega))
          by_cases h64 : i < 64
          · have A1 : Aside0 (appR (fullB big (min i 64)) 0 false nf ⟨#[]⟩ = (fullB big (min (i + 1) 64), 0)) := ⟨by rw [hnf, Nat.min_eq_left (by omega), Nat.min_eq_left (by omega)]; exact appF hbs.out hi0 h64⟩
            have d2 : decide ((i : Int) < 64) = true := by simp; omega
            have d3 : ¬ (64 : Int) ≤ (i : Int) := by omega
            clear hnm hq hnf
            go_wp2_with (first
              | (go_at_call 15; ((with_reducible refine (disk_Append.to _ d m _ _ 0 0 false false _ _ _ (HDs.out.below (by (iterate 6 (try (first | (with_reducible exact Below.refl _ _) | (with_reducible apply pw_below_drewN) | (with_reducible apply below_drew) | (with_reducible apply below_alloc)))))) A1.out C0.out C1.out (by decide) S1.out.used (S1.out.txt _) S1.out.len (by decide)).mono ?_); rintro _ w7 ⟨rfl, hd, hf⟩; have HD7 := Aside0.mk hd; have HB7 := Aside0.mk (Fr.below (by ((iterate 6 (try (first | (with_reducible apply pw_below_drewN) | (with_reducible apply below_drew) | (with_reducible apply below_alloc)))); exact (HBs).out)) hf (Nat.le_trans HBs.out.size (by (iterate 6 (try (first | (with_reducible exact Nat.le_refl _) | (with_reducible apply size_le_drewN) | (with_reducible apply size_le_drew) | (with_reducible apply size_le_alloc)))))) (fun k hk => by rcases hk with rfl | rfl; exact H1.out; exact H2.out)); clear hd hf))
              | (go_at_call 12; (with_reducible refine (fairwaylaw9_num.calls _ _ _ rfl).mono ?_); rintro _ _ ⟨rfl, ⟨nd, rfl⟩⟩))
            go_roundw
            case rel => exact ⟨i + 1, rfl, by omega, by omega, ⟨HD7.out.below (by (iterate 6 (try (first | (with_reducible exact Below.refl _ _) | (with_reducible apply pw_below_drewN) | (with_reducible apply below_drew) | (with_reducible apply below_alloc)))))⟩, ⟨by ((iterate 6 (try (first | (with_reducible apply pw_below_drewN) | (with_reducible apply below_drew) | (with_reducible apply below_alloc)))); exact (HB7).out)⟩⟩
            case measure => simp [intOf]; omega
          · have A1 : Aside0 (appR (fullB big (min i 64)) 0 false nf ⟨#[]⟩ = (fullB big (min (i + 1) 64), 5)) := ⟨by
              obtain rfl : i = 64 := by omega
              rw [hnf]
              exact appF1 hbs.out⟩
            have d2 : decide ((i : Int) < 64) = false := by simp; omega
            have d3 : (64 : Int) ≤ (i : Int) := by omega
            clear hnm hq hnf
            go_wp2_with (first
              | (go_at_call 15; ((with_reducible refine (disk_Append.to _ d m _ _ 0 0 false false _ _ _ (HDs.out.below (by (iterate 6 (try (first | (with_reducible exact Below.refl _ _) | (with_reducible apply pw_below_drewN) | (with_reducible apply below_drew) | (with_reducible apply below_alloc)))))) A1.out C0.out C1.out (by decide) S1.out.used (S1.out.txt _) S1.out.len (by decide)).mono ?_); rintro _ w7 ⟨rfl, hd, hf⟩; have HD7 := Aside0.mk hd; have HB7 := Aside0.mk (Fr.below (by ((iterate 6 (try (first | (with_reducible apply pw_below_drewN) | (with_reducible apply below_drew) | (with_reducible apply below_alloc)))); exact (HBs).out)) hf (Nat.le_trans HBs.out.size (by (iterate 6 (try (first | (with_reducible exact Nat.le_refl _) | (with_reducible apply size_le_drewN) | (with_reducible apply size_le_drew) | (with_reducible apply size_le_alloc)))))) (fun k hk => by rcases hk with rfl | rfl; exact H1.out; exact H2.out)); clear hd hf))
              | (go_at_call 12; (with_reducible refine (fairwaylaw9_num.calls _ _ _ rfl).mono ?_); rintro _ _ ⟨rfl, ⟨nd, rfl⟩⟩))
            go_roundw
            case rel => exact ⟨i + 1, rfl, by omega, by omega, ⟨HD7.out.below (by (iterate 6 (try (first | (with_reducible exact Below.refl _ _) | (with_reducible apply pw_below_drewN) | (with_reducible apply below_drew) | (with_reducible apply below_alloc)))))⟩, ⟨by ((iterate 6 (try (first | (with_reducible apply pw_below_drewN) | (with_reducible apply below_drew) | (with_reducible apply below_alloc)))); exact (HB7).out)⟩⟩
            case measure => simp [intOf]; omega
        · have d0 : decide ((i : Int) ≤ 64) = false := by simp; omega
          have d1 : (64 : Int) < (i : Int) := by omega
          obtain rfl : i = 65 := by omega
          replace HDs : Aside0 (DiskAt wo2 d m (fullB big 64) 0 false) := HDs
          have A1 : Aside0 (appR (fullB big 64) 0 false ⟨#[]⟩ ⟨#[120]⟩ = (fullB big 64, 1)) := ⟨appE _⟩
          have A2 : Aside0 (appR (fullB big 64) 0 false ⟨#[97, 32, 98]⟩ ⟨#[120]⟩ = (fullB big 64, 1)) := ⟨appW _⟩
          have S1 := Aside0.mk (smallB hbs.out (show 15 ≤ 64 by omega) (Nat.le_refl 64))
          have x2 : ∀ W, Below wa.heap.size wa W → W.cell? ⟨w.heap.size, 2, none⟩ = some (.slice A0_2 l0_2.length c0_2) := fun W hW => by
            rw [cell_of_row W _ 2 _ 25 (0, 0) ((hW.block _ (blk_lt HBK.out)).trans HBK.out)]
            rfl
          have X2 := Aside0.mk x2
          clear x2
          go_wp2_with (first
            | (go_at_call 15; ((with_reducible refine (disk_Append.to _ d m _ _ 0 0 false false _ _ _ (HDs.out.below (by (iterate 6 (try (first | (with_reducible exact Below.refl _ _) | (with_reducible apply pw_below_drewN) | (with_reducible apply below_drew) | (with_reducible apply below_alloc)))))) A1.out C0.out C1.out (by decide) S1.out.used (S1.out.txt _) S1.out.len (by decide)).mono ?_); rintro _ w8 ⟨rfl, hd, hf⟩; have HD8 := Aside0.mk hd; have HB8 := Aside0.mk (Fr.below (by ((iterate 6 (try (first | (with_reducible apply pw_below_drewN) | (with_reducible apply below_drew) | (with_reducible apply below_alloc)))); exact (HBs).out)) hf (Nat.le_trans HBs.out.size (by (iterate 6 (try (first | (with_reducible exact Nat.le_refl _) | (with_reducible apply size_le_drewN) | (with_reducible apply size_le_drew) | (with_reducible apply size_le_alloc)))))) (fun k hk => by rcases hk with rfl | rfl; exact H1.out; exact H2.out)); clear hd hf))
            | (go_at_call 15; ((with_reducible refine (disk_Append.to _ d m _ _ 0 0 false false _ _ _ (HD8.out.below (by (iterate 6 (try (first | (with_reducible exact Below.refl _ _) | (with_reducible apply pw_below_drewN) | (with_reducible apply below_drew) | (with_reducible apply below_alloc)))))) A2.out C0.out C1.out (by decide) S1.out.used (S1.out.txt _) S1.out.len (by decide)).mono ?_); rintro _ w9 ⟨rfl, hd, hf⟩; have HD9 := Aside0.mk hd; have HB9 := Aside0.mk (Fr.below (by ((iterate 6 (try (first | (with_reducible apply pw_below_drewN) | (with_reducible apply below_drew) | (with_reducible apply below_alloc)))); exact (HB8).out)) hf (Nat.le_trans HB8.out.size (by (iterate 6 (try (first | (with_reducible exact Nat.le_refl _) | (with_reducible apply size_le_drewN) | (with_reducible apply size_le_drew) | (with_reducible apply size_le_alloc)))))) (fun k hk => by rcases hk with rfl | rfl; exact H1.out; exact H2.out)); have x2 := X2.out _ HB9.out; clear hd hf))
            | (go_at_call 16; (refine (disk_wakes.calls _).mono ?_); rintro _ w10 ⟨rfl, hb⟩; have HB10 := Aside0.mk (below_step (show Below wa.heap.size wa _ by ((iterate 6 (try (first | (with_reducible apply pw_below_drewN) | (with_reducible apply below_drew) | (with_reducible apply below_alloc)))); exact (HB9).out)) hb); clear hb)
            | (go_at_call 12; (with_reducible refine (fairwaylaw9_num.calls _ _ _ rfl).mono ?_); rintro _ _ ⟨rfl, ⟨nd, rfl⟩⟩))
          go_ret
          exact ⟨rfl, below_then HB0.out HB0.out.size HB10.out⟩
end Go.Proofs.Ytknljmljlgcfbaa.P
