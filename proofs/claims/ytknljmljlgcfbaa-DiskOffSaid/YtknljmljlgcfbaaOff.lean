/- By hand: DiskOff: just ahead of the call that was said the power goes; calls that ask alone do not count. -/
import Derived.Test.YtknljmljlgcfbaaDiskA
namespace Go.Proofs.Ytknljmljlgcfbaa.P
open Go.RowKit Go.Proofs.YtknljmljlgcfbaaW.PrintWords Go.Proofs.YtknljmljlgcfbaaW.PrintLast Go.Proofs.YtknljmljlgcfbaaW.PrintMore
open Go.Proofs.Ytknljmljlgcfbaa
set_option linter.unusedSimpArgs false
set_option linter.unusedVariables false
def fairwaylaw9_DiskOff.f (l0_0 : List ByteArray) (l0_1 : List ByteArray) (l0_2 : List S64) : Option Bool := some true
/-- What lies there: nothing, or the one file that grows. -/
def Grows (F : List DFile) (i : Nat) : Prop := F = [] ∨ ∃ t, F = [⟨⟨#[97]⟩, t, 0⟩] ∧ t.size ≤ i
theorem Grows.ok {F : List DFile} {i : Nat} (h : Grows F i) (hi : i ≤ 100) : OkD F := by
  rcases h with rfl | ⟨t, rfl, ht⟩
  · exact ⟨by simp, by simp, by simp, by decide, by decide⟩
  · refine ⟨by simp, ?_, ?_, ?_, by simp⟩
    · intro f hf; simp at hf; subst hf; show (⟨#[97]⟩ : ByteArray).size ≤ 64; decide
    · intro f hf; simp at hf; subst hf; simp; omega
    · simp [usedD]; omega
theorem Grows.app {F : List DFile} {i : Nat} (h : Grows F i) (hi : i ≤ 100) (left : Int) (off : Bool) (h0 : cntO left off = false) : ∃ F', appR F left off ⟨#[97]⟩ ⟨#[120]⟩ = (F', 0) ∧ Grows F' (i + 1) := by
  have hn : namedD ⟨#[97]⟩ = true := by kernel_rfl
  have hz : (⟨#[120]⟩ : ByteArray).size = 1 := rfl
  unfold appR
  rw [h0, if_neg (by decide), if_neg (by rw [hn]; decide)]
  rcases h with rfl | ⟨t, rfl, ht⟩
  · have e : fullD [] ⟨#[97]⟩ ⟨#[120]⟩ = false := by kernel_rfl
    rw [e, if_neg (by decide)]
    exact ⟨_, rfl, .inr ⟨_, rfl, by show (ByteArray.mk #[] ++ ⟨#[120]⟩).size ≤ i + 1; rw [ByteArray.size_append]; show 0 + 1 ≤ i + 1; omega⟩⟩
  · have hl : lkD [⟨⟨#[97]⟩, t, 0⟩] ⟨#[97]⟩ = some ⟨⟨#[97]⟩, t, 0⟩ := by unfold lkD; rw [if_pos rfl]
    have e : fullD [⟨⟨#[97]⟩, t, 0⟩] ⟨#[97]⟩ ⟨#[120]⟩ = false := by
      unfold fullD txtD isD
      rw [hl]
      simp [usedD, hz]
      omega
    rw [e, if_neg (by decide)]
    have e2 : txtD [⟨⟨#[97]⟩, t, 0⟩] ⟨#[97]⟩ = t := by unfold txtD; rw [hl]
    have e3 : safD [⟨⟨#[97]⟩, t, 0⟩] ⟨#[97]⟩ = 0 := by unfold safD; rw [hl]
    refine ⟨[⟨⟨#[97]⟩, t ++ ⟨#[120]⟩, 0⟩], ?_, .inr ⟨_, rfl, by rw [ByteArray.size_append, hz]; omega⟩⟩
    rw [e2, e3]
    unfold putD
    rw [if_pos rfl]
theorem Grows.mono {F : List DFile} {i j : Nat} (h : Grows F i) (hij : i ≤ j) : Grows F j := h.imp_right (fun ⟨t, e, ht⟩ => ⟨t, e, by omega⟩)
theorem Grows.small {F : List DFile} {i : Nat} (h : Grows F i) (hi : i ≤ 100) : usedD F ≤ 4611686018427387904 ∧ (txtD F ⟨#[97]⟩).size ≤ 4000000000000000000 ∧ F.length ≤ 4000000000000000000 := by
  rcases h with rfl | ⟨t, rfl, ht⟩
  · decide
  · have hl : lkD [⟨⟨#[97]⟩, t, 0⟩] ⟨#[97]⟩ = some ⟨⟨#[97]⟩, t, 0⟩ := by unfold lkD; rw [if_pos rfl]
    have e2 : txtD [⟨⟨#[97]⟩, t, 0⟩] ⟨#[97]⟩ = t := by unfold txtD; rw [hl]
    rw [e2]
    simp [usedD]
    omega
/-- Ahead of the i-th call. -/
def offAt (n : Int) (i : Nat) : Bool := decide (n < 1) || decide (n < i)
def leftAt (n : Int) (i : Nat) : Int := if n < 1 then 0 else if n < i then 0 else n - (i - 1)
set_option maxRecDepth 100000 in
set_option maxHeartbeats 8000000 in
theorem fairwaylaw9_DiskOff.calls (A0_0 : Option Addr) (c0_0 : Nat) (l0_0 : List ByteArray) (A0_1 : Option Addr) (c0_1 : Nat) (l0_1 : List ByteArray) (A0_2 : Option Addr) (c0_2 : Nat) (l0_2 : List S64) (r : Bool) (w : World) (hr0_0 : Kd.C Kd.string w A0_0 l0_0.length l0_0) (hc0_0 : l0_0.length ≤ c0_0) (hr0_1 : Kd.C Kd.string w A0_1 l0_1.length l0_1) (hc0_1 : l0_1.length ≤ c0_1) (hr0_2 : Kd.C k64 w A0_2 l0_2.length l0_2) (hc0_2 : l0_2.length ≤ c0_2) (h : fairwaylaw9_DiskOff.f l0_0 l0_1 l0_2 = some r) :
    Calls Try.prog 3 #[.agg #[.slice A0_0 l0_0.length c0_0, .slice A0_1 l0_1.length c0_1, .slice A0_2 l0_2.length c0_2]] w fun e w' => e = .returned (.bool r) ∧ Below w.heap.size w w' := by
  obtain rfl : true = r := Option.some.inj h
  clear h hr0_0 hr0_1 hr0_2 hc0_0 hc0_1 hc0_2
  have dg : decide (0 ≤ (l0_2.length : Int)) = true := by simp
  go_enter Try.func3, Try.ntmps3
  go_wp2
  have HBK : Aside0 ((w.alloc (.cells #[.slice A0_0 l0_0.length c0_0, .slice A0_1 l0_1.length c0_1, .slice A0_2 l0_2.length c0_2] 25)).heap[w.heap.size]? = some (.cells #[.slice A0_0 l0_0.length c0_0, .slice A0_1 l0_1.length c0_1, .slice A0_2 l0_2.length c0_2] 25 (0, 0))) := ⟨heap_alloc_new w _⟩
  have HB0 := Aside0.mk (below_alloc (Below.refl _ w) (.cells #[.slice A0_0 l0_0.length c0_0, .slice A0_1 l0_1.length c0_1, .slice A0_2 l0_2.length c0_2] 25))
  obtain ⟨wa, hwa⟩ : ∃ wa, wa = w.alloc (.cells #[.slice A0_0 l0_0.length c0_0, .slice A0_1 l0_1.length c0_1, .slice A0_2 l0_2.length c0_2] 25) := ⟨_, rfl⟩
  rw [← hwa] at HBK HB0 ⊢
  clear hwa
  go_loopw [3, 2, 4, 5, 6, 7, 8, 9] (fun v3 _ _ _ _ _ _ _ w' => ∃ (n : Int), v3 = .int .i64 n ∧ -1 ≤ n ∧ n ≤ 7 ∧ Aside0 (Below wa.heap.size wa w')) (fun v3 _ _ _ _ _ _ _ _ => (7 - intOf v3).toNat)
  case atStart => exact ⟨-1, rfl, by omega, by omega, ⟨Below.refl _ _⟩⟩
  case round =>
    rename_i wr _
    obtain ⟨n, rfl, hn1, hn7, HBr⟩ := hrel
    obtain ⟨wo, hwo⟩ : ∃ wo : World, wo = wr := ⟨_, rfl⟩
    subst hwo
    by_cases hle : n ≤ 6
    · have d0 : decide (n ≤ 6) = true := decide_eq_true hle
      have d1 : ¬ 6 < n := by omega
      go_wp2_with (first
        | (go_at_call 11; (with_reducible refine (disk_New.empty _).mono ?_); rintro _ w1 ⟨d, m, h1, h2, rfl, h4, h5⟩; have HD1 := Aside0.mk h4; have HB1 := Aside0.mk (below_step HBr.out h5); have H1 := Aside0.mk (Nat.le_trans HBr.out.size h1); have H2 := Aside0.mk (Nat.le_trans HBr.out.size h2); clear h1 h2 h4 h5)
        | (go_at_call 13; go_loud ((refine (disk_Off.calls _ d m [] 0 false n (HD1.out.drewN _)).mono ?_); rintro _ w2 ⟨rfl, hd, hf⟩; have HD2 := Aside0.mk hd; have HB2 := Aside0.mk (Fr.below (pw_below_drewN HB1.out _) hf (pw_below_drewN HB1.out _).size (fun k hk => by rw [hk]; exact H1.out)); clear hd hf))
        | (go_at_call 12; (with_reducible refine (fairwaylaw9_num.calls _ _ _ rfl).mono ?_); rintro _ _ ⟨rfl, ⟨nd, rfl⟩⟩))
      go_loopw [6, 2, 7, 8, 9] (fun v6 _ _ _ _ w' => ∃ (i : Nat) (F : List DFile), v6 = .int .i64 i ∧ 1 ≤ i ∧ i ≤ 7 ∧ Aside0 (Grows F (i - 1)) ∧ Aside0 (DiskAt w' d m F (leftAt n i) (offAt n i)) ∧ Aside0 (Below wa.heap.size wa w')) (fun v6 _ _ _ _ _ => (7 - intOf v6).toNat)
      case atStart =>
        have e1 : leftAt n (1 : Nat) = (if 0 < n then n else 0) := by unfold leftAt; split <;> (try split) <;> (try split) <;> omega
        have e2 : offAt n (1 : Nat) = (false || decide (n < 1)) := by unfold offAt; simp
        exact ⟨1, [], rfl, by omega, by omega, ⟨.inl rfl⟩, ⟨by rw [e1, e2]; exact HD2.out⟩, HB2⟩
      case round =>
        rename_i wx _
        obtain ⟨i, F, rfl, hi1, hi7, HGx, HDx, HBx⟩ := hrel
        by_cases hi6 : i ≤ 6
        · have f0 : decide ((i : Int) ≤ 6) = true := by simp; omega
          have f1 : ¬ ((6 : Int) < (i : Int)) := by omega
          have w1_ : IntKind.i64.wrap ((i : Int) + 1) = ((i + 1 : Nat) : Int) := by rw [IntKind.wrap_i64]; omega
          have hsm := HGx.out.small (by omega)
          have HSM := Aside0.mk hsm
          have HOK := Aside0.mk (HGx.out.ok (by omega))
          have HGn := Aside0.mk (HGx.out.mono (show i - 1 ≤ i + 1 - 1 by omega))
          clear hsm
          cases ho : offAt n i with
          | true =>
            have hl0 : leftAt n i = 0 := by
              unfold offAt at ho
              simp only [Bool.or_eq_true, decide_eq_true_eq] at ho
              unfold leftAt
              split
              · rfl
              · split
                · rfl
                · omega
            rw [ho, hl0] at HDx
            have HA : Aside0 (appR F 0 true ⟨#[97]⟩ ⟨#[120]⟩ = (F, 10)) := ⟨rfl⟩
            have HCL : Aside0 (cntL 0 = 0) := ⟨rfl⟩
            have HCO : Aside0 (cntO 0 true = true) := ⟨rfl⟩
            have HLM : Aside0 ((0 : Int) ≤ 9223372036854775807) := ⟨by omega⟩
            have eL : leftAt n (i + 1) = 0 := by
              unfold offAt at ho
              simp only [Bool.or_eq_true, decide_eq_true_eq] at ho
              unfold leftAt
              split
              · rfl
              · rw [if_pos (by omega)]
            have eO : offAt n (i + 1) = true := by
              unfold offAt at ho ⊢
              simp only [Bool.or_eq_true, decide_eq_true_eq] at ho ⊢
              omega
            by_cases hn0 : n < 1
            · have g1 : decide (n < 1) = true := decide_eq_true hn0
              have g2 : decide (n ≤ (i : Int)) = true := by simp; omega
              go_wp2_with (first | (go_at_call 14; go_loud ((refine (disk_Names.gone _ d m F _ HDx.out).mono ?_); rintro _ w3 ⟨rfl, hb⟩; have HD3 := Aside0.mk (HDx.out.below hb); have HB3 := Aside0.mk (below_step HBx.out hb); clear hb)) | (go_at_call 15; go_loud ((refine (disk_Append.to _ d m F F _ 0 _ true _ _ 10 (HD3.out.drewN _) HA.out HCL.out HCO.out HLM.out HSM.out.1 HSM.out.2.1 HSM.out.2.2 (by decide)).mono ?_); rintro _ w4 ⟨rfl, hd, hf⟩; have HD4 := Aside0.mk hd; have HB4 := Aside0.mk (Fr.below (pw_below_drewN HB3.out _) hf (pw_below_drewN HB3.out _).size (fun k hk => by rcases hk with rfl | rfl; exact H1.out; exact H2.out)); clear hd hf)) | (go_at_call 12; (with_reducible refine (fairwaylaw9_num.calls _ _ _ rfl).mono ?_); rintro _ _ ⟨rfl, ⟨nd, rfl⟩⟩))
              go_roundw
              case rel => exact ⟨i + 1, F, rfl, by omega, by omega, ⟨HGn.out⟩, ⟨by rw [eL, eO]; exact HD4.out.drewN _⟩, ⟨pw_below_drewN HB4.out _⟩⟩
              case measure => simp [intOf]; omega
            · have g1 : decide (n < 1) = false := decide_eq_false hn0
              have hni : n < (i : Int) := by
                unfold offAt at ho
                simp only [Bool.or_eq_true, decide_eq_true_eq] at ho
                omega
              have g3 : decide (n < (i : Int)) = true := decide_eq_true hni
              have g2 : decide (n ≤ (i : Int)) = true := by simp; omega
              go_wp2_with (first | (go_at_call 14; go_loud ((refine (disk_Names.gone _ d m F _ HDx.out).mono ?_); rintro _ w3 ⟨rfl, hb⟩; have HD3 := Aside0.mk (HDx.out.below hb); have HB3 := Aside0.mk (below_step HBx.out hb); clear hb)) | (go_at_call 15; go_loud ((refine (disk_Append.to _ d m F F _ 0 _ true _ _ 10 (HD3.out.drewN _) HA.out HCL.out HCO.out HLM.out HSM.out.1 HSM.out.2.1 HSM.out.2.2 (by decide)).mono ?_); rintro _ w4 ⟨rfl, hd, hf⟩; have HD4 := Aside0.mk hd; have HB4 := Aside0.mk (Fr.below (pw_below_drewN HB3.out _) hf (pw_below_drewN HB3.out _).size (fun k hk => by rcases hk with rfl | rfl; exact H1.out; exact H2.out)); clear hd hf)) | (go_at_call 12; (with_reducible refine (fairwaylaw9_num.calls _ _ _ rfl).mono ?_); rintro _ _ ⟨rfl, ⟨nd, rfl⟩⟩))
              go_roundw
              case rel => exact ⟨i + 1, F, rfl, by omega, by omega, ⟨HGn.out⟩, ⟨by rw [eL, eO]; exact HD4.out.drewN _⟩, ⟨pw_below_drewN HB4.out _⟩⟩
              case measure => simp [intOf]; omega
          | false =>
            have hni : 1 ≤ n ∧ (i : Int) ≤ n := by
              unfold offAt at ho
              simp only [Bool.or_eq_false_iff, decide_eq_false_iff_not] at ho
              omega
            have hl0 : leftAt n i = n - (i - 1) := by
              unfold leftAt
              rw [if_neg (by omega), if_neg (by omega)]
            rw [ho, hl0] at HDx
            have g1 : decide (n < 1) = false := by simp; omega
            have g3 : decide (n < (i : Int)) = false := by simp; omega
            have HLM : Aside0 (n - ((i : Int) - 1) ≤ 9223372036854775807) := ⟨by omega⟩
            by_cases hin : n = (i : Int)
            · have hz : n - ((i : Int) - 1) = 1 := by omega
              rw [hz] at HDx HLM
              have HA : Aside0 (appR F 1 false ⟨#[97]⟩ ⟨#[120]⟩ = (F, 10)) := ⟨rfl⟩
              have HCL : Aside0 (cntL 1 = 0) := ⟨rfl⟩
              have HCO : Aside0 (cntO 1 false = true) := ⟨rfl⟩
              have eL : leftAt n (i + 1) = 0 := by
                unfold leftAt
                rw [if_neg (by omega), if_pos (by omega)]
              have eO : offAt n (i + 1) = true := by
                unfold offAt
                simp only [Bool.or_eq_true, decide_eq_true_eq]
                omega
              have g2 : decide (n ≤ (i : Int)) = true := by simp; omega
              clear hin hz
              go_wp2_with (first | (go_at_call 14; go_loud ((refine (disk_Names.here _ d m F _ HDx.out HOK.out).mono ?_); rintro _ w3 ⟨v, xs, rfl, hn_, hr_, hb⟩; have HD3 := Aside0.mk (HDx.out.below hb); have HB3 := Aside0.mk (below_step HBx.out hb); clear hb hn_ hr_)) | (go_at_call 15; go_loud ((refine (disk_Append.to _ d m F F _ 0 _ true _ _ 10 (HD3.out.drewN _) HA.out HCL.out HCO.out HLM.out HSM.out.1 HSM.out.2.1 HSM.out.2.2 (by decide)).mono ?_); rintro _ w4 ⟨rfl, hd, hf⟩; have HD4 := Aside0.mk hd; have HB4 := Aside0.mk (Fr.below (pw_below_drewN HB3.out _) hf (pw_below_drewN HB3.out _).size (fun k hk => by rcases hk with rfl | rfl; exact H1.out; exact H2.out)); clear hd hf)) | (go_at_call 12; (with_reducible refine (fairwaylaw9_num.calls _ _ _ rfl).mono ?_); rintro _ _ ⟨rfl, ⟨nd, rfl⟩⟩))
              go_roundw
              case rel => exact ⟨i + 1, F, rfl, by omega, by omega, ⟨HGn.out⟩, ⟨by rw [eL, eO]; exact HD4.out.drewN _⟩, ⟨pw_below_drewN HB4.out _⟩⟩
              case measure => simp [intOf]; omega
            · have hpos : 1 < n - ((i : Int) - 1) := by omega
              have hco : cntO (n - ((i : Int) - 1)) false = false := by
                unfold cntO
                rw [if_pos (by omega)]
                have e : (n - ((i : Int) - 1) - 1 == 0) = false := by rw [beq_eq_false_iff_ne]; omega
                rw [e]; rfl
              obtain ⟨F2, hA, hG2⟩ := HGx.out.app (by omega) (n - ((i : Int) - 1)) false hco
              have HA := Aside0.mk hA
              have HG2 : Aside0 (Grows F2 (i + 1 - 1)) := ⟨by rw [show i + 1 - 1 = i - 1 + 1 by omega]; exact hG2⟩
              have HCL : Aside0 (cntL (n - ((i : Int) - 1)) = n - (i : Int)) := ⟨by unfold cntL; rw [if_pos (by omega)]; omega⟩
              have HCO := Aside0.mk hco
              have eL : leftAt n (i + 1) = n - (i : Int) := by
                unfold leftAt
                rw [if_neg (by omega), if_neg (by omega)]; omega
              have eO : offAt n (i + 1) = false := by
                unfold offAt
                simp only [Bool.or_eq_false_iff, decide_eq_false_iff_not]
                omega
              have g2 : decide (n ≤ (i : Int)) = false := by simp; omega
              clear hA hG2 hco hpos hl0 hni
              go_wp2_with (first | (go_at_call 14; go_loud ((refine (disk_Names.here _ d m F _ HDx.out HOK.out).mono ?_); rintro _ w3 ⟨v, xs, rfl, hn_, hr_, hb⟩; have HD3 := Aside0.mk (HDx.out.below hb); have HB3 := Aside0.mk (below_step HBx.out hb); clear hb hn_ hr_)) | (go_at_call 15; go_loud ((refine (disk_Append.to _ d m F F2 _ (n - (i : Int)) _ false _ _ 0 (HD3.out.drewN _) HA.out HCL.out HCO.out HLM.out HSM.out.1 HSM.out.2.1 HSM.out.2.2 (by decide)).mono ?_); rintro _ w4 ⟨rfl, hd, hf⟩; have HD4 := Aside0.mk hd; have HB4 := Aside0.mk (Fr.below (pw_below_drewN HB3.out _) hf (pw_below_drewN HB3.out _).size (fun k hk => by rcases hk with rfl | rfl; exact H1.out; exact H2.out)); clear hd hf)) | (go_at_call 12; (with_reducible refine (fairwaylaw9_num.calls _ _ _ rfl).mono ?_); rintro _ _ ⟨rfl, ⟨nd, rfl⟩⟩))
              go_roundw
              case rel => exact ⟨i + 1, F2, rfl, by omega, by omega, ⟨HG2.out⟩, ⟨by rw [eL, eO]; exact HD4.out.drewN _⟩, ⟨pw_below_drewN HB4.out _⟩⟩
              case measure => simp [intOf]; omega
        · have f0 : decide ((i : Int) ≤ 6) = false := by simp; omega
          have f1 : (6 : Int) < (i : Int) := by omega
          have w2_ : IntKind.i64.wrap (n + 1) = n + 1 := by rw [IntKind.wrap_i64]; omega
          go_wp2
          go_roundw
          case rel => exact ⟨n + 1, rfl, by omega, by omega, HBx⟩
          case measure => simp [intOf]; omega
    · have d0 : decide (n ≤ 6) = false := decide_eq_false hle
      have d1 : (6 : Int) < n := by omega
      have x2 : wo.cell? ⟨w.heap.size, 2, none⟩ = some (.slice A0_2 l0_2.length c0_2) := by
        rw [cell_of_row wo _ 2 _ 25 (0, 0) ((HBr.out.block _ (blk_lt HBK.out)).trans HBK.out)]
        rfl
      go_wp2_with (go_at_call 16; (refine (disk_wakes.calls _).mono ?_); rintro _ w5 ⟨rfl, hb⟩; have HB5 := Aside0.mk (below_step HBr.out hb); clear hb)
      go_ret
      exact ⟨rfl, below_then HB0.out HB0.out.size HB5.out⟩
end Go.Proofs.Ytknljmljlgcfbaa.P
