/- By hand: the disk: Cut, Rename, Append, Off. -/
import Derived.Test.YtknljmljlgcfbaaDisk4
import Derived.Test.YtknljmljlgcfbaaWMore
namespace Go.Proofs.Ytknljmljlgcfbaa.P
open Go.RowKit Go.Proofs.YtknljmljlgcfbaaW.PrintWords Go.Proofs.YtknljmljlgcfbaaW.PrintLast Go.Proofs.YtknljmljlgcfbaaW.PrintMore
open Go.Proofs.Ytknljmljlgcfbaa
attribute [local go_sem] max2_int min2_int max_two min_two max_three min_three max_four min_four
set_option linter.unusedSimpArgs false
set_option linter.unusedVariables false
theorem DiskAt.below {W W' : World} {d m : Nat} {F : List DFile} {left : Int} {off : Bool} (h : DiskAt W d m F left off) (hb : Below W.heap.size W W') : DiskAt W' d m F left off :=
  ⟨(hb.block d h.lt.1).trans h.cells, h.map.later (hb.block m h.lt.2)⟩
theorem FBlk.below {W W' : World} {g : Nat} {t : ByteArray} {s : Int} (h : FBlk W g t s) (hb : Below W.heap.size W W') : FBlk W' g t s := (hb.block g (blk_lt h)).trans h
theorem disk_named.is (a0 : ByteArray) (b : Bool) (h : namedD a0 = b) (w : World) : Calls Try.prog 24 #[.string a0] w fun e w' => e = .returned (.bool b) ∧ Below w.heap.size w w' := by
  have := disk_named.calls a0 w
  rw [h] at this
  exact this
def cutR (F : List DFile) (left : Int) (off : Bool) (n : ByteArray) (a2 : Int) : List DFile × Int := if cntO left off = true then (F, 10) else match lkD F n with | none => (F, 3) | some f => if a2 < 0 then (F, 1) else if (f.text.size : Int) < a2 then (F, 1) else (putD F ⟨n, f.text.extract 0 a2.toNat, mn a2 f.safe⟩, 0)
set_option maxRecDepth 100000 in
set_option maxHeartbeats 2000000 in
theorem disk_Cut.calls (w : World) (d m : Nat) (F : List DFile) (left : Int) (off : Bool) (n : ByteArray) (a2 : Int) (h : DiskAt w d m F left off) (hl : left ≤ 9223372036854775807) :
    Calls Try.prog 45 #[.pointer (some ⟨d, 0, none⟩), .string n, .int .i64 a2] w fun e w' => e = .returned (.int .i64 (cutR F left off n a2).2) ∧ DiskAt w' d m (cutR F left off n a2).1 (cntL left) (cntO left off) ∧ Fr w w' (DM d m) := by
  have HD := Aside0.mk h
  have HL := Aside0.mk hl
  clear h hl
  unfold cutR
  cases h0 : cntO left off with
  | true =>
    have H0 := Aside0.mk h0
    clear h0
    go_enter Try.func45, Try.ntmps45
    go_wp2_with (go_at_call 29; (with_reducible refine (disk_there.gone _ d m F left off n HD.out HL.out H0.out).mono ?_); rintro _ w1 ⟨rfl, hd1, hf1⟩; have HD1 := Aside0.mk hd1; have HF1 := Aside0.mk hf1; clear hd1 hf1)
    go_ret
    exact ⟨rfl, HD1.out.alloc _, (HF1.out.alloc _).mono (fun _ hk => .inl hk)⟩
  | false =>
    have H0 := Aside0.mk h0
    clear h0
    cases hn : lkD F n with
    | none =>
      have HN := Aside0.mk hn
      clear hn
      go_enter Try.func45, Try.ntmps45
      go_wp2_with (go_at_call 29; (with_reducible refine (disk_there.lacks _ d m F left off n HD.out HL.out H0.out HN.out).mono ?_); rintro _ w1 ⟨rfl, hd1, hf1⟩; have HD1 := Aside0.mk hd1; have HF1 := Aside0.mk hf1; clear hd1 hf1)
      go_ret
      exact ⟨rfl, HD1.out.alloc _, (HF1.out.alloc _).mono (fun _ hk => .inl hk)⟩
    | some f =>
      have HN := Aside0.mk hn
      clear hn
      by_cases c1 : a2 < 0
      · have k1 : decide (a2 < 0) = true := decide_eq_true c1
        simp only [if_pos c1]
        clear c1
        go_enter Try.func45, Try.ntmps45
        go_wp2_with (go_at_call 29; (with_reducible refine (disk_there.found _ d m F left off n HD.out HL.out f H0.out HN.out).mono ?_); rintro _ w1 ⟨rfl, hd1, hf1⟩; have HD1 := Aside0.mk hd1; have HF1 := Aside0.mk hf1; clear hd1 hf1)
        go_ret
        exact ⟨rfl, HD1.out.alloc _, (HF1.out.alloc _).mono (fun _ hk => .inl hk)⟩
      · have k1 : decide (a2 < 0) = false := decide_eq_false c1
        simp only [if_neg c1]
        obtain ⟨k, rfl⟩ := Int.eq_ofNat_of_zero_le (show 0 ≤ a2 by omega)
        by_cases c2 : (f.text.size : Int) < (k : Int)
        · have k2 : decide ((f.text.size : Int) < (k : Int)) = true := decide_eq_true c2
          have k3 : decide (f.text.size < k) = true := by simp; omega
          simp only [if_pos c2]
          clear c1 c2
          go_enter Try.func45, Try.ntmps45
          go_wp2_with (go_at_call 29; (with_reducible refine (disk_there.found _ d m F left off n HD.out HL.out f H0.out HN.out).mono ?_); rintro _ w1 ⟨rfl, hd1, hf1⟩; have HD1 := Aside0.mk hd1; have HF1 := Aside0.mk hf1; clear hd1 hf1)
          go_ret
          exact ⟨rfl, HD1.out.alloc _, (HF1.out.alloc _).mono (fun _ hk => .inl hk)⟩
        · have k2 : decide ((f.text.size : Int) < (k : Int)) = false := decide_eq_false c2
          have k3 : decide (f.text.size < k) = false := by simp; omega
          simp only [if_neg c2]
          have p1 : (0 : Int) ≤ (k : Int) := by omega
          have p2 : (k : Int) ≤ (f.text.size : Int) := by omega
          clear c1 c2
          go_enter Try.func45, Try.ntmps45
          go_wp2_with (go_at_call 29; (with_reducible refine (disk_there.found _ d m F left off n HD.out HL.out f H0.out HN.out).mono ?_); rintro _ w1 ⟨rfl, hd1, hf1⟩; have HD1 := Aside0.mk hd1; have HF1 := Aside0.mk hf1; clear hd1 hf1)
          have HG2 : Aside0 (FBlk (w1.alloc (.cells #[.string f.text, .int .i64 f.safe] 50)) w1.heap.size f.text f.safe) := ⟨heap_alloc_new w1 _⟩
          have HD2 := Aside0.mk (HD1.out.alloc (.cells #[.string f.text, .int .i64 f.safe] 50))
          have HF2 := Aside0.mk (HF1.out.alloc (.cells #[.string f.text, .int .i64 f.safe] 50))
          generalize w1.alloc (.cells #[.string f.text, .int .i64 f.safe] 50) = W at *
          have g0 : W.cell? ⟨d, 0, none⟩ = some (.map (some m)) := (blk_cell HD2.out.cells 0).trans rfl
          have x0 : W.cell? ⟨w1.heap.size, 0, none⟩ = some (.string f.text) := (blk_cell HG2.out 0).trans rfl
          have x1 : W.cell? ⟨w1.heap.size, 1, none⟩ = some (.int .i64 f.safe) := (blk_cell HG2.out 1).trans rfl
          rcases Int.lt_or_le f.safe (k : Int) with hm | hm
          · have mm : f.safe < (k : Int) := by omega
            have mm2 : ¬ (k : Int) ≤ f.safe := by omega
            have mm3 : decide (f.safe < (k : Int)) = true := by simp; omega
            obtain ⟨w2, hup, hd2, hf2⟩ := updD HD2.out.drew n (f.text.extract 0 k) (f.safe)
            have em : mn (k : Int) f.safe = f.safe := by unfold mn; first | omega | (split <;> omega)
            have HD3 := Aside0.mk hd2
            have HF3 := Aside0.mk ((HF2.out.drew.mono (S' := DM d m) (fun _ hk => .inl hk)).trans hf2 (fun _ hk => .inl (.inr hk)))
            have EM := Aside0.mk em
            clear hd2 hf2 em
            go_still_tail 14, (by kernel_rfl)
            change wpList _ _ _ _ _ W.drew
            go_wp2
            go_ret
            exact ⟨rfl, by simpa [EM.out] using HD3.out, HF3.out⟩
          · have mm : (k : Int) ≤ f.safe := by omega
            have mm2 : ¬ f.safe < (k : Int) := by omega
            have mm3 : decide (f.safe < (k : Int)) = false := by simp; omega
            obtain ⟨w2, hup, hd2, hf2⟩ := updD HD2.out.drew n (f.text.extract 0 k) ((k : Int))
            have em : mn (k : Int) f.safe = (k : Int) := by unfold mn; first | omega | (split <;> omega)
            have HD3 := Aside0.mk hd2
            have HF3 := Aside0.mk ((HF2.out.drew.mono (S' := DM d m) (fun _ hk => .inl hk)).trans hf2 (fun _ hk => .inl (.inr hk)))
            have EM := Aside0.mk em
            clear hd2 hf2 em
            go_still_tail 14, (by kernel_rfl)
            change wpList _ _ _ _ _ W.drew
            go_wp2
            go_ret
            exact ⟨rfl, by simpa [EM.out] using HD3.out, HF3.out⟩
def renR (F : List DFile) (left : Int) (off : Bool) (n : ByteArray) (a2 : ByteArray) : List DFile × Int := if cntO left off = true then (F, 10) else match lkD F n with | none => (F, 3) | some f => if namedD a2 = false then (F, 1) else if f.safe < (f.text.size : Int) then (F, 6) else (putD (delD F n) ⟨a2, f.text, f.safe⟩, 0)
set_option maxRecDepth 100000 in
set_option maxHeartbeats 2000000 in
theorem disk_Rename.calls (w : World) (d m : Nat) (F : List DFile) (left : Int) (off : Bool) (n : ByteArray) (a2 : ByteArray) (h : DiskAt w d m F left off) (hl : left ≤ 9223372036854775807) :
    Calls Try.prog 18 #[.pointer (some ⟨d, 0, none⟩), .string n, .string a2] w fun e w' => e = .returned (.int .i64 (renR F left off n a2).2) ∧ DiskAt w' d m (renR F left off n a2).1 (cntL left) (cntO left off) ∧ Fr w w' (DM d m) := by
  have HD := Aside0.mk h
  have HL := Aside0.mk hl
  clear h hl
  unfold renR
  cases h0 : cntO left off with
  | true =>
    have H0 := Aside0.mk h0
    clear h0
    go_enter Try.func18, Try.ntmps18
    go_wp2_with (go_at_call 29; (with_reducible refine (disk_there.gone _ d m F left off n HD.out HL.out H0.out).mono ?_); rintro _ w1 ⟨rfl, hd1, hf1⟩; have HD1 := Aside0.mk hd1; have HF1 := Aside0.mk hf1; clear hd1 hf1)
    go_ret
    exact ⟨rfl, HD1.out.alloc _, (HF1.out.alloc _).mono (fun _ hk => .inl hk)⟩
  | false =>
    have H0 := Aside0.mk h0
    clear h0
    cases hn : lkD F n with
    | none =>
      have HN := Aside0.mk hn
      clear hn
      go_enter Try.func18, Try.ntmps18
      go_wp2_with (go_at_call 29; (with_reducible refine (disk_there.lacks _ d m F left off n HD.out HL.out H0.out HN.out).mono ?_); rintro _ w1 ⟨rfl, hd1, hf1⟩; have HD1 := Aside0.mk hd1; have HF1 := Aside0.mk hf1; clear hd1 hf1)
      go_ret
      exact ⟨rfl, HD1.out.alloc _, (HF1.out.alloc _).mono (fun _ hk => .inl hk)⟩
    | some f =>
      have HN := Aside0.mk hn
      clear hn
      cases hnm : namedD a2 with
      | false =>
        simp only [if_true]
        have HNM := Aside0.mk hnm
        clear hnm
        go_enter Try.func18, Try.ntmps18
        go_wp2_with (first | (go_at_call 29; (with_reducible refine (disk_there.found _ d m F left off n HD.out HL.out f H0.out HN.out).mono ?_); rintro _ w1 ⟨rfl, hd1, hf1⟩; have HD1 := Aside0.mk hd1; have HF1 := Aside0.mk hf1; clear hd1 hf1) | (go_at_call 24; (with_reducible refine (disk_named.is _ _ HNM.out _).mono ?_); rintro _ w2 ⟨rfl, hb⟩; have HB2 := Aside0.mk hb; clear hb))
        go_ret
        exact ⟨rfl, (HD1.out.alloc _).below HB2.out, ((HF1.out.alloc _).trans (Fr.of_below HB2.out (fun _ => False)) (fun _ hk => hk.elim)).mono (fun _ hk => .inl hk)⟩
      | true =>
        simp only [Bool.true_eq_false, if_false]
        have HNM := Aside0.mk hnm
        clear hnm
        by_cases c1 : f.safe < (f.text.size : Int)
        · have k1 : decide (f.safe < (f.text.size : Int)) = true := decide_eq_true c1
          simp only [if_pos c1]
          clear c1
          go_enter Try.func18, Try.ntmps18
          go_wp2_with (first | (go_at_call 29; (with_reducible refine (disk_there.found _ d m F left off n HD.out HL.out f H0.out HN.out).mono ?_); rintro _ w1 ⟨rfl, hd1, hf1⟩; have HD1 := Aside0.mk hd1; have HF1 := Aside0.mk hf1; clear hd1 hf1) | (go_at_call 24; (with_reducible refine (disk_named.is _ _ HNM.out _).mono ?_); rintro _ w2 ⟨rfl, hb⟩; have HB2 := Aside0.mk hb; have HG2 := Aside0.mk (FBlk.below (heap_alloc_new w1 _) hb); have x0 : w2.cell? ⟨w1.heap.size, 0, none⟩ = some (.string f.text) := (blk_cell HG2.out 0).trans rfl; have x1 : w2.cell? ⟨w1.heap.size, 1, none⟩ = some (.int .i64 f.safe) := (blk_cell HG2.out 1).trans rfl; clear hb))
          go_ret
          exact ⟨rfl, (HD1.out.alloc _).below HB2.out, ((HF1.out.alloc _).trans (Fr.of_below HB2.out (fun _ => False)) (fun _ hk => hk.elim)).mono (fun _ hk => .inl hk)⟩
        · have k1 : decide (f.safe < (f.text.size : Int)) = false := decide_eq_false c1
          simp only [if_neg c1]
          clear c1
          go_enter Try.func18, Try.ntmps18
          go_wp2_with (first | (go_at_call 29; (with_reducible refine (disk_there.found _ d m F left off n HD.out HL.out f H0.out HN.out).mono ?_); rintro _ w1 ⟨rfl, hd1, hf1⟩; have HD1 := Aside0.mk hd1; have HF1 := Aside0.mk hf1; clear hd1 hf1) | (go_at_call 24; (with_reducible refine (disk_named.is _ _ HNM.out _).mono ?_); rintro _ w2 ⟨rfl, hb⟩; have HD2 := Aside0.mk ((HD1.out.alloc _).below hb); have HF2 := Aside0.mk ((HF1.out.alloc _).trans (Fr.of_below hb (fun _ => False)) (fun _ hk => hk.elim)); have HG2 := Aside0.mk (FBlk.below (heap_alloc_new w1 _) hb); have g0 : w2.cell? ⟨d, 0, none⟩ = some (.map (some m)) := (blk_cell HD2.out.cells 0).trans rfl; have x0 : w2.cell? ⟨w1.heap.size, 0, none⟩ = some (.string f.text) := (blk_cell HG2.out 0).trans rfl; have x1 : w2.cell? ⟨w1.heap.size, 1, none⟩ = some (.int .i64 f.safe) := (blk_cell HG2.out 1).trans rfl; obtain ⟨w3, hdl, hd3, hf3⟩ := delDk HD2.out n; have HD3 := Aside0.mk hd3; have HF3 := Aside0.mk ((HF2.out.mono (S' := DM d m) (fun _ hk => .inl hk)).trans hf3 (fun _ hk => .inl (.inr hk))); have HG3 : Aside0 (FBlk w3 w1.heap.size f.text f.safe) := ⟨hf3.block HG2.out (fun e => by have := HD1.out.lt.2; omega)⟩; clear hb hd3 hf3) | ((with_reducible refine gate_builtin (b := .delete) (xs := #[.tmp 33, .tmp 34]) rfl ?_); go_loud (refine wpList_del rfl (.tmp 33) (.tmp 34) _ _ rfl _ _ rfl rfl (hdl _) ?_)))
          have g3 : w3.cell? ⟨d, 0, none⟩ = some (.map (some m)) := (blk_cell HD3.out.cells 0).trans rfl
          have x3 : w3.cell? ⟨w1.heap.size, 0, none⟩ = some (.string f.text) := (blk_cell HG3.out 0).trans rfl
          have x4 : w3.cell? ⟨w1.heap.size, 1, none⟩ = some (.int .i64 f.safe) := (blk_cell HG3.out 1).trans rfl
          obtain ⟨w4, hup, hd4, hf4⟩ := updD HD3.out.drew a2 f.text f.safe
          have HD4 := Aside0.mk hd4
          have HF4 := Aside0.mk (HF3.out.drew.trans hf4 (fun _ hk => .inl (.inr hk)))
          clear hd4 hf4 hdl
          go_still_tail 6, (by kernel_rfl)
          change wpList _ _ _ _ _ w3.drew
          go_wp2
          go_ret
          exact ⟨rfl, HD4.out, HF4.out⟩
end Go.Proofs.Ytknljmljlgcfbaa.P
