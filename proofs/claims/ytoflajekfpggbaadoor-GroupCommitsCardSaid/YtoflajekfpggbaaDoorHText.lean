/- By hand, in the printed form: text.whole, text.Check. -/
import Derived.Test.YtoflajekfpggbaaDoorP0
import Derived.Test.YtoflajekfpggbaaDoorP4
import Derived.Test.YtoflajekfpggbaaDoorHTabs
import Derived.Test.YtoflajekfpggbaaDoorHShelf
import Derived.Test.YtoflajekfpggbaaDoorHPlain
import Derived.Lib.OthersKept
import Derived.Laws.BitsLemmas
namespace Go.Proofs.YtoflajekfpggbaaDoor.P
open Go.RowKit Go.Proofs.YtoflajekfpggbaaDoorW.PrintWords Go.Proofs.YtoflajekfpggbaaDoorW.PrintLast Go.Proofs.YtoflajekfpggbaaDoorW.PrintMore
open Go.Proofs.YtoflajekfpggbaaDoor
set_option linter.unusedSimpArgs false
set_option linter.unusedVariables false

theorem and_fffe (c : Nat) : c &&& 65534 = 2 * (c / 2 % 32768) := by
  apply Nat.eq_of_testBit_eq
  intro i
  cases i with
  | zero => simp [Nat.testBit_zero, Nat.mul_mod_right]
  | succ i =>
    rw [Nat.testBit_and, Nat.testBit_succ, Nat.testBit_succ, Nat.testBit_succ]
    simp only [Nat.mul_div_cancel_left _ (show 0 < 2 by decide), show (65534 : Nat) / 2 = 2 ^ 15 - 1 by decide]
    rw [Nat.testBit_two_pow_sub_one, show (32768 : Nat) = 2 ^ 15 by decide, Nat.testBit_mod_two_pow]
    cases decide (i < 15) <;> simp
theorem bits_fffe (r : Int) (h0 : 0 ≤ r) (h1 : r < 2147483648) : (Go.bits .and .i32 r 65534 != 65534) = decide (r % 65536 < 65534) := by
  obtain ⟨c, rfl⟩ := Int.eq_ofNat_of_zero_le h0
  have e := (Go.bits_nat .i32 31 (by decide) Go.wraps_i32 c 65534 (by omega) (by decide)).1
  have e2 : Go.bits .and .i32 (c : Int) 65534 = ((c &&& 65534 : Nat) : Int) := e
  rw [e2, and_fffe, Bool.eq_iff_iff]
  simp only [bne_iff_ne, decide_eq_true_eq]
  omega
theorem text_may_is (r : Int) (h0 : 0 ≤ r) (h1 : r < 2147483648) : text_may.f 2 r = some (H.goodC r) := by
  unfold text_may.f H.goodC
  have e := bits_fffe r h0 h1
  by_cases c1 : r < 32
  · simp [c1, text_may.j0]
  · simp only [c1, if_false]
    by_cases c2 : r ≥ 127
    · by_cases c3 : r ≤ 159
      · simp [c2, c3, text_may.j0]
      · simp only [c2, c3, if_true, if_false]
        by_cases c4 : r > 1114111
        · simp [text_may.j0, c4]
        · by_cases c5 : r ≥ 55296 <;> by_cases c6 : r ≤ 57343 <;> by_cases c7 : r ≥ 64976 <;> by_cases c8 : r ≤ 65007 <;>
            simp [text_may.j0, text_may.j1, c1, c2, c3, c4, c5, c6, c7, c8, e] <;> omega
    · by_cases c4 : r > 1114111
      · omega
      · by_cases c5 : r ≥ 55296
        · omega
        · by_cases c7 : r ≥ 64976
          · omega
          · simp [text_may.j0, text_may.j1, c1, c2, c4, c5, c7, e] <;> omega

def text_whole.f (s : ByteArray) : Option Bool := some (decide ((Lib.decodeGo s).2 > 1))
set_option maxRecDepth 100000 in
set_option maxHeartbeats 1000000 in
theorem text_whole.calls (a0 : ByteArray) (r : Bool) (w : World) (h : text_whole.f a0 = some r) (hT : Tabs w) :
    Calls Tryd.prog 70 #[.string a0] w fun e w' => e = .returned (.bool r) ∧ Below w.heap.size w w' := by
  have cD := Tryd.utf8_DecodeRuneInString a0 w hT.utf8
  have hr : decide ((Lib.decodeGo a0).2 > 1) = r := Option.some.inj h
  have HR := Aside0.mk hr
  clear hr h hT
  generalize (Lib.decodeGo a0).1 = x at *
  generalize (Lib.decodeGo a0).2 = y at *
  have CD := Aside0.mk cD
  clear cD
  go_enter Tryd.func70, Tryd.ntmps70
  by_cases hy : 1 < y
  · have e1 : decide ((1 : Int) < (y : Int)) = true := by simp; omega
    have e2 : decide (1 < y) = true := by simp; omega
    go_wp2_with (go_at_call 78; refine CD.out.mono ?_; rintro e w1 ⟨rfl, hb⟩)
    go_ret
    exact ⟨by rw [← HR.out]; simp [hy], by assumption⟩
  · have e1 : decide ((1 : Int) < (y : Int)) = false := by simp; omega
    have e2 : decide (1 < y) = false := by simp; omega
    go_wp2_with (go_at_call 78; refine CD.out.mono ?_; rintro e w1 ⟨rfl, hb⟩)
    go_ret
    exact ⟨by rw [← HR.out]; simp [hy], by assumption⟩

theorem get_beyond (s : ByteArray) (j : Nat) (h : ¬ j < s.size) : s.get! j = 0 := by
  show s.data[j]! = _
  rw [getElem!_neg s.data j h]; rfl
theorem get_extract (s : ByteArray) (i j : Nat) (hi : i ≤ s.size) : (s.extract i s.size).get! j = s.get! (i + j) := by
  have hz : (s.extract i s.size).size = s.size - i := by rw [ByteArray.size_extract]; omega
  by_cases h : j < s.size - i
  · rw [H.get_data _ j (by omega), H.get_data s (i + j) (by omega)]
    simp only [Lib.extract_data]
    rw [List.getElem_take, List.getElem_drop]
  · rw [get_beyond _ _ (by omega), get_beyond _ _ (by omega)]
theorem decodeGo_tail (s : ByteArray) (i : Nat) (hi : i < s.size) : Lib.decodeGo (s.extract i s.size) = Utf8.decode s i := by
  have hz : (s.extract i s.size).size = s.size - i := by rw [ByteArray.size_extract]; omega
  unfold Lib.decodeGo
  rw [if_neg (by omega), Lib.decode_at, Lib.decode_at, hz]
  simp only [get_extract s i _ (by omega : i ≤ s.size), Nat.sub_zero, Nat.zero_add, Nat.add_zero]

def text_Check.f (s : ByteArray) : Option Int := some (if s.size > 1024 then 2 else H.checkR s s.size 0)

theorem checkR_step (s : ByteArray) (k i : Nat) (h : i < s.size) : H.checkR s (k + 1) i = if H.goodC (Utf8.decode s i).1 && !((Utf8.decode s i).1 == 65533 && (Utf8.decode s i).2 == 1) then H.checkR s k (i + (Utf8.decode s i).2) else 8 := by
  conv => lhs; unfold H.checkR
  rw [if_pos h]

set_option maxRecDepth 100000 in
set_option maxHeartbeats 4000000 in
theorem text_Check.calls (a0 : ByteArray) (r : Int) (w : World) (h : text_Check.f a0 = some r) (hT : Tabs w) :
    Calls Tryd.prog 55 #[.string a0] w fun e w' => e = .returned (.int .i64 r) ∧ Below w.heap.size w w' := by
  have hr : (if a0.size > 1024 then 2 else H.checkR a0 a0.size 0) = r := Option.some.inj h
  have HT := Aside0.mk hT
  clear h hT
  by_cases hz : a0.size > 1024
  · rw [if_pos hz] at hr
    have c1 : decide (1024 < (a0.size : Int)) = true := by simp; omega
    have c2 : decide (1024 < a0.size) = true := by simp; omega
    go_enter Tryd.func55, Tryd.ntmps55
    go_wp2_with fail
    go_ret
    exact ⟨by rw [← hr]; rfl, Below.refl _ _⟩
  · rw [if_neg hz] at hr
    have HR := Aside0.mk hr
    clear hr
    have c1 : decide (1024 < (a0.size : Int)) = false := by simp; omega
    have c2 : decide (1024 < a0.size) = false := by simp; omega
    go_enter Tryd.func55, Tryd.ntmps55
    go_wp2_with fail
    go_loopw [3, 4] (fun _ _ w' => ∃ (pos b : Nat), pos ≤ a0.size ∧ a0.size ≤ pos + b ∧ Aside0 (H.checkR a0 b pos = r) ∧ Aside0 (w'.heap[w.heap.size]? = some (.stringIter a0 pos)) ∧ Aside0 (Below w.heap.size w w')) (fun _ _ w' => a0.size - w'.iterPos w.heap.size)
    case atStart => exact ⟨0, a0.size, by omega, by omega, HR, ⟨World.iter_heap w a0 0⟩, ⟨below_iter _ _ _⟩⟩
    case round =>
      rename_i wr _
      obtain ⟨pos, b, hpos, hb, HC, HI, HB⟩ := hrel
      have hlt := blk_lt HI.out
      by_cases hp : pos < a0.size
      · have hnx : ∀ ty, (Instr.next (.pointer (some ⟨w.heap.size, 0, none⟩)) true ty).run Tryd.prog wr = _ := fun ty => Lib.run_next_any_at wr w.heap.size a0 pos ty HI.out hp
        obtain ⟨b, rfl⟩ : ∃ m, b = m + 1 := ⟨b - 1, by omega⟩
        have hs := HC.out
        rw [checkR_step a0 b pos hp] at hs
        have hw1 := H.decode_wid a0 pos hp
        have hw2 := H.decode_end a0 pos hp
        have hrl := H.decode_lt a0 pos
        have HI2 := Aside0.mk (Lib.iterAt_heap wr w.heap.size a0 pos (pos + (Utf8.decode a0 pos).2) HI.out)
        have HB2 := Aside0.mk (Lib.below_iterAt HB.out (k := w.heap.size) (by omega) a0 (pos + (Utf8.decode a0 pos).2))
        have HM : Aside0 (∀ (w2 : World), w2.heap[w.heap.size]? = some (.stringIter a0 (pos + (Utf8.decode a0 pos).2)) → w2.iterPos w.heap.size = pos + (Utf8.decode a0 pos).2) := ⟨fun w2 h => by simp [World.iterPos, h]⟩
        have HM0 : Aside0 (wr.iterPos w.heap.size = pos) := ⟨by simp [World.iterPos, HI.out]⟩
        have HZ := Aside0.mk (Lib.iterAt_size wr w.heap.size a0 (pos + (Utf8.decode a0 pos).2))
        have HD := Aside0.mk (decodeGo_tail a0 pos hp)
        have HMay := Aside0.mk (text_may_is ((Utf8.decode a0 pos).1 : Int) (by omega) (by omega))
        clear HI HB HC
        generalize hW : wr.iterAt w.heap.size a0 (pos + (Utf8.decode a0 pos).2) = W at *
        clear hW
        have eb1 := eq_true (show (0 : Int) ≤ (pos : Int) by omega)
        have eb2 := eq_true (show (pos : Int) ≤ (a0.size : Int) by omega)
        generalize hdc : Utf8.decode a0 pos = dc at *
        obtain ⟨c, n⟩ := dc
        simp only [] at *
        have HDC := Aside0.mk hdc
        clear hdc
        by_cases hg : H.goodC (c : Int) = true
        · by_cases h5 : c = 65533
          · have c5 : ((c : Int) == 65533) = true := by rw [beq_iff_eq]; omega
            by_cases hn : n = 1
            · have hs2 : r = 8 := by rw [← hs]; simp [h5, hn]
              have HS := Aside0.mk hs2
              have HWh : Aside0 (text_whole.f (a0.extract pos a0.size) = some false) := ⟨by unfold text_whole.f; rw [HD.out, hn]; rfl⟩
              rw [hg] at HMay
              clear hs hs2 hn h5 hg
              go_wp2_with (first | (go_at_call 69; (with_reducible refine (text_may.calls 2 (c : Int) true _ HMay.out).mono ?_); rintro e w' ⟨rfl, ⟨nd, rfl⟩⟩) | (go_at_call 70; (with_reducible refine (text_whole.calls (a0.extract pos a0.size) false _ HWh.out ?sT).mono ?_); (case sT => exact Tabs_below HT.out (pw_below_drewN HB2.out _)); rintro e w1 ⟨rfl, hb1⟩; have HB1 := Aside0.mk hb1; clear hb1))
              go_ret
              exact ⟨by rw [HS.out]; rfl, below_step HB2.out (below_then (pw_below_drewN (Below.refl _ _) _) (Nat.le_refl _) HB1.out)⟩
            · have hs2 : H.checkR a0 b (pos + n) = r := by rw [← hs, hg]; simp [hn]
              have HS := Aside0.mk hs2
              have HWh : Aside0 (text_whole.f (a0.extract pos a0.size) = some true) := ⟨by unfold text_whole.f; rw [HD.out]; simp; omega⟩
              rw [hg] at HMay
              clear hs hs2 hn h5 hg
              go_wp2_with (first | (go_at_call 69; (with_reducible refine (text_may.calls 2 (c : Int) true _ HMay.out).mono ?_); rintro e w' ⟨rfl, ⟨nd, rfl⟩⟩) | (go_at_call 70; (with_reducible refine (text_whole.calls (a0.extract pos a0.size) true _ HWh.out ?sT).mono ?_); (case sT => exact Tabs_below HT.out (pw_below_drewN HB2.out _)); rintro e w1 ⟨rfl, hb1⟩; have HB1 := Aside0.mk hb1; clear hb1))
              have hI : w1.heap[w.heap.size]? = some (.stringIter a0 (pos + n)) := by rw [HB1.out.block _ (by show w.heap.size < W.heap.size; have := HZ.out; omega)]; exact HI2.out
              go_roundw
              case rel => exact ⟨pos + n, b, by omega, by omega, HS, ⟨hI⟩, ⟨below_step HB2.out (below_then (pw_below_drewN (Below.refl _ _) _) (Nat.le_refl _) HB1.out)⟩⟩
              case measure =>
                rw [HM.out w1 hI, HM0.out]; omega
          · have c5 : ((c : Int) == 65533) = false := by rw [beq_eq_false_iff_ne]; omega
            have hs2 : H.checkR a0 b (pos + n) = r := by rw [← hs, hg]; simp [h5]
            have HS := Aside0.mk hs2
            rw [hg] at HMay
            clear hs hs2 h5 hg
            go_wp2_with (first | (go_at_call 69; (with_reducible refine (text_may.calls 2 (c : Int) true _ HMay.out).mono ?_); rintro e w' ⟨rfl, ⟨nd, rfl⟩⟩))
            go_roundw
            case rel => exact ⟨pos + n, b, by omega, by omega, HS, HI2, ⟨pw_below_drewN HB2.out _⟩⟩
            case measure =>
              have hI : World.iterPos (W.drewN nd) w.heap.size = pos + n := HM.out (W.drewN nd) HI2.out
              rw [hI, HM0.out]; omega
        · have hg2 := Bool.eq_false_iff.mpr hg
          have hs2 : r = 8 := by rw [← hs, hg2]; rfl
          have HS := Aside0.mk hs2
          rw [hg2] at HMay
          clear hs hs2 hg hg2
          go_wp2_with (first | (go_at_call 69; (with_reducible refine (text_may.calls 2 (c : Int) false _ HMay.out).mono ?_); rintro e w' ⟨rfl, ⟨nd, rfl⟩⟩))
          go_ret
          exact ⟨by rw [HS.out]; rfl, pw_below_drewN HB2.out _⟩
      · have hnx : ∀ ty, (Instr.next (.pointer (some ⟨w.heap.size, 0, none⟩)) true ty).run Tryd.prog wr = _ := fun ty => Lib.run_next_end_at wr w.heap.size a0 pos ty HI.out hp
        have hs2 : r = 0 := by rw [← HC.out, H.checkR_end _ _ _ hp]
        have HS := Aside0.mk hs2
        clear hs2
        go_wp2_with fail
        go_ret
        exact ⟨by rw [HS.out]; rfl, HB.out⟩
end Go.Proofs.YtoflajekfpggbaaDoor.P
