/- By hand, in the printed form: name.Levels. -/
import Derived.Test.YtoflajekfpggbaaDoorP0
import Derived.Test.YtoflajekfpggbaaDoorHPlain
import Derived.Lib.OthersKept
namespace Go.Proofs.YtoflajekfpggbaaDoor.P
open Go.RowKit Go.Proofs.YtoflajekfpggbaaDoorW.PrintWords Go.Proofs.YtoflajekfpggbaaDoorW.PrintLast Go.Proofs.YtoflajekfpggbaaDoorW.PrintMore
open Go.Proofs.YtoflajekfpggbaaDoor

def name_Levels.f (s : ByteArray) : Option (List ByteArray) := if s.size ≤ 1000000000 then some (H.levels s) else none

theorem R_iterAt {α : Type} {d : Kd α} {e : Nat} {w : World} {base : Nat} {ok : Nat → Prop} {v : Value} {xs : List α} {k : Nat} (h : d.R e w base ok v xs) (hk : k < base) (s : ByteArray) (i : Nat) : d.R e (w.iterAt k s i) base ok v xs :=
  Kd.R_mono (Kd.R_step (Kd.R_bound h) (fun j hj _ => Lib.iterAt_other w k j s i (by have := hj.2.1; omega))) (fun _ hj => hj.1)

theorem levR_step (s : ByteArray) (k fr i : Nat) (h : i < s.size) : H.levR s (k + 1) fr i = if (Utf8.decode s i).1 = 47 then s.extract fr i :: H.levR s k (i + 1) (i + (Utf8.decode s i).2) else H.levR s k fr (i + (Utf8.decode s i).2) := by
  conv => lhs; unfold H.levR
  rw [if_pos h]

set_option maxRecDepth 100000 in
set_option maxHeartbeats 2000000 in
theorem name_Levels.calls (a0 : ByteArray) (r : List ByteArray) (w : World) (h : name_Levels.f a0 = some r) :
    Calls Tryd.prog 57 #[.string a0] w fun e w' => ∃ v0_ : Value, e = .returned (v0_) ∧ Kd.R Kd.string 9 w' w.heap.size (fun _ => True) v0_ r ∧ Below w.heap.size w w' := by
  have hsz : a0.size ≤ 1000000000 ∧ H.levR a0 a0.size 0 0 = r := by
    unfold name_Levels.f at h
    split at h
    · exact ⟨by assumption, by rw [H.levR_all]; exact Option.some.inj h⟩
    · cases h
  clear h
  obtain ⟨hsz, hr⟩ := hsz
  have HR := Aside0.mk hr
  clear hr
  go_enter Tryd.func57, Tryd.ntmps57
  go_wp2
  go_loopw [3, 4, 5, 6] (fun v3 v4 _ _ w' => ∃ (pos b fr : Nat) (x3 : List ByteArray), v4 = .int .i64 fr ∧ fr ≤ pos ∧ pos ≤ a0.size ∧ x3.length ≤ pos ∧ a0.size ≤ pos + b ∧ Aside0 (x3 ++ H.levR a0 b fr pos = r) ∧ Aside0 (Kd.R Kd.string 9 w' (w.heap.size + 1) (fun _ => True) v3 x3) ∧ Aside0 (w'.heap[w.heap.size]? = some (.stringIter a0 pos)) ∧ Aside0 (Below w.heap.size w w')) (fun _ _ _ _ w' => a0.size - w'.iterPos w.heap.size)
  case atStart => exact ⟨0, a0.size, 0, [], rfl, by omega, by omega, by simp, by omega, HR, ⟨Kd.R_nil _ _ _ _ _⟩, ⟨World.iter_heap w a0 0⟩, ⟨below_iter _ _ _⟩⟩
  case round =>
    rename_i wr _
    obtain ⟨pos, b, fr, x3, rfl, hfr, hpos, hlen, hb, HC, HO, HI, HB⟩ := hrel
    have hlt := blk_lt HI.out
    by_cases hp : pos < a0.size
    · have hnx : ∀ ty, (Instr.next (.pointer (some ⟨w.heap.size, 0, none⟩)) true ty).run Tryd.prog wr = _ := fun ty => Lib.run_next_any_at wr w.heap.size a0 pos ty HI.out hp
      obtain ⟨b, rfl⟩ : ∃ m, b = m + 1 := ⟨b - 1, by omega⟩
      have hs := HC.out
      rw [levR_step a0 b fr pos hp] at hs
      have hw1 := H.decode_wid a0 pos hp
      have hw2 := H.decode_end a0 pos hp
      have HI2 := Aside0.mk (Lib.iterAt_heap wr w.heap.size a0 pos (pos + (Utf8.decode a0 pos).2) HI.out)
      have HO2 := Aside0.mk (R_iterAt HO.out (k := w.heap.size) (by omega) a0 (pos + (Utf8.decode a0 pos).2))
      have HB2 := Aside0.mk (Lib.below_iterAt HB.out (k := w.heap.size) (by omega) a0 (pos + (Utf8.decode a0 pos).2))
      have hmeas : ∀ (w2 : World), w2.heap[w.heap.size]? = some (.stringIter a0 (pos + (Utf8.decode a0 pos).2)) → w2.iterPos w.heap.size = pos + (Utf8.decode a0 pos).2 := fun w2 h => by simp [World.iterPos, h]
      have hme0 : wr.iterPos w.heap.size = pos := by simp [World.iterPos, HI.out]
      have HM := Aside0.mk hmeas
      have HM0 := Aside0.mk hme0
      clear hmeas hme0 HI HO HB
      by_cases h1 : (Utf8.decode a0 pos).1 = 47
      · have hs2 : x3 ++ a0.extract fr pos :: H.levR a0 b (pos + 1) (pos + (Utf8.decode a0 pos).2) = r := by rw [← hs, if_pos h1]
        have HS := Aside0.mk hs2
        have c1 : (((Utf8.decode a0 pos).1 : Int) == 47) = true := by rw [beq_iff_eq]; omega
        have hsz2 := Lib.iterAt_size wr w.heap.size a0 (pos + (Utf8.decode a0 pos).2)
        have HZ := Aside0.mk hsz2
        clear hs hs2 h1 hsz2
        generalize wr.iterAt w.heap.size a0 (pos + (Utf8.decode a0 pos).2) = W at *
        have HLn : Aside0 (x3.length ≤ 1000000000) := ⟨by omega⟩
        have hlW : w.heap.size + 1 ≤ W.heap.size := by have := HZ.out; omega
        have e1 := eq_true (show (fr : Int) ≤ (pos : Int) by omega)
        have e2 := eq_true (show (0 : Int) ≤ (fr : Int) by omega)
        have e3 := eq_true (show (pos : Int) ≤ (a0.size : Int) by omega)
        go_wp2_with (first | ((with_reducible refine gate_builtin (b := .append) (xs := #[.tmp 15, .tmp 20]) rfl ?_); at_builtin; refine Kd.R_append Kd.string (w0 := W) (w.heap.size + 1) rfl (.tmp 15) (.tmp 20) 23 9 (.string ⟨#[]⟩) 16 rfl Tryd.underlying23 info9 rfl (by decide) (by omega) u3 x3 (a0.extract fr pos) [.string (a0.extract fr pos)] (fun _ => True) (fun _ => False) rfl rfl ?aP (fun _ hk => hk.elim) ?aF ?aO ?aB ?aS ?aL ?_; (case aP => exact rfl); (case aB => exact Below.refl _ _); (case aF => exact (fun _ _ => trivial)); (case aO => exact HO2.out); (case aS => exact hlW); (case aL => have := HLn.out; omega); intro v1 w1 ho hb1 hg hat; have HO1 := Aside0.mk ho; have HB1 := Aside0.mk hb1; clear ho hb1 hg hat))
        go_roundw
        case rel =>
          have hI : w1.heap[w.heap.size]? = some (.stringIter a0 (pos + (Utf8.decode a0 pos).2)) := by rw [HB1.out.block _ (by omega)]; exact HI2.out
          have hB : Below w.heap.size w w1 := ⟨HB1.out.os.trans HB2.out.os, HB1.out.tape.trans HB2.out.tape, HB1.out.output.trans HB2.out.output, Nat.le_trans HB2.out.size HB1.out.size, fun k hk => (HB1.out.block k (by omega)).trans (HB2.out.block k hk)⟩
          exact ⟨pos + (Utf8.decode a0 pos).2, b, pos + 1, x3 ++ [a0.extract fr pos], by go_num, by omega, by omega, by simp; omega, by omega, ⟨by rw [List.append_assoc]; exact HS.out⟩, HO1, ⟨hI⟩, ⟨hB⟩⟩
        case measure =>
          have hI : w1.heap[w.heap.size]? = some (.stringIter a0 (pos + (Utf8.decode a0 pos).2)) := by rw [HB1.out.block _ (by omega)]; exact HI2.out
          rw [HM.out _ hI, HM0.out]; omega
      · have hs2 : x3 ++ H.levR a0 b fr (pos + (Utf8.decode a0 pos).2) = r := by rw [← hs, if_neg h1]
        have HS := Aside0.mk hs2
        have c1 : (((Utf8.decode a0 pos).1 : Int) == 47) = false := by rw [beq_eq_false_iff_ne]; omega
        clear hs hs2 h1
        go_wp2
        go_roundw
        case rel => exact ⟨pos + (Utf8.decode a0 pos).2, b, fr, x3, rfl, by omega, by omega, by omega, by omega, HS, HO2, HI2, HB2⟩
        case measure => rw [HM.out _ HI2.out, HM0.out]; omega
    · have hnx : ∀ ty, (Instr.next (.pointer (some ⟨w.heap.size, 0, none⟩)) true ty).run Tryd.prog wr = _ := fun ty => Lib.run_next_end_at wr w.heap.size a0 pos ty HI.out hp
      have hs2 : x3 ++ [a0.extract fr a0.size] = r := by rw [← HC.out, H.levR_end _ _ _ _ hp]
      have HS := Aside0.mk hs2
      clear hs2 HC
      have HLn : Aside0 (x3.length ≤ 1000000000) := ⟨by omega⟩
      have e1 := eq_true (show (fr : Int) ≤ (a0.size : Int) by omega)
      have e2 := eq_true (show (0 : Int) ≤ (fr : Int) by omega)
      go_wp2_with (first | ((with_reducible refine gate_builtin (b := .append) (xs := #[.tmp 24, .tmp 28]) rfl ?_); at_builtin; refine Kd.R_append Kd.string (w0 := wr) (w.heap.size + 1) rfl (.tmp 24) (.tmp 28) 23 9 (.string ⟨#[]⟩) 16 rfl Tryd.underlying23 info9 rfl (by decide) (by omega) u3 x3 (a0.extract fr a0.size) [.string (a0.extract fr a0.size)] (fun _ => True) (fun _ => False) rfl rfl ?aP (fun _ hk => hk.elim) ?aF ?aO ?aB ?aS ?aL ?_; (case aP => exact rfl); (case aB => exact Below.refl _ _); (case aF => exact (fun _ _ => trivial)); (case aO => exact HO.out); (case aS => exact hlt); (case aL => have := HLn.out; omega); intro v1 w1 ho hb1 hg hat; have HO1 := Aside0.mk ho; have HB1 := Aside0.mk hb1; clear ho hb1 hg hat))
      go_ret
      exact ⟨_, rfl, Kd.R_lower (HS.out ▸ HO1.out) (Nat.le_succ _), ⟨HB1.out.os.trans HB.out.os, HB1.out.tape.trans HB.out.tape, HB1.out.output.trans HB.out.output, Nat.le_trans HB.out.size HB1.out.size, fun k hk => (HB1.out.block k (by omega)).trans (HB.out.block k hk)⟩⟩
end Go.Proofs.YtoflajekfpggbaaDoor.P
