/- By hand: the disk: its state, and what its small calls do. -/
import Derived.Test.YtknljmljlgcfbaaP0
import Derived.Test.YtknljmljlgcfbaaMap
import Derived.Test.YtknljmljlgcfbaaHUtf
import Derived.Laws.RangeAny
import Derived.StillTailTactics
import Derived.BigQuiet
namespace Go.Proofs.Ytknljmljlgcfbaa.P
open Go.RowKit Go.Proofs.YtknljmljlgcfbaaW.PrintWords Go.Proofs.YtknljmljlgcfbaaW.PrintLast Go.Proofs.YtknljmljlgcfbaaW.PrintMore
open Go.Proofs.Ytknljmljlgcfbaa
set_option linter.unusedSimpArgs false
set_option linter.unusedVariables false
def FileV (t : ByteArray) (s : Int) : Value := .agg #[.string t, .int .i64 s]
structure DFile where
  name : ByteArray
  text : ByteArray
  safe : Int
def encF (F : List DFile) : Ent := F.map fun p => (p.name, FileV p.text p.safe)
abbrev DBlk (w : World) (d m : Nat) (left : Int) (off : Bool) : Prop := w.heap[d]? = some (.cells #[.map (some m), .int .i64 left, .bool off] 48 (0, 0))
structure DiskAt (w : World) (d m : Nat) (F : List DFile) (left : Int) (off : Bool) : Prop where
  cells : DBlk w d m left off
  map : SMap w m (encF F)
theorem DiskAt.ne {w : World} {d m : Nat} {F : List DFile} {left : Int} {off : Bool} (h : DiskAt w d m F left off) : d ≠ m := by
  rintro rfl
  obtain ⟨es, clock, hb, _⟩ := h.map
  have := h.cells
  unfold DBlk at this
  rw [hb] at this
  cases this
theorem DiskAt.fr {w w' : World} {d m : Nat} {F : List DFile} {left : Int} {off : Bool} {S : Nat → Prop} (h : DiskAt w d m F left off) (hf : Fr w w' S) (hd : ¬ S d) (hm : ¬ S m) : DiskAt w' d m F left off := ⟨hf.block h.cells hd, h.map.fr hf hm⟩
/-! names -/
def badD (c : Nat) : Bool := decide (c < 33) || decide (126 < c)
theorem badD_high : ∀ c, 128 ≤ c → badD c = true := by intro c h; unfold badD; simp; omega
/-- Code point by code point: all may stand in a name. -/
def okD (s : ByteArray) : Nat → Nat → Bool
  | 0, _ => true
  | k + 1, i => if i < s.size then (if badD (Utf8.decode s i).1 then false else okD s k (i + (Utf8.decode s i).2)) else true
theorem okD_step (s : ByteArray) (k i : Nat) (h : i < s.size) : okD s (k + 1) i = if badD (Utf8.decode s i).1 then false else okD s k (i + (Utf8.decode s i).2) := by
  conv => lhs; unfold okD
  rw [if_pos h]
theorem okD_end (s : ByteArray) (k i : Nat) (h : ¬ i < s.size) : okD s k i = true := by
  cases k with
  | zero => rfl
  | succ k => unfold okD; rw [if_neg h]
theorem below_iter (w : World) (s : ByteArray) (i : Nat) : Below w.heap.size w (w.iter s i) := below_alloc (Below.refl _ _) _
def namedD (s : ByteArray) : Bool := if s.toList = [] then false else if s.size > 64 then false else okD s s.size 0
set_option maxRecDepth 100000 in
set_option maxHeartbeats 2000000 in
theorem disk_named.calls (a0 : ByteArray) (w : World) :
    Calls Try.prog 24 #[.string a0] w fun e w' => e = .returned (.bool (namedD a0)) ∧ Below w.heap.size w w' := by
  obtain ⟨r, hr⟩ : ∃ r, r = namedD a0 := ⟨_, rfl⟩
  rw [← hr]
  unfold namedD at hr
  by_cases h0 : a0.toList = []
  · rw [if_pos h0] at hr
    have c0 : (a0.toList == []) = true := by simp [h0]
    subst hr
    clear h0
    go_enter Try.func24, Try.ntmps24
    go_wp2
    go_ret
    exact ⟨rfl, Below.refl _ _⟩
  · rw [if_neg h0] at hr
    have c0 : (a0.toList == []) = false := by simp [h0]
    by_cases h1 : a0.size > 64
    · rw [if_pos h1] at hr
      subst hr
      have c1 : decide (64 < (a0.size : Int)) = true := by simp; omega
      have c2 : decide (64 < a0.size) = true := by simp; omega
      clear h0
      go_enter Try.func24, Try.ntmps24
      go_wp2
      go_ret
      exact ⟨rfl, Below.refl _ _⟩
    · rw [if_neg h1] at hr
      have c1 : decide (64 < (a0.size : Int)) = false := by simp; omega
      have c2 : decide (64 < a0.size) = false := by simp; omega
      have HR := Aside0.mk hr.symm
      clear h0 hr
      go_enter Try.func24, Try.ntmps24
      go_wp2
      go_loopw [4] (fun _ w' => ∃ (pos b : Nat), w' = w.iter a0 pos ∧ Aside0 (okD a0 b pos = r) ∧ a0.size ≤ pos + b) (fun _ w' => a0.size - w'.iterPos w.heap.size)
      case atStart => exact ⟨0, a0.size, rfl, HR, by omega⟩
      case round =>
        obtain ⟨pos, b, rfl, HC, hb⟩ := hrel
        by_cases hp : pos < a0.size
        · have hnx : ∀ ty, (Instr.next (.pointer (some ⟨w.heap.size, 0, none⟩)) true ty).run Try.prog (w.iter a0 pos) = _ := fun ty => run_next_any w a0 pos ty hp
          obtain ⟨b, rfl⟩ : ∃ m, b = m + 1 := ⟨b - 1, by omega⟩
          have hs := HC.out
          rw [okD_step a0 b pos hp] at hs
          have hw1 := H.decode_wid a0 pos hp
          by_cases h2 : (Utf8.decode a0 pos).1 < 33
          · have hr : r = false := by rw [← hs]; simp [badD, h2]
            clear hs
            have c3 : decide (((Utf8.decode a0 pos).1 : Int) < 33) = true := by simp; omega
            go_wp2
            go_ret
            exact ⟨by rw [hr]; rfl, below_iter _ _ _⟩
          · have c3 : decide (((Utf8.decode a0 pos).1 : Int) < 33) = false := by simp; omega
            by_cases h3 : 126 < (Utf8.decode a0 pos).1
            · have hr : r = false := by rw [← hs]; simp [badD, h2, h3]
              clear hs
              have c4 : decide (126 < ((Utf8.decode a0 pos).1 : Int)) = true := by simp; omega
              go_wp2
              go_ret
              exact ⟨by rw [hr]; rfl, below_iter _ _ _⟩
            · have c4 : decide (126 < ((Utf8.decode a0 pos).1 : Int)) = false := by simp; omega
              have hs2 : okD a0 b (pos + (Utf8.decode a0 pos).2) = r := by rw [← hs]; simp [badD, h2, h3]
              have HS := Aside0.mk hs2
              clear hs hs2
              go_wp2
              go_roundw
              case rel => exact ⟨_, b, rfl, HS, by omega⟩
              case measure => simp; omega
        · have hnx : ∀ ty, (Instr.next (.pointer (some ⟨w.heap.size, 0, none⟩)) true ty).run Try.prog (w.iter a0 pos) = _ := fun ty => run_next_end w a0 pos ty hp
          have hr : r = true := by rw [← HC.out]; exact okD_end _ _ _ hp
          go_wp2
          go_ret
          exact ⟨by rw [hr]; rfl, below_iter _ _ _⟩
/-! the power -/
def cntL (left : Int) : Int := if left > 0 then left - 1 else left
def cntO (left : Int) (off : Bool) : Bool := if left > 0 then (off || left - 1 == 0) else off
def cntE (left : Int) (off : Bool) : Int := if cntO left off = true then 10 else 0
set_option maxRecDepth 100000 in
set_option maxHeartbeats 2000000 in
theorem disk_counts.calls (w : World) (d m : Nat) (left : Int) (off : Bool) (h : DBlk w d m left off) (hl : left ≤ 9223372036854775807) :
    Calls Try.prog 28 #[.pointer (some ⟨d, 0, none⟩)] w fun e w' => e = .returned (.int .i64 (cntE left off)) ∧ DBlk w' d m (cntL left) (cntO left off) ∧ Fr w w' (fun k => k = d) := by
  have g0 : w.cell? ⟨d, 0, none⟩ = some (.map (some m)) := (blk_cell h 0).trans rfl
  have g1 : w.cell? ⟨d, 1, none⟩ = some (.int .i64 left) := (blk_cell h 1).trans rfl
  have g2 : w.cell? ⟨d, 2, none⟩ = some (.bool off) := (blk_cell h 2).trans rfl
  have z1 : w.frozen? ⟨d, 1, none⟩ = false := blk_frozen h 1
  have z2 : w.frozen? ⟨d, 2, none⟩ = false := blk_frozen h 2
  have HB := Aside0.mk h
  clear h
  unfold cntE cntO cntL
  by_cases hp : left > 0
  · have c1 : decide (0 < left) = true := decide_eq_true hp
    have q1 : IntKind.i64.wrap (left - 1) = left - 1 := by rw [IntKind.wrap_i64]; omega
    rw [if_pos hp, if_pos hp]
    have hh : DBlk (w.setCell ⟨d, 1, none⟩ (.int .i64 (left - 1))) d m (left - 1) off := by simpa using blk_set HB.out 1 (.int .i64 (left - 1))
    have fr1 : Fr w (w.setCell ⟨d, 1, none⟩ (.int .i64 (left - 1))) (fun k => k = d) := Fr.setCell (S := fun k => k = d) (p := ⟨d, 1, none⟩) (Fr.refl w _) (.inl rfl) _
    have fr2 : ∀ v, Fr w ((w.setCell ⟨d, 1, none⟩ (.int .i64 (left - 1))).setCell ⟨d, 2, none⟩ v) (fun k => k = d) := fun v => Fr.setCell (S := fun k => k = d) (p := ⟨d, 2, none⟩) fr1 (.inl rfl) _
    have hh2 : ∀ b, DBlk ((w.setCell ⟨d, 1, none⟩ (.int .i64 (left - 1))).setCell ⟨d, 2, none⟩ (.bool b)) d m (left - 1) b := fun b => by simpa using blk_set hh 2 (.bool b)
    have FR2 := Aside0.mk fr2
    have HH2 := Aside0.mk hh2
    clear hh fr1 fr2 hh2
    cases off with
    | true =>
      go_enter Try.func28, Try.ntmps28
      go_wp2
      go_ret
      exact ⟨by first | rfl | simp, HH2.out true, FR2.out _⟩
    | false =>
      by_cases h0 : left - 1 = 0
      · have c2 : (left - 1 == 0) = true := beq_iff_eq.2 h0
        rw [c2]
        clear h0
        go_enter Try.func28, Try.ntmps28
        go_wp2
        go_ret
        exact ⟨by first | rfl | simp, HH2.out true, FR2.out _⟩
      · have c2 : (left - 1 == 0) = false := beq_eq_false_iff_ne.2 h0
        rw [c2]
        clear h0
        go_enter Try.func28, Try.ntmps28
        go_wp2
        go_ret
        exact ⟨by first | rfl | simp, HH2.out false, FR2.out _⟩
  · have c1 : decide (0 < left) = false := decide_eq_false hp
    rw [if_neg hp, if_neg hp]
    cases off with
    | true =>
      go_enter Try.func28, Try.ntmps28
      go_wp2
      go_ret
      exact ⟨by first | rfl | simp, HB.out, Fr.refl _ _⟩
    | false =>
      go_enter Try.func28, Try.ntmps28
      go_wp2
      go_ret
      exact ⟨by first | rfl | simp, HB.out, Fr.refl _ _⟩
end Go.Proofs.Ytknljmljlgcfbaa.P
