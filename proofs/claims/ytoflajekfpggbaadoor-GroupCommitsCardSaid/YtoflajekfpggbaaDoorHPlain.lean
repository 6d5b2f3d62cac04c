/- By hand, in the printed form: name.plain, name.Levels. -/
import Derived.Test.YtoflajekfpggbaaDoorP0
import Derived.Test.YtoflajekfpggbaaDoorHUtf
import Derived.Laws.RangeAny
namespace Go.Proofs.YtoflajekfpggbaaDoor.P
open Go.RowKit Go.Proofs.YtoflajekfpggbaaDoorW.PrintWords Go.Proofs.YtoflajekfpggbaaDoorW.PrintLast Go.Proofs.YtoflajekfpggbaaDoorW.PrintMore
open Go.Proofs.YtoflajekfpggbaaDoor

def wild (c : Nat) : Bool := c == 43 || c == 35
theorem wild_high : ∀ c, 128 ≤ c → wild c = false := by intro c h; unfold wild; simp; omega
def name_plain.f (s : ByteArray) : Option Bool := some (H.noneOf wild s)

theorem noneR_end (p : Nat → Bool) (s : ByteArray) (k i : Nat) (h : ¬ i < s.size) : H.noneR p s k i = true := by
  cases k with
  | zero => rfl
  | succ k => unfold H.noneR; rw [if_neg h]

theorem noneR_step (p : Nat → Bool) (s : ByteArray) (k i : Nat) (h : i < s.size) : H.noneR p s (k + 1) i = if p (Utf8.decode s i).1 then false else H.noneR p s k (i + (Utf8.decode s i).2) := by
  conv => lhs; unfold H.noneR
  rw [if_pos h]

theorem below_iter (w : World) (s : ByteArray) (i : Nat) : Below w.heap.size w (w.iter s i) := below_alloc (Below.refl _ _) _

set_option maxRecDepth 100000 in
set_option maxHeartbeats 1000000 in
theorem name_plain.calls (a0 : ByteArray) (r : Bool) (w : World) (h : name_plain.f a0 = some r) :
    Calls Tryd.prog 56 #[.string a0] w fun e w' => e = .returned (.bool r) ∧ Below w.heap.size w w' := by
  have hr : H.noneR wild a0 a0.size 0 = r := by
    unfold name_plain.f at h
    rw [H.noneR_all wild wild_high]
    exact Option.some.inj h
  have HR := Aside0.mk hr
  clear hr h
  go_enter Tryd.func56, Tryd.ntmps56
  go_wp2
  go_loopw [4] (fun _ w' => ∃ (pos b : Nat), w' = w.iter a0 pos ∧ Aside0 (H.noneR wild a0 b pos = r) ∧ a0.size ≤ pos + b) (fun _ w' => a0.size - w'.iterPos w.heap.size)
  case atStart => exact ⟨0, a0.size, rfl, HR, by omega⟩
  case round =>
    obtain ⟨pos, b, rfl, HC, hb⟩ := hrel
    by_cases hp : pos < a0.size
    · have hnx : ∀ ty, (Instr.next (.pointer (some ⟨w.heap.size, 0, none⟩)) true ty).run Tryd.prog (w.iter a0 pos) = _ := fun ty => run_next_any w a0 pos ty hp
      obtain ⟨b, rfl⟩ : ∃ m, b = m + 1 := ⟨b - 1, by omega⟩
      have hs := HC.out
      rw [noneR_step wild a0 b pos hp] at hs
      have hw1 := H.decode_wid a0 pos hp
      by_cases h1 : (Utf8.decode a0 pos).1 = 43
      · have hr : r = false := by rw [← hs]; simp [wild, h1]
        clear hs
        have c1 : (((Utf8.decode a0 pos).1 : Int) == 43) = true := by rw [beq_iff_eq]; omega
        go_wp2
        go_ret
        exact ⟨by rw [hr]; rfl, below_iter _ _ _⟩
      · have c1 : (((Utf8.decode a0 pos).1 : Int) == 43) = false := by rw [beq_eq_false_iff_ne]; omega
        by_cases h2 : (Utf8.decode a0 pos).1 = 35
        · have hr : r = false := by rw [← hs]; simp [wild, h2]
          clear hs
          have c2 : (((Utf8.decode a0 pos).1 : Int) == 35) = true := by rw [beq_iff_eq]; omega
          go_wp2
          go_ret
          exact ⟨by rw [hr]; rfl, below_iter _ _ _⟩
        · have c2 : (((Utf8.decode a0 pos).1 : Int) == 35) = false := by rw [beq_eq_false_iff_ne]; omega
          have hs2 : H.noneR wild a0 b (pos + (Utf8.decode a0 pos).2) = r := by rw [← hs]; simp [wild, h1, h2]
          have HS := Aside0.mk hs2
          clear hs hs2
          go_wp2
          go_roundw
          case rel => exact ⟨_, b, rfl, HS, by omega⟩
          case measure => simp; omega
    · have hnx : ∀ ty, (Instr.next (.pointer (some ⟨w.heap.size, 0, none⟩)) true ty).run Tryd.prog (w.iter a0 pos) = _ := fun ty => run_next_end w a0 pos ty hp
      have hr : r = true := by rw [← HC.out]; exact noneR_end _ _ _ _ hp
      go_wp2
      go_ret
      exact ⟨by rw [hr]; rfl, below_iter _ _ _⟩
end Go.Proofs.YtoflajekfpggbaaDoor.P
