/- By hand, in the printed form: group.Name. -/
import Derived.Test.YtoflajekfpggbaaDoorP0
import Derived.Test.YtoflajekfpggbaaDoorHText
namespace Go.Proofs.YtoflajekfpggbaaDoor.P
open Go.RowKit Go.Proofs.YtoflajekfpggbaaDoorW.PrintWords Go.Proofs.YtoflajekfpggbaaDoorW.PrintLast Go.Proofs.YtoflajekfpggbaaDoorW.PrintMore
open Go.Proofs.YtoflajekfpggbaaDoor

def badG (c : Nat) : Bool := c == 47 || c == 43 || c == 35
theorem badG_high : ∀ c, 128 ≤ c → badG c = false := by intro c h; unfold badG; simp; omega
def nameTail (s : ByteArray) : Option Bool := if s.toList = [] then some false else (text_Check.f s).bind fun e => some (e == 0)
def group_Name.f (s : ByteArray) : Option Bool := if H.noneOf badG s = true then nameTail s else some false

set_option maxRecDepth 100000 in
set_option maxHeartbeats 2000000 in
theorem group_Name.calls (a0 : ByteArray) (r : Bool) (w : World) (h : group_Name.f a0 = some r) (hT : Tabs w) :
    Calls Tryd.prog 43 #[.string a0] w fun e w' => e = .returned (.bool r) ∧ Below w.heap.size w w' := by
  have hr : (if H.noneR badG a0 a0.size 0 = true then nameTail a0 else some false) = some r := by
    rw [H.noneR_all badG badG_high]
    exact h
  have HR := Aside0.mk hr
  have HT := Aside0.mk hT
  clear hr h hT
  go_enter Tryd.func43, Tryd.ntmps43
  go_wp2
  go_loopw [4] (fun _ w' => ∃ (pos b : Nat), w' = w.iter a0 pos ∧ Aside0 ((if H.noneR badG a0 b pos = true then nameTail a0 else some false) = some r) ∧ a0.size ≤ pos + b) (fun _ w' => a0.size - w'.iterPos w.heap.size)
  case atStart => exact ⟨0, a0.size, rfl, HR, by omega⟩
  case round =>
    obtain ⟨pos, b, rfl, HC, hb⟩ := hrel
    by_cases hp : pos < a0.size
    · have hnx : ∀ ty, (Instr.next (.pointer (some ⟨w.heap.size, 0, none⟩)) true ty).run Tryd.prog (w.iter a0 pos) = _ := fun ty => run_next_any w a0 pos ty hp
      obtain ⟨b, rfl⟩ : ∃ m, b = m + 1 := ⟨b - 1, by omega⟩
      have hs := HC.out
      rw [noneR_step badG a0 b pos hp] at hs
      have hw1 := H.decode_wid a0 pos hp
      by_cases h1 : (Utf8.decode a0 pos).1 = 47
      · have hr : r = false := by simpa [badG, h1] using hs.symm
        clear hs
        have c1 : (((Utf8.decode a0 pos).1 : Int) == 47) = true := by rw [beq_iff_eq]; omega
        go_wp2
        go_ret
        exact ⟨by rw [hr]; rfl, below_iter _ _ _⟩
      · have c1 : (((Utf8.decode a0 pos).1 : Int) == 47) = false := by rw [beq_eq_false_iff_ne]; omega
        by_cases h2 : (Utf8.decode a0 pos).1 = 43
        · have hr : r = false := by simpa [badG, h2] using hs.symm
          clear hs
          have c2 : (((Utf8.decode a0 pos).1 : Int) == 43) = true := by rw [beq_iff_eq]; omega
          go_wp2
          go_ret
          exact ⟨by rw [hr]; rfl, below_iter _ _ _⟩
        · have c2 : (((Utf8.decode a0 pos).1 : Int) == 43) = false := by rw [beq_eq_false_iff_ne]; omega
          by_cases h3 : (Utf8.decode a0 pos).1 = 35
          · have hr : r = false := by simpa [badG, h3] using hs.symm
            clear hs
            have c3 : (((Utf8.decode a0 pos).1 : Int) == 35) = true := by rw [beq_iff_eq]; omega
            go_wp2
            go_ret
            exact ⟨by rw [hr]; rfl, below_iter _ _ _⟩
          · have c3 : (((Utf8.decode a0 pos).1 : Int) == 35) = false := by rw [beq_eq_false_iff_ne]; omega
            have hs2 : (if H.noneR badG a0 b (pos + (Utf8.decode a0 pos).2) = true then nameTail a0 else some false) = some r := by rw [← hs]; simp [badG, h1, h2, h3]
            have HS := Aside0.mk hs2
            clear hs hs2
            go_wp2
            go_roundw
            case rel => exact ⟨_, b, rfl, HS, by omega⟩
            case measure => simp; omega
    · have hnx : ∀ ty, (Instr.next (.pointer (some ⟨w.heap.size, 0, none⟩)) true ty).run Tryd.prog (w.iter a0 pos) = _ := fun ty => run_next_end w a0 pos ty hp
      have hs := HC.out
      rw [noneR_end _ _ _ _ hp, if_pos rfl] at hs
      unfold nameTail at hs
      have HT2 := Aside0.mk (Tabs_below HT.out (below_iter w a0 pos))
      have HB2 := Aside0.mk (below_iter w a0 pos)
      clear HC HR
      by_cases h0 : a0.toList = []
      · rw [if_pos h0] at hs
        obtain rfl := Option.some.inj hs
        have c0 : (a0.toList != []) = false := by simp [h0]
        have c1 : (a0.toList == []) = true := by simp [h0]
        clear h0 hs
        go_wp2
        go_ret
        exact ⟨rfl, HB2.out⟩
      · rw [if_neg h0] at hs
        obtain ⟨e, he, hs⟩ := Option.bind_eq_some_iff.1 hs
        obtain rfl := Option.some.inj hs
        have c0 : (a0.toList != []) = true := by simp [h0]
        have c1 : (a0.toList == []) = false := by simp [h0]
        have HE := Aside0.mk he
        clear h0 hs he
        go_wp2_with (go_at_call 55; refine (text_Check.calls _ _ _ HE.out HT2.out).mono ?_; rintro _ w3 ⟨rfl, hb⟩; have HB3 := Aside0.mk hb; clear hb)
        go_ret
        exact ⟨rfl, below_then HB2.out HB2.out.size HB3.out⟩
end Go.Proofs.YtoflajekfpggbaaDoor.P
