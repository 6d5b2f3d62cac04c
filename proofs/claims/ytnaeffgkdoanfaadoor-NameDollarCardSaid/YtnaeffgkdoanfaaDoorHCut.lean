/- By hand, in the printed form: strings.Cut at a separator of one byte. -/
import Derived.Test.YtnaeffgkdoanfaaDoorP0
import Derived.Test.YtnaeffgkdoanfaaDoorHShelf
import Derived.Test.YtnaeffgkdoanfaaDoorHUtf
namespace Go.Proofs.YtnaeffgkdoanfaaDoor.P
open Go.RowKit Go.Proofs.YtnaeffgkdoanfaaDoorW.PrintWords Go.Proofs.YtnaeffgkdoanfaaDoorW.PrintLast Go.Proofs.YtnaeffgkdoanfaaDoorW.PrintMore
open Go.Proofs.YtnaeffgkdoanfaaDoor
set_option linter.unusedSimpArgs false
set_option linter.unusedVariables false

def cutAt (s : ByteArray) (c : UInt8) : ByteArray × ByteArray × Bool :=
  if 0 ≤ Lib.indexByte s.data.toList c then (s.extract 0 (Lib.indexByte s.data.toList c).toNat, s.extract ((Lib.indexByte s.data.toList c).toNat + 1) s.size, true) else (s, ⟨#[]⟩, false)
def strings_Cut.f (s sep : ByteArray) : Option (ByteArray × ByteArray × Bool) :=
  match sep.data.toList with
  | [c] => if s.size ≤ 1000000000 then some (cutAt s c) else none
  | _ => none

theorem indexByte_lt (l : List UInt8) (c : UInt8) : -1 ≤ Lib.indexByte l c ∧ Lib.indexByte l c < l.length := by
  induction l with
  | nil => simp [Lib.indexByte]
  | cons b l ih =>
    unfold Lib.indexByte
    simp only [List.length_cons]
    split
    · omega
    · split
      · omega
      · omega

set_option maxRecDepth 100000 in
set_option maxHeartbeats 4000000 in
theorem stringslite_CutH (s : ByteArray) (c : UInt8) (hz : s.size ≤ 1000000000) (w : World) :
    Calls Tryd.prog 63 #[.string s, .string ⟨#[c]⟩] w fun e w' => e = .returned (.tuple #[.string (cutAt s c).1, .string (cutAt s c).2.1, .bool (cutAt s c).2.2]) ∧ Drawn0 w w' := by
  have CI := Aside0.mk (fun w' => Tryd.stringslite_Index_one s c w')
  have hb := indexByte_lt s.data.toList c
  rw [← H.size_data] at hb
  unfold cutAt
  generalize Lib.indexByte s.data.toList c = j at *
  by_cases hj : 0 ≤ j
  · obtain ⟨i, rfl⟩ := Int.eq_ofNat_of_zero_le hj
    rw [if_pos hj]
    have e1 : decide ((0 : Int) ≤ (i : Int)) = true := by simp
    have e2 := eq_true (show (i : Int) ≤ (s.size : Int) by omega)
    have e3 := eq_true (show (0 : Int) ≤ (i : Int) by omega)
    have e4 := eq_true (show (0 : Int) ≤ (i : Int) + 1 by omega)
    have e5 := eq_true (show (i : Int) + 1 ≤ (s.size : Int) by omega)
    have e6 : i ≤ s.size := by omega
    have e7 : i + 1 ≤ s.size := by omega
    go_enter Tryd.func63, Tryd.ntmps63
    go_wp2_with (go_at_call 71; refine (CI.out _).mono ?_; rintro e w' ⟨rfl, rfl⟩)
    go_quiet (fail)
    go_wp2
    go_ret3
    exact ⟨by simp, by first | exact ⟨⟨_, rfl⟩⟩ | (repeat (first | exact Drawn0.refl _ | apply Drawn0.step))⟩
  · rw [if_neg hj]
    have e1 : decide ((0 : Int) ≤ j) = false := by simp; omega
    go_enter Tryd.func63, Tryd.ntmps63
    go_wp2_with (go_at_call 71; refine (CI.out _).mono ?_; rintro e w' ⟨rfl, rfl⟩)
    go_ret3
    exact ⟨rfl, by first | exact ⟨⟨_, rfl⟩⟩ | (repeat (first | exact Drawn0.refl _ | apply Drawn0.step))⟩

set_option maxRecDepth 100000 in
set_option maxHeartbeats 4000000 in
theorem strings_Cut.calls (a0 : ByteArray) (a1 : ByteArray) (r1 : ByteArray) (r2 : ByteArray) (r3 : Bool) (w : World) (h : strings_Cut.f a0 a1 = some (r1, r2, r3)) :
    Calls Tryd.prog 43 #[.string a0, .string a1] w fun e w' => e = .returned (.tuple #[.string r1, .string r2, .bool r3]) ∧ Drawn0 w w' := by
  obtain ⟨c, ha, hz, hr⟩ : ∃ c, a1 = ⟨#[c]⟩ ∧ a0.size ≤ 1000000000 ∧ cutAt a0 c = (r1, r2, r3) := by
    unfold strings_Cut.f at h
    split at h
    · rename_i c hc
      split at h
      · exact ⟨c, by apply ByteArray.ext; apply Array.ext'; simpa using hc, by assumption, Option.some.inj h⟩
      · cases h
    · cases h
  subst ha
  have CI := Aside0.mk (fun w' => stringslite_CutH a0 c hz w')
  clear h
  rw [hr] at CI
  simp only [] at CI
  go_enter Tryd.func43, Tryd.ntmps43
  go_wp2_with (go_at_call 63; refine (CI.out _).mono ?_; rintro e w' ⟨rfl, ⟨nd, rfl⟩⟩)
  go_ret3
  exact ⟨rfl, by first | exact ⟨⟨_, rfl⟩⟩ | (repeat (first | exact Drawn0.refl _ | apply Drawn0.step))⟩
end Go.Proofs.YtnaeffgkdoanfaaDoor.P
