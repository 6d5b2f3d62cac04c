/- By hand, in the printed form: slices.EqualFunc at the one closure that name.Match hands it. -/
import Derived.Test.YtnaeffgkdoanfaaDoorP0
import Derived.Test.YtnaeffgkdoanfaaDoorHUtf
namespace Go.Proofs.YtnaeffgkdoanfaaDoor.P
open Go.RowKit Go.Proofs.YtnaeffgkdoanfaaDoorW.PrintWords Go.Proofs.YtnaeffgkdoanfaaDoorW.PrintLast Go.Proofs.YtnaeffgkdoanfaaDoorW.PrintMore
open Go.Proofs.YtnaeffgkdoanfaaDoor
set_option linter.unusedSimpArgs false
set_option linter.unusedVariables false

def eqOne (a b : ByteArray) : Bool := (a.toList == [43]) || (a.toList == b.toList)
def eqUp : List ByteArray → List ByteArray → Bool
  | [], [] => true
  | a :: l, b :: m => eqOne a b && eqUp l m
  | _, _ => false
def slices_EqualFunc_string_string_string_string.f (l m : List ByteArray) : Option Bool := some (eqUp l m)
theorem eqUp_len {l m : List ByteArray} (h : l.length ≠ m.length) : eqUp l m = false := by
  induction l generalizing m with
  | nil => cases m with
    | nil => exact absurd rfl h
    | cons b m => rfl
  | cons a l ih => cases m with
    | nil => rfl
    | cons b m => unfold eqUp; rw [ih (by simpa using h)]; simp
theorem eqUp_drop (l m : List ByteArray) (i : Nat) (hi : i < l.length) (hj : i < m.length) :
    eqUp (l.drop i) (m.drop i) = (eqOne (rdOf ByteArray.empty l (i : Int)) (rdOf ByteArray.empty m (i : Int)) && eqUp (l.drop (i + 1)) (m.drop (i + 1))) := by
  rw [List.drop_eq_getElem_cons hi, List.drop_eq_getElem_cons hj]
  simp [eqUp, rdOf, List.getElem?_eq_getElem hi, List.getElem?_eq_getElem hj]

set_option maxRecDepth 100000 in
set_option maxHeartbeats 4000000 in
theorem slices_EqualFunc_string_string_string_string.calls (A0 : Option Addr) (c0 : Nat) (l0 : List ByteArray) (A1 : Option Addr) (c1 : Nat) (l1 : List ByteArray) (r : Bool) (w : World) (hr0 : Kd.C Kd.string w A0 l0.length l0) (hc0 : l0.length ≤ c0) (hr1 : Kd.C Kd.string w A1 l1.length l1) (hc1 : l1.length ≤ c1) (h : slices_EqualFunc_string_string_string_string.f l0 l1 = some r) :
    Calls Tryd.prog 38 #[.slice A0 l0.length c0, .slice A1 l1.length c1, .func (.func 39) #[] #[]] w fun e w' => e = .returned (.bool r) ∧ Drawn0 w w' := by
  have hr : eqUp l0 l1 = r := Option.some.inj h
  clear h
  have M0 := Aside0.mk (Kd.C_max hr0)
  have HR0 := Aside0.mk hr0
  have HR1 := Aside0.mk hr1
  clear hr0 hr1
  by_cases hl : l0.length = l1.length
  · have HR := Aside0.mk hr
    clear hr
    have cl1 : ((l0.length : Int) != (l1.length : Int)) = false := by rw [bne_eq_false_iff_eq]; omega
    have cl2 : (l0.length == l1.length) = true := by rw [beq_iff_eq]; omega
    have cl3 : (l0.length != l1.length) = false := by rw [bne_eq_false_iff_eq]; omega
    have HL := Aside0.mk hl
    clear hl
    go_enter Tryd.func38, Tryd.ntmps38
    go_wp2_with fail
    go_loopw [17, 7, 8, 9] (fun v17 _ _ _ w' => ∃ (i : Nat), i ≤ l0.length ∧ v17 = .int .i64 i ∧ Aside0 (eqUp (l0.drop i) (l1.drop i) = r) ∧ Drawn0 w w') (fun v17 _ _ _ _ => l0.length - (intOf v17).toNat)
    case atStart => exact ⟨0, by omega, rfl, HR, Drawn0.refl _⟩
    case round =>
      obtain ⟨i, hi, rfl, HA, ⟨nd, rfl⟩⟩ := hrel
      have hmx := M0.out
      by_cases hlt : i < l0.length
      · have hlt1 : i < l1.length := by have := HL.out; omega
        have ha := HA.out
        rw [eqUp_drop l0 l1 i hlt hlt1] at ha
        have p0 : (0 : Int) ≤ (i : Int) := by omega
        have q0 : (i : Int) < (l0.length : Int) := by omega
        have q1 : (i : Int) < (l1.length : Int) := by omega
        obtain ⟨ad0, e0, hx0⟩ := Kd.at_string HR0.out (i : Int) p0 q0
        obtain ⟨ad1, e1, hx1⟩ := Kd.at_string HR1.out (i : Int) p0 q1
        cases e0
        cases e1
        simp only [Int.toNat_natCast] at hx0 hx1
        have d0 : decide ((i : Int) < (l0.length : Int)) = true := by simp; omega
        have d1 : decide ((i : Int) < (l1.length : Int)) = true := by simp; omega
        have d2 : decide (i < l0.length) = true := by simp; omega
        have d3 : decide (i < l1.length) = true := by simp; omega
        generalize rdOf ByteArray.empty l0 (i : Int) = x at *
        generalize rdOf ByteArray.empty l1 (i : Int) = y at *
        by_cases h1 : x.toList = [43]
        · have b1 : (x.toList == ([43] : List UInt8)) = true := beq_iff_eq.mpr h1
          have hs : eqUp (l0.drop (i + 1)) (l1.drop (i + 1)) = r := by rw [← ha]; simp [eqOne, h1]
          have HS := Aside0.mk hs
          clear ha hs h1
          go_wp2
          go_roundw
          case rel => exact ⟨i + 1, by omega, by go_num, HS, by first | exact ⟨⟨_, rfl⟩⟩ | (repeat (first | exact Drawn0.refl _ | apply Drawn0.step))⟩
          case measure => simp [intOf]; omega
        · have b1 : (x.toList == ([43] : List UInt8)) = false := beq_eq_false_iff_ne.mpr h1
          by_cases h2 : x.toList = y.toList
          · have b2 : (x.toList == y.toList) = true := beq_iff_eq.mpr h2
            have hs : eqUp (l0.drop (i + 1)) (l1.drop (i + 1)) = r := by rw [← ha]; simp [eqOne, h2]
            have HS := Aside0.mk hs
            have B1 := Aside0.mk b1
            clear ha hs h1 h2
            go_wp2
            go_roundw
            case rel => exact ⟨i + 1, by omega, by go_num, HS, by first | exact ⟨⟨_, rfl⟩⟩ | (repeat (first | exact Drawn0.refl _ | apply Drawn0.step))⟩
            case measure => simp [intOf]; omega
          · have b2 : (x.toList == y.toList) = false := beq_eq_false_iff_ne.mpr h2
            have hs : r = false := by rw [← ha]; simp [eqOne, h1, h2]
            have HS := Aside0.mk hs
            clear ha hs h1 h2
            go_wp2
            go_ret
            exact ⟨by rw [HS.out]; rfl, by first | exact ⟨⟨_, rfl⟩⟩ | (repeat (first | exact Drawn0.refl _ | apply Drawn0.step))⟩
      · have hs : r = true := by
          rw [← HA.out, List.drop_eq_nil_of_le (by omega), List.drop_eq_nil_of_le (by have := HL.out; omega)]; rfl
        have HS := Aside0.mk hs
        clear hs
        have d0 : decide ((i : Int) < (l0.length : Int)) = false := by simp; omega
        have d2 : decide (i < l0.length) = false := by simp; omega
        go_wp2
        go_ret
        exact ⟨by rw [HS.out]; rfl, by first | exact ⟨⟨_, rfl⟩⟩ | (repeat (first | exact Drawn0.refl _ | apply Drawn0.step))⟩
  · have cl1 : ((l0.length : Int) != (l1.length : Int)) = true := by rw [bne_iff_ne]; omega
    have cl2 : (l0.length == l1.length) = false := by rw [beq_eq_false_iff_ne]; omega
    have cl3 : (l0.length != l1.length) = true := by rw [bne_iff_ne]; omega
    have hr2 : r = false := by rw [← hr, eqUp_len hl]
    clear hr hl
    go_enter Tryd.func38, Tryd.ntmps38
    go_wp2_with fail
    go_ret
    exact ⟨by rw [hr2]; rfl, Drawn0.refl _⟩
end Go.Proofs.YtnaeffgkdoanfaaDoor.P
