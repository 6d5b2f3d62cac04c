/- By hand, in the printed form: cmp.Compare at strings. -/
import Derived.Test.YtoflajekfpggbaaDoorP0
import Derived.StillTailTactics
import Derived.BigQuiet
namespace Go.Proofs.YtoflajekfpggbaaDoor.P
open Go.RowKit Go.Proofs.YtoflajekfpggbaaDoorW.PrintWords Go.Proofs.YtoflajekfpggbaaDoorW.PrintLast Go.Proofs.YtoflajekfpggbaaDoorW.PrintMore
open Go.Proofs.YtoflajekfpggbaaDoor
set_option linter.unusedSimpArgs false
set_option linter.unusedVariables false
def lessS (x y : ByteArray) : Bool := Op.bytesLess x.toList y.toList
def cmpS (x y : ByteArray) : Int := if lessS x y = true then -1 else if x.toList = y.toList then 0 else 1
set_option maxRecDepth 100000 in
set_option maxHeartbeats 4000000 in
theorem cmp_Compare_string.own (x y : ByteArray) (w : World) : Calls Tryd.prog 42 #[.string x, .string y] w fun e w' => e = .returned (.int .i64 (cmpS x y)) ∧ Drawn0 w w' := by
  have e1 : (x.toList != x.toList) = false := by simp
  have e2 : (y.toList != y.toList) = false := by simp
  unfold cmpS lessS
  by_cases h1 : Op.bytesLess x.toList y.toList = true
  · rw [if_pos h1]
    go_enter Tryd.func42, Tryd.ntmps42
    go_wp2
    go_ret
    exact ⟨rfl, Drawn0.refl _⟩
  · rw [if_neg h1]
    have h1' : Op.bytesLess x.toList y.toList = false := by simpa using h1
    by_cases h2 : x.toList = y.toList
    · rw [if_pos h2]
      have h2' : (x.toList == y.toList) = true := beq_iff_eq.mpr h2
      have hgt : ∀ W : World, (binOp .gtr 9 (.string x) (.string y)).run Tryd.prog W = .ok (.bool false) W := fun W => by simp [binOp, Op.stringOp, h1', h2']
      clear h2
      go_enter Tryd.func42, Tryd.ntmps42
      go_wp2
      go_ret
      exact ⟨rfl, Drawn0.refl _⟩
    · rw [if_neg h2]
      have h2' : (x.toList == y.toList) = false := beq_eq_false_iff_ne.mpr h2
      have hgt : ∀ W : World, (binOp .gtr 9 (.string x) (.string y)).run Tryd.prog W = .ok (.bool true) W := fun W => by simp [binOp, Op.stringOp, h1', h2']
      clear h2
      go_enter Tryd.func42, Tryd.ntmps42
      go_wp2
      go_ret
      exact ⟨rfl, Drawn0.refl _⟩
def cmp_Compare_string.f (x y : ByteArray) : Option Int := some (cmpS x y)
theorem cmp_Compare_string.calls (a0 a1 : ByteArray) (r : Int) (w : World) (h : cmp_Compare_string.f a0 a1 = some r) : Calls Tryd.prog 42 #[.string a0, .string a1] w fun e w' => e = .returned (.int .i64 r) ∧ Drawn0 w w' := by
  obtain rfl := Option.some.inj h
  exact cmp_Compare_string.own a0 a1 w
end Go.Proofs.YtoflajekfpggbaaDoor.P
