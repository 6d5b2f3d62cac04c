/- The arguments' types of this seat's laws, opened. -/
import Derived.Test.YtnaeffgkdoanfaaDoorP0
import Derived.Test.YtnaeffgkdoanfaaDoorOpen
namespace Go.Proofs.YtnaeffgkdoanfaaDoor.O
open Go Go.RowKit Go.Proofs.YtnaeffgkdoanfaaDoorW.PrintWords Go.Proofs.YtnaeffgkdoanfaaDoor.P
set_option linter.unusedVariables false
def nice50 (x : S50) : Prop := x.f0.size ≤ 140737488351232 ∧ x.f1.size ≤ 140737488351232
theorem opens_Retained : Opens Tryd.prog 50 k50 (fun x => x.f0.size ≤ 140737488351232 ∧ x.f1.size ≤ 140737488351232 ∧ (Lit.int .i64 x.f2).wf = true ∧ (Lit.int .i64 x.f3).wf = true) :=
  opens_struct (f := fun x : S50 => (x.f0, x.f1, x.f2, x.f3)) (fun a => ⟨a.1, a.2.1, a.2.2.1, a.2.2.2⟩) (fun _ => rfl) Tryd.underlying50 (by kernel_rfl)
    (opensF_cons (off2 := 1) (opens_string Tryd.underlying9) (opensF_cons (off2 := 2) (opens_string Tryd.underlying9) (opensF_cons (off2 := 3) (opens_int Tryd.underlying3) (opensF_last (opens_int Tryd.underlying3) rfl (by kernel_rfl)) rfl (by kernel_rfl) rfl) rfl (by kernel_rfl) rfl) rfl (by kernel_rfl) rfl)
def kScript : Kd (List S50 × List S50 × List ByteArray) := Kd.pair (Kd.slice 50 k50) (Kd.pair (Kd.slice 50 k50) (Kd.slice 9 Kd.string))
def niceScript (x : List S50 × List S50 × List ByteArray) : Prop :=
  x.1.length ≤ 2932031007402 ∧ x.2.1.length ≤ 2932031007402 ∧ x.2.2.length ≤ 8796093022208 ∧ (∀ a ∈ x.1, nice50 a) ∧ (∀ a ∈ x.2.1, nice50 a) ∧ ∀ a ∈ x.2.2, a.size ≤ 140737488351232
theorem opens_Script (H : Type) (enc : TypeId × Value → H) (w : World) (base fuel : Nat) (cs : List Value) (x : DataW H × List MemPlace) (h : DataW.trod enc Tryd.prog w base (fun _ => true) true fuel 43 cs = some x) (hw : (x.1.weights Tryd.prog 43).all (· ≤ reachBytes) = true) :
    ∃ a, kScript.K w a cs ∧ niceScript a := by
  have hb : Tryd.prog.bytesOf 50 = 48 := by kernel_rfl
  have hs : Tryd.prog.bytesOf 9 = 16 := by kernel_rfl
  obtain ⟨a, hk, h1, h2, h3⟩ := opens_struct (d := kScript) (f := fun x => x) (fun a => a) (fun _ => rfl) Tryd.underlying43 (by kernel_rfl)
    (opensF_cons (off2 := 1) (opens_slice Tryd.underlying41 (by kernel_rfl) opens_Retained) (opensF_cons (off2 := 2) (opens_slice Tryd.underlying41 (by kernel_rfl) opens_Retained) (opensF_last (opens_slice Tryd.underlying32 (by kernel_rfl) (opens_string Tryd.underlying9)) rfl (by kernel_rfl)) rfl (by kernel_rfl) rfl) rfl (by kernel_rfl) rfl) H enc w base fuel cs x h hw
  have n1 := h1.1
  have n2 := h2.1
  have n3 := h3.1
  rw [hb] at n1 n2
  rw [hs] at n3
  exact ⟨a, hk, by omega, by omega, by omega, fun b hb => ⟨(h1.2.2 b hb).1, (h1.2.2 b hb).2.1⟩, fun b hb => ⟨(h2.2.2 b hb).1, (h2.2.2 b hb).2.1⟩, h3.2.2⟩
theorem open_Script {w : World} {a : List S50 × List S50 × List ByteArray} {cs : List Value} (h : kScript.K w a cs) : ∃ A0 c0 A1 c1 A2 c2, cs = [.slice A0 a.1.length c0, .slice A1 a.2.1.length c1, .slice A2 a.2.2.length c2] ∧ Kd.C k50 w A0 a.1.length a.1 ∧ a.1.length ≤ c0 ∧ Kd.C k50 w A1 a.2.1.length a.2.1 ∧ a.2.1.length ≤ c1 ∧ Kd.C Kd.string w A2 a.2.2.length a.2.2 ∧ a.2.2.length ≤ c2 := by
  obtain ⟨_, _, rfl, ⟨A0, c0, rfl, h0, k0⟩, ⟨_, _, rfl, ⟨A1, c1, rfl, h1, k1⟩, ⟨A2, c2, rfl, h2, k2⟩⟩⟩ := h
  exact ⟨A0, c0, A1, c1, A2, c2, rfl, k0, h0, k1, h1, k2, h2⟩
end Go.Proofs.YtnaeffgkdoanfaaDoor.O
