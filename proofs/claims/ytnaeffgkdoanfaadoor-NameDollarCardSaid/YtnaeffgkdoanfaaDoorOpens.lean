/- The arguments' types of this seat's laws, opened. -/
import Derived.Test.YtnaeffgkdoanfaaDoorP0
import Derived.Test.YtnaeffgkdoanfaaDoorOpen
namespace Go.Proofs.YtnaeffgkdoanfaaDoor.O
open Go Go.RowKit Go.Proofs.YtnaeffgkdoanfaaDoorW.PrintWords Go.Proofs.YtnaeffgkdoanfaaDoor.P
set_option linter.unusedVariables false
def niceAsk (x : S25) : Prop := x.f0.size ≤ 140737488351232 ∧ x.f1.size ≤ 140737488351232
theorem opens_Ask : Opens Tryd.prog 25 k25 niceAsk :=
  opens_struct (f := fun x : S25 => (x.f0, x.f1)) (fun a => ⟨a.1, a.2⟩) (fun _ => rfl) Tryd.underlying25 (by kernel_rfl)
    (opensF_cons (off2 := 1) (opens_string Tryd.underlying9) (opensF_last (opens_string Tryd.underlying9) rfl (by kernel_rfl)) rfl (by kernel_rfl) rfl)
theorem opens_Asks : Opens Tryd.prog 22 (Kd.slice 25 k25) (fun l => l.length * Tryd.prog.bytesOf 25 ≤ 140737488351232 ∧ l.length ≤ maxLen ∧ ∀ a ∈ l, niceAsk a) :=
  opens_slice Tryd.underlying22 (by kernel_rfl) opens_Ask
end Go.Proofs.YtnaeffgkdoanfaaDoor.O
