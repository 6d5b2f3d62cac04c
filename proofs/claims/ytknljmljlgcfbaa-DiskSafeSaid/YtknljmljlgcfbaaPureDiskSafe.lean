/- Plain law: DiskSafe (its walk has shown it). -/
import Derived.Test.YtknljmljlgcfbaaSafeW
import Derived.Test.YtknljmljlgcfbaaOpensDisk
namespace Go.Proofs.Ytknljmljlgcfbaa.P
set_option linter.unusedVariables false in
theorem DiskSafe_pure (a : List ByteArray × List ByteArray × List S64) (h : O.niceScript a) : fairwaylaw9_DiskSafe.f a.1 a.2.1 a.2.2 = some true := rfl
end Go.Proofs.Ytknljmljlgcfbaa.P
