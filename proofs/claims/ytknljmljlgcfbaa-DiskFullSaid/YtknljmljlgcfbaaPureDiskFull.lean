/- Plain law: DiskFull (its walk has shown it). -/
import Derived.Test.YtknljmljlgcfbaaFullW
import Derived.Test.YtknljmljlgcfbaaOpensDisk
namespace Go.Proofs.Ytknljmljlgcfbaa.P
set_option linter.unusedVariables false in
theorem DiskFull_pure (a : List ByteArray × List ByteArray × List S64) (h : O.niceScript a) : fairwaylaw9_DiskFull.f a.1 a.2.1 a.2.2 = some true := rfl
end Go.Proofs.Ytknljmljlgcfbaa.P
