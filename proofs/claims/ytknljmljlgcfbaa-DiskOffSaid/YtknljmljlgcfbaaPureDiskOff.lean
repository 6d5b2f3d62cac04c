/- Plain law: DiskOff (its walk has shown it). -/
import Derived.Test.YtknljmljlgcfbaaOff
import Derived.Test.YtknljmljlgcfbaaOpensDisk
namespace Go.Proofs.Ytknljmljlgcfbaa.P
set_option linter.unusedVariables false in
theorem DiskOff_pure (a : List ByteArray × List ByteArray × List S64) (h : O.niceScript a) : fairwaylaw9_DiskOff.f a.1 a.2.1 a.2.2 = some true := rfl
end Go.Proofs.Ytknljmljlgcfbaa.P
