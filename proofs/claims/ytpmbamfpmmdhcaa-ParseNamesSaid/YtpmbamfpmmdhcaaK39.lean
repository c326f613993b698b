/- The reference's right, all kinds; the reference's CheckExpr. -/
import Derived.Test.YtpmbamfpmmdhcaaK38
import Derived.Test.YtpmbamfpmmdhcaaK9
set_option maxRecDepth 100000
set_option maxHeartbeats 16000000
namespace Go.Proofs.Ytpmbamfpmmdhcaa
open Go.RowKit
set_option linter.unusedSimpArgs false
set_option linter.unusedVariables false
end Go.Proofs.Ytpmbamfpmmdhcaa
namespace Go.Proofs.Ytpmbamfpmmdhcaa
open Go.RowKit
set_option linter.unusedSimpArgs false
set_option linter.unusedVariables false
end Go.Proofs.Ytpmbamfpmmdhcaa
