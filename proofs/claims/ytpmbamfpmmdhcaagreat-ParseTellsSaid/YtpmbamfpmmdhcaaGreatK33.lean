/- The reference's lexer: letter, digit, blank, half, Word. -/
import Derived.Test.YtpmbamfpmmdhcaaGreatK12
import Derived.Deep.CutRange
import Derived.Deep.CutBlock
import Derived.Test.YtpmbamfpmmdhcaaGreatK1
import Derived.IntWalk
import Derived.ChangeAlike
import Derived.Deep.DeepCutAuto
import Derived.Deep.QuietTactic
import Derived.BigQuiet
set_option maxRecDepth 100000
set_option maxHeartbeats 16000000
namespace Go.Proofs.YtpmbamfpmmdhcaaGreat
open Go.RowKit
set_option linter.unusedSimpArgs false
set_option linter.unusedVariables false
set_option maxRecDepth 100000
/-! ### signs -/
end Go.Proofs.YtpmbamfpmmdhcaaGreat
