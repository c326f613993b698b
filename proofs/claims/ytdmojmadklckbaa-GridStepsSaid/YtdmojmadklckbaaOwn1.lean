/- The reference's Walked and Leaves. -/
import Derived.Test.YtdmojmadklckbaaOwn0
namespace Go.Proofs.Ytdmojmadklckbaa
open Go.RowKit
set_option linter.unusedSimpArgs false
set_option linter.unusedVariables false


end Go.Proofs.Ytdmojmadklckbaa
