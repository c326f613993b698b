/- Bytes that a function makes, in a block of its own; a string out of them; the sum of strings. -/
import Derived.Test.YtdjdikiimhhjpaaDoorK10
import Derived.Test.YtdjdikiimhhjpaaDoorProg
import Derived.Laws.IdiomStrings
import Derived.Lib.BufferRead
import Derived.Maps.AppendAt
set_option maxRecDepth 100000
set_option maxHeartbeats 16000000
namespace Go.Proofs.YtdjdikiimhhjpaaDoor
open Go.RowKit
set_option linter.unusedSimpArgs false
set_option linter.unusedVariables false
end Go.Proofs.YtdjdikiimhhjpaaDoor
