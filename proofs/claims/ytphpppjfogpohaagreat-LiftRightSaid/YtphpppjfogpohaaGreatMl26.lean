/- Merged by program (merge.py) out of: OpenW. -/
import Derived.Test.YtphpppjfogpohaaGreatMl25
import Derived.Test.YtphpppjfogpohaaGreatMl7
set_option linter.unusedSimpArgs false
set_option linter.unusedVariables false
namespace Go.Proofs.YtphpppjfogpohaaGreat
open Go.RowKit
set_option maxRecDepth 100000
end Go.Proofs.YtphpppjfogpohaaGreat
