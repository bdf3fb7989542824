/- Merged by program (merge.py) out of: OpenS, OpenC. -/
import Derived.Deep.SlicePairs
import Derived.Test.YtphpppjfogpohaaGreatMl5
set_option linter.unusedSimpArgs false
set_option linter.unusedVariables false
namespace Go.Proofs.YtphpppjfogpohaaGreat
open Go.RowKit
end Go.Proofs.YtphpppjfogpohaaGreat
