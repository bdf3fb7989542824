/- Merged by program (merge.py) out of: LedB, LedC. -/
import Derived.Lib.AppendZerosOnto
import Derived.Lib.Overlaps
import Derived.Test.YtphpppjfogpohaaGreatMl14
set_option linter.unusedSimpArgs false
set_option linter.unusedVariables false
namespace Go.Proofs.YtphpppjfogpohaaGreat
open Go.RowKit Go.Shelf
end Go.Proofs.YtphpppjfogpohaaGreat
