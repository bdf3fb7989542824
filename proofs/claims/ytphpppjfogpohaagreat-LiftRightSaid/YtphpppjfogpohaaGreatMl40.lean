/- Merged by program (merge.py) out of: Law03C, Law03D, ExtG, ExtH. -/
import Derived.Test.YtphpppjfogpohaaGreatMl14
import Derived.Test.YtphpppjfogpohaaGreatMl39
set_option linter.unusedSimpArgs false
set_option linter.unusedVariables false
namespace Go.Proofs.YtphpppjfogpohaaGreat
open Go.RowKit
end Go.Proofs.YtphpppjfogpohaaGreat
namespace Go.Proofs.YtphpppjfogpohaaGreat
open Go.RowKit Go.Shelf
end Go.Proofs.YtphpppjfogpohaaGreat
