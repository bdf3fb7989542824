/- Merged by program (merge.py) out of: LwL. -/
import Derived.Test.YtphpppjfogpohaaGreatMq21
import Derived.Test.YtphpppjfogpohaaGreatMq20
import Derived.Test.YtphpppjfogpohaaGreatMq25
import Derived.Test.YtphpppjfogpohaaGreatMq7
set_option linter.unusedSimpArgs false
set_option linter.unusedVariables false
set_option maxRecDepth 100000
set_option maxHeartbeats 16000000
namespace Go.Proofs.YtphpppjfogpohaaGreat
open Go.RowKit Go.Shelf
theorem wV {Bo b cap:Nat} {W:World} {A:Option Addr} {ws:List Int} (h:ArO Bo W b A cap ws):Pers W (fun w=>ArP w (some ⟨b,0,none⟩) (some ws)):=fun _ k=>(h.ext k).p
end Go.Proofs.YtphpppjfogpohaaGreat
