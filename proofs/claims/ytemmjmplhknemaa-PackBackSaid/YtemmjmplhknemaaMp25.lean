/- Merged by program (merge.py) out of: LwL. -/
import Derived.Test.YtemmjmplhknemaaMp19
import Derived.Test.YtemmjmplhknemaaMp23
import Derived.Test.YtemmjmplhknemaaMp7
set_option linter.unusedSimpArgs false
set_option linter.unusedVariables false
set_option maxRecDepth 100000
set_option maxHeartbeats 16000000
namespace Go.Proofs.Ytemmjmplhknemaa
open Go.RowKit Go.Shelf
theorem arO_pers {Bo b cap:Nat} {W:World} {A:Option Addr} {ws:List Int} (h:ArO Bo W b A cap ws):Pers W (fun w=>ArP w (some ⟨b,0,none⟩) (some ws)):=fun _ k=>(h.ext k).p
end Go.Proofs.Ytemmjmplhknemaa
