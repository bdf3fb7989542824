/- Merged by program (merge.py) out of: CkB, CkC. -/
import Derived.Test.YtphpppjfogpohaaGreatMu30
import Derived.Test.YtphpppjfogpohaaGreatMu21
import Derived.Test.YtphpppjfogpohaaGreatMu16
import Derived.Test.YtphpppjfogpohaaGreatMu14
import Derived.Deep.SlicePairs
import Derived.Test.YtphpppjfogpohaaGreatMu5
import Derived.Test.YtphpppjfogpohaaGreatMu1
import Derived.Test.YtphpppjfogpohaaGreatMu4
import Derived.Test.YtphpppjfogpohaaGreatMu29
import Derived.Test.YtphpppjfogpohaaGreatMu20
set_option linter.unusedSimpArgs false
set_option linter.unusedVariables false
set_option maxRecDepth 100000
set_option maxHeartbeats 16000000
namespace Go.Proofs.YtphpppjfogpohaaGreat
open Go.RowKit Go.Shelf
theorem reffrom_is {s l t m x y:Int} {b:Bool} (h1:halfA s l t m b=x) (h2:halfS s l t m=y) (w:World):Calls Tryz.prog 48 #[.agg #[.int .i64 (s),.int .i64 (l),.int .i64 (t),.int .i64 (m)],.bool b] w fun e w'=>e= .returned (.agg #[.int .i64 (x),.int .i64 (y)])∧Ext w w':=by
 rw [←h1,←h2];exact reffrom_any s l t m b w
theorem refsmallZ_is {s l t m p:Int} {b:Bool} (h:smallB s l t m p=b) (w:World):Calls Tryz.prog 51 #[.agg #[.int .i64 (s),.int .i64 (l),.int .i64 (t),.int .i64 (m)],.int .i64 p] w fun e w'=>e= .returned (.bool b)∧Ext w w':=by
 rw [←h];exact refsmall_any s l t m p w
theorem reflargeZ_is {s l t m x y:Int} (h1:largeA s l t m=x) (h2:largeS s l t m=y) (w:World):Calls Tryz.prog 49 #[.agg #[.int .i64 (s),.int .i64 (l),.int .i64 (t),.int .i64 (m)]] w fun e w'=>e= .returned (.agg #[.int .i64 (x),.int .i64 (y)])∧Ext w w':=by
 rw [←h1,←h2];exact reflarge_any s l t m w
section
variable {c0 c1 c2 c3 : Int} {sn : Bool} {wA : Option Addr} {ws : List Int} {wc : Nat} {top : Int} {tA : Option Addr} {tb : List (Int × Int)} {tc : Nat} {fA : Option Addr} {fr : List (Int × Int)} {fc : Nat} {sA : Option Addr} {sl : List (Bool × Int × Int)} {sc : Nat}
end
theorem refcheckZ_is {s l t m:Int} {b:Bool} (h:cfgB s l t m=b) (w:World):Calls Tryz.prog 46 #[.agg #[.int .i64 (s),.int .i64 (l),.int .i64 (t),.int .i64 (m)]] w fun e w'=>e= .returned (.bool b)∧Ext w w':=by
 rw [←h];exact refcheck_any s l t m w
section
variable {c0 c1 c2 c3 : Int} {sn : Bool} {wA : Option Addr} {ws : List Int} {wc : Nat} {top : Int} {tA : Option Addr} {tb : List (Int × Int)} {tc : Nat} {fA : Option Addr} {fr : List (Int × Int)} {fc : Nat} {sA : Option Addr} {sl : List (Bool × Int × Int)} {sc : Nat}
end
end Go.Proofs.YtphpppjfogpohaaGreat
