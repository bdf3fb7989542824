/- Merged by program (merge.py) out of: LwL. -/
import Derived.Test.YtkcpfimhbogdcaaGreatMz19
import Derived.Test.YtkcpfimhbogdcaaGreatMz18
import Derived.Test.YtkcpfimhbogdcaaGreatMz24
/- The law WalkLists. -/
set_option linter.unusedSimpArgs false
set_option linter.unusedVariables false
namespace Go.Proofs.YtkcpfimhbogdcaaGreat
open Go.RowKit Go.Shelf

theorem refwalk_is (A : Option Addr) (cap : Nat) (ws : List Int) (a s top x er : Int) (zs : List Int) (h0 : listA (some ws) a s top = zs) (h1 : stopA (some ws) a s top = x) (h2 : stopE (some ws) a s top = er) (V : World) (hl : WordsAt V A ws) (hlen : ws.length ≤ 98304) (hbd : ∀ z ∈ ws, 0 ≤ z ∧ z < 18446744073709551616) :
    Calls Tryz.prog 28 #[.slice A ws.length cap, .agg #[.int .i64 (a), .int .i64 (s)], .int .i64 top] V (RetWk V zs x er) := by
  have := refwalk_any A cap ws a s top V hl hlen hbd
  rwa [h0, h1, h2] at this
theorem ints_is (A A2 : Option Addr) (cap cap2 : Nat) (xs ys : List Int) (n m : Nat) (b : Bool) (hn : xs.length = n) (hm : ys.length = m) (hb : decide (xs = ys) = b) (W : World) (hlen : n ≤ 9223372036854775807) (hlen2 : m ≤ 9223372036854775807) (hl : IntsAt W A xs) (hl2 : IntsAt W A2 ys) :
    Calls Tryz.prog 12 #[.slice A n cap, .slice A2 m cap2] W fun e w' => e = .returned (.bool b) ∧ Ext W w' := by
  subst hn hm hb; exact ints_any A A2 cap cap2 xs ys W hlen hlen2 hl hl2
theorem refstarts_is (A : Option Addr) (cap : Nat) (zs : List Int) (v : Int) (b : Bool) (hb : decide (v ∈ zs) = b) (W : World) (hlen : zs.length ≤ 9223372036854775807) (hl : IntsAt W A zs) :
    Calls Tryz.prog 59 #[.slice A zs.length cap, .int .i64 v] W fun e w' => e = .returned (.bool b) ∧ Ext W w' := by
  rw [← hb]; exact refstarts_any A cap zs v W hlen hl
theorem arO_pers {Bo b cap : Nat} {W : World} {A : Option Addr} {ws : List Int} (h : ArO Bo W b A cap ws) : Pers W (fun w => ArP w (some ⟨b, 0, none⟩) (some ws)) := fun _ k => (h.ext k).p
set_option maxRecDepth 100000
set_option maxHeartbeats 2000000
end Go.Proofs.YtkcpfimhbogdcaaGreat

