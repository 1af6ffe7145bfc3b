/-
  Contracts of the package fix.
-/
import Derived.Test.YtnpbogamoanbiaaDemandSum
import Derived.Test.YtnpbogamoanbiaaRun
namespace Go.Proofs.Ytnpbogamoanbiaa
open Go.RowKit
def stepR (own t : Int) (f : Nat → TT) (n : Nat) : Int × Bool := if (allR t f n).2 then addR own (allR t f n).1 else (0, false)
def leastR (own most : Int) (f : Nat → TT) (n : Nat) : Int × Bool := if own < 0 then (0, false) else match run (fun w => stepR own w f n) most (max own 1) 0 with | some (w, _) => (w, true) | none => (0, false)
def stepsR (own most : Int) (f : Nat → TT) (n : Nat) : Int × Bool := if own < 0 then (0, false) else match run (fun w => stepR own w f n) most (max own 1) 0 with | some (_, m) => ((m : Int), true) | none => (0, false)
end Go.Proofs.Ytnpbogamoanbiaa
