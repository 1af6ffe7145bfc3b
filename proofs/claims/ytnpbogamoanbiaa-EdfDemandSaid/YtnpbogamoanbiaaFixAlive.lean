/-
  The law's own functions of layer 17.
-/
import Derived.Test.YtnpbogamoanbiaaFix
import Derived.Test.YtnpbogamoanbiaaDemandRef
namespace Go.Proofs.Ytnpbogamoanbiaa
open Go.RowKit
def exT : Nat → TT := fun _ => ⟨5, 2, 0, 0⟩
theorem ex2 : stepR 2 2 exT 1 = (4, true) := by decide
theorem ex3 : stepR 2 3 exT 1 = (4, true) := by decide
theorem ex4 : stepR 2 4 exT 1 = (4, true) := by decide
theorem exRun : run (fun w => stepR 2 w exT 1) 100 2 0 = some (4, 2) := by
  rw [run_on (by omega) (by show (stepR 2 2 exT 1).2 = true; rw [ex2]) (by show _ < (stepR 2 2 exT 1).1; rw [ex2]; decide)]
  show run _ 100 (stepR 2 2 exT 1).1 1 = _
  rw [ex2, run_some (by decide) (by show (stepR 2 4 exT 1).2 = true; rw [ex4]) (by show (stepR 2 4 exT 1).1 ≤ 4; rw [ex4]; decide)]
theorem exLeast : leastR 2 100 exT 1 = (4, true) := by
  unfold leastR
  rw [if_neg (by decide), show max (2 : Int) 1 = 2 by decide, exRun]
theorem exSteps : stepsR 2 100 exT 1 = (2, true) := by
  unfold stepsR
  rw [if_neg (by decide), show max (2 : Int) 1 = 2 by decide, exRun]; rfl
end Go.Proofs.Ytnpbogamoanbiaa
