/-
  A search from below: from a number to what it asks for, till that is enough.
-/
import Derived.Test.YtmkpimdbmjpelaaKit
namespace Go.Proofs.Ytmkpimdbmjpelaa
open Go.RowKit
/-- The search from below: the time that is enough, and how many times were looked at. -/
def run (g : Int → Int × Bool) (most w : Int) (many : Nat) : Option (Int × Nat) :=
  if _h : w ≤ most then (if (g w).2 then (if _h2 : (g w).1 ≤ w then some (w, many + 1) else run g most (g w).1 (many + 1)) else none) else none
termination_by (most + 1 - w).toNat
decreasing_by omega
theorem run_over {g : Int → Int × Bool} {most w : Int} {many : Nat} (h : most < w) : run g most w many = none := by
  rw [run, dif_neg (by omega)]
theorem run_none {g : Int → Int × Bool} {most w : Int} {many : Nat} (h : w ≤ most) (h2 : (g w).2 = false) : run g most w many = none := by
  rw [run, dif_pos h, if_neg (by rw [h2]; simp)]
theorem run_some {g : Int → Int × Bool} {most w : Int} {many : Nat} (h : w ≤ most) (h2 : (g w).2 = true) (h3 : (g w).1 ≤ w) : run g most w many = some (w, many + 1) := by
  rw [run, dif_pos h, if_pos h2, dif_pos h3]
theorem run_on {g : Int → Int × Bool} {most w : Int} {many : Nat} (h : w ≤ most) (h2 : (g w).2 = true) (h3 : w < (g w).1) : run g most w many = run g most (g w).1 (many + 1) := by
  rw [run, dif_pos h, if_pos h2, dif_neg (by omega)]
end Go.Proofs.Ytmkpimdbmjpelaa
