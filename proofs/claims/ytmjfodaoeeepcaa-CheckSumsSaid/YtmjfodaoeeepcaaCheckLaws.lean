/-
  The document's layer 2, and the walks of CheckReckons and CheckDivides.
-/
import Derived.Test.YtmjfodaoeeepcaaCheckGcd
import Derived.Test.YtmjfodaoeeepcaaCheckRef
namespace Go.Proofs.Ytmjfodaoeeepcaa
open Go.RowKit
theorem checkAlive_any (w : World) : Calls Try.prog 12 #[] w fun e w' => e = .returned (.bool true) ∧ Below w.heap.size w w' := by
  have e1 : upR 7 2 = (4, true) := by decide
  have e2 : comR 12 18 = (6, true) := by decide
  have e3 : multR 4 6 = (12, true) := by decide
  go_enter Try.func12, Try.ntmps12
  go_wp2_with (first | (go_at_call 40; refine (up_any _ _ _).mono ?_; rintro e w' ⟨rfl, rfl⟩) | (go_at_call 41; refine (common_any _ _ _).mono ?_; rintro e w1 ⟨rfl, hb1⟩) | (go_at_call 42; refine (multiple_any _ _ _).mono ?_; rintro e w2 ⟨rfl, hb2⟩))
  go_ret
  exact ⟨rfl, hb1.trans (hb2.mono hb1.size)⟩
end Go.Proofs.Ytmjfodaoeeepcaa
