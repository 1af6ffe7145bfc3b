/-
  The example of layer 56.
-/
import Derived.Test.YtcjdfgfnpmmcnaaServerRef
namespace Go.Proofs.Ytcjdfgfnpmmcnaa
open Go.RowKit
theorem keptS {w w1 : World} {p : Addr} {v : Value} (c : w.cell? p = some v) (h : Below w.heap.size w w1) : w1.cell? p = some v := (h.cell (cell_lt c)).trans c
theorem within_5 (w : World) : Calls Try.prog 15 #[.agg #[.int .i64 10, .int .i64 4], .int .i64 5] w fun e w' => e = .returned (rv (23, true)) ∧ Below w.heap.size w w' := by
  have := within_any 10 4 5 w
  rwa [show sW 10 4 5 = (23, true) by decide] at this
theorem least_12 (w : World) : Calls Try.prog 16 #[.agg #[.int .i64 10, .int .i64 4], .int .i64 12] w fun e w' => e = .returned (.int .i64 0) ∧ Below w.heap.size w w' := by
  have := least_any 10 4 12 (by omega) w
  rwa [show sL 10 4 12 = 0 by decide] at this
theorem least_14 (w : World) : Calls Try.prog 16 #[.agg #[.int .i64 10, .int .i64 4], .int .i64 14] w fun e w' => e = .returned (.int .i64 2) ∧ Below w.heap.size w w' := by
  have := least_any 10 4 14 (by omega) w
  rwa [show sL 10 4 14 = 2 by decide] at this
theorem serverAlive_any (w : World) : Calls Try.prog 17 #[] w fun e w' => e = .returned (.bool true) ∧ Below w.heap.size w w' := by
  go_enter Try.func17, Try.ntmps17
  go_wp2_with fail
  refine (within_5 _).mono ?_
  rintro e w1 ⟨rfl, hb1⟩
  have c0 := (boxed2 hb1).1
  have c1 := (boxed2 hb1).2
  go_wp2_with fail
  refine (least_12 _).mono ?_
  rintro e w2 ⟨rfl, hb2⟩
  have d0 := keptS c0 hb2
  have d1 := keptS c1 hb2
  go_wp2_with fail
  refine (least_14 _).mono ?_
  rintro e w3 ⟨rfl, hb3⟩
  go_wp2_with fail
  go_ret
  have b1 := ((Below.refl w.heap.size w).alloc (Nat.le_refl _) (Obj.cells #[Value.int .i64 10, Value.int .i64 4] 23)).trans (hb1.mono (by simp))
  have b2 := b1.trans (hb2.mono b1.size)
  exact ⟨rfl, b2.trans (hb3.mono b2.size)⟩
end Go.Proofs.Ytcjdfgfnpmmcnaa
