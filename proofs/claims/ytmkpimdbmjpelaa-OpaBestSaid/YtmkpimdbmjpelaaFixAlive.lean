/-
  The law's own functions of layer 17.
-/
import Derived.Test.YtmkpimdbmjpelaaFix
import Derived.Test.YtmkpimdbmjpelaaDemandRef
namespace Go.Proofs.Ytmkpimdbmjpelaa
open Go.RowKit
def exT : Nat → TT := fun _ => ⟨5, 2, 0, 0⟩
theorem ex2 : stepR 2 2 exT 1 = (4, true) := by decide
theorem ex3 : stepR 2 3 exT 1 = (4, true) := by decide
theorem ex4 : stepR 2 4 exT 1 = (4, true) := by decide
theorem exRun : run (fun w => stepR 2 w exT 1) 100 2 0 = some (4, 2) := by
  rw [run_on (by omega) (by show (stepR 2 2 exT 1).2 = true; rw [ex2]) (by show _ < (stepR 2 2 exT 1).1; rw [ex2]; decide)]
  show run _ 100 (stepR 2 2 exT 1).1 1 = _
  rw [ex2, run_some (by decide) (by show (stepR 2 4 exT 1).2 = true; rw [ex4]) (by show (stepR 2 4 exT 1).1 ≤ 4; rw [ex4]; decide)]
theorem exLeast : leastR 2 100 exT 1 = (4, true) := by
  unfold leastR
  rw [if_neg (by decide), show max (2 : Int) 1 = 2 by decide, exRun]
theorem exSteps : stepsR 2 100 exT 1 = (2, true) := by
  unfold stepsR
  rw [if_neg (by decide), show max (2 : Int) 1 = 2 by decide, exRun]; rfl
theorem one_terms (w : World) : Terms (w.alloc (Obj.cells #[Value.int .i64 5, Value.int .i64 2, Value.int .i64 0, Value.int .i64 0] 84)) (some ⟨w.heap.size, 0, none⟩) 1 exT := fun i hi => by
  obtain rfl : i = 0 := by omega
  exact ⟨w.heap.size, 0, rfl, World.cell?_alloc_at _ _ _ _ rfl, World.cell?_alloc_at _ _ _ _ rfl, World.cell?_alloc_at _ _ _ _ rfl, World.cell?_alloc_at _ _ _ _ rfl⟩
theorem exL (W : World) (p : Nat) (hp : W.heap.size = p) : Calls Try.prog 38 #[.int .i64 2, .int .i64 100, .slice (some ⟨p, 0, none⟩) 1 1] (W.alloc (Obj.cells #[Value.int .i64 5, Value.int .i64 2, Value.int .i64 0, Value.int .i64 0] 84)) fun e w' => e = .returned (rv (4, true)) ∧ Below W.heap.size W w' := by
  subst hp
  have h := fixLeast_any (some ⟨W.heap.size, 0, none⟩) 1 1 exT 2 100 _ (by omega) (one_terms W) (by omega)
  rw [exLeast] at h
  exact h.mono fun e w' ⟨h1, h2⟩ => ⟨h1, ((Below.refl _ W).alloc (Nat.le_refl _) _).trans (h2.mono (by simp))⟩
theorem four_cells (w : World) : (w.alloc (Obj.cells #[Value.int .i64 5, Value.int .i64 2, Value.int .i64 0, Value.int .i64 0] 84)).cell? ⟨w.heap.size, 0, none⟩ = some (.int .i64 5) ∧ (w.alloc (Obj.cells #[Value.int .i64 5, Value.int .i64 2, Value.int .i64 0, Value.int .i64 0] 84)).cell? ⟨w.heap.size, 1, none⟩ = some (.int .i64 2) ∧ (w.alloc (Obj.cells #[Value.int .i64 5, Value.int .i64 2, Value.int .i64 0, Value.int .i64 0] 84)).cell? ⟨w.heap.size, 2, none⟩ = some (.int .i64 0) ∧ (w.alloc (Obj.cells #[Value.int .i64 5, Value.int .i64 2, Value.int .i64 0, Value.int .i64 0] 84)).cell? ⟨w.heap.size, 3, none⟩ = some (.int .i64 0) :=
  ⟨World.cell?_alloc_at _ _ _ _ rfl, World.cell?_alloc_at _ _ _ _ rfl, World.cell?_alloc_at _ _ _ _ rfl, World.cell?_alloc_at _ _ _ _ rfl⟩
end Go.Proofs.Ytmkpimdbmjpelaa
