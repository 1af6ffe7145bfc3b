/-
  The law's own functions of layer 17.
-/
import Derived.Test.YtcjdfgfnpmmcnaaFix
import Derived.Test.YtcjdfgfnpmmcnaaDemandRef
namespace Go.Proofs.Ytcjdfgfnpmmcnaa
open Go.RowKit
theorem lstep_any (ao : Option Addr) (n cap : Nat) (f : Nat → TT) (own t : Int) (w : World) (hn : n ≤ 100) (hT : Terms w ao n f) :
    Calls Try.prog 29 #[.int .i64 own, .int .i64 t, .slice ao n cap] w fun e w' => e = .returned (rv (stepR own t f n)) ∧ Below w.heap.size w w' := by
  have HD := hid (rall_any ao n cap f t w hT hn)
  unfold stepR
  obtain ⟨⟨r, ok⟩, hx⟩ : ∃ y, allR t f n = y := ⟨_, rfl⟩
  rw [hx] at HD ⊢
  cases ok
  · go_enter Try.func29, Try.ntmps29
    go_wp2_with (go_at_call 28; refine HD.out.mono ?_; rintro e w1 ⟨rfl, hb1⟩)
    go_ret2
    exact ⟨rfl, hb1⟩
  · have HA := hid (addRef_any own r)
    simp only [if_true]
    obtain ⟨⟨s, is⟩, hy⟩ : ∃ y, addR own r = y := ⟨_, rfl⟩
    rw [hy] at HA ⊢
    go_enter Try.func29, Try.ntmps29
    go_wp2_with (first | (go_at_call 28; refine HD.out.mono ?_; rintro e w1 ⟨rfl, hb1⟩) | (go_at_call 59; refine (HA.out _).mono ?_; rintro e w2 ⟨rfl, rfl⟩))
    go_ret2
    exact ⟨rfl, hb1⟩
def exT : Nat → TT := fun _ => ⟨5, 2, 0, 0⟩
theorem ex2 : stepR 2 2 exT 1 = (4, true) := by decide
theorem ex3 : stepR 2 3 exT 1 = (4, true) := by decide
theorem ex4 : stepR 2 4 exT 1 = (4, true) := by decide
theorem exRun : run (fun w => stepR 2 w exT 1) 100 2 0 = some (4, 2) := by
  rw [run_on (by omega) (by show (stepR 2 2 exT 1).2 = true; rw [ex2]) (by show _ < (stepR 2 2 exT 1).1; rw [ex2]; decide)]
  show run _ 100 (stepR 2 2 exT 1).1 1 = _
  rw [ex2, run_some (by decide) (by show (stepR 2 4 exT 1).2 = true; rw [ex4]) (by show (stepR 2 4 exT 1).1 ≤ 4; rw [ex4]; decide)]
theorem exLeast : leastR 2 100 exT 1 = (4, true) := by
  unfold leastR
  rw [if_neg (by decide), show max (2 : Int) 1 = 2 by decide, exRun]
theorem exSteps : stepsR 2 100 exT 1 = (2, true) := by
  unfold stepsR
  rw [if_neg (by decide), show max (2 : Int) 1 = 2 by decide, exRun]; rfl
theorem one_terms (w : World) : Terms (w.alloc (Obj.cells #[Value.int .i64 5, Value.int .i64 2, Value.int .i64 0, Value.int .i64 0] 38)) (some ⟨w.heap.size, 0, none⟩) 1 exT := fun i hi => by
  obtain rfl : i = 0 := by omega
  exact ⟨w.heap.size, 0, rfl, World.cell?_alloc_at _ _ _ _ rfl, World.cell?_alloc_at _ _ _ _ rfl, World.cell?_alloc_at _ _ _ _ rfl, World.cell?_alloc_at _ _ _ _ rfl⟩
theorem exL (W : World) (p : Nat) (hp : W.heap.size = p) : Calls Try.prog 30 #[.int .i64 2, .int .i64 100, .slice (some ⟨p, 0, none⟩) 1 1] (W.alloc (Obj.cells #[Value.int .i64 5, Value.int .i64 2, Value.int .i64 0, Value.int .i64 0] 38)) fun e w' => e = .returned (rv (4, true)) ∧ Below W.heap.size W w' := by
  subst hp
  have h := fixLeast_any (some ⟨W.heap.size, 0, none⟩) 1 1 exT 2 100 _ (by omega) (one_terms W) (by omega)
  rw [exLeast] at h
  exact h.mono fun e w' ⟨h1, h2⟩ => ⟨h1, ((Below.refl _ W).alloc (Nat.le_refl _) _).trans (h2.mono (by simp))⟩
theorem exS (W : World) (p : Nat) (hp : W.heap.size = p) : Calls Try.prog 31 #[.int .i64 2, .int .i64 100, .slice (some ⟨p, 0, none⟩) 1 1] (W.alloc (Obj.cells #[Value.int .i64 5, Value.int .i64 2, Value.int .i64 0, Value.int .i64 0] 38)) fun e w' => e = .returned (rv (2, true)) ∧ Below W.heap.size W w' := by
  subst hp
  have h := fixSteps_any (some ⟨W.heap.size, 0, none⟩) 1 1 exT 2 100 _ (by omega) (one_terms W) (by omega) (by omega)
  rw [exSteps] at h
  exact h.mono fun e w' ⟨h1, h2⟩ => ⟨h1, ((Below.refl _ W).alloc (Nat.le_refl _) _).trans (h2.mono (by simp))⟩
theorem exD4 (W : World) (p : Nat) (hp : W.heap.size = p) : Calls Try.prog 32 #[.int .i64 2, .int .i64 4, .slice (some ⟨p, 0, none⟩) 1 1] (W.alloc (Obj.cells #[Value.int .i64 5, Value.int .i64 2, Value.int .i64 0, Value.int .i64 0] 38)) fun e w' => e = .returned (.bool true) ∧ Below W.heap.size W w' := by
  subst hp
  have h := fixDone_any (some ⟨W.heap.size, 0, none⟩) 1 1 exT 2 4 _ (by omega) (one_terms W)
  rw [ex4] at h
  exact h.mono fun e w' ⟨h1, h2⟩ => ⟨h1, ((Below.refl _ W).alloc (Nat.le_refl _) _).trans (h2.mono (by simp))⟩
theorem exD3 (W : World) (p : Nat) (hp : W.heap.size = p) : Calls Try.prog 32 #[.int .i64 2, .int .i64 3, .slice (some ⟨p, 0, none⟩) 1 1] (W.alloc (Obj.cells #[Value.int .i64 5, Value.int .i64 2, Value.int .i64 0, Value.int .i64 0] 38)) fun e w' => e = .returned (.bool false) ∧ Below W.heap.size W w' := by
  subst hp
  have h := fixDone_any (some ⟨W.heap.size, 0, none⟩) 1 1 exT 2 3 _ (by omega) (one_terms W)
  rw [ex3] at h
  exact h.mono fun e w' ⟨h1, h2⟩ => ⟨h1, ((Below.refl _ W).alloc (Nat.le_refl _) _).trans (h2.mono (by simp))⟩
theorem four_cells (w : World) : (w.alloc (Obj.cells #[Value.int .i64 5, Value.int .i64 2, Value.int .i64 0, Value.int .i64 0] 38)).cell? ⟨w.heap.size, 0, none⟩ = some (.int .i64 5) ∧ (w.alloc (Obj.cells #[Value.int .i64 5, Value.int .i64 2, Value.int .i64 0, Value.int .i64 0] 38)).cell? ⟨w.heap.size, 1, none⟩ = some (.int .i64 2) ∧ (w.alloc (Obj.cells #[Value.int .i64 5, Value.int .i64 2, Value.int .i64 0, Value.int .i64 0] 38)).cell? ⟨w.heap.size, 2, none⟩ = some (.int .i64 0) ∧ (w.alloc (Obj.cells #[Value.int .i64 5, Value.int .i64 2, Value.int .i64 0, Value.int .i64 0] 38)).cell? ⟨w.heap.size, 3, none⟩ = some (.int .i64 0) :=
  ⟨World.cell?_alloc_at _ _ _ _ rfl, World.cell?_alloc_at _ _ _ _ rfl, World.cell?_alloc_at _ _ _ _ rfl, World.cell?_alloc_at _ _ _ _ rfl⟩
set_option maxHeartbeats 1000000 in
theorem fixAlive_any (w : World) : Calls Try.prog 33 #[] w fun e w' => e = .returned (.bool true) ∧ Below w.heap.size w w' := by
  obtain ⟨c0, c1, c2, c3⟩ := four_cells w
  have hb := (Below.refl w.heap.size w).alloc (Nat.le_refl _) (Obj.cells #[Value.int .i64 5, Value.int .i64 2, Value.int .i64 0, Value.int .i64 0] 38)
  have C := hid (And.intro c0 (And.intro c1 (And.intro c2 c3)))
  clear c0 c1 c2 c3
  go_enter Try.func33, Try.ntmps33
  go_wp2_with fail
  refine (exL (w.alloc (Obj.cells #[Value.int .i64 5, Value.int .i64 2, Value.int .i64 0, Value.int .i64 0] 38)) _ (by simp)).mono ?_
  rintro e w1 ⟨rfl, h1⟩
  have c0 := kept C.out.1 h1
  have c1 := kept C.out.2.1 h1
  have c2 := kept C.out.2.2.1 h1
  have c3 := kept C.out.2.2.2 h1
  go_wp2_with fail
  refine (exS w1 _ rfl).mono ?_
  rintro e w2 ⟨rfl, h2⟩
  have d0 := kept c0 h2
  have d1 := kept c1 h2
  have d2 := kept c2 h2
  have d3 := kept c3 h2
  clear c0 c1 c2 c3
  go_wp2_with fail
  refine (exD4 w2 _ rfl).mono ?_
  rintro e w3 ⟨rfl, h3⟩
  have c0 := kept d0 h3
  have c1 := kept d1 h3
  have c2 := kept d2 h3
  have c3 := kept d3 h3
  clear d0 d1 d2 d3
  go_wp2_with fail
  refine (exD3 w3 _ rfl).mono ?_
  rintro e w4 ⟨rfl, h4⟩
  go_wp2_with fail
  go_ret
  have b1 := hb.trans (h1.mono hb.size)
  have b2 := b1.trans (h2.mono b1.size)
  have b3 := b2.trans (h3.mono b2.size)
  exact ⟨rfl, b3.trans (h4.mono b3.size)⟩
end Go.Proofs.Ytcjdfgfnpmmcnaa
