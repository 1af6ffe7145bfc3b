/-
  Slices of tasks, and a task's term.
-/
import Derived.Test.YtijnpkbijljnlaaDoorDemandSum
import Derived.Test.YtijnpkbijljnlaaDoorTotals
namespace Go.Proofs.YtijnpkbijljnlaaDoor
open Go.RowKit
/-- A slice of tasks lies there: eleven cells each. -/
def Tasks (w : World) (ao : Option Addr) (n : Nat) (g : Nat → Nat → Int) : Prop := ∀ i, i < n → ∃ b o, ao = some ⟨b, o, none⟩ ∧ ∀ j, j < 11 → w.cell? ⟨b, o + i * 11 + j, none⟩ = some (.int .i64 (g i j))
theorem Tasks.below {w w' : World} {ao : Option Addr} {n : Nat} {g : Nat → Nat → Int} (h : Tasks w ao n g) (hb : Below w.heap.size w w') : Tasks w' ao n g := fun i hi => by
  obtain ⟨b, o, e, hc⟩ := h i hi
  exact ⟨b, o, e, fun j hj => kept (hc j hj) hb⟩
theorem Tasks.less {w : World} {ao : Option Addr} {n m : Nat} {g : Nat → Nat → Int} (h : Tasks w ao n g) (hm : m ≤ n) : Tasks w ao m g := fun i hi => h i (by omega)
/-- A task's cells, one by one. -/
theorem Tasks.at_ {w : World} {b o n : Nat} {g : Nat → Nat → Int} (h : Tasks w (some ⟨b, o, none⟩) n g) {i : Nat} (hi : i < n) :
    (w.cell? ⟨b, o + i * 11, none⟩ = some (.int .i64 (g i 0)) ∧ w.cell? ⟨b, o + i * 11 + 1, none⟩ = some (.int .i64 (g i 1)) ∧ w.cell? ⟨b, o + i * 11 + 2, none⟩ = some (.int .i64 (g i 2)) ∧ w.cell? ⟨b, o + i * 11 + 3, none⟩ = some (.int .i64 (g i 3))) ∧
    (w.cell? ⟨b, o + i * 11 + 4, none⟩ = some (.int .i64 (g i 4)) ∧ w.cell? ⟨b, o + i * 11 + 5, none⟩ = some (.int .i64 (g i 5)) ∧ w.cell? ⟨b, o + i * 11 + 6, none⟩ = some (.int .i64 (g i 6)) ∧ w.cell? ⟨b, o + i * 11 + 7, none⟩ = some (.int .i64 (g i 7))) ∧
    (w.cell? ⟨b, o + i * 11 + 8, none⟩ = some (.int .i64 (g i 8)) ∧ w.cell? ⟨b, o + i * 11 + 9, none⟩ = some (.int .i64 (g i 9)) ∧ w.cell? ⟨b, o + i * 11 + 10, none⟩ = some (.int .i64 (g i 10))) := by
  obtain ⟨b', o', e, hc⟩ := h i hi
  cases e
  exact ⟨⟨hc 0 (by decide), hc 1 (by decide), hc 2 (by decide), hc 3 (by decide)⟩, ⟨hc 4 (by decide), hc 5 (by decide), hc 6 (by decide), hc 7 (by decide)⟩, hc 8 (by decide), hc 9 (by decide), hc 10 (by decide)⟩
theorem Tasks.form {w : World} {ao : Option Addr} {n : Nat} {g : Nat → Nat → Int} (h : Tasks w ao n g) {i : Nat} (hi : i < n) : ∃ b o, ao = some ⟨b, o, none⟩ ∧ b < w.heap.size := by
  obtain ⟨b, o, e, hc⟩ := h i hi
  exact ⟨b, o, e, cell_lt (hc 0 (by decide))⟩
/-- A task's numbers are within the law's bounds. -/
structure OkT (x : Nat → Int) : Prop where
  p1 : 1 ≤ x 0
  p2 : x 0 ≤ 400
  d1 : 1 ≤ x 1
  d2 : x 1 ≤ x 0
  c1 : 1 ≤ x 2
  c2 : x 2 ≤ x 1
def termOf (x : Nat → Int) : TT := ⟨x 0, x 2, 0, 0⟩
theorem OkT.fit {x : Nat → Int} (h : OkT x) : Fit (termOf x) := by
  obtain ⟨h1, h2, h3, h4, h5, h6⟩ := h
  exact ⟨h1, by show x 0 ≤ _; omega, by show 0 ≤ x 2; omega, by show x 2 ≤ _; omega, by show (0 : Int) ≤ 0; omega, by show (0 : Int) ≤ _; omega, by show (0 : Int) ≤ 0; omega, by show (0 : Int) ≤ _; omega⟩
theorem okT_cases (x : Nat → Int) : OkT x ∨ (¬ OkT x ∧ (x 0 < 1 ∨ (1 ≤ x 0 ∧ 400 < x 0) ∨ (1 ≤ x 0 ∧ x 0 ≤ 400 ∧ x 1 < 1) ∨ (1 ≤ x 0 ∧ x 0 ≤ 400 ∧ 1 ≤ x 1 ∧ decide (x 0 < x 1) = true) ∨
    (1 ≤ x 0 ∧ x 0 ≤ 400 ∧ 1 ≤ x 1 ∧ decide (x 0 < x 1) = false ∧ x 2 < 1) ∨ (1 ≤ x 0 ∧ x 0 ≤ 400 ∧ 1 ≤ x 1 ∧ decide (x 0 < x 1) = false ∧ 1 ≤ x 2 ∧ decide (x 1 < x 2) = true))) := by
  by_cases h : 1 ≤ x 0 ∧ x 0 ≤ 400 ∧ 1 ≤ x 1 ∧ x 1 ≤ x 0 ∧ 1 ≤ x 2 ∧ x 2 ≤ x 1
  · exact .inl ⟨h.1, h.2.1, h.2.2.1, h.2.2.2.1, h.2.2.2.2.1, h.2.2.2.2.2⟩
  · refine .inr ⟨fun g => h ⟨g.p1, g.p2, g.d1, g.d2, g.c1, g.c2⟩, ?_⟩
    simp only [decide_eq_true_iff, decide_eq_false_iff_not]
    omega
/-- A task as a value. -/
@[go_sem] def tv (x : Nat → Int) : Value := .agg #[.int .i64 (x 0), .int .i64 (x 1), .int .i64 (x 2), .int .i64 (x 3), .int .i64 (x 4), .int .i64 (x 5), .int .i64 (x 6), .int .i64 (x 7), .int .i64 (x 8), .int .i64 (x 9), .int .i64 (x 10)]
theorem of_any (x : Nat → Int) (o : Int) (w : World) : Calls Tryd.prog 10 #[tv x, .int .i64 o] w fun e w' => e = .returned (.agg #[.int .i64 (x 0), .int .i64 (x 2), .int .i64 o, .int .i64 0]) ∧ Below w.heap.size w w' := by
  unfold tv
  go_enter Tryd.func10, Tryd.ntmps10
  go_wp2
  exact bodyPost_ret (v := .agg #[.int .i64 (x 0), .int .i64 (x 2), .int .i64 o, .int .i64 0]) (by simp [results, Tryd.results10, go_sem]) rfl ⟨rfl, (((Below.refl w.heap.size w).alloc (Nat.le_refl _) _).alloc (by simp) _)⟩
end Go.Proofs.YtijnpkbijljnlaaDoor
