/-
  Slices of tasks, and a task's term.
-/
import Derived.Test.YtcjdfgfnpmmcnaaDemandSum
import Derived.Test.YtcjdfgfnpmmcnaaTotals
namespace Go.Proofs.Ytcjdfgfnpmmcnaa
open Go.RowKit
/-- A slice of tasks lies there: eleven cells each. -/
def Tasks (w : World) (ao : Option Addr) (n : Nat) (g : Nat → Nat → Int) : Prop := ∀ i, i < n → ∃ b o, ao = some ⟨b, o, none⟩ ∧ ∀ j, j < 11 → w.cell? ⟨b, o + i * 11 + j, none⟩ = some (.int .i64 (g i j))
theorem Tasks.below {w w' : World} {ao : Option Addr} {n : Nat} {g : Nat → Nat → Int} (h : Tasks w ao n g) (hb : Below w.heap.size w w') : Tasks w' ao n g := fun i hi => by
  obtain ⟨b, o, e, hc⟩ := h i hi
  exact ⟨b, o, e, fun j hj => kept (hc j hj) hb⟩
theorem Tasks.less {w : World} {ao : Option Addr} {n m : Nat} {g : Nat → Nat → Int} (h : Tasks w ao n g) (hm : m ≤ n) : Tasks w ao m g := fun i hi => h i (by omega)
/-- A task's cells, one by one. -/
theorem Tasks.at_ {w : World} {b o n : Nat} {g : Nat → Nat → Int} (h : Tasks w (some ⟨b, o, none⟩) n g) {i : Nat} (hi : i < n) :
    (w.cell? ⟨b, o + i * 11, none⟩ = some (.int .i64 (g i 0)) ∧ w.cell? ⟨b, o + i * 11 + 1, none⟩ = some (.int .i64 (g i 1)) ∧ w.cell? ⟨b, o + i * 11 + 2, none⟩ = some (.int .i64 (g i 2)) ∧ w.cell? ⟨b, o + i * 11 + 3, none⟩ = some (.int .i64 (g i 3))) ∧
    (w.cell? ⟨b, o + i * 11 + 4, none⟩ = some (.int .i64 (g i 4)) ∧ w.cell? ⟨b, o + i * 11 + 5, none⟩ = some (.int .i64 (g i 5)) ∧ w.cell? ⟨b, o + i * 11 + 6, none⟩ = some (.int .i64 (g i 6)) ∧ w.cell? ⟨b, o + i * 11 + 7, none⟩ = some (.int .i64 (g i 7))) ∧
    (w.cell? ⟨b, o + i * 11 + 8, none⟩ = some (.int .i64 (g i 8)) ∧ w.cell? ⟨b, o + i * 11 + 9, none⟩ = some (.int .i64 (g i 9)) ∧ w.cell? ⟨b, o + i * 11 + 10, none⟩ = some (.int .i64 (g i 10))) := by
  obtain ⟨b', o', e, hc⟩ := h i hi
  cases e
  exact ⟨⟨hc 0 (by decide), hc 1 (by decide), hc 2 (by decide), hc 3 (by decide)⟩, ⟨hc 4 (by decide), hc 5 (by decide), hc 6 (by decide), hc 7 (by decide)⟩, hc 8 (by decide), hc 9 (by decide), hc 10 (by decide)⟩
theorem Tasks.form {w : World} {ao : Option Addr} {n : Nat} {g : Nat → Nat → Int} (h : Tasks w ao n g) {i : Nat} (hi : i < n) : ∃ b o, ao = some ⟨b, o, none⟩ ∧ b < w.heap.size := by
  obtain ⟨b, o, e, hc⟩ := h i hi
  exact ⟨b, o, e, cell_lt (hc 0 (by decide))⟩
/-- A task's numbers are within the law's bounds. -/
structure OkT (x : Nat → Int) : Prop where
  p1 : 1 ≤ x 0
  p2 : x 0 ≤ 400
  d1 : 1 ≤ x 1
  d2 : x 1 ≤ x 0
  c1 : 1 ≤ x 2
  c2 : x 2 ≤ x 1
def termOf (x : Nat → Int) : TT := ⟨x 0, x 2, 0, 0⟩
theorem OkT.fit {x : Nat → Int} (h : OkT x) : Fit (termOf x) := by
  obtain ⟨h1, h2, h3, h4, h5, h6⟩ := h
  exact ⟨h1, by show x 0 ≤ _; omega, by show 0 ≤ x 2; omega, by show x 2 ≤ _; omega, by show (0 : Int) ≤ 0; omega, by show (0 : Int) ≤ _; omega, by show (0 : Int) ≤ 0; omega, by show (0 : Int) ≤ _; omega⟩
theorem okT_cases (x : Nat → Int) : OkT x ∨ (¬ OkT x ∧ (x 0 < 1 ∨ (1 ≤ x 0 ∧ 400 < x 0) ∨ (1 ≤ x 0 ∧ x 0 ≤ 400 ∧ x 1 < 1) ∨ (1 ≤ x 0 ∧ x 0 ≤ 400 ∧ 1 ≤ x 1 ∧ decide (x 0 < x 1) = true) ∨
    (1 ≤ x 0 ∧ x 0 ≤ 400 ∧ 1 ≤ x 1 ∧ decide (x 0 < x 1) = false ∧ x 2 < 1) ∨ (1 ≤ x 0 ∧ x 0 ≤ 400 ∧ 1 ≤ x 1 ∧ decide (x 0 < x 1) = false ∧ 1 ≤ x 2 ∧ decide (x 1 < x 2) = true))) := by
  by_cases h : 1 ≤ x 0 ∧ x 0 ≤ 400 ∧ 1 ≤ x 1 ∧ x 1 ≤ x 0 ∧ 1 ≤ x 2 ∧ x 2 ≤ x 1
  · exact .inl ⟨h.1, h.2.1, h.2.2.1, h.2.2.2.1, h.2.2.2.2.1, h.2.2.2.2.2⟩
  · refine .inr ⟨fun g => h ⟨g.p1, g.p2, g.d1, g.d2, g.c1, g.c2⟩, ?_⟩
    simp only [decide_eq_true_iff, decide_eq_false_iff_not]
    omega
/-- A task as a value. -/
@[go_sem] def tv (x : Nat → Int) : Value := .agg #[.int .i64 (x 0), .int .i64 (x 1), .int .i64 (x 2), .int .i64 (x 3), .int .i64 (x 4), .int .i64 (x 5), .int .i64 (x 6), .int .i64 (x 7), .int .i64 (x 8), .int .i64 (x 9), .int .i64 (x 10)]
theorem of_any (x : Nat → Int) (o : Int) (w : World) : Calls Try.prog 64 #[tv x, .int .i64 o] w fun e w' => e = .returned (.agg #[.int .i64 (x 0), .int .i64 (x 2), .int .i64 o, .int .i64 0]) ∧ Below w.heap.size w w' := by
  unfold tv
  go_enter Try.func64, Try.ntmps64
  go_wp2
  exact bodyPost_ret (v := .agg #[.int .i64 (x 0), .int .i64 (x 2), .int .i64 o, .int .i64 0]) (by simp [results, Try.results64, go_sem]) rfl ⟨rfl, (((Below.refl w.heap.size w).alloc (Nat.le_refl _) _).alloc (by simp) _)⟩
set_option maxHeartbeats 1000000 in
theorem right56_any (ao : Option Addr) (n cap : Nat) (g : Nat → Nat → Int) (most : Nat) (w : World) (hm : n ≤ maxLen) (hs : most ≤ 100) (hT : Tasks w ao n g) :
    Calls Try.prog 35 #[.slice ao n cap, .int .i64 most] w fun e w' => ∃ r : Bool, e = .returned (.bool r) ∧ (r = true ↔ n ≤ most ∧ ∀ i, i < n → OkT (g i)) ∧ Below w.heap.size w w' := by
  unfold maxLen at hm
  by_cases h : most < n
  · have hd : decide ((most : Int) < n) = true := by simp; omega
    go_enter Try.func35, Try.ntmps35
    go_wp2
    go_ret
    exact ⟨false, rfl, by simp; intros; omega, Below.refl _ _⟩
  · have hd : decide ((most : Int) < n) = false := by simp; omega
    go_enter Try.func35, Try.ntmps35
    go_wp2
    go_loopw [5, 6] (fun i _ wr => ∃ k : Nat, k ≤ n ∧ i = .int .i64 k ∧ Hid (∀ j, j < k → OkT (g j)) ∧ Below w.heap.size w wr) (fun i _ _ => n - (intOf i).toNat)
    case atStart => exact ⟨0, by omega, rfl, (fun j hj => by omega), Below.refl _ _⟩
    case round =>
      obtain ⟨k, hk, rfl, HF, hb⟩ := hrel
      by_cases hlt : k < n
      · obtain ⟨b, o, rfl, hbl⟩ := hT.form hlt
        obtain ⟨⟨c0, c1, c2, c3⟩, ⟨c4, c5, c6, c7⟩, c8, c9, c10⟩ := (hT.below hb).at_ hlt
        rcases okT_cases (g k) with hf | ⟨hno, hf | hf | hf | hf | hf | hf⟩
        · have HF2 : Hid (∀ j, j < k + 1 → OkT (g j)) := fun j hj => by
            rcases (show j < k ∨ j = k by omega) with e | rfl
            · exact HF.out j e
            · exact hf
          obtain ⟨p1, p2, p3, p4, p5, p6⟩ := hf
          have d1 : decide (g k 0 < g k 1) = false := by simp; omega
          have d2 : decide (g k 1 < g k 2) = false := by simp; omega
          go_wp2
          go_roundw
          case rel => exact ⟨k + 1, by omega, by go_num, HF2, hb.alloc hb.size _⟩
          case measure => simp [intOf]; omega
        all_goals
          have hno2 : Hid (¬ ∀ i, i < n → OkT (g i)) := fun h => hno (h k hlt)
          clear hno
          go_wp2
          go_ret
          exact ⟨false, rfl, by simp only [Bool.false_eq_true, false_iff]; exact fun h => hno2.out h.2, hb.alloc hb.size _⟩
      · obtain rfl : k = n := by omega
        go_wp2
        go_ret
        exact ⟨true, rfl, by simp only [true_iff]; exact ⟨by omega, HF.out⟩, hb⟩
end Go.Proofs.Ytcjdfgfnpmmcnaa
