/-
  Those of a set that an image has, and what each asks for.
-/
import Derived.Test.YtijnpkbijljnlaaDoorLoadOverLaw
import Derived.Test.YtijnpkbijljnlaaDoorCheck10
namespace Go.Proofs.YtijnpkbijljnlaaDoor
theorem selT_range (s n : Nat) (hn : n ≤ 32) : selT s n = (List.range n).filter fun j => s.testBit j := by
  have h1 : selT s n = (List.range 32).filter fun j => s.testBit j && decide (j < n) := by
    simp [selT, bitsOf, List.filter_filter, Bool.and_comm]
  obtain ⟨k, hk⟩ : ∃ k, 32 = n + k := ⟨32 - n, by omega⟩
  have h2 := List.range'_append_1 (s := 0) (m := n) (n := k)
  rw [h1, hk, List.range_eq_range', ← h2, List.filter_append, Nat.zero_add]
  have h3 : (List.range' n k).filter (fun j => s.testBit j && decide (j < n)) = [] := by
    rw [List.filter_eq_nil_iff]
    intro j hj
    have := (List.mem_range'_1.1 hj).1
    simp; omega
  rw [h3, List.append_nil, List.range_eq_range']
  apply List.filter_congr
  intro j hj
  have := (List.mem_range'_1.1 hj).2
  simp; omega
theorem selT_succ (s n : Nat) (hn : n < 32) : selT s (n + 1) = if s.testBit n then selT s n ++ [n] else selT s n := by
  rw [selT_range s (n + 1) (by omega), selT_range s n (by omega), List.range_succ, List.filter_append]
  cases h : s.testBit n <;> simp [h]
theorem selT_zero (s : Nat) : selT s 0 = [] := by rw [selT_range s 0 (by omega)]; rfl
theorem mem_selT {s n i : Nat} (hn : n ≤ 32) : i ∈ selT s n ↔ i < n ∧ s.testBit i = true := by
  rw [selT_range s n hn]; simp
theorem selT_length (s n : Nat) (hn : n ≤ 32) : (selT s n).length ≤ n := by
  rw [selT_range s n hn]
  have := List.length_filter_le (fun j => s.testBit j) (List.range n)
  simpa using this
theorem ofV_ok {x : Nat → Int} {r : Int} (h : OkTask x r) : ofV x = (1000 * x 2 + x 0 - 1) / x 0 := by
  have h1 := h.p1; have h2 := h.p2; have h3 := h.c1; have h4 := h.c2; have h5 := h.d2
  have e : ofA x = 1000 * x 2 := by unfold ofA; omega
  unfold ofV
  rw [e]
  have : upR (1000 * x 2) (x 0) = ((1000 * x 2 + x 0 - 1) / x 0, true) := by
    unfold upR
    rw [inB_mk (by omega) (by omega), inB_mk (by omega) (by omega), show (x 0 == 0) = false by simp; omega]
    rfl
  rw [this]; rfl
theorem ofV_part {x : Nat → Int} {r : Int} (h : OkTask x r) : 0 ≤ (1000 * x 2 + x 0 - 1) / x 0 ∧ (1000 * x 2 + x 0 - 1) / x 0 ≤ 4096000 := by
  have h1 := h.p1; have h2 := h.p2; have h3 := h.c1; have h4 := h.c2; have h5 := h.d2
  refine ⟨Int.ediv_nonneg (by omega) (by omega), ?_⟩
  have : (1000 * x 2 + x 0 - 1) / x 0 ≤ 1000 * x 2 + x 0 - 1 := Int.ediv_le_self _ (by omega)
  rcases (show x 0 = 1 ∨ 2 ≤ x 0 by omega) with e | e
  · omega
  · have h6 : (1000 * x 2 + x 0 - 1) / x 0 < 1001 := by
      apply Int.ediv_lt_of_lt_mul (by omega)
      omega
    omega
/-- Those ahead of one, in a set. -/
theorem selT_split {s n : Nat} (hn : n ≤ 32) (h : selT s n ≠ []) : ∃ i, i < n ∧ s.testBit i = true ∧ selT s n = selT s i ++ [i] := by
  induction n with
  | zero => exact absurd (selT_zero s) h
  | succ n ih =>
    rw [selT_succ s n (by omega)] at h ⊢
    cases hb : s.testBit n
    · rw [hb] at h
      simp only [Bool.false_eq_true, if_false] at h ⊢
      obtain ⟨i, h1, h2, h3⟩ := ih (by omega) h
      exact ⟨i, by omega, h2, h3⟩
    · simp only [if_true]
      exact ⟨n, by omega, hb, rfl⟩
/-- A set cut down to those that an image has. -/
theorem selT_cut {s n i : Nat} (hn : n ≤ 32) (hi : i ≤ n) : selT (s % 2 ^ n) i = selT s i := by
  rw [selT_range _ i (by omega), selT_range s i (by omega)]
  apply List.filter_congr
  intro j hj
  have := List.mem_range.1 hj
  rw [Nat.testBit_mod_two_pow]
  simp; omega
end Go.Proofs.YtijnpkbijljnlaaDoor
