/-
  Contracts of the package server (its own numbers) and of the document's.
-/
import Derived.Test.YtcjdfgfnpmmcnaaCheck
namespace Go.Proofs.Ytcjdfgfnpmmcnaa
open Go.RowKit
def sR (p b : Int) : Bool := decide (1 ≤ p ∧ p ≤ 4096 ∧ 1 ≤ b ∧ b ≤ p)
theorem sR_cases (p b : Int) : (1 ≤ p ∧ p ≤ 4096 ∧ 1 ≤ b ∧ b ≤ p ∧ decide (b ≤ p) = true ∧ sR p b = true) ∨ (p < 1 ∧ sR p b = false) ∨ (1 ≤ p ∧ 4096 < p ∧ sR p b = false) ∨ (1 ≤ p ∧ p ≤ 4096 ∧ b < 1 ∧ sR p b = false) ∨ (1 ≤ p ∧ p ≤ 4096 ∧ 1 ≤ b ∧ p < b ∧ decide (b ≤ p) = false ∧ sR p b = false) := by
  unfold sR
  simp only [decide_eq_true_iff, decide_eq_false_iff_not]
  omega
theorem refRight_any (p b : Int) (w : World) : Calls Try.prog 14 #[.int .i64 p, .int .i64 b] w fun e w' => e = .returned (.bool (sR p b)) ∧ w = w' := by
  rcases sR_cases p b with ⟨h1, h2, h3, h4, h5, h⟩ | ⟨h1, h⟩ | ⟨h1, h2, h⟩ | ⟨h1, h2, h3, h⟩ | ⟨h1, h2, h3, h4, h5, h⟩
  all_goals
    rw [h]
    go_enter Try.func14, Try.ntmps14
    go_wp2
    go_ret
    exact ⟨rfl, rfl⟩
theorem right_any (p b : Int) (w : World) : Calls Try.prog 19 #[.agg #[.int .i64 p, .int .i64 b]] w fun e w' => e = .returned (.bool (sR p b)) ∧ Below w.heap.size w w' := by
  rcases sR_cases p b with ⟨h1, h2, h3, h4, h5, h⟩ | ⟨h1, h⟩ | ⟨h1, h2, h⟩ | ⟨h1, h2, h3, h⟩ | ⟨h1, h2, h3, h4, h5, h⟩
  all_goals
    rw [h]
    go_enter Try.func19, Try.ntmps19
    go_wp2
    go_ret
    exact ⟨rfl, (Below.refl _ _).alloc (Nat.le_refl _) _⟩
/-- The ticks that a server gets of so many behind the first gap. -/
def sM (p b n : Int) : Int := n / p * b + if b < n % p then b else n % p
def sL (p b t : Int) : Int := if sR p b = true ∧ 2 * (p - b) < t then sM p b (t - 2 * (p - b)) else 0
theorem mul_le {q b p n : Int} (h0 : 0 ≤ b) (h1 : b ≤ p) (hq : q = n / p) (hn : 0 ≤ n) (hp : 1 ≤ p) : 0 ≤ q * b ∧ q * b ≤ n ∧ 0 ≤ q ∧ q ≤ n := by
  have hq0 : 0 ≤ q := by rw [hq]; exact Int.ediv_nonneg hn (by omega)
  have h2 : q * b ≤ q * p := Int.mul_le_mul_of_nonneg_left h1 hq0
  have h3 : q * p ≤ n := by rw [hq]; exact Int.ediv_mul_le n (by omega)
  have h4 : q * 1 ≤ q * p := Int.mul_le_mul_of_nonneg_left hp hq0
  exact ⟨Int.mul_nonneg hq0 h0, by omega, hq0, by omega⟩
theorem boxed2 {w w1 : World} {u v : Value} {t : TypeId} (h : Below (w.alloc (Obj.cells #[u, v] t)).heap.size (w.alloc (Obj.cells #[u, v] t)) w1) : w1.cell? ⟨w.heap.size, 0, none⟩ = some u ∧ w1.cell? ⟨w.heap.size, 1, none⟩ = some v :=
  ⟨(h.cell (p := ⟨w.heap.size, 0, none⟩) (by simp)).trans (World.cell?_alloc_at _ _ _ _ rfl), (h.cell (p := ⟨w.heap.size, 1, none⟩) (by simp)).trans (World.cell?_alloc_at _ _ _ _ rfl)⟩
theorem least_any (p b t : Int) (ht : t ≤ 9223372036854775807) (w : World) : Calls Try.prog 16 #[.agg #[.int .i64 p, .int .i64 b], .int .i64 t] w fun e w' => e = .returned (.int .i64 (sL p b t)) ∧ Below w.heap.size w w' := by
  have HR := hid (right_any p b)
  rcases sR_cases p b with ⟨h1, h2, h3, h4, h5, h⟩ | ⟨h1, h⟩ | ⟨h1, h2, h⟩ | ⟨h1, h2, h3, h⟩ | ⟨h1, h2, h3, h4, h5, h⟩
  · have e : sL p b t = if 2 * (p - b) < t then sM p b (t - 2 * (p - b)) else 0 := by unfold sL; rw [h]; simp
    rw [h] at HR
    have e1 : (p == 0) = false := by simp; omega
    have u1 : wrap64 (p - b) = p - b := IntWalk.wrap64_in _ ⟨by omega, by omega⟩
    have u2 : wrap64 (2 * (p - b)) = 2 * (p - b) := IntWalk.wrap64_in _ ⟨by omega, by omega⟩
    rw [e]
    generalize hg : 2 * (p - b) = g at u2 ⊢
    by_cases h0 : t < 0
    · rw [if_neg (by omega)]
      go_enter Try.func16, Try.ntmps16
      go_wp2_with (go_at_call 19; refine (HR.out _).mono ?_; rintro e w1 ⟨rfl, hb1⟩)
      go_ret
      exact ⟨rfl, ((Below.refl _ _).alloc (Nat.le_refl _) _).trans (hb1.mono (by simp))⟩
    · by_cases h6 : t ≤ g
      · rw [if_neg (by omega)]
        go_enter Try.func16, Try.ntmps16
        go_wp2_with (go_at_call 19; refine (HR.out _).mono ?_; rintro e w1 ⟨rfl, hb1⟩; have c0 := (boxed2 hb1).1; have c1 := (boxed2 hb1).2)
        go_ret
        exact ⟨rfl, ((Below.refl _ _).alloc (Nat.le_refl _) _).trans (hb1.mono (by simp))⟩
      · rw [if_pos (by omega)]
        have u3 : wrap64 (t - g) = t - g := IntWalk.wrap64_in _ ⟨by omega, by omega⟩
        obtain ⟨q0, q1, q2, q3⟩ := mul_le (q := (t - g) / p) (by omega) h4 rfl (show 0 ≤ t - g by omega) h1
        have q4 := Int.emod_nonneg (t - g) (show p ≠ 0 by omega)
        have q5 := Int.emod_lt_of_pos (t - g) (show 0 < p by omega)
        unfold sM
        have q7 : 0 ≤ (if b < (t - g) % p then b else (t - g) % p) ∧ (if b < (t - g) % p then b else (t - g) % p) ≤ (t - g) % p := by split <;> omega
        have q6 : (t - g) / p * b + (if b < (t - g) % p then b else (t - g) % p) ≤ t - g := by
          have h7 := Int.mul_le_mul_of_nonneg_left h4 q2
          have h8 := Int.ediv_mul_add_emod (t - g) p
          omega
        have u4 : wrap64 ((t - g) / p * b) = (t - g) / p * b := IntWalk.wrap64_in _ ⟨by omega, by omega⟩
        have u5 : wrap64 ((t - g) / p * b + if b < (t - g) % p then b else (t - g) % p) = (t - g) / p * b + if b < (t - g) % p then b else (t - g) % p := IntWalk.wrap64_in _ ⟨by omega, by omega⟩
        go_enter Try.func16, Try.ntmps16
        go_wp2_with (go_at_call 19; refine (HR.out _).mono ?_; rintro e w1 ⟨rfl, hb1⟩; have c0 := (boxed2 hb1).1; have c1 := (boxed2 hb1).2)
        go_quiet (fail)
        go_wp2
        all_goals
          go_ret
          exact ⟨rfl, ((Below.refl _ _).alloc (Nat.le_refl _) _).trans ((hb1.mono (by simp)).trans ⟨rfl, rfl, rfl, Nat.le_refl _, fun _ _ => rfl⟩)⟩
  all_goals
    have e : sL p b t = 0 := by unfold sL; rw [h]; simp
    rw [e]
    rw [h] at HR
    go_enter Try.func16, Try.ntmps16
    go_wp2_with (go_at_call 19; refine (HR.out _).mono ?_; rintro e w1 ⟨rfl, hb1⟩)
    go_ret
    exact ⟨rfl, ((Below.refl _ _).alloc (Nat.le_refl _) _).trans (hb1.mono (by simp))⟩
/-- In so many ticks a server gets so many. -/
def sN (p b k : Int) : Int := 2 * (p - b) + (k - 1) / b * p + k - (k - 1) / b * b
def sW (p b k : Int) : Int × Bool := if sR p b = true ∧ 0 ≤ k ∧ k ≤ 65536 then (if k = 0 then (0, true) else (sN p b k, decide (sN p b k ≤ 65536))) else (0, false)
theorem within_any (p b k : Int) (w : World) : Calls Try.prog 15 #[.agg #[.int .i64 p, .int .i64 b], .int .i64 k] w fun e w' => e = .returned (rv (sW p b k)) ∧ Below w.heap.size w w' := by
  have HR := hid (right_any p b)
  by_cases hk : 0 ≤ k ∧ k ≤ 65536
  · rcases sR_cases p b with ⟨h1, h2, h3, h4, h5, h⟩ | ⟨h1, h⟩ | ⟨h1, h2, h⟩ | ⟨h1, h2, h3, h⟩ | ⟨h1, h2, h3, h4, h5, h⟩
    · rw [h] at HR
      by_cases h0 : k = 0
      · have e : sW p b k = (0, true) := by unfold sW; rw [h]; simp [h0]
        rw [e]
        subst h0
        go_enter Try.func15, Try.ntmps15
        go_wp2_with (go_at_call 19; refine (HR.out _).mono ?_; rintro e w1 ⟨rfl, hb1⟩; have c0 := (boxed2 hb1).1; have c1 := (boxed2 hb1).2)
        go_ret2
        exact ⟨rfl, ((Below.refl _ _).alloc (Nat.le_refl _) _).trans (hb1.mono (by simp))⟩
      · have e : sW p b k = (sN p b k, decide (sN p b k ≤ 65536)) := by unfold sW; rw [h]; simp [h0]; omega
        rw [e]
        have e1 : (b == 0) = false := by simp; omega
        have e2 : (k == 0) = false := by simp; omega
        have e3 : decide (k < 0) = false := by simp; omega
        have e4 : decide (65536 < k) = false := by simp; omega
        have u1 : wrap64 (p - b) = p - b := IntWalk.wrap64_in _ ⟨by omega, by omega⟩
        have u2 : wrap64 (2 * (p - b)) = 2 * (p - b) := IntWalk.wrap64_in _ ⟨by omega, by omega⟩
        have q0 : 0 ≤ (k - 1) / b := Int.ediv_nonneg (by omega) (by omega)
        have q1 : (k - 1) / b ≤ 65536 := by
          have := Int.ediv_le_self b (show 0 ≤ k - 1 by omega)
          omega
        unfold sN
        obtain ⟨q, hq⟩ : ∃ q, (k - 1) / b = q := ⟨_, rfl⟩
        rw [hq] at q0 q1 ⊢
        obtain ⟨x, hx⟩ : ∃ x, q * p = x := ⟨_, rfl⟩
        obtain ⟨y, hy⟩ : ∃ y, q * b = y := ⟨_, rfl⟩
        have x0 : 0 ≤ x := by rw [← hx]; exact Int.mul_nonneg q0 (by omega)
        have y0 : 0 ≤ y := by rw [← hy]; exact Int.mul_nonneg q0 (by omega)
        have x1 : x ≤ 65536 * 4096 := by rw [← hx]; exact Int.mul_le_mul q1 h2 (by omega) (by omega)
        have y1 : y ≤ 65536 * 4096 := by rw [← hy]; exact Int.mul_le_mul q1 (by omega) (by omega) (by omega)
        rw [hx, hy]
        cases hd : decide (2 * (p - b) + x + k - y ≤ 65536)
        all_goals
          go_enter Try.func15, Try.ntmps15
          go_wp2_with (go_at_call 19; refine (HR.out _).mono ?_; rintro e w1 ⟨rfl, hb1⟩; have c0 := (boxed2 hb1).1; have c1 := (boxed2 hb1).2)
          go_ret2
          exact ⟨rfl, ((Below.refl _ _).alloc (Nat.le_refl _) _).trans (hb1.mono (by simp))⟩
    all_goals
      have e : sW p b k = (0, false) := by unfold sW; rw [h]; simp
      rw [e]
      rw [h] at HR
      go_enter Try.func15, Try.ntmps15
      go_wp2_with (go_at_call 19; refine (HR.out _).mono ?_; rintro e w1 ⟨rfl, hb1⟩; have c0 := (boxed2 hb1).1; have c1 := (boxed2 hb1).2)
      go_ret2
      exact ⟨rfl, ((Below.refl _ _).alloc (Nat.le_refl _) _).trans (hb1.mono (by simp))⟩
  · have e : sW p b k = (0, false) := by unfold sW; rw [if_neg (by omega)]
    rw [e]
    cases h : sR p b
    · rw [h] at HR
      go_enter Try.func15, Try.ntmps15
      go_wp2_with (go_at_call 19; refine (HR.out _).mono ?_; rintro e w1 ⟨rfl, hb1⟩; have c0 := (boxed2 hb1).1; have c1 := (boxed2 hb1).2)
      go_ret2
      exact ⟨rfl, ((Below.refl _ _).alloc (Nat.le_refl _) _).trans (hb1.mono (by simp))⟩
    · rw [h] at HR
      rcases (show k < 0 ∨ 0 ≤ k ∧ 65536 < k by omega) with h1 | ⟨h1, h2⟩
      all_goals
        go_enter Try.func15, Try.ntmps15
        go_wp2_with (go_at_call 19; refine (HR.out _).mono ?_; rintro e w1 ⟨rfl, hb1⟩; have c0 := (boxed2 hb1).1; have c1 := (boxed2 hb1).2)
        go_ret2
        exact ⟨rfl, ((Below.refl _ _).alloc (Nat.le_refl _) _).trans (hb1.mono (by simp))⟩
end Go.Proofs.Ytcjdfgfnpmmcnaa
