/-
  The walk of DemandComes.
-/
import Derived.Test.YtijnpkbijljnlaaDoorDemand
namespace Go.Proofs.YtijnpkbijljnlaaDoor
open Go.RowKit
theorem jobs_yes {p o t : Int} (hp : 1 ≤ p) (hp2 : p ≤ 100000) (ho : 0 ≤ o) (ho2 : o ≤ 1073741824) (ht : 0 ≤ t) (ht2 : t ≤ 1073741825) : jobsR p o t = ((max (t - o) 0 + p - 1) / p, true) := by
  have h1 : lessR t o = (max (t - o) 0, true) := by
    unfold lessR
    rw [inB_mk ht (by omega), inB_mk ho (by omega)]; rfl
  unfold jobsR
  rw [h1]
  simp only [if_true]
  unfold upR
  rw [inB_mk (n := max (t - o) 0) (by omega) (by omega), inB_mk (n := p) (by omega) (by omega), if_pos]
  have : (p == 0) = false := by simp; omega
  rw [this]; rfl
/-- Just so many jobs come ahead of the end. -/
theorem jobs_count {p o t : Int} {k : Nat} (hp : 1 ≤ p) (h1 : k = 0 ∨ o + (k : Int) * p - p < t) (h2 : t ≤ o + (k : Int) * p) : (max (t - o) 0 + p - 1) / p = k := by
  have key : ∀ r, 0 ≤ r → r < p → max (t - o) 0 + p - 1 = (k : Int) * p + r → (max (t - o) 0 + p - 1) / p = k := fun r h0 h3 e => by
    rw [e, show (k : Int) * p + r = r + (k : Int) * p by omega, Int.add_mul_ediv_right _ _ (by omega), Int.ediv_eq_zero_of_lt h0 h3]; omega
  rcases h1 with h1 | h1
  · subst h1
    rw [show ((0 : Nat) : Int) * p = 0 by simp] at h2 key
    exact key (max (t - o) 0 + p - 1) (by omega) (by omega) (by omega)
  · have hk : 0 ≤ (k : Int) * p := Int.mul_nonneg (Int.natCast_nonneg _) (by omega)
    by_cases hz : k = 0
    · subst hz
      rw [show ((0 : Nat) : Int) * p = 0 by simp] at h2 key
      exact key (max (t - o) 0 + p - 1) (by omega) (by omega) (by omega)
    · have hk2 : p ≤ (k : Int) * p := by
        have := Int.mul_le_mul_of_nonneg_right (show (1 : Int) ≤ (k : Int) by omega) (show 0 ≤ p by omega)
        omega
      exact key (max (t - o) 0 + p - 1 - (k : Int) * p) (by omega) (by omega) (by omega)
theorem jobs_more {p o t : Int} (hp : 1 ≤ p) : (max (t - o) 0 + p - 1) / p ≤ (max (t + 1 - o) 0 + p - 1) / p := Int.ediv_le_ediv (by omega) (by omega)
end Go.Proofs.YtijnpkbijljnlaaDoor
