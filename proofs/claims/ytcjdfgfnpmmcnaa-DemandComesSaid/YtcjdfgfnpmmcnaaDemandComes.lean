/-
  The walk of DemandComes.
-/
import Derived.Test.YtcjdfgfnpmmcnaaDemand
namespace Go.Proofs.Ytcjdfgfnpmmcnaa
open Go.RowKit
theorem jobs_yes {p o t : Int} (hp : 1 ≤ p) (hp2 : p ≤ 100000) (ho : 0 ≤ o) (ho2 : o ≤ 1073741824) (ht : 0 ≤ t) (ht2 : t ≤ 1073741825) : jobsR p o t = ((max (t - o) 0 + p - 1) / p, true) := by
  have h1 : lessR t o = (max (t - o) 0, true) := by
    unfold lessR
    rw [inB_mk ht (by omega), inB_mk ho (by omega)]; rfl
  unfold jobsR
  rw [h1]
  simp only [if_true]
  unfold upR
  rw [inB_mk (n := max (t - o) 0) (by omega) (by omega), inB_mk (n := p) (by omega) (by omega), if_pos]
  have : (p == 0) = false := by simp; omega
  rw [this]; rfl
/-- Just so many jobs come ahead of the end. -/
theorem jobs_count {p o t : Int} {k : Nat} (hp : 1 ≤ p) (h1 : k = 0 ∨ o + (k : Int) * p - p < t) (h2 : t ≤ o + (k : Int) * p) : (max (t - o) 0 + p - 1) / p = k := by
  have key : ∀ r, 0 ≤ r → r < p → max (t - o) 0 + p - 1 = (k : Int) * p + r → (max (t - o) 0 + p - 1) / p = k := fun r h0 h3 e => by
    rw [e, show (k : Int) * p + r = r + (k : Int) * p by omega, Int.add_mul_ediv_right _ _ (by omega), Int.ediv_eq_zero_of_lt h0 h3]; omega
  rcases h1 with h1 | h1
  · subst h1
    rw [show ((0 : Nat) : Int) * p = 0 by simp] at h2 key
    exact key (max (t - o) 0 + p - 1) (by omega) (by omega) (by omega)
  · have hk : 0 ≤ (k : Int) * p := Int.mul_nonneg (Int.natCast_nonneg _) (by omega)
    by_cases hz : k = 0
    · subst hz
      rw [show ((0 : Nat) : Int) * p = 0 by simp] at h2 key
      exact key (max (t - o) 0 + p - 1) (by omega) (by omega) (by omega)
    · have hk2 : p ≤ (k : Int) * p := by
        have := Int.mul_le_mul_of_nonneg_right (show (1 : Int) ≤ (k : Int) by omega) (show 0 ≤ p by omega)
        omega
      exact key (max (t - o) 0 + p - 1 - (k : Int) * p) (by omega) (by omega) (by omega)
theorem jobs_more {p o t : Int} (hp : 1 ≤ p) : (max (t - o) 0 + p - 1) / p ≤ (max (t + 1 - o) 0 + p - 1) / p := Int.ediv_le_ediv (by omega) (by omega)
set_option maxHeartbeats 1000000 in
theorem comes_walk (p c o k t : Int) (w : World) : Calls Try.prog 5 #[.agg #[.int .i64 p, .int .i64 c, .int .i64 o, .int .i64 k], .int .i64 t] w fun e w' => e = .returned (.bool true) ∧ Below w.heap.size w w' := by
  by_cases h : 1 ≤ p ∧ p ≤ 100000 ∧ 0 ≤ o ∧ o ≤ 1073741824 ∧ 0 ≤ t ∧ t ≤ 1073741824 ∧ t / p ≤ 2000
  · obtain ⟨h1, h2, h3, h4, h5, h6, h7⟩ := h
    have HJ1 := hid (jobs_any p c o k t)
    have HJ2 := hid (jobs_any p c o k (t + 1))
    rw [jobs_yes h1 h2 h3 h4 h5 (by omega)] at HJ1
    rw [jobs_yes h1 h2 h3 h4 (show 0 ≤ t + 1 by omega) (by omega)] at HJ2
    have hm := jobs_more (o := o) (t := t) h1
    have HC : Hid (∀ q : Nat, (q = 0 ∨ o + (q : Int) * p - p < t) → t ≤ o + (q : Int) * p → (max (t - o) 0 + p - 1) / p = q) := fun q => jobs_count h1
    generalize (max (t - o) 0 + p - 1) / p = n at HJ1 hm HC
    generalize (max (t + 1 - o) 0 + p - 1) / p = m at HJ2 hm
    have e1 : (p == 0) = false := by simp; omega
    have e7 : decide (2000 < t / p) = false := by simp; omega
    have e8 : decide (n ≤ m) = true := by simp; omega
    clear h7
    go_enter Try.func5, Try.ntmps5
    go_wp2_with (go_at_call 22; refine (HJ1.out _).mono ?_; rintro e w1 ⟨rfl, hb1⟩; have c0 := (boxed4 hb1).1; have c1 := (boxed4 hb1).2.1; have c2 := (boxed4 hb1).2.2.1; have c3 := (boxed4 hb1).2.2.2)
    go_loop [7, 8] (fun i a => ∃ q : Nat, ∃ y : Int, y = (q : Int) * p ∧ i = .int .i64 q ∧ a = .int .i64 (o + y) ∧ q ≤ y ∧ 0 ≤ y ∧ y ≤ 1073841824 ∧ (q = 0 ∨ o + y - p < t)) (fun _ a => (t - intOf a).toNat)
    case atStart => exact ⟨0, 0, by simp, rfl, by simp, by omega, by omega, by omega, .inl rfl⟩
    case round =>
      obtain ⟨q, y, hy, rfl, rfl, hqy, y0, y1, hr⟩ := hrel
      have HY := hid hy
      have HR := hid hr
      clear hy hr
      by_cases hlt : o + y < t
      · go_wp2
        go_round
        case rel => exact ⟨q + 1, y + p, by rw [HY.out]; simp [Int.add_mul], by go_num, by congr 1; omega, by omega, by omega, by omega, .inr (by omega)⟩
        case measure => simp [intOf]; omega
      · have hn : n = (q : Int) := HC.out q (by rw [← HY.out]; exact HR.out) (by rw [← HY.out]; omega)
        subst hn
        have b1 := ((Below.refl w.heap.size w).alloc (Nat.le_refl _) (Obj.cells #[Value.int .i64 p, Value.int .i64 c, Value.int .i64 o, Value.int .i64 k] 38)).trans (hb1.mono (by simp))
        clear HC HY HR
        go_wp2_with (first | (go_at_call 22; refine (HJ2.out _).mono ?_; rintro e w2 ⟨rfl, hb2⟩) | (go_at_call 23; refine (demandAlive_any _).mono ?_; rintro e w3 ⟨rfl, hb3⟩))
        go_ret
        have b2 := b1.trans (hb2.mono b1.size)
        exact ⟨rfl, b2.trans (hb3.mono b2.size)⟩
  · have hb := (Below.refl w.heap.size w).alloc (Nat.le_refl _) (Obj.cells #[Value.int .i64 p, Value.int .i64 c, Value.int .i64 o, Value.int .i64 k] 38)
    rcases (show p < 1 ∨ 1 ≤ p ∧ 100000 < p ∨ 1 ≤ p ∧ p ≤ 100000 ∧ o < 0 ∨ 1 ≤ p ∧ p ≤ 100000 ∧ 0 ≤ o ∧ 1073741824 < o ∨ 1 ≤ p ∧ p ≤ 100000 ∧ 0 ≤ o ∧ o ≤ 1073741824 ∧ t < 0 ∨ 1 ≤ p ∧ p ≤ 100000 ∧ 0 ≤ o ∧ o ≤ 1073741824 ∧ 0 ≤ t ∧ 1073741824 < t ∨ 1 ≤ p ∧ p ≤ 100000 ∧ 0 ≤ o ∧ o ≤ 1073741824 ∧ 0 ≤ t ∧ t ≤ 1073741824 ∧ 2000 < t / p by generalize t / p = z at h ⊢; omega) with h1 | ⟨h1, h2⟩ | ⟨h1, h2, h3⟩ | ⟨h1, h2, h3, h4⟩ | ⟨h1, h2, h3, h4, h5⟩ | ⟨h1, h2, h3, h4, h5, h6⟩ | ⟨h1, h2, h3, h4, h5, h6, h7⟩
    case inr.inr.inr.inr.inr.inr =>
      have e1 : (p == 0) = false := by simp; omega
      have e7 : decide (2000 < t / p) = true := by simp; omega
      clear h7 h
      go_enter Try.func5, Try.ntmps5
      go_wp2
      go_ret
      exact ⟨rfl, hb⟩
    all_goals
      clear h
      go_enter Try.func5, Try.ntmps5
      go_wp2
      go_ret
      exact ⟨rfl, hb⟩
end Go.Proofs.Ytcjdfgfnpmmcnaa
