/-
  Plain law of the layer 46: what fits by fixed priorities fits by deadlines.
-/
import Derived.Test.YtnpbogamoanbiaaEdfLaw2
namespace Go.Proofs.Ytnpbogamoanbiaa
/-- How many jobs may come in so many ticks. -/
theorem jobs_sub {p s r : Int} (hp : 1 ≤ p) : (s + r + p - 1) / p ≤ (s + p - 1) / p + (r + p - 1) / p := by
  have h1 := Int.ediv_mul_add_emod (s + p - 1) p
  have h2 := Int.emod_lt_of_pos (s + p - 1) (show 0 < p by omega)
  have h3 := Int.ediv_mul_add_emod (r + p - 1) p
  have h4 := Int.emod_lt_of_pos (r + p - 1) (show 0 < p by omega)
  have h5 : (s + r + p - 1) / p < (s + p - 1) / p + (r + p - 1) / p + 1 := by
    refine Int.ediv_lt_of_lt_mul (by omega) ?_
    rw [Int.add_mul, Int.add_mul, Int.one_mul]
    omega
  omega
theorem comes_sub {f : Nat → TK} {n : Nat} (h : ∀ i, i < n → OkK (f i)) {s r : Int} : comes (s + r) f n ≤ comes s f n + comes r f n := by
  induction n with
  | zero => simp [comes]
  | succ n ih =>
    have h1 := ih fun i hi => h i (by omega)
    obtain ⟨p1, p2, d1, d2, c1, c2⟩ := h n (by omega)
    have h2 := Int.mul_le_mul_of_nonneg_right (jobs_sub (s := s) (r := r) p1) (show 0 ≤ (f n).c by omega)
    rw [Int.add_mul] at h2
    simp only [comes]
    omega
/-- By fixed priorities a task is done in time. -/
def InTime (f : Nat → TK) (i : Nat) : Prop := ∃ R, 1 ≤ R ∧ R ≤ (f i).d ∧ (f i).c + comes R f i ≤ R
theorem best_step (f : Nat → TK) : ∀ n, (∀ i, i < n → OkK (f i)) → (∀ i, i < n → InTime f i) → ∀ (k : Nat) (s t : Int), (t - s).toNat ≤ k → 0 ≤ s → s ≤ t → hasN t f n ≤ comes s f n + (t - s) := by
  intro n
  induction n with
  | zero => intro _ _ k s t _ _ h; simp only [hasN, comes]; omega
  | succ n ihn =>
    intro hO hI k
    have hOn := fun i (hi : i < n) => hO i (by omega)
    obtain ⟨R, hR1, hRd, hRc⟩ := hI n (by omega)
    have hx := hO n (by omega)
    obtain ⟨p1, p2, d1, d2, c1, c2⟩ := hO n (by omega)
    induction k with
    | zero =>
      intro s t hk h0 hst
      have e : s = t := by omega
      subst e
      have h1 := ihn hOn (fun i hi => hI i (by omega)) 0 s s (by omega) h0 (Int.le_refl _)
      have h2 : has1 s (f n) ≤ (s + (f n).p - 1) / (f n).p * (f n).c := by
        unfold has1
        split
        · exact (jobsK_bound hx h0).2.2.1
        · refine Int.mul_le_mul_of_nonneg_right ?_ (by omega)
          have e : (s - (f n).d) / (f n).p + 1 = (s - (f n).d + (f n).p) / (f n).p := by rw [Int.add_ediv_of_dvd_right (Int.dvd_refl _), Int.ediv_self (by omega)]
          rw [e]
          exact Int.ediv_le_ediv (by omega) (by omega)
      simp only [hasN, comes]
      omega
    | succ k ih =>
      intro s t hk h0 hst
      by_cases hle : s + R ≤ t
      · have h1 := ih (s + R) t (by omega) (by omega) hle
        have h2 := comes_sub hOn (s := s) (r := R)
        have h3 := Int.mul_le_mul_of_nonneg_right (jobs_sub (s := s) (r := R) p1) (show 0 ≤ (f n).c by omega)
        have h4 : (R + (f n).p - 1) / (f n).p = 1 := by
          have e : R + (f n).p - 1 = (R - 1) + (f n).p := by omega
          rw [e, Int.add_ediv_of_dvd_right (Int.dvd_refl _), Int.ediv_self (by omega), Int.ediv_eq_zero_of_lt (by omega) (by omega)]; rfl
        rw [h4, Int.add_mul, Int.one_mul] at h3
        simp only [comes] at h1 ⊢
        omega
      · have h1 := ihn hOn (fun i hi => hI i (by omega)) (k + 1) s t hk h0 hst
        have h2 : has1 t (f n) ≤ (s + (f n).p - 1) / (f n).p * (f n).c := by
          unfold has1
          split
          · exact (jobsK_bound hx h0).2.2.1
          · refine Int.mul_le_mul_of_nonneg_right ?_ (by omega)
            have e : (t - (f n).d) / (f n).p + 1 = (t - (f n).d + (f n).p) / (f n).p := by rw [Int.add_ediv_of_dvd_right (Int.dvd_refl _), Int.ediv_self (by omega)]
            rw [e]
            exact Int.ediv_le_ediv (by omega) (by omega)
        simp only [hasN, comes]
        omega
theorem comes_zero {f : Nat → TK} {n : Nat} (h : ∀ i, i < n → OkK (f i)) : comes 0 f n = 0 := by
  induction n with
  | zero => rfl
  | succ n ih =>
    obtain ⟨p1, p2, d1, d2, c1, c2⟩ := h n (by omega)
    simp only [comes, ih fun i hi => h i (by omega)]
    rw [show (0 : Int) + (f n).p - 1 = (f n).p - 1 by omega, Int.ediv_eq_zero_of_lt (by omega) (by omega)]; simp
/-- What fits by fixed priorities fits by deadlines. -/
theorem best_law {f : Nat → TK} {n : Nat} (hO : ∀ i, i < n → OkK (f i)) (hI : ∀ i, i < n → InTime f i) (t : Int) (h : 0 ≤ t) : hasN t f n ≤ t := by
  have := best_step f n hO hI _ 0 t (Nat.le_refl _) (Int.le_refl _) h
  rw [comes_zero hO] at this
  omega
end Go.Proofs.Ytnpbogamoanbiaa
