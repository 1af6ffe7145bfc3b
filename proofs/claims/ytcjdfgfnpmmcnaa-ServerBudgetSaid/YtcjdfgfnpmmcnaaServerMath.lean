/-
  Plain facts on what a server gets.
-/
import Derived.Test.YtcjdfgfnpmmcnaaServer
namespace Go.Proofs.Ytcjdfgfnpmmcnaa
def sG (p b a : Int) : Bool := decide (2 * (p - b) ≤ a) && decide ((a - 2 * (p - b)) % p < b)
def cntS (p b : Int) : Nat → Int
  | 0 => 0
  | k + 1 => cntS p b k + if sG p b k then 1 else 0
theorem dm {p n q r : Int} (h0 : 0 ≤ r) (h1 : r < p) (h : n = q * p + r) : n / p = q ∧ n % p = r := by
  subst h
  have e : q * p + r = r + q * p := by omega
  rw [e]
  constructor
  · rw [Int.add_mul_ediv_right _ _ (by omega), Int.ediv_eq_zero_of_lt h0 h1]; omega
  · rw [Int.add_mul_emod_self_right, Int.emod_eq_of_lt h0 h1]
theorem sM_at {p b q r : Int} (h0 : 0 ≤ r) (h1 : r < p) : sM p b (q * p + r) = q * b + if b < r then b else r := by
  obtain ⟨e1, e2⟩ := dm (q := q) h0 h1 rfl
  unfold sM
  rw [e1, e2]
theorem sM_step {p b n : Int} (hb : 1 ≤ b) (hp : b ≤ p) : sM p b (n + 1) = sM p b n + if n % p < b then 1 else 0 := by
  have hm0 := Int.emod_nonneg n (show p ≠ 0 by omega)
  have hm1 := Int.emod_lt_of_pos n (show 0 < p by omega)
  have hn := (Int.ediv_mul_add_emod n p).symm
  generalize n / p = q at hn
  generalize n % p = r at hm0 hm1 hn ⊢
  rw [hn, sM_at hm0 hm1]
  by_cases h : r + 1 < p
  · rw [show q * p + r + 1 = q * p + (r + 1) by omega, sM_at (by omega) h]
    split <;> split <;> split <;> omega
  · rw [show q * p + r + 1 = (q + 1) * p + 0 by rw [Int.add_mul]; omega, sM_at (by omega) (by omega), Int.add_mul]
    split <;> split <;> split <;> omega
theorem cntS_least {p b : Int} (h : sR p b = true) (k : Nat) : cntS p b k = sL p b k := by
  have h' := of_decide_eq_true h
  unfold sL
  rw [h]
  simp only [true_and]
  induction k with
  | zero =>
    rw [if_neg (by omega)]; rfl
  | succ k ih =>
    show cntS p b k + _ = _
    rw [ih]
    unfold sG
    by_cases h1 : 2 * (p - b) ≤ (k : Int)
    · rw [if_pos (show 2 * (p - b) < ((k + 1 : Nat) : Int) by omega), show ((k + 1 : Nat) : Int) - 2 * (p - b) = ((k : Int) - 2 * (p - b)) + 1 by omega, sM_step (by omega) (by omega)]
      simp only [h1, decide_true, Bool.true_and, decide_eq_true_iff]
      by_cases h2 : 2 * (p - b) < (k : Int)
      · rw [if_pos h2]
      · rw [if_neg h2, show (k : Int) - 2 * (p - b) = 0 by omega]
        have : sM p b 0 = 0 := by
          have := sM_at (p := p) (b := b) (q := 0) (r := 0) (by omega) (by omega)
          rw [Int.zero_mul, Int.add_zero] at this
          rw [this]; split <;> omega
        rw [this]
    · rw [if_neg (show ¬ 2 * (p - b) < (k : Int) by omega), if_neg (show ¬ 2 * (p - b) < ((k + 1 : Nat) : Int) by omega), decide_eq_false h1]
      rfl
theorem cntS_mono {p b : Int} {j k : Nat} (h : j ≤ k) : cntS p b j ≤ cntS p b k := by
  induction k with
  | zero => obtain rfl : j = 0 := by omega
            exact Int.le_refl _
  | succ k ih =>
    by_cases hk : j = k + 1
    · subst hk; exact Int.le_refl _
    · have := ih (by omega)
      show _ ≤ cntS p b k + _
      split <;> omega
theorem cntS_nonneg (p b : Int) (k : Nat) : 0 ≤ cntS p b k := cntS_mono (p := p) (b := b) (Nat.zero_le k)
/-- In so many ticks it gets the work, and in one less it doesn't. -/
theorem sN_spec {p b k : Int} (h : sR p b = true) (hk : 1 ≤ k) : 1 ≤ sN p b k ∧ sL p b (sN p b k) = k ∧ sL p b (sN p b k - 1) = k - 1 := by
  have h' := of_decide_eq_true h
  unfold sL sN
  rw [h]
  simp only [true_and]
  have hm0 := Int.emod_nonneg (k - 1) (show b ≠ 0 by omega)
  have hm1 := Int.emod_lt_of_pos (k - 1) (show 0 < b by omega)
  have hn := (Int.ediv_mul_add_emod (k - 1) b).symm
  have hq : 0 ≤ (k - 1) / b := Int.ediv_nonneg (by omega) (by omega)
  generalize (k - 1) / b = q at hn hq
  generalize (k - 1) % b = r at hm0 hm1 hn
  have hqp : 0 ≤ q * p := Int.mul_nonneg hq (by omega)
  have e : 2 * (p - b) + q * p + k - q * b = 2 * (p - b) + q * p + (r + 1) := by omega
  rw [e]
  refine ⟨by omega, ?_, ?_⟩
  · rw [if_pos (by omega)]
    by_cases hr : r + 1 < p
    · rw [show 2 * (p - b) + q * p + (r + 1) - 2 * (p - b) = q * p + (r + 1) by omega, sM_at (by omega) hr]
      split <;> omega
    · have : p = b := by omega
      subst this
      rw [show 2 * (p - p) + q * p + (r + 1) - 2 * (p - p) = (q + 1) * p + 0 by rw [Int.add_mul]; omega, sM_at (by omega) (by omega), Int.add_mul]
      split <;> omega
  · by_cases h0 : 2 * (p - b) < 2 * (p - b) + q * p + (r + 1) - 1
    · rw [if_pos h0, show 2 * (p - b) + q * p + (r + 1) - 1 - 2 * (p - b) = q * p + r by omega, sM_at (by omega) (by omega)]
      split <;> omega
    · rw [if_neg h0]
      have h1 : q * p = 0 := by omega
      have h2 : r = 0 := by omega
      rcases Int.mul_eq_zero.1 h1 with h3 | h3
      · subst h3; rw [Int.zero_mul] at hn; omega
      · omega
def sWr (p b k : Int) : Int × Bool := if k = 0 then (0, true) else if sN p b k ≤ 65536 then (sN p b k, true) else (0, false)
theorem found {p b wk : Int} {k : Nat} (h : sR p b = true) (h0 : 0 ≤ wk) (hk : k ≤ 65536) (h1 : wk ≤ cntS p b k) (h2 : ∀ j, j < k → cntS p b j < wk) : sWr p b wk = ((k : Int), true) := by
  unfold sWr
  by_cases hz : wk = 0
  · rw [if_pos hz]
    cases k with
    | zero => rfl
    | succ k =>
      have := h2 0 (by omega)
      have := cntS_nonneg p b 0
      omega
  · rw [if_neg hz]
    obtain ⟨s0, s1, s2⟩ := sN_spec h (show 1 ≤ wk by omega)
    obtain ⟨m, hm⟩ : ∃ m : Nat, sN p b wk = (m : Int) := ⟨(sN p b wk).toNat, by omega⟩
    rw [hm] at s0 s1 s2 ⊢
    rw [show (m : Int) - 1 = ((m - 1 : Nat) : Int) by omega] at s2
    rw [← cntS_least h] at s1 s2
    have hkm : k = m := by
      rcases Nat.lt_trichotomy k m with h3 | h3 | h3
      · have := cntS_mono (p := p) (b := b) (show k ≤ m - 1 by omega)
        omega
      · exact h3
      · have := h2 m h3
        omega
    subst hkm
    rw [if_pos (by omega)]
theorem notfound {p b wk : Int} (h : sR p b = true) (h0 : 0 ≤ wk) (h2 : ∀ j, j < 65537 → cntS p b j < wk) : sWr p b wk = (0, false) := by
  unfold sWr
  have hz : wk ≠ 0 := by
    have := h2 0 (by omega)
    have := cntS_nonneg p b 0
    omega
  rw [if_neg hz]
  obtain ⟨s0, s1, s2⟩ := sN_spec h (show 1 ≤ wk by omega)
  obtain ⟨m, hm⟩ : ∃ m : Nat, sN p b wk = (m : Int) := ⟨(sN p b wk).toNat, by omega⟩
  rw [hm] at s0 s1 s2 ⊢
  rw [← cntS_least h] at s1
  rw [if_neg]
  intro h3
  have := h2 m (by omega)
  omega
end Go.Proofs.Ytcjdfgfnpmmcnaa
