/-
  Plain law of the layer 17: within the law's bounds work grows with time, so that the search from below finds the least time.
-/
import Derived.Test.YtmkpimdbmjpelaaFix
import Derived.Test.YtmkpimdbmjpelaaTotals
namespace Go.Proofs.Ytmkpimdbmjpelaa
open Go.RowKit
/-- What there is to be done in so many ticks. -/
def due (own t : Int) (f : Nat → TT) (n : Nat) : Int := own + total t f n
theorem stepR_fit {own t : Int} {f : Nat → TT} {n : Nat} (h : ∀ i, i < n → Fit (f i)) (ho : 0 ≤ own) (ho2 : own ≤ 200000) (h0 : 0 ≤ t) (ht : t ≤ 3000) (hn : n ≤ 20) : stepR own t f n = (due own t f n, true) := by
  have h1 := total_bound h h0 ht
  unfold stepR allR rSum
  rw [sumF_total h h0 ht hn]
  show addR own (total t f n) = _
  exact addR_yes ho h1.1 (by omega)
/-- The least number from lo on that is enough, or that there is none up to most. -/
def IsLeast (s : Int → Int) (lo most : Int) (r : Int × Bool) : Prop :=
  (∃ x, r = (x, true) ∧ lo ≤ x ∧ x ≤ most ∧ s x ≤ x ∧ ∀ t, lo ≤ t → t < x → t < s t) ∨ (r = (0, false) ∧ ∀ t, lo ≤ t → t ≤ most → t < s t)
theorem IsLeast.unique {s : Int → Int} {lo most : Int} {r r' : Int × Bool} (h : IsLeast s lo most r) (h' : IsLeast s lo most r') : r = r' := by
  rcases h with ⟨x, rfl, h1, h2, h3, h4⟩ | ⟨rfl, h1⟩ <;> rcases h' with ⟨y, rfl, g1, g2, g3, g4⟩ | ⟨rfl, g1⟩
  · rcases Int.lt_trichotomy x y with h | h | h
    · have := g4 x h1 h; omega
    · rw [h]
    · have := h4 y g1 h; omega
  · have := g1 x h1 h2; omega
  · have := h1 y g1 g2; omega
  · rfl
theorem run_least {g : Int → Int × Bool} {s : Int → Int} {lo most : Int} (hg : ∀ t, lo ≤ t → t ≤ most → g t = (s t, true)) (mono : ∀ t u, lo ≤ t → t ≤ u → u ≤ most → s t ≤ s u) :
    ∀ (k : Nat) (w : Int) (many : Nat), (most + 1 - w).toNat ≤ k → lo ≤ w → (∀ t, lo ≤ t → t < w → t ≤ most → t < s t) →
      (∃ x m, run g most w many = some (x, m) ∧ lo ≤ x ∧ x ≤ most ∧ s x ≤ x ∧ ∀ t, lo ≤ t → t < x → t < s t) ∨ (run g most w many = none ∧ ∀ t, lo ≤ t → t ≤ most → t < s t) := by
  intro k
  induction k with
  | zero =>
    intro w many hk hw hb
    exact .inr ⟨run_over (by omega), fun t h1 h2 => hb t h1 (by omega) h2⟩
  | succ k ih =>
    intro w many hk hw hb
    by_cases hm : w ≤ most
    · have hgw := hg w hw hm
      by_cases hs : s w ≤ w
      · exact .inl ⟨w, many + 1, run_some hm (by rw [hgw]) (by rw [hgw]; exact hs), hw, hm, hs, fun t h1 h2 => hb t h1 h2 (by omega)⟩
      · rw [run_on hm (by rw [hgw]) (by rw [hgw]; show w < s w; omega)]
        rw [hgw]
        refine ih (s w) (many + 1) (by omega) (by omega) fun t h1 h2 h3 => ?_
        rcases Int.lt_or_le t w with h | h
        · exact hb t h1 h h3
        · have := mono w t hw h h3; omega
    · exact .inr ⟨run_over (by omega), fun t h1 h2 => hb t h1 (by omega) h2⟩
theorem leastR_isLeast {own most : Int} {f : Nat → TT} {n : Nat} (h : ∀ i, i < n → Fit (f i)) (ho : 0 ≤ own) (ho2 : own ≤ 200000) (hm : most ≤ 3000) (hn : n ≤ 20) : IsLeast (fun t => due own t f n) (max own 1) most (leastR own most f n) := by
  unfold leastR
  rw [if_neg (by omega)]
  rcases run_least (g := fun w => stepR own w f n) (s := fun t => due own t f n) (lo := max own 1) (most := most) (fun t h1 h2 => stepR_fit h ho ho2 (by omega) (by omega) hn) (fun t u _ h2 _ => by
    have := total_mono h h2
    simp only [due]; omega) _ (max own 1) 0 (Nat.le_refl _) (Int.le_refl _) (fun t h1 h2 _ => by omega) with ⟨x, m, hr, h1⟩ | ⟨hr, h1⟩
  · rw [hr]; exact .inl ⟨x, rfl, h1⟩
  · rw [hr]; exact .inr ⟨rfl, h1⟩
/-- With more at first, or a term more, the least number is no less. -/
theorem IsLeast.le {s s' : Int → Int} {lo lo' most : Int} {r r' : Int × Bool} (h : IsLeast s lo most r) (h' : IsLeast s' lo' most r') (hl : lo ≤ lo') (hs : ∀ t, lo' ≤ t → t ≤ most → s t ≤ s' t) : r'.2 = true → r.2 = true ∧ r.1 ≤ r'.1 := by
  intro h2
  rcases h' with ⟨y, rfl, g1, g2, g3, g4⟩ | ⟨rfl, g1⟩
  · have := hs y g1 g2
    rcases h with ⟨x, rfl, h1, h2, h3, h4⟩ | ⟨rfl, h1⟩
    · refine ⟨rfl, ?_⟩
      show x ≤ y
      rcases Int.lt_or_le y x with h | h
      · have := h4 y (by omega) h; omega
      · exact h
    · have := h1 y (by omega) g2; omega
  · cases h2
/-- The values that the law compares. -/
theorem grows {own more : Int} {f : Nat → TT} {n : Nat} (h : ∀ i, i < n + 1 → Fit (f i)) (ho : 0 ≤ own) (ho2 : own ≤ 100000) (hm : 0 ≤ more) (hm2 : more ≤ 100000) (hn : n + 1 ≤ 20) :
    (((leastR own 3000 f (n + 1)).2 = true → (leastR own 3000 (fun i => f (i + 1)) n).2 = true ∧ (leastR own 3000 (fun i => f (i + 1)) n).1 ≤ (leastR own 3000 f (n + 1)).1)) ∧
    ((leastR (own + more) 3000 f (n + 1)).2 = true → (leastR own 3000 f (n + 1)).2 = true ∧ (leastR own 3000 f (n + 1)).1 ≤ (leastR (own + more) 3000 f (n + 1)).1) := by
  have l0 := leastR_isLeast (f := fun i => f (i + 1)) (n := n) (most := 3000) (fun i hi => h (i + 1) (by omega)) ho (by omega) (by omega) (by omega)
  have l1 := leastR_isLeast (most := 3000) h ho (by omega) (by omega) hn
  have l2 := leastR_isLeast (own := own + more) (most := 3000) h (by omega) (by omega) (by omega) hn
  constructor
  · refine l0.le l1 (Int.le_refl _) fun t h1 h2 => ?_
    have := (brings_bound (h 0 (by omega)) (t := t) (by omega) h2).2.2.1
    simp only [due, total_cons]
    omega
  · refine l1.le l2 (by omega) fun t h1 h2 => ?_
    simp only [due]
    omega
end Go.Proofs.Ytmkpimdbmjpelaa
