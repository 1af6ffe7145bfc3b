/-
  Plain law of the layer 46: the deadlines up to a tick, and that looking back from the last one with fewer looks tells the same.
-/
import Derived.Test.YtnpbogamoanbiaaKit
namespace Go.Proofs.Ytnpbogamoanbiaa
open Go.RowKit
/-- A task's numbers. -/
structure TK where
  p : Int
  d : Int
  c : Int
/-- May there be such a task? -/
structure OkK (x : TK) : Prop where
  p1 : 1 ≤ x.p
  p2 : x.p ≤ 4096
  d1 : 1 ≤ x.d
  d2 : x.d ≤ x.p
  c1 : 1 ≤ x.c
  c2 : x.c ≤ x.d
/-- A deadline of some job. -/
def isPt (a : Int) (f : Nat → TK) (n : Nat) : Prop := ∃ i, i < n ∧ (f i).d ≤ a ∧ (a - (f i).d) % (f i).p = 0
/-- The last deadline up to a tick; 0: there is none. -/
def nextP (a : Int) (f : Nat → TK) : Nat → Int
  | 0 => 0
  | k + 1 => if (f k).d ≤ a then max (nextP a f k) ((f k).d + (a - (f k).d) / (f k).p * (f k).p) else nextP a f k
def LastP (a : Int) (f : Nat → TK) (n : Nat) (r : Int) : Prop :=
  (r = 0 ∨ 1 ≤ r ∧ r ≤ a ∧ isPt r f n) ∧ ∀ t, r < t → t ≤ a → ¬ isPt t f n
theorem floor_pt {a d p : Int} (hp : 1 ≤ p) (h : d ≤ a) : d ≤ d + (a - d) / p * p ∧ d + (a - d) / p * p ≤ a ∧ (d + (a - d) / p * p - d) % p = 0 ∧ a < d + (a - d) / p * p + p := by
  have h1 := Int.ediv_mul_add_emod (a - d) p
  have h2 := Int.emod_nonneg (a - d) (show p ≠ 0 by omega)
  have h3 := Int.emod_lt_of_pos (a - d) (show 0 < p by omega)
  have h4 : 0 ≤ (a - d) / p := Int.ediv_nonneg (by omega) (by omega)
  have h5 : 0 ≤ (a - d) / p * p := Int.mul_nonneg h4 (by omega)
  refine ⟨by omega, by omega, ?_, by omega⟩
  rw [show d + (a - d) / p * p - d = (a - d) / p * p by omega]
  exact Int.mul_emod_left _ _
theorem pt_gap {a d p t : Int} (hp : 1 ≤ p) (h : d ≤ a) (h1 : d + (a - d) / p * p < t) (h2 : t ≤ a) : (t - d) % p ≠ 0 := by
  intro h0
  obtain ⟨g1, g2, g3, g4⟩ := floor_pt hp h
  have e : (t - d) / p * p = t - d := by
    have := Int.ediv_mul_add_emod (t - d) p; omega
  have e2 : (t - d) / p ≤ (a - d) / p := Int.ediv_le_ediv (by omega) (by omega)
  have e3 : (t - d) / p * p ≤ (a - d) / p * p := Int.mul_le_mul_of_nonneg_right e2 (by omega)
  omega
theorem nextP_nonneg {a : Int} {f : Nat → TK} {n : Nat} (h : ∀ i, i < n → OkK (f i)) : 0 ≤ nextP a f n := by
  induction n with
  | zero => simp [nextP]
  | succ n ih =>
    have := ih fun i hi => h i (by omega)
    simp only [nextP]
    split <;> omega
theorem nextP_last {a : Int} {f : Nat → TK} {n : Nat} (h : ∀ i, i < n → OkK (f i)) : LastP a f n (nextP a f n) := by
  induction n with
  | zero => exact ⟨.inl rfl, fun t h1 h2 ⟨i, hi, _⟩ => by omega⟩
  | succ n ih =>
    have ih := ih fun i hi => h i (by omega)
    have hn := h n (by omega)
    have h0 := nextP_nonneg (a := a) (fun i hi => h i (by omega) : ∀ i, i < n → OkK (f i))
    have hp := hn.p1
    have hd := hn.d1
    simp only [nextP]
    generalize nextP a f n = m at ih h0
    by_cases hle : (f n).d ≤ a
    · rw [if_pos hle]
      obtain ⟨g1, g2, g3, g4⟩ := floor_pt hp hle
      refine ⟨.inr ⟨by omega, ?_, ?_⟩, fun t h1 h2 hpt => ?_⟩
      · rcases ih.1 with h | ⟨_, h, _⟩ <;> omega
      · rcases (show max m ((f n).d + (a - (f n).d) / (f n).p * (f n).p) = (f n).d + (a - (f n).d) / (f n).p * (f n).p ∨ max m ((f n).d + (a - (f n).d) / (f n).p * (f n).p) = m ∧ (f n).d + (a - (f n).d) / (f n).p * (f n).p < m by omega) with e | ⟨e, e2⟩
        · rw [e]; exact ⟨n, by omega, g1, g3⟩
        · rw [e]
          rcases ih.1 with h | ⟨_, _, i, hi, h⟩
          · omega
          · exact ⟨i, by omega, h⟩
      · obtain ⟨i, hi, hd1, hd2⟩ := hpt
        rcases (show i < n ∨ i = n by omega) with h | rfl
        · exact ih.2 t (by omega) h2 ⟨i, h, hd1, hd2⟩
        · exact pt_gap hp hle (by omega) h2 hd2
    · rw [if_neg hle]
      refine ⟨?_, fun t h1 h2 ⟨i, hi, hd1, hd2⟩ => ?_⟩
      · rcases ih.1 with h | ⟨h1, h2, i, hi, h⟩
        · exact .inl h
        · exact .inr ⟨h1, h2, i, by omega, h⟩
      · rcases (show i < n ∨ i = n by omega) with h | rfl
        · exact ih.2 t h1 h2 ⟨i, h, hd1, hd2⟩
        · omega
theorem nextP_le {a : Int} {f : Nat → TK} {n : Nat} (h : ∀ i, i < n → OkK (f i)) (h0 : 0 ≤ a) : nextP a f n ≤ a := by
  rcases (nextP_last (a := a) h).1 with h | h <;> omega
/-- The deadlines up to a tick, falling. -/
def pts (f : Nat → TK) (n : Nat) : Nat → Int → List Int
  | 0, _ => []
  | k + 1, a => if nextP a f n = 0 then [] else nextP a f n :: pts f n k (nextP a f n - 1)
theorem pts_mem {f : Nat → TK} {n : Nat} (h : ∀ i, i < n → OkK (f i)) : ∀ (k : Nat) (a : Int), a ≤ k → ∀ t, t ∈ pts f n k a ↔ 1 ≤ t ∧ t ≤ a ∧ isPt t f n := by
  intro k
  induction k with
  | zero =>
    intro a ha t
    simp only [pts, List.not_mem_nil, false_iff]
    omega
  | succ k ih =>
    intro a ha t
    have hl := nextP_last (a := a) h
    have h0 := nextP_nonneg (a := a) h
    simp only [pts]
    generalize nextP a f n = m at hl h0
    split
    · rename_i hz
      subst hz
      simp only [List.not_mem_nil, false_iff]
      exact fun ⟨h1, h2, h3⟩ => hl.2 t (by omega) h2 h3
    · rename_i hz
      rcases hl.1 with h1 | ⟨h1, h2, h3⟩
      · omega
      · rw [List.mem_cons, ih (m - 1) (by omega)]
        constructor
        · rintro (rfl | ⟨g1, g2, g3⟩)
          · exact ⟨h1, h2, h3⟩
          · exact ⟨g1, by omega, g3⟩
        · rintro ⟨g1, g2, g3⟩
          rcases (show t = m ∨ t < m ∨ m < t by omega) with e | e | e
          · exact .inl e
          · exact .inr ⟨g1, by omega, g3⟩
          · exact absurd g3 (hl.2 t e g2)
/-- What has to be done of a task, of all tasks, in so many ticks. -/
def has1 (t : Int) (x : TK) : Int := if t < x.d then 0 else ((t - x.d) / x.p + 1) * x.c
def hasN (t : Int) (f : Nat → TK) : Nat → Int
  | 0 => 0
  | k + 1 => hasN t f k + has1 t (f k)
theorem has1_nonneg {t : Int} {x : TK} (h : OkK x) : 0 ≤ has1 t x := by
  unfold has1
  split
  · omega
  · have := h.p1
    have : 0 ≤ (t - x.d) / x.p := Int.ediv_nonneg (by omega) (by omega)
    exact Int.mul_nonneg (by omega) (by have := h.c1; omega)
theorem has1_mono {t u : Int} {x : TK} (h : OkK x) (hu : t ≤ u) : has1 t x ≤ has1 u x := by
  by_cases h1 : t < x.d
  · have := has1_nonneg (t := u) h
    unfold has1 at this ⊢
    rw [if_pos h1]; exact this
  · unfold has1
    rw [if_neg h1, if_neg (by omega)]
    have := h.p1
    have e := Int.ediv_le_ediv (show 0 < x.p by omega) (show t - x.d ≤ u - x.d by omega)
    exact Int.mul_le_mul_of_nonneg_right (by omega) (by have := h.c1; omega)
theorem has1_bound {t : Int} {x : TK} (h : OkK x) (h0 : 0 ≤ t) : has1 t x ≤ (t + 1) * 4096 := by
  unfold has1
  split
  · exact Int.mul_nonneg (by omega) (by omega)
  · have := h.p1
    have e : (t - x.d) / x.p ≤ t := Int.le_trans (Int.ediv_le_self _ (by have := h.d1; omega)) (by have := h.d1; omega)
    have := h.c1
    have := h.c2
    have := h.d2
    have := h.p2
    exact Int.mul_le_mul (by omega) (by omega) (by omega) (by omega)
theorem hasN_nonneg {t : Int} {f : Nat → TK} {n : Nat} (h : ∀ i, i < n → OkK (f i)) : 0 ≤ hasN t f n := by
  induction n with
  | zero => simp [hasN]
  | succ n ih =>
    have := ih fun i hi => h i (by omega)
    have := has1_nonneg (t := t) (h n (by omega))
    simp only [hasN]; omega
theorem hasN_mono {t u : Int} {f : Nat → TK} {n : Nat} (h : ∀ i, i < n → OkK (f i)) (hu : t ≤ u) : hasN t f n ≤ hasN u f n := by
  induction n with
  | zero => simp [hasN]
  | succ n ih =>
    have := ih fun i hi => h i (by omega)
    have := has1_mono (h n (by omega)) hu
    simp only [hasN]; omega
theorem hasN_bound {t : Int} {f : Nat → TK} {n : Nat} (h : ∀ i, i < n → OkK (f i)) (h0 : 0 ≤ t) (ht : t ≤ 65536) : hasN t f n ≤ n * 268439552 := by
  induction n with
  | zero => simp [hasN]
  | succ n ih =>
    have := ih fun i hi => h i (by omega)
    have := has1_bound (h n (by omega)) h0
    simp only [hasN]; omega
/-- None is late up to a tick. -/
def Fine (w : Int) (f : Nat → TK) (n : Nat) : Prop := ∀ t, 1 ≤ t → t ≤ w → isPt t f n → hasN t f n ≤ t
theorem Fine.last {w r : Int} {f : Nat → TK} {n : Nat} (hl : LastP w f n r) : Fine w f n ↔ (1 ≤ r → hasN r f n ≤ r) ∧ Fine (r - 1) f n := by
  constructor
  · intro h
    refine ⟨fun h1 => ?_, fun t h1 h2 h3 => ?_⟩
    · rcases hl.1 with e | ⟨_, g2, g3⟩
      · omega
      · exact h r h1 g2 g3
    · rcases hl.1 with e | ⟨_, g2, _⟩
      · omega
      · exact h t h1 (by omega) h3
  · rintro ⟨h0, h⟩ t h1 h2 h3
    rcases (show t < r ∨ t = r ∨ r < t by omega) with e | e | e
    · exact h t h1 (by omega) h3
    · rw [e]; exact h0 (by omega)
    · exact absurd h3 (hl.2 t e h2)
/-- The look from the last deadline back. -/
def quick (first : Int) (f : Nat → TK) (n : Nat) : Nat → Int → Bool
  | 0, _ => true
  | k + 1, a => if a ≤ 0 then true else if a < hasN a f n then false else if hasN a f n ≤ first then true else if hasN a f n < a then quick first f n k (hasN a f n) else quick first f n k (nextP (a - 1) f n)
theorem fine_zero {w : Int} {f : Nat → TK} {n : Nat} (h : w ≤ 0) : Fine w f n := fun t h1 h2 => by omega
theorem Fine.mono {w u : Int} {f : Nat → TK} {n : Nat} (h : Fine u f n) (hw : w ≤ u) : Fine w f n := fun t h1 h2 => h t h1 (by omega)
theorem quick_fine {first : Int} {f : Nat → TK} {n : Nat} (h : ∀ i, i < n → OkK (f i)) (hf : ∀ i, i < n → first ≤ (f i).d) : ∀ (k : Nat) (a : Int), a ≤ k → (1 ≤ a → isPt a f n ∨ hasN a f n ≤ a) → (quick first f n k a = true ↔ Fine a f n) := by
  intro k
  induction k with
  | zero => intro a ha _; simp only [quick, true_iff]; exact fine_zero (by omega)
  | succ k ih =>
    intro a ha hpt
    simp only [quick]
    split
    · simp only [true_iff]; exact fine_zero (by omega)
    · split
      · rename_i h1 h2
        simp only [Bool.false_eq_true, false_iff]
        intro hF
        rcases hpt (by omega) with hp | hp
        · have := hF a (by omega) (Int.le_refl _) hp; omega
        · omega
      · rename_i h1 h2
        have hm : ∀ t, hasN a f n ≤ t → t ≤ a → hasN t f n ≤ t := fun t g1 g2 => by
          have := hasN_mono (f := f) (n := n) h g2; omega
        split
        · rename_i h3
          simp only [true_iff]
          intro t g1 g2 ⟨i, hi, hd, hr⟩
          have := hf i hi
          exact hm t (by omega) g2
        · split
          · rename_i h3 h4
            rw [ih _ (by omega) (fun _ => .inr (hm _ (Int.le_refl _) (by omega)))]
            constructor
            · intro hF t g1 g2 g3
              rcases Int.lt_or_le (hasN a f n) t with e | e
              · exact hm t (by omega) g2
              · exact hF t g1 e g3
            · exact fun hF => hF.mono (by omega)
          · rename_i h3 h4
            have hl := nextP_last (a := a - 1) h
            have hle : nextP (a - 1) f n ≤ a - 1 := nextP_le h (by omega)
            rw [ih _ (by omega) (fun g => by
              rcases hl.1 with e | ⟨_, _, e⟩
              · omega
              · exact .inl e)]
            constructor
            · intro hF t g1 g2 g3
              rcases (show t = a ∨ nextP (a - 1) f n < t ∧ t ≤ a - 1 ∨ t ≤ nextP (a - 1) f n by omega) with e | ⟨e1, e2⟩ | e
              · exact hm t (by omega) g2
              · exact absurd g3 (hl.2 t e1 e2)
              · exact hF t g1 e g3
            · exact fun hF => hF.mono (by omega)
end Go.Proofs.Ytnpbogamoanbiaa
