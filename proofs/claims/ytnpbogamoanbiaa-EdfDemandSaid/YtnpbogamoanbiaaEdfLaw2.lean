/-
  Plain law of the layer 46: what edf's numbers are within the law's bounds.
-/
import Derived.Test.YtnpbogamoanbiaaEdfLaw
import Derived.Test.YtnpbogamoanbiaaCheckSum
import Derived.Test.YtnpbogamoanbiaaRun
import Derived.Test.YtnpbogamoanbiaaTotals
namespace Go.Proofs.Ytnpbogamoanbiaa
open Go.RowKit
/-- What edf.Demand answers. -/
def dR (p d c t : Int) : Int × Bool := if p < 1 ∨ d < 1 ∨ c < 0 ∨ t < 0 ∨ 1099511627776 < t then (0, false) else if t < d then (0, true) else mulR ((t - d) / p + 1) c
theorem dR_ok {x : TK} {t : Int} (h : OkK x) (h0 : 0 ≤ t) (ht : t ≤ 65536) : dR x.p x.d x.c t = (has1 t x, true) := by
  have hb := has1_bound h h0
  have hn := has1_nonneg (t := t) h
  obtain ⟨p1, p2, d1, d2, c1, c2⟩ := h
  unfold dR has1 at *
  rw [if_neg (by omega)]
  by_cases hd : t < x.d
  · rw [if_pos hd, if_pos hd]
  · rw [if_neg hd] at hb hn
    rw [if_neg hd, if_neg hd]
    have e0 : 0 ≤ (t - x.d) / x.p := Int.ediv_nonneg (by omega) (by omega)
    have e1 : (t - x.d) / x.p ≤ t - x.d := Int.ediv_le_self _ (by omega)
    unfold mulR
    rw [inB_mk (by omega) (by omega), inB_mk (by omega) (by omega), decide_eq_true (by omega)]; rfl
def dwk (t : Int) (x : TK) : Int := if (dR x.p x.d x.c t).2 then (dR x.p x.d x.c t).1 else -1
def uptoK (t : Int) (f : Nat → TK) (k : Nat) : List Int := (List.range k).map fun i => dwk t (f i)
theorem uptoK_succ (t : Int) (f : Nat → TK) (k : Nat) : uptoK t f (k + 1) = uptoK t f k ++ [dwk t (f k)] := by simp [uptoK, List.range_succ]
theorem uptoK_length (t : Int) (f : Nat → TK) (k : Nat) : (uptoK t f k).length = k := by simp [uptoK]
theorem uptoK_prefix (t : Int) (f : Nat → TK) {k n : Nat} (h : k ≤ n) : uptoK t f k <+: uptoK t f n := by
  induction n with
  | zero => obtain rfl : k = 0 := by omega
            exact List.prefix_refl _
  | succ n ih =>
    by_cases hk : k = n + 1
    · subst hk; exact List.prefix_refl _
    · exact (ih (by omega)).trans (by rw [uptoK_succ]; exact List.prefix_append _ _)
def allK (t : Int) (f : Nat → TK) (n : Nat) : Int × Bool := rSum (uptoK t f n)
theorem sumK {t : Int} {f : Nat → TK} {n : Nat} (h : ∀ i, i < n → OkK (f i)) (h0 : 0 ≤ t) (ht : t ≤ 65536) (hn : n ≤ 20) : sumF 0 (uptoK t f n) = some (hasN t f n) := by
  induction n with
  | zero => rfl
  | succ n ih =>
    have h1 := hasN_bound (fun i hi => h i (by omega) : ∀ i, i < n → OkK (f i)) h0 ht
    have h2 := hasN_nonneg (t := t) (fun i hi => h i (by omega) : ∀ i, i < n → OkK (f i))
    have h3 := has1_bound (h n (by omega)) h0
    have h4 := has1_nonneg (t := t) (h n (by omega))
    have e : dwk t (f n) = has1 t (f n) := by unfold dwk; rw [dR_ok (h n (by omega)) h0 ht]; rfl
    rw [uptoK_succ, sumF_append, ih (fun i hi => h i (by omega)) (by omega), e]
    simp only [Option.bind_some, sumF, addR_yes h2 h4 (by omega), if_true, hasN]
theorem allK_ok {t : Int} {f : Nat → TK} {n : Nat} (h : ∀ i, i < n → OkK (f i)) (h0 : 0 ≤ t) (ht : t ≤ 65536) (hn : n ≤ 20) : allK t f n = (hasN t f n, true) := by
  unfold allK rSum
  rw [sumK h h0 ht hn]
/-- All work at once; what comes of it in a time. -/
def costs (f : Nat → TK) : Nat → Int
  | 0 => 0
  | k + 1 => costs f k + (f k).c
def comes (w : Int) (f : Nat → TK) : Nat → Int
  | 0 => 0
  | k + 1 => comes w f k + (w + (f k).p - 1) / (f k).p * (f k).c
theorem costs_bound {f : Nat → TK} {n : Nat} (h : ∀ i, i < n → OkK (f i)) : 0 ≤ costs f n ∧ costs f n ≤ n * 4096 := by
  induction n with
  | zero => simp [costs]
  | succ n ih =>
    have := ih fun i hi => h i (by omega)
    obtain ⟨p1, p2, d1, d2, c1, c2⟩ := h n (by omega)
    simp only [costs]; omega
theorem jobsK_bound {x : TK} (h : OkK x) {w : Int} (h0 : 0 ≤ w) : 0 ≤ (w + x.p - 1) / x.p ∧ (w + x.p - 1) / x.p ≤ w ∧ 0 ≤ (w + x.p - 1) / x.p * x.c ∧ (w + x.p - 1) / x.p * x.c ≤ w * 4096 := by
  obtain ⟨p1, p2, d1, d2, c1, c2⟩ := h
  have h1 : 0 ≤ (w + x.p - 1) / x.p := Int.ediv_nonneg (by omega) (by omega)
  have h2 : (w + x.p - 1) / x.p ≤ w := by
    rcases (show w = 0 ∨ 1 ≤ w by omega) with rfl | hw
    · rw [Int.ediv_eq_zero_of_lt (by omega) (by omega)]; omega
    · refine Int.ediv_le_of_le_mul (by omega) ?_
      have h3 : (w - 1) * (x.p - 1) ≥ 0 := Int.mul_nonneg (by omega) (by omega)
      have h4 : (w - 1) * (x.p - 1) = w * x.p - w - x.p + 1 := by
        rw [Int.sub_mul, Int.mul_sub, Int.mul_one, Int.one_mul]; omega
      omega
  exact ⟨h1, h2, Int.mul_nonneg h1 (by omega), Int.mul_le_mul h2 (by omega) (by omega) h0⟩
theorem comes_bound {f : Nat → TK} {n : Nat} (h : ∀ i, i < n → OkK (f i)) {w : Int} (h0 : 0 ≤ w) (hw : w ≤ 65536) : 0 ≤ comes w f n ∧ comes w f n ≤ n * 268435456 := by
  induction n with
  | zero => simp [comes]
  | succ n ih =>
    have := ih fun i hi => h i (by omega)
    have := jobsK_bound (h n (by omega)) h0
    simp only [comes]; omega
theorem comes_nonneg {f : Nat → TK} {n : Nat} (h : ∀ i, i < n → OkK (f i)) {w : Int} (h0 : 0 ≤ w) : 0 ≤ comes w f n := by
  induction n with
  | zero => simp [comes]
  | succ n ih =>
    have := ih fun i hi => h i (by omega)
    have := jobsK_bound (h n (by omega)) h0
    simp only [comes]; omega
/-- How long all may be at work at once. -/
def busyR (most : Int) (f : Nat → TK) (n : Nat) : Int × Bool := match run (fun w => (comes w f n, true)) most (costs f n) 0 with | some (x, _) => (x, true) | none => (0, false)
theorem run_bound {g : Int → Int × Bool} {most : Int} : ∀ (k : Nat) (w : Int) (many : Nat), (most + 1 - w).toNat ≤ k → 0 ≤ w → ∀ x m, run g most w many = some (x, m) → 0 ≤ x ∧ x ≤ most := by
  intro k
  induction k with
  | zero => intro w many hk h0 x m h; rw [run_over (by omega)] at h; cases h
  | succ k ih =>
    intro w many hk h0 x m h
    by_cases hw : w ≤ most
    · cases hg : (g w).2
      · rw [run_none hw hg] at h; cases h
      · by_cases hle : (g w).1 ≤ w
        · rw [run_some hw hg hle] at h
          obtain ⟨rfl, _⟩ : w = x ∧ many + 1 = m := by simpa using h
          exact ⟨h0, hw⟩
        · rw [run_on hw hg (by omega)] at h
          exact ih _ _ (by omega) (by omega) x m h
    · rw [run_over (by omega)] at h; cases h
theorem busyR_bound {most : Int} {f : Nat → TK} {n : Nat} (h : ∀ i, i < n → OkK (f i)) {w : Int} (hb : busyR most f n = (w, true)) : 0 ≤ w ∧ w ≤ most := by
  unfold busyR at hb
  cases hr : run (fun w => (comes w f n, true)) most (costs f n) 0 with
  | none => rw [hr] at hb; simp at hb
  | some y =>
    obtain ⟨x, m⟩ := y
    rw [hr] at hb
    obtain rfl : x = w := by simpa using hb
    exact run_bound _ _ _ (Nat.le_refl _) (costs_bound h).1 _ _ hr
open Classical in
/-- Is none ever late? -/
noncomputable def fitsK (f : Nat → TK) (n : Nat) : Bool := (busyR 65536 f n).2 && decide (Fine (busyR 65536 f n).1 f n)
end Go.Proofs.Ytnpbogamoanbiaa
