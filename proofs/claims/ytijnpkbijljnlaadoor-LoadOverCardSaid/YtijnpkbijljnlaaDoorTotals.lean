/-
  What terms bring whose numbers are within bounds.
-/
import Derived.Test.YtijnpkbijljnlaaDoorDemandSum
namespace Go.Proofs.YtijnpkbijljnlaaDoor
open Go.RowKit
/-- A term with numbers within the law's bounds. -/
structure Fit (x : TT) : Prop where
  p1 : 1 ≤ x.p
  p2 : x.p ≤ 1099511627776
  c1 : 0 ≤ x.c
  c2 : x.c ≤ 100000
  o1 : 0 ≤ x.o
  o2 : x.o ≤ 100000
  k1 : 0 ≤ x.k
  k2 : x.k ≤ 100000
def jobsOf (t : Int) (x : TT) : Int := (max (t - x.o) 0 + x.p - 1) / x.p
def brings (t : Int) (x : TT) : Int := jobsOf t x * x.c + x.k
theorem jobsOf_bound {t : Int} {x : TT} (h : Fit x) (h0 : 0 ≤ t) (ht : t ≤ 3000) : 0 ≤ jobsOf t x ∧ jobsOf t x ≤ 3000 := by
  have hp := h.p1
  have ho := h.o1
  constructor
  · exact Int.ediv_nonneg (by omega) (by omega)
  · refine Int.ediv_le_of_le_mul (by omega) ?_
    have : x.p * 3000 ≥ 3000 + x.p - 1 := by omega
    rw [Int.mul_comm]; omega
theorem jobsOf_mono {t u : Int} {x : TT} (h : Fit x) (hu : t ≤ u) : jobsOf t x ≤ jobsOf u x :=
  Int.ediv_le_ediv (by have := h.p1; omega) (by omega)
theorem brings_bound {t : Int} {x : TT} (h : Fit x) (h0 : 0 ≤ t) (ht : t ≤ 3000) : 0 ≤ jobsOf t x * x.c ∧ jobsOf t x * x.c ≤ 300000000 ∧ 0 ≤ brings t x ∧ brings t x ≤ 300100000 := by
  have hb := jobsOf_bound h h0 ht
  have h1 : 0 ≤ jobsOf t x * x.c := Int.mul_nonneg hb.1 h.c1
  have h2 : jobsOf t x * x.c ≤ 3000 * 100000 := Int.mul_le_mul hb.2 h.c2 h.c1 (by omega)
  have := h.k1
  have := h.k2
  unfold brings
  omega
theorem brings_mono {t u : Int} {x : TT} (h : Fit x) (hu : t ≤ u) : brings t x ≤ brings u x := by
  have := Int.mul_le_mul_of_nonneg_right (jobsOf_mono h hu) h.c1
  unfold brings
  omega
theorem addR_yes {a b : Int} (ha : 0 ≤ a) (hb : 0 ≤ b) (h : a + b ≤ 1099511627776) : addR a b = (a + b, true) := by
  unfold addR
  rw [inB_mk ha (by omega), inB_mk hb (by omega), decide_eq_true h]; rfl
theorem workR_fit {t : Int} {x : TT} (h : Fit x) (h0 : 0 ≤ t) (ht : t ≤ 3000) : workR x.p x.c x.o x.k t = (brings t x, true) := by
  have hb := jobsOf_bound h h0 ht
  have hw := brings_bound h h0 ht
  obtain ⟨p1, p2, c1, c2, o1, o2, k1, k2⟩ := h
  have hl : lessR t x.o = (max (t - x.o) 0, true) := by
    unfold lessR
    rw [inB_mk h0 (by omega), inB_mk o1 (by omega)]; rfl
  have hu : upR (max (t - x.o) 0) x.p = (jobsOf t x, true) := by
    unfold upR
    rw [inB_mk (by omega) (by omega), inB_mk (by omega) p2, show (x.p == 0) = false by simp; omega]; rfl
  have hj : jobsR x.p x.o t = (jobsOf t x, true) := by
    unfold jobsR
    rw [hl]; exact hu
  have hm : mulR (jobsOf t x) x.c = (jobsOf t x * x.c, true) := by
    unfold mulR
    rw [inB_mk hb.1 (by omega), inB_mk c1 (by omega), decide_eq_true (by omega)]; rfl
  unfold workR
  rw [hj]
  simp only [if_true, hm]
  exact addR_yes hw.1 k1 (by omega)
theorem wkOf_fit {t : Int} {x : TT} (h : Fit x) (h0 : 0 ≤ t) (ht : t ≤ 3000) : wkOf t x = brings t x := by
  unfold wkOf
  rw [workR_fit h h0 ht]; rfl
def total (t : Int) (f : Nat → TT) : Nat → Int
  | 0 => 0
  | n + 1 => total t f n + brings t (f n)
theorem total_bound {t : Int} {f : Nat → TT} {n : Nat} (h : ∀ i, i < n → Fit (f i)) (h0 : 0 ≤ t) (ht : t ≤ 3000) : 0 ≤ total t f n ∧ total t f n ≤ n * 300100000 := by
  induction n with
  | zero => simp [total]
  | succ n ih =>
    have h1 := ih fun i hi => h i (by omega)
    have h2 := brings_bound (h n (by omega)) h0 ht
    simp only [total]
    omega
theorem total_mono {t u : Int} {f : Nat → TT} {n : Nat} (h : ∀ i, i < n → Fit (f i)) (hu : t ≤ u) : total t f n ≤ total u f n := by
  induction n with
  | zero => simp [total]
  | succ n ih =>
    have h1 := ih fun i hi => h i (by omega)
    have h2 := brings_mono (h n (by omega)) hu
    simp only [total]
    omega
theorem total_cons (t : Int) (f : Nat → TT) (n : Nat) : total t f (n + 1) = brings t (f 0) + total t (fun i => f (i + 1)) n := by
  induction n with
  | zero => simp [total]
  | succ n ih =>
    rw [show total t f (n + 1 + 1) = total t f (n + 1) + brings t (f (n + 1)) from rfl, ih]
    simp only [total]
    omega
theorem sumF_total {t : Int} {f : Nat → TT} {n : Nat} (h : ∀ i, i < n → Fit (f i)) (h0 : 0 ≤ t) (ht : t ≤ 3000) (hn : n ≤ 20) : sumF 0 (upto t f n) = some (total t f n) := by
  induction n with
  | zero => rfl
  | succ n ih =>
    have h1 := total_bound (fun i hi => h i (by omega) : ∀ i, i < n → Fit (f i)) h0 ht
    have h2 := brings_bound (h n (by omega)) h0 ht
    rw [upto_succ, sumF_append, ih (fun i hi => h i (by omega)) (by omega), wkOf_fit (h n (by omega)) h0 ht]
    simp only [Option.bind_some, sumF, addR_yes h1.1 h2.2.2.1 (by omega), if_true, total]
theorem allR_total {t : Int} {f : Nat → TT} {n : Nat} (h : ∀ i, i < n → Fit (f i)) (h0 : 0 ≤ t) (ht : t ≤ 3000) (hn : n ≤ 20) : allR t f n = (total t f n, true) := by
  unfold allR rSum
  rw [sumF_total h h0 ht hn]
end Go.Proofs.YtijnpkbijljnlaaDoor
