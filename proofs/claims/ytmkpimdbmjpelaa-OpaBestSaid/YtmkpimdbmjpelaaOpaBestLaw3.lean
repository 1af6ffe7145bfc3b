/-
  Layer 38, plain law: an order fits as the program says, just if each of its tasks is done in time behind those ahead of it.
-/
import Derived.Test.YtmkpimdbmjpelaaOpaBestLaw2
namespace Go.Proofs.Ytmkpimdbmjpelaa
open Go.RowKit
theorem last_gen {g : Nat → Nat → Int} {x : Nat → Int} {n : Nat} (hG : ∀ i, i < n → OkT (g i)) (hx : OkT x) (hn : n ≤ 20) : lastR x g n = true ↔ ∃ t, 1 ≤ t ∧ t ≤ x 1 ∧ x 2 + total t (fun i => termOf (g i)) n ≤ t := by
  have hf : ∀ i, i < n → Fit (termOf (g i)) := fun i hi => (hG i hi).fit
  have h1 := leastR_isLeast (own := x 2) (most := x 1) hf (by have := hx.c1; omega) (by have := hx.c2; have := hx.d2; have := hx.p2; omega) (by have := hx.d2; have := hx.p2; omega) hn
  have hb := hx.d2
  have hb2 := hx.p2
  have hb3 := hx.c1
  unfold lastR
  rcases h1 with ⟨y, hy, a1, a2, a3, _⟩ | ⟨hy, a1⟩
  · rw [hy]
    simp only [true_iff]
    simp only [due] at a3
    exact ⟨y, by omega, a2, a3⟩
  · rw [hy]
    simp only [Bool.false_eq_true, false_iff]
    rintro ⟨t, b1, b2, b3⟩
    have hs := (total_bound hf (show 0 ≤ t by omega) (by omega)).1
    have := a1 t (by omega) b2
    simp only [due] at this
    omega
theorem allOk_iff {P : Nat → Bool} {n : Nat} : allOk P n = true ↔ ∀ i, i < n → P i = true := by
  induction n with
  | zero => exact ⟨fun _ i hi => by omega, fun _ => rfl⟩
  | succ n ih =>
    constructor
    · intro h i hi
      rcases hP : P i with _ | _
      · rw [allOk_no hi hP] at h; cases h
      · rfl
    · intro h
      exact allOk_yes (ih.2 fun i hi => h i (by omega)) (h n (Nat.lt_succ_self _))
theorem fits38_iff {h : Nat → Nat → Int} {Q : List Nat} (hQ : ∀ i ∈ Q, OkT (h i)) (hn : Q.length ≤ 20) : fits38 (othG h Q) Q.length = true ↔ fitsP h Q := by
  unfold fits38
  rw [allOk_iff]
  have hat : ∀ i, i < Q.length → OkT (othG h Q i) := fun i hi => at_ok hQ hi
  constructor
  · intro a i hi
    obtain ⟨t, b1, b2, b3⟩ := (last_gen (g := othG h Q) (fun j hj => hat j (by omega)) (hat i hi) (by omega)).1 (a i hi)
    rw [total_sum h t Q i (by omega)] at b3
    exact ⟨t, b1, b2, b3⟩
  · intro a i hi
    obtain ⟨t, b1, b2, b3⟩ := a i hi
    refine (last_gen (g := othG h Q) (fun j hj => hat j (by omega)) (hat i hi) (by omega)).2 ⟨t, b1, b2, ?_⟩
    rw [total_sum h t Q i (by omega)]
    exact b3
/-- Is there any order? As the document reckons it. -/
def someB (g : Nat → Nat → Int) : Nat → List Nat → Bool
  | 0, _ => true
  | n + 1, L => (List.range (n + 1)).any fun k => fitK g L k && someB g n (L.eraseIdx k)
theorem someB_iff {g : Nat → Nat → Int} : ∀ (n : Nat) (L : List Nat), L.length = n → (∀ i ∈ L, OkT (g i)) → n ≤ 20 → (someB g n L = true ↔ someP g n L)
  | 0, _, _, _, _ => ⟨fun _ => trivial, fun _ => rfl⟩
  | n + 1, L, hl, hL, hn => by
    unfold someB someP
    rw [List.any_eq_true]
    constructor
    · rintro ⟨k, hk, h⟩
      have hk2 : k < L.length := by rw [hl]; exact List.mem_range.1 hk
      rw [Bool.and_eq_true] at h
      exact ⟨k, hk2, (fitK_is hL hk2 (by omega)).1 h.1, (someB_iff n _ (by rw [List.length_eraseIdx_of_lt hk2]; omega) (erase_ok hL k) (by omega)).1 h.2⟩
    · rintro ⟨k, hk, h1, h2⟩
      refine ⟨k, List.mem_range.2 (by omega), ?_⟩
      rw [Bool.and_eq_true]
      exact ⟨(fitK_is hL hk (by omega)).2 h1, (someB_iff n _ (by rw [List.length_eraseIdx_of_lt hk]; omega) (erase_ok hL k) (by omega)).2 h2⟩
end Go.Proofs.Ytmkpimdbmjpelaa
