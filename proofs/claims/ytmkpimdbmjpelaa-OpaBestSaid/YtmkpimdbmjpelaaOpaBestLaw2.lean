/-
  Layer 38, plain law: an order is found just if there is any, and it fits; so does the order by the shortest deadlines.
-/
import Derived.Test.YtmkpimdbmjpelaaOpaBestLaw
namespace Go.Proofs.Ytmkpimdbmjpelaa
open Go.RowKit
theorem fitK_is {g : Nat → Nat → Int} {L : List Nat} (h : ∀ i ∈ L, OkT (g i)) {k : Nat} (hk : k < L.length) (hn : L.length ≤ 20) : fitK g L k = true ↔ okS g (g (L.getD k 0)) (L.eraseIdx k) := by
  have h1 := last_is (g := g) (x := g (L.getD k 0)) (erase_ok h k) (at_ok h hk) (by rw [List.length_eraseIdx_of_lt hk]; omega)
  rw [List.length_eraseIdx_of_lt hk] at h1
  exact h1
theorem pick_none_all {g : Nat → Nat → Int} {L : List Nat} {n : Nat} (h : pickK g L n = none) : ∀ j, j < n → fitK g L j = false := by
  induction n with
  | zero => intro j hj; omega
  | succ n ih =>
    intro j hj
    unfold pickK at h
    split at h
    · cases h
    · rename_i hf
      rcases (show j < n ∨ j = n by omega) with h1 | rfl
      · exact ih h j h1
      · simpa using hf
theorem order_iff {g : Nat → Nat → Int} : ∀ (n : Nat) (L out : List Nat), L.length = n → (∀ i ∈ L, OkT (g i)) → n ≤ 20 → ((orderF g n L out).isSome = true ↔ someP g n L)
  | 0, L, out, _, _, _ => by simp [orderF, someP]
  | n + 1, L, out, hl, hL, hn => by
    cases hp : pickK g L L.length with
    | none =>
      rw [order_none hp]
      simp only [Option.isSome_none, Bool.false_eq_true, false_iff]
      rintro ⟨k, hk, hf, _⟩
      have h1 := pick_none_all hp k hk
      rw [(fitK_is hL hk (by omega)).2 hf] at h1
      cases h1
    | some k =>
      obtain ⟨hk, hf⟩ := pickK_lt hp
      have hf2 := (fitK_is hL hk (by omega)).1 hf
      have hlen : (L.eraseIdx k).length = n := by rw [List.length_eraseIdx_of_lt hk]; omega
      rw [order_some hp, order_iff n _ _ hlen (erase_ok hL k) (by omega)]
      exact ⟨fun h => ⟨k, hk, hf2, h⟩, fun h => audsley n L hl hL h k hk hf2⟩
/-- Each is done in time behind those ahead of it. -/
def fitsP (g : Nat → Nat → Int) (Q : List Nat) : Prop := ∀ i, i < Q.length → okS g (g (Q.getD i 0)) (Q.take i)
theorem fitsP_nil (g : Nat → Nat → Int) : fitsP g [] := fun i hi => by simp at hi
theorem fitsP_snoc {g : Nat → Nat → Int} {Q : List Nat} {a : Nat} : fitsP g (Q ++ [a]) ↔ fitsP g Q ∧ okS g (g a) Q := by
  constructor
  · intro h
    refine ⟨fun i hi => ?_, ?_⟩
    · have := h i (by simp; omega)
      rw [List.take_append_of_le_length (by omega)] at this
      rw [List.getD_eq_getElem?_getD, List.getElem?_append_left hi] at this
      rw [List.getD_eq_getElem?_getD]
      exact this
    · have := h Q.length (by simp)
      rw [List.take_left] at this
      simpa [List.getD_eq_getElem?_getD] using this
  · rintro ⟨h, k⟩ i hi
    simp only [List.length_append, List.length_singleton] at hi
    rcases (show i < Q.length ∨ i = Q.length by omega) with h1 | rfl
    · rw [List.take_append_of_le_length (by omega), List.getD_eq_getElem?_getD, List.getElem?_append_left h1, ← List.getD_eq_getElem?_getD]
      exact h i h1
    · rw [List.take_left]
      simpa [List.getD_eq_getElem?_getD] using k
/-- What is found: an order of what is left, ahead of what was found. -/
theorem order_found {g : Nat → Nat → Int} : ∀ (n : Nat) (L out o : List Nat), L.length = n → (∀ i ∈ L, OkT (g i)) → n ≤ 20 → orderF g n L out = some o → ∃ Q, o = Q ++ out ∧ Q.Perm L ∧ fitsP g Q
  | 0, L, out, o, hl, _, _, h => by
    have : L = [] := List.eq_nil_of_length_eq_zero hl
    subst this
    simp [orderF] at h
    exact ⟨[], by simp [h], List.Perm.refl _, fitsP_nil g⟩
  | n + 1, L, out, o, hl, hL, hn, h => by
    cases hp : pickK g L L.length with
    | none => rw [order_none hp] at h; cases h
    | some k =>
      obtain ⟨hk, hf⟩ := pickK_lt hp
      have hf2 := (fitK_is hL hk (by omega)).1 hf
      have hlen : (L.eraseIdx k).length = n := by rw [List.length_eraseIdx_of_lt hk]; omega
      rw [order_some hp] at h
      obtain ⟨Q, h1, h2, h3⟩ := order_found n _ _ _ hlen (erase_ok hL k) (by omega) h
      refine ⟨Q ++ [L.getD k 0], by rw [h1]; simp, ?_, fitsP_snoc.2 ⟨h3, (okS_perm h2).2 hf2⟩⟩
      refine List.Perm.trans ?_ (erase_perm hk)
      exact (List.perm_append_comm (l₁ := Q) (l₂ := [L.getD k 0])).trans (h2.cons _)
/-- In so many ticks as one's own deadline one's own job comes once. -/
theorem shr_once {t : Int} {x : Nat → Int} (h : OkT x) (h1 : 1 ≤ t) (h2 : t ≤ x 1) : shr t x = x 2 := by
  have hd := h.d2
  have hj : jobsOf t (termOf x) = 1 := by
    unfold jobsOf termOf
    show (max (t - 0) 0 + x 0 - 1) / x 0 = 1
    rw [Int.max_eq_left (by omega)]
    have hp := h.p1
    rw [show t - 0 + x 0 - 1 = (t - 1) + 1 * x 0 by omega, Int.add_mul_ediv_right _ _ (by omega), Int.ediv_eq_zero_of_lt (by omega) (by omega)]
    omega
  unfold shr brings
  rw [hj]
  show 1 * x 2 + 0 = x 2
  omega
theorem shr_least {t : Int} {x : Nat → Int} (h : OkT x) (h1 : 1 ≤ t) : x 2 ≤ shr t x := by
  have hj : 1 ≤ jobsOf t (termOf x) := by
    unfold jobsOf termOf
    show 1 ≤ (max (t - 0) 0 + x 0 - 1) / x 0
    have hp := h.p1
    rw [Int.max_eq_left (by omega)]
    exact Int.le_ediv_of_mul_le (by omega) (by omega)
  have := Int.mul_le_mul_of_nonneg_right hj (show 0 ≤ x 2 by have := h.c1; omega)
  unfold shr brings
  show x 2 ≤ jobsOf t (termOf x) * x 2 + 0
  omega
/-- The one of the longest deadline can be last. -/
theorem deadline_last {g : Nat → Nat → Int} {n : Nat} {L : List Nat} (hL : ∀ i ∈ L, OkT (g i)) (hs : someP g (n + 1) L) {j : Nat} (hj : j < L.length) (hm : ∀ k, k < L.length → g (L.getD k 0) 1 ≤ g (L.getD j 0) 1) : okS g (g (L.getD j 0)) (L.eraseIdx j) := by
  obtain ⟨k, hk, ⟨t, h1, h2, h3⟩, _⟩ := hs
  by_cases h : j = k
  · subst h; exact ⟨t, h1, h2, h3⟩
  · obtain ⟨j', k', a1, a2, e1, e2, hp⟩ := erase_two hj hk h
    have hok := at_ok hL hk
    have hoj := at_ok hL hj
    have s1 := sumP_erase g t (L.eraseIdx k) j' a1
    have s2 := sumP_erase g t (L.eraseIdx j) k' a2
    rw [e1] at s1
    rw [e2, shr_once hok h1 h2] at s2
    have s3 := sumP_perm g t hp
    have s4 := shr_least hoj h1
    have := hm k hk
    exact ⟨t, h1, by omega, by omega⟩
/-- By the shortest deadlines it fits just if there is any order. -/
def SortD (g : Nat → Nat → Int) (Q : List Nat) : Prop := Q.Pairwise fun a b => g a 1 ≤ g b 1
theorem fits_some {g : Nat → Nat → Int} : ∀ (n : Nat) (Q : List Nat), Q.length = n → fitsP g Q → someP g n Q
  | 0, _, _, _ => trivial
  | n + 1, Q, hl, h => by
    obtain ⟨P, a, rfl⟩ : ∃ P a, Q = P ++ [a] := ⟨Q.dropLast, Q.getLast (by intro e; rw [e] at hl; simp at hl), (List.dropLast_concat_getLast _).symm⟩
    obtain ⟨h1, h2⟩ := fitsP_snoc.1 h
    have hlP : P.length = n := by simpa using hl
    have he : (P ++ [a]).eraseIdx n = P := by
      rw [List.eraseIdx_append_of_length_le (by omega), hlP]; simp
    have hg : (P ++ [a]).getD n 0 = a := by
      rw [List.getD_eq_getElem?_getD, ← hlP]; simp
    exact ⟨n, by simp; omega, by rw [he, hg]; exact h2, by rw [he]; exact fits_some n P hlP h1⟩
theorem tight_fits {g : Nat → Nat → Int} : ∀ (n : Nat) (Q : List Nat), Q.length = n → (∀ i ∈ Q, OkT (g i)) → SortD g Q → (fitsP g Q ↔ someP g n Q)
  | 0, Q, hl, _, _ => by
    have : Q = [] := List.eq_nil_of_length_eq_zero hl
    subst this
    exact ⟨fun _ => trivial, fun _ => fitsP_nil g⟩
  | n + 1, Q, hl, hQ, hS => by
    refine ⟨fits_some _ _ hl, fun h => ?_⟩
    obtain ⟨P, a, rfl⟩ : ∃ P a, Q = P ++ [a] := ⟨Q.dropLast, Q.getLast (by intro e; rw [e] at hl; simp at hl), (List.dropLast_concat_getLast _).symm⟩
    have hlP : P.length = n := by simpa using hl
    have he : (P ++ [a]).eraseIdx n = P := by
      rw [List.eraseIdx_append_of_length_le (by omega), hlP]; simp
    have hg : (P ++ [a]).getD n 0 = a := by
      rw [List.getD_eq_getElem?_getD, ← hlP]; simp
    obtain ⟨hS1, _, hS2⟩ := List.pairwise_append.1 hS
    have hlast := deadline_last hQ h (j := n) (by simp; omega) fun k hk => by
      rw [hg]
      simp only [List.length_append, List.length_singleton] at hk
      rcases (show k < P.length ∨ k = P.length by omega) with h1 | rfl
      · rw [List.getD_eq_getElem?_getD, List.getElem?_append_left h1, List.getElem?_eq_getElem h1]
        exact hS2 _ (List.getElem_mem h1) a (by simp)
      · rw [hlP, hg]; exact Int.le_refl _
    have hs := audsley n _ (by simpa using hl) hQ h n (by simp; omega) hlast
    rw [he] at hs hlast
    rw [hg] at hlast
    exact fitsP_snoc.2 ⟨(tight_fits n P hlP (fun i hi => hQ i (by simp [hi])) hS1).2 hs, hlast⟩
end Go.Proofs.Ytmkpimdbmjpelaa
