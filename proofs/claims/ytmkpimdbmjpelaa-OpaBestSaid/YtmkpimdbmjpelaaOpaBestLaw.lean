/-
  Layer 38, plain law (Audsley): whichever task can be last may be put last; so an order is found just if there is any.
-/
import Derived.Test.YtmkpimdbmjpelaaOpaLaw
namespace Go.Proofs.Ytmkpimdbmjpelaa
open Go.RowKit
/-- What a task asks for in so many ticks. -/
def shr (t : Int) (x : Nat → Int) : Int := brings t (termOf x)
def sumP (g : Nat → Nat → Int) (t : Int) : List Nat → Int
  | [] => 0
  | i :: L => shr t (g i) + sumP g t L
theorem sumP_append (g : Nat → Nat → Int) (t : Int) (L M : List Nat) : sumP g t (L ++ M) = sumP g t L + sumP g t M := by
  induction L with
  | nil => simp [sumP]
  | cons a L ih => simp only [List.cons_append, sumP, ih]; omega
theorem total_congr {t : Int} {f h : Nat → TT} {n : Nat} (e : ∀ i, i < n → f i = h i) : total t f n = total t h n := by
  induction n with
  | zero => rfl
  | succ n ih => simp only [total]; rw [ih fun i hi => e i (by omega), e n (Nat.lt_succ_self _)]
theorem total_sum (g : Nat → Nat → Int) (t : Int) (P : List Nat) : ∀ n, n ≤ P.length → total t (fun i => termOf (othG g P i)) n = sumP g t (P.take n) := by
  intro n
  induction n with
  | zero => intro _; rfl
  | succ n ih =>
    intro hn
    simp only [total]
    rw [ih (by omega), List.take_succ_eq_append_getElem (by omega), sumP_append]
    simp only [sumP, othG, shr, List.getD_eq_getElem?_getD, List.getElem?_eq_getElem (show n < P.length by omega), Option.getD_some]
    omega
theorem shr_pos {t : Int} {x : Nat → Int} (h : OkT x) (h0 : 0 ≤ t) (ht : t ≤ 3000) : 0 ≤ shr t x := (brings_bound h.fit h0 ht).2.2.1
/-- A task is done in time behind others. -/
def okS (g : Nat → Nat → Int) (x : Nat → Int) (P : List Nat) : Prop := ∃ t, 1 ≤ t ∧ t ≤ x 1 ∧ x 2 + sumP g t P ≤ t
theorem sumP_nonneg {g : Nat → Nat → Int} {t : Int} {P : List Nat} (h : ∀ i ∈ P, OkT (g i)) (h0 : 0 ≤ t) (ht : t ≤ 3000) : 0 ≤ sumP g t P := by
  induction P with
  | nil => exact Int.le_refl _
  | cons a P ih =>
    have h1 := ih fun i hi => h i (List.mem_cons_of_mem _ hi)
    have h2 := shr_pos (h a (by simp)) h0 ht
    simp only [sumP]
    omega
theorem last_is {g : Nat → Nat → Int} {x : Nat → Int} {P : List Nat} (hP : ∀ i ∈ P, OkT (g i)) (hx : OkT x) (hn : P.length ≤ 20) : lastR x (othG g P) P.length = true ↔ okS g x P := by
  have hf : ∀ i, i < P.length → Fit (termOf (othG g P i)) := fun i hi => by
    refine OkT.fit ?_
    unfold othG
    rw [List.getD_eq_getElem?_getD, List.getElem?_eq_getElem hi]
    exact hP _ (List.getElem_mem hi)
  have h1 := leastR_isLeast (own := x 2) (most := x 1) hf (by have := hx.c1; omega) (by have := hx.c2; have := hx.d2; have := hx.p2; omega) (by have := hx.d2; have := hx.p2; omega) hn
  have hd : ∀ t, due (x 2) t (fun i => termOf (othG g P i)) P.length = x 2 + sumP g t P := fun t => by
    unfold due
    rw [total_sum g t P _ (Nat.le_refl _), List.take_length]
  have hb := hx.d2
  have hb2 := hx.p2
  have hb3 := hx.c1
  unfold lastR
  rcases h1 with ⟨y, hy, a1, a2, a3, _⟩ | ⟨hy, a1⟩
  · rw [hy]
    simp only [true_iff]
    simp only [hd] at a3
    exact ⟨y, by omega, a2, a3⟩
  · rw [hy]
    simp only [Bool.false_eq_true, false_iff]
    rintro ⟨t, b1, b2, b3⟩
    have hs := sumP_nonneg (g := g) (t := t) hP (by omega) (by omega)
    have := a1 t (by omega) b2
    simp only [hd] at this
    omega
theorem okS_less {g : Nat → Nat → Int} {x : Nat → Int} {P Q : List Nat} (hx : OkT x) (h : okS g x P) (hq : ∀ t, 0 ≤ t → t ≤ 3000 → sumP g t Q ≤ sumP g t P) : okS g x Q := by
  obtain ⟨t, h1, h2, h3⟩ := h
  have := hx.d2
  have := hx.p2
  have := hq t (by omega) (by omega)
  exact ⟨t, h1, h2, by omega⟩
theorem sumP_erase (g : Nat → Nat → Int) (t : Int) : ∀ (L : List Nat) (k : Nat), k < L.length → sumP g t L = shr t (g (L.getD k 0)) + sumP g t (L.eraseIdx k)
  | [], k, h => by simp at h
  | a :: L, 0, _ => by simp [sumP]
  | a :: L, k + 1, h => by
    have := sumP_erase g t L k (by simpa using h)
    simp only [List.eraseIdx_cons_succ, sumP, List.getD_cons_succ]
    omega
theorem sumP_perm (g : Nat → Nat → Int) (t : Int) {L M : List Nat} (h : L.Perm M) : sumP g t L = sumP g t M := by
  induction h with
  | nil => rfl
  | cons x _ ih => simp only [sumP, ih]
  | swap x y l => simp only [sumP]; omega
  | trans _ _ h1 h2 => exact h1.trans h2
theorem okS_perm {g : Nat → Nat → Int} {x : Nat → Int} {L M : List Nat} (h : L.Perm M) : okS g x L ↔ okS g x M := by
  unfold okS
  constructor
  · rintro ⟨t, a, b, c⟩; exact ⟨t, a, b, by rw [← sumP_perm g t h]; exact c⟩
  · rintro ⟨t, a, b, c⟩; exact ⟨t, a, b, by rw [sumP_perm g t h]; exact c⟩
/-- Is there any order of these places that fits? -/
def someP (g : Nat → Nat → Int) : Nat → List Nat → Prop
  | 0, _ => True
  | n + 1, L => ∃ k, k < L.length ∧ okS g (g (L.getD k 0)) (L.eraseIdx k) ∧ someP g n (L.eraseIdx k)
theorem erase_perm : ∀ {L : List Nat} {k : Nat}, k < L.length → (L.getD k 0 :: L.eraseIdx k).Perm L
  | [], _, hk => by simp at hk
  | a :: L, 0, _ => List.Perm.refl _
  | a :: L, k + 1, hk => by
    have h1 := erase_perm (L := L) (k := k) (by simpa using hk)
    rw [List.getD_cons_succ, List.eraseIdx_cons_succ]
    exact (List.Perm.swap _ _ _).trans (h1.cons a)
theorem perm_at {L M : List Nat} (h : L.Perm M) {k : Nat} (hk : k < L.length) : ∃ j, j < M.length ∧ M.getD j 0 = L.getD k 0 ∧ (L.eraseIdx k).Perm (M.eraseIdx j) := by
  have hm : L.getD k 0 ∈ M := h.subset (by rw [List.getD_eq_getElem?_getD, List.getElem?_eq_getElem hk]; exact List.getElem_mem hk)
  obtain ⟨j, hj, e⟩ := List.getElem_of_mem hm
  have e2 : M.getD j 0 = L.getD k 0 := by
    rw [List.getD_eq_getElem?_getD, List.getElem?_eq_getElem hj]; exact e
  refine ⟨j, hj, e2, ?_⟩
  have h1 := (erase_perm hk).trans (h.trans (erase_perm hj).symm)
  rw [e2] at h1
  exact h1.cons_inv
theorem someP_perm {g : Nat → Nat → Int} : ∀ (n : Nat) {L M : List Nat}, L.Perm M → someP g n L → someP g n M
  | 0, _, _, _, _ => trivial
  | n + 1, L, M, h, hs => by
    obtain ⟨k, hk, hf, h2⟩ := hs
    obtain ⟨j, hj, e, hp⟩ := perm_at h hk
    exact ⟨j, hj, by rw [e]; exact (okS_perm hp).1 hf, someP_perm n hp h2⟩
/-- Two places apart, taken out one behind the other. -/
theorem erase_two {L : List Nat} {j k : Nat} (hj : j < L.length) (hk : k < L.length) (h : j ≠ k) : ∃ j' k', j' < (L.eraseIdx k).length ∧ k' < (L.eraseIdx j).length ∧ (L.eraseIdx k).getD j' 0 = L.getD j 0 ∧ (L.eraseIdx j).getD k' 0 = L.getD k 0 ∧ ((L.eraseIdx k).eraseIdx j').Perm ((L.eraseIdx j).eraseIdx k') := by
  have e1 : ∀ a b : Nat, a ≠ b → a < L.length → b < L.length → (L.eraseIdx b).getD (if a < b then a else a - 1) 0 = L.getD a 0 := fun a b hab ha hb => by
    rw [List.getD_eq_getElem?_getD, List.getD_eq_getElem?_getD]
    by_cases h2 : a < b
    · rw [if_pos h2, List.getElem?_eraseIdx, if_pos h2]
    · rw [if_neg h2, List.getElem?_eraseIdx, if_neg (by omega), show a - 1 + 1 = a by omega]
  have l1 : (L.eraseIdx k).length = L.length - 1 := List.length_eraseIdx_of_lt hk
  have l2 : (L.eraseIdx j).length = L.length - 1 := List.length_eraseIdx_of_lt hj
  refine ⟨if j < k then j else j - 1, if k < j then k else k - 1, by rw [l1]; split <;> omega, by rw [l2]; split <;> omega, e1 j k h hj hk, e1 k j (Ne.symm h) hk hj, ?_⟩
  have a1 := erase_perm (L := L.eraseIdx k) (k := if j < k then j else j - 1) (by rw [l1]; split <;> omega)
  have a2 := erase_perm (L := L.eraseIdx j) (k := if k < j then k else k - 1) (by rw [l2]; split <;> omega)
  rw [e1 j k h hj hk] at a1
  rw [e1 k j (Ne.symm h) hk hj] at a2
  have b1 := (a1.cons (L.getD k 0)).trans (erase_perm hk)
  have b2 := (a2.cons (L.getD j 0)).trans (erase_perm hj)
  have b3 := b1.trans b2.symm
  exact ((List.Perm.swap _ _ _).trans b3).cons_inv.cons_inv
theorem erase_ok {g : Nat → Nat → Int} {L : List Nat} (h : ∀ i ∈ L, OkT (g i)) (k : Nat) : ∀ i ∈ L.eraseIdx k, OkT (g i) := fun i hi => h i (List.mem_of_mem_eraseIdx hi)
theorem at_ok {g : Nat → Nat → Int} {L : List Nat} (h : ∀ i ∈ L, OkT (g i)) {k : Nat} (hk : k < L.length) : OkT (g (L.getD k 0)) := by
  rw [List.getD_eq_getElem?_getD, List.getElem?_eq_getElem hk]
  exact h _ (List.getElem_mem hk)
theorem sumP_le {g : Nat → Nat → Int} {L : List Nat} (h : ∀ i ∈ L, OkT (g i)) {k : Nat} (hk : k < L.length) {t : Int} (h0 : 0 ≤ t) (ht : t ≤ 3000) : sumP g t (L.eraseIdx k) ≤ sumP g t L := by
  have := sumP_erase g t L k hk
  have := shr_pos (at_ok h hk) h0 ht
  omega
/-- Audsley: whichever can be last may be put last. -/
theorem audsley {g : Nat → Nat → Int} : ∀ (n : Nat) (L : List Nat), L.length = n + 1 → (∀ i ∈ L, OkT (g i)) → someP g (n + 1) L → ∀ j, j < L.length → okS g (g (L.getD j 0)) (L.eraseIdx j) → someP g n (L.eraseIdx j)
  | 0, _, _, _, _, _, _, _ => trivial
  | n + 1, L, hl, hL, ⟨k, hk, hf, hs⟩, j, hj, hfj => by
    by_cases h : j = k
    · subst h; exact hs
    · obtain ⟨j', k', h1, h2, e1, e2, hp⟩ := erase_two hj hk h
      have hlk : (L.eraseIdx k).length = n + 1 := by rw [List.length_eraseIdx_of_lt hk]; omega
      have f1 : okS g (g ((L.eraseIdx k).getD j' 0)) ((L.eraseIdx k).eraseIdx j') := by
        rw [e1]
        refine okS_less (at_ok hL hj) hfj fun t a b => ?_
        rw [sumP_perm g t hp]
        exact sumP_le (erase_ok hL j) h2 a b
      have f2 : okS g (g ((L.eraseIdx j).getD k' 0)) ((L.eraseIdx j).eraseIdx k') := by
        rw [e2]
        refine okS_less (at_ok hL hk) hf fun t a b => ?_
        rw [← sumP_perm g t hp]
        exact sumP_le (erase_ok hL k) h1 a b
      have h3 := audsley n (L.eraseIdx k) hlk (erase_ok hL k) hs j' h1 f1
      exact ⟨k', h2, f2, someP_perm n hp h3⟩
end Go.Proofs.Ytmkpimdbmjpelaa
