/-
  Layer 48, plain law: what goes off in so many ticks, one behind the other.
-/
import Derived.Test.YtdccpbnknfffaaaAlarmLaw
namespace Go.Proofs.Ytdccpbnknfffaaa
/-- Behind so many ticks. -/
def evS (s : ST) : Nat → ST
  | 0 => s
  | n + 1 => tickA (evS s n)
/-- What goes off in the next tick. -/
def evT (s : ST) (n : Nat) : TL := (dueR (evS s n).1).map fun id => ((n : Int) + 1, id)
def evE (s : ST) : Nat → TL
  | 0 => []
  | n + 1 => evE s n ++ evT s n
theorem evE_succ (s : ST) (n : Nat) : evE s (n + 1) = evE s n ++ evT s n := rfl
theorem evT_len (s : ST) (n : Nat) : (evT s n).length = (dueR (evS s n).1).length := by simp [evT]
theorem evE_mono (s : ST) {j n : Nat} (h : j ≤ n) : (evE s j).length ≤ (evE s n).length := by
  induction n with
  | zero => obtain rfl : j = 0 := by omega
            exact Nat.le_refl _
  | succ n ih =>
    rcases Nat.lt_or_ge n j with h1 | h1
    · obtain rfl : j = n + 1 := by omega
      exact Nat.le_refl _
    · have := ih h1
      rw [evE_succ, List.length_append]; omega
theorem evE_prefix (s : ST) {j n : Nat} (h : j ≤ n) : (evE s n).take (evE s j).length = evE s j := by
  induction n with
  | zero => obtain rfl : j = 0 := by omega
            rfl
  | succ n ih =>
    rcases Nat.lt_or_ge n j with h1 | h1
    · obtain rfl : j = n + 1 := by omega
      exact List.take_length
    · rw [evE_succ, List.take_append_of_le_length (evE_mono s h1)]
      exact ih h1
/-- The event at a place. -/
theorem evE_at (s : ST) {N n j : Nat} (hn : n < N) (hj : j < (dueR (evS s n).1).length) : (evE s N).getD ((evE s n).length + j) (0, 0) = ((n : Int) + 1, (dueR (evS s n).1).getD j 0) ∧ (evE s n).length + j < (evE s N).length := by
  have hl := evE_mono s (show n + 1 ≤ N from hn)
  have hp := evE_prefix s (show n + 1 ≤ N from hn)
  have hlen : (evE s (n + 1)).length = (evE s n).length + (dueR (evS s n).1).length := by rw [evE_succ, List.length_append, evT_len]
  refine ⟨?_, by omega⟩
  have e1 : (evE s N)[(evE s n).length + j]? = (evE s (n + 1))[(evE s n).length + j]? := by
    rw [← hp, List.getElem?_take, if_pos (by omega)]
  rw [List.getD_eq_getElem?_getD, e1, evE_succ, List.getElem?_append_right (by omega), show (evE s n).length + j - (evE s n).length = j by omega]
  simp [evT, hj]
theorem evE_inj (s : ST) {n n' p : Nat} (h1 : (evE s n).length ≤ p) (h2 : p < (evE s (n + 1)).length) (k1 : (evE s n').length ≤ p) (k2 : p < (evE s (n' + 1)).length) : n = n' := by
  rcases Nat.lt_trichotomy n n' with h | h | h
  · have := evE_mono s (show n + 1 ≤ n' from h); omega
  · exact h
  · have := evE_mono s (show n' + 1 ≤ n from h); omega
theorem take_next {l : TL} {p : Nat} (hp : p < l.length) : l.take p ++ [l.getD p (0, 0)] = l.take (p + 1) := by
  rw [List.take_succ_eq_append_getElem hp]; simp [hp]
theorem Rng.evS {s : ST} (h : Rng s) (n : Nat) : Rng (evS s n) := by
  induction n with
  | zero => exact h
  | succ n ih => exact ih.tick
theorem leftR_wf {r : TL} {P : Int → Prop} (h : ∀ x ∈ r, P x.1) : ∀ x ∈ leftR r, P x.1 := fun x hx => by
  unfold leftR at hx
  obtain ⟨y, hy, rfl⟩ := List.mem_map.1 hx
  exact h y (List.mem_filter.1 hy).1
theorem addR_wf {r : TL} {P : Int → Prop} (h : ∀ x ∈ r, P x.1) {id t : Int} (hid : P id) : ∀ x ∈ addR id t r, P x.1 := fun x hx => by
  unfold addR at hx
  split at hx
  · rcases List.mem_append.1 hx with h1 | h1
    · exact h x (List.mem_filter.1 h1).1
    · simp only [List.mem_singleton] at h1; subst h1; exact hid
  · exact h x hx
theorem dropR_wf {r : TL} {P : Int → Prop} (h : ∀ x ∈ r, P x.1) (id : Int) : ∀ x ∈ dropR id r, P x.1 := fun x hx => h x (List.mem_filter.1 hx).1
theorem tickA_wf {s : ST} {P : Int → Prop} (h : ∀ x ∈ s.1, P x.1) : ∀ x ∈ (tickA s).1, P x.1 := by
  have hd : ∀ i ∈ dueR s.1, P i := fun i hi => by
    obtain ⟨x, hx, rfl⟩ := List.mem_map.1 hi
    exact h x (List.mem_filter.1 hx).1
  have key : ∀ (l : List Int) (z : ST), (∀ i ∈ l, P i) → (∀ x ∈ z.1, P x.1) → ∀ x ∈ (l.foldl stepT z).1, P x.1 := by
    intro l
    induction l with
    | nil => intro z _ hz; exact hz
    | cons a l ih =>
      intro z hl hz
      refine ih _ (fun i hi => hl i (List.mem_cons_of_mem _ hi)) ?_
      unfold stepT
      split
      · exact hz
      · exact addR_wf hz (hl a (by simp))
  exact key _ _ hd (leftR_wf h)
theorem evS_wf {s : ST} {P : Int → Prop} (h : ∀ x ∈ s.1, P x.1) (n : Nat) : ∀ x ∈ (evS s n).1, P x.1 := by
  induction n with
  | zero => exact h
  | succ n ih => exact tickA_wf ih
/-- So many ticks are gone through, where no more than most events are asked for. -/
structure Spec (s : ST) (N most n : Nat) : Prop where
  le : n ≤ N
  lt : ∀ j, j < n → (evE s j).length < most
  fin : n = N ∨ most ≤ (evE s n).length
theorem Spec.uniq {s : ST} {N most n n' : Nat} (h : Spec s N most n) (k : Spec s N most n') : n = n' := by
  rcases Nat.lt_trichotomy n n' with h1 | h1 | h1
  · have a := k.lt n h1
    have b := k.le
    rcases h.fin with e | e <;> omega
  · exact h1
  · have a := h.lt n' h1
    have b := h.le
    rcases k.fin with e | e <;> omega
end Go.Proofs.Ytdccpbnknfffaaa
