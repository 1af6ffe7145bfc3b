/-
  What a queue is filled with, one number behind the other, is the last of all (plain law).
-/
import Derived.Test.YtmkpimdbmjpelaaQueueStep
namespace Go.Proofs.Ytmkpimdbmjpelaa
def fillL (cap : Nat) : List Int → Nat → List Int → List Int × Nat
  | xs, d, [] => (xs, d)
  | xs, d, x :: L => if xs.length = cap then fillL cap (xs.drop 1 ++ [x]) (d + 1) L else fillL cap (xs ++ [x]) d L
theorem fillL_snoc (cap : Nat) : ∀ (L : List Int) (xs : List Int) (d : Nat) (x : Int), fillL cap xs d (L ++ [x]) = if (fillL cap xs d L).1.length = cap then ((fillL cap xs d L).1.drop 1 ++ [x], (fillL cap xs d L).2 + 1) else ((fillL cap xs d L).1 ++ [x], (fillL cap xs d L).2)
  | [], xs, d, x => by
    show (if _ then _ else _) = _
    rfl
  | y :: L, xs, d, x => by
    show (if _ then fillL cap _ _ (L ++ [x]) else fillL cap _ _ (L ++ [x])) = _
    have e : fillL cap xs d (y :: L) = if xs.length = cap then fillL cap (xs.drop 1 ++ [y]) (d + 1) L else fillL cap (xs ++ [y]) d L := rfl
    rw [e]
    by_cases h : xs.length = cap
    · simp only [if_pos h]; exact fillL_snoc cap L _ _ x
    · simp only [if_neg h]; exact fillL_snoc cap L _ _ x
theorem lastF_len (xs : List Int) (m : Nat) : (lastF xs m).length = min xs.length m := by
  unfold lastF
  split
  · rw [List.length_drop]; omega
  · omega
theorem fillL_is (cap : Nat) (hc : 1 ≤ cap) (xs : List Int) (hx : xs.length ≤ cap) (d : Nat) : ∀ n (L : List Int), L.length = n → fillL cap xs d L = (lastF (xs ++ L) cap, d + ((xs ++ L).length - (lastF (xs ++ L) cap).length)) := by
  intro n
  induction n with
  | zero =>
    intro L hL
    obtain rfl := List.eq_nil_of_length_eq_zero hL
    rw [List.append_nil, lastF_len]
    show (xs, d) = _
    have : lastF xs cap = xs := if_neg (by omega)
    rw [this, show xs.length - min xs.length cap = 0 by omega]; rfl
  | succ n ih =>
    intro L hL
    obtain ⟨L', x, rfl⟩ : ∃ L' x, L = L' ++ [x] := by
      rcases List.eq_nil_or_concat L with h | ⟨L', x, h⟩
      · rw [h] at hL; cases hL
      · exact ⟨L', x, by rw [h, List.concat_eq_append]⟩
    have hl : L'.length = n := by simpa using hL
    rw [fillL_snoc, ih L' hl, ← List.append_assoc]
    simp only [lastF_len]
    by_cases h : min (xs ++ L').length cap = cap
    · rw [if_pos h]
      have h2 : cap ≤ (xs ++ L').length := by omega
      have e : lastF (xs ++ L' ++ [x]) cap = (lastF (xs ++ L') cap).drop 1 ++ [x] := by
        have h3 : lastF (xs ++ L' ++ [x]) cap = (xs ++ L' ++ [x]).drop ((xs ++ L' ++ [x]).length - cap) := if_pos (by simp at h2 ⊢; omega)
        have h4 : lastF (xs ++ L') cap = (xs ++ L').drop ((xs ++ L').length - cap) := by
          unfold lastF
          split
          · rfl
          · rw [show (xs ++ L').length - cap = 0 by omega, List.drop_zero]
        rw [h3, h4, List.drop_drop, List.drop_append_of_le_length (by simp at h2 ⊢; omega)]
        congr 2
        simp at h2 ⊢; omega
      rw [e]
      simp at h2 ⊢
      omega
    · rw [if_neg h]
      have h2 : (xs ++ L').length < cap := by omega
      have e1 : lastF (xs ++ L') cap = xs ++ L' := if_neg (by omega)
      have e2 : lastF (xs ++ L' ++ [x]) cap = xs ++ L' ++ [x] := if_neg (by simp at h2 ⊢; omega)
      rw [e1, e2]
      simp at h2 ⊢
      omega
end Go.Proofs.Ytmkpimdbmjpelaa
