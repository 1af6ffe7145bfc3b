/-
  Plain law of HeaderCut: whichever word the power goes in, the header is valid just if all words up to the last one that commits are as they should be.
-/
import Derived.Test.YtgcpfmdldgmbnaaHeaderReads
namespace Go.Proofs.Ytgcpfmdldgmbnaa
/-- The sector behind a cut: so many words, one with any bits left, blank ones. -/
def cutF (s l c m : BitVec 32) (q : Nat) (i : Nat) : BitVec 32 := if i < q then wordsF s l c true true i else if i = q ∧ q < 10 then wordsF s l c true true q ||| m else blankW
def wholeN (s l c m : BitVec 32) (q : Nat) : Nat := if q < 10 ∧ (wordsF s l c true true q ||| m) = wordsF s l c true true q then q + 1 else q
theorem cut_spec (s l c m : BitVec 32) (q : Nat) (hq : q ≤ 10) :
    validB (cutF s l c m q) = decide (8 ≤ wholeN s l c m q) ∧ confB (cutF s l c m q) = decide (10 ≤ wholeN s l c m q) ∧ (validB (cutF s l c m q) = true → cutF s l c m q 0 = s ∧ cutF s l c m q 2 = l ∧ cutF s l c m q 4 = c) := by
  have b6 : (blankW == commW) = false := by decide
  have b7 : (blankW == ~~~commW) = false := by decide
  have b9 : (blankW == ~~~confW) = false := by decide
  by_cases h6 : q ≤ 6
  · have hv : validB (cutF s l c m q) = false := by
      unfold validB
      by_cases h5 : q < 6
      · have : cutF s l c m q 6 = blankW := by unfold cutF; rw [if_neg (by omega), if_neg (by omega)]
        rw [this, b6]; simp
      · have : cutF s l c m q 7 = blankW := by unfold cutF; rw [if_neg (by omega), if_neg (by omega)]
        rw [this, b7]; simp
    have hw : wholeN s l c m q ≤ 7 := by unfold wholeN; split <;> omega
    refine ⟨?_, ?_, ?_⟩
    · rw [hv, decide_eq_false (by omega)]
    · unfold confB
      rw [hv, decide_eq_false (by omega)]; rfl
    · rw [hv]; intro h; cases h
  · have e : ∀ i, i < 7 → cutF s l c m q i = wordsF s l c true true i := fun i hi => by unfold cutF; rw [if_pos (by omega)]
    have hp : okPairs (cutF s l c m q) = true := by
      unfold okPairs twoB
      rw [e 0 (by omega), e 1 (by omega), e 2 (by omega), e 3 (by omega), e 4 (by omega), e 5 (by omega)]
      simp [wordsF]
    have hh : cutF s l c m q 0 = s ∧ cutF s l c m q 2 = l ∧ cutF s l c m q 4 = c := by
      rw [e 0 (by omega), e 2 (by omega), e 4 (by omega)]; exact ⟨rfl, rfl, rfl⟩
    have h6e : cutF s l c m q 6 = commW := e 6 (by omega)
    rcases (show q = 7 ∨ q = 8 ∨ q = 9 ∨ q = 10 by omega) with rfl | rfl | rfl | rfl
    · have h7 : cutF s l c m 7 7 = ~~~commW ||| m := rfl
      have hv : validB (cutF s l c m 7) = (~~~commW ||| m == ~~~commW) := by
        unfold validB
        rw [hp, h6e, h7]; simp
      have h9 : cutF s l c m 7 9 = blankW := rfl
      refine ⟨?_, ?_, fun _ => hh⟩
      · rw [hv]
        by_cases h : (~~~commW ||| m) = ~~~commW
        · have hw : wholeN s l c m 7 = 8 := if_pos (c := 7 < 10 ∧ (wordsF s l c true true 7 ||| m) = wordsF s l c true true 7) ⟨by omega, h⟩
          rw [hw, h]; simp
        · have hw : wholeN s l c m 7 = 7 := if_neg (c := 7 < 10 ∧ (wordsF s l c true true 7 ||| m) = wordsF s l c true true 7) fun g => h g.2
          rw [hw]; simp [h]
      · unfold confB
        rw [h9, b9]
        have : wholeN s l c m 7 ≤ 8 := by unfold wholeN; split <;> omega
        rw [decide_eq_false (by omega)]; simp
    · have h7 : cutF s l c m 8 7 = ~~~commW := rfl
      have hv : validB (cutF s l c m 8) = true := by
        unfold validB
        rw [hp, h6e, h7]; simp
      have h9 : cutF s l c m 8 9 = blankW := rfl
      have hw : 8 ≤ wholeN s l c m 8 ∧ wholeN s l c m 8 ≤ 9 := by unfold wholeN; split <;> omega
      refine ⟨?_, ?_, fun _ => hh⟩
      · rw [hv, decide_eq_true (by omega)]
      · unfold confB
        rw [h9, b9, decide_eq_false (by omega)]; simp
    · have h7 : cutF s l c m 9 7 = ~~~commW := rfl
      have hv : validB (cutF s l c m 9) = true := by
        unfold validB
        rw [hp, h6e, h7]; simp
      have h8 : cutF s l c m 9 8 = confW := rfl
      have h9 : cutF s l c m 9 9 = ~~~confW ||| m := rfl
      have hw : 8 ≤ wholeN s l c m 9 := by unfold wholeN; split <;> omega
      refine ⟨?_, ?_, fun _ => hh⟩
      · rw [hv, decide_eq_true hw]
      · unfold confB
        rw [hv, h8, h9]
        by_cases h : (~~~confW ||| m) = ~~~confW
        · have hw : wholeN s l c m 9 = 10 := if_pos (c := 9 < 10 ∧ (wordsF s l c true true 9 ||| m) = wordsF s l c true true 9) ⟨by omega, h⟩
          rw [hw, h]; simp
        · have hw : wholeN s l c m 9 = 9 := if_neg (c := 9 < 10 ∧ (wordsF s l c true true 9 ||| m) = wordsF s l c true true 9) fun g => h g.2
          rw [hw]; simp [h]
    · have h7 : cutF s l c m 10 7 = ~~~commW := rfl
      have hv : validB (cutF s l c m 10) = true := by
        unfold validB
        rw [hp, h6e, h7]; simp
      have h8 : cutF s l c m 10 8 = confW := rfl
      have h9 : cutF s l c m 10 9 = ~~~confW := rfl
      refine ⟨?_, ?_, fun _ => hh⟩
      · rw [hv]; rfl
      · unfold confB
        rw [hv, h8, h9]; simp [wholeN]
end Go.Proofs.Ytgcpfmdldgmbnaa
