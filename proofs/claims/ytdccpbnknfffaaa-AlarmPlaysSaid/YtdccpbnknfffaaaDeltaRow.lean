/-
  A row of timers in memory: where each lies, and what becomes of the list where one is taken out or put in.
-/
import Derived.Test.YtdccpbnknfffaaaDeltaLaw
namespace Go.Proofs.Ytdccpbnknfffaaa
def tlOf (L : List (Nat × Int × Int)) : TL := L.map fun x => (x.2.1, x.2.2)
theorem tlOf_length (L : List (Nat × Int × Int)) : (tlOf L).length = L.length := List.length_map ..
/-- The pointer to the first one. -/
def nextp : List (Nat × Int × Int) → Option Addr
  | [] => none
  | (b, _, _) :: _ => some ⟨b, 0, none⟩
theorem nextp_drop {L : List (Nat × Int × Int)} {k : Nat} (h : k < L.length) : nextp (L.drop k) = some ⟨(L[k]).1, 0, none⟩ := by
  rw [List.drop_eq_getElem_cons h]; rfl
theorem nextp_end {L : List (Nat × Int × Int)} {k : Nat} (h : L.length ≤ k) : nextp (L.drop k) = none := by
  rw [List.drop_eq_nil_of_le h]; rfl
/-- The place of a block. -/
def idxB (b : Nat) (L : List (Nat × Int × Int)) : Nat := L.findIdx fun x => x.1 == b
theorem idxB_at {L : List (Nat × Int × Int)} (hn : (L.map (·.1)).Nodup) {k : Nat} (h : k < L.length) : idxB (L[k]).1 L = k := by
  unfold idxB
  rw [List.findIdx_eq h]
  refine ⟨by simp, fun j hj => ?_⟩
  have h1 := (List.nodup_iff_pairwise_ne.1 hn)
  have := List.pairwise_iff_getElem.1 h1 j k (by simpa using Nat.lt_trans hj h) (by simpa using h) hj
  simpa using this
theorem dist_blocks {L : List (Nat × Int × Int)} (hn : (L.map (·.1)).Nodup) {j k : Nat} (hj : j < L.length) (hk : k < L.length) (h : j ≠ k) : (L[j]).1 ≠ (L[k]).1 := fun e => by
  have h1 := idxB_at hn hj
  have h2 := idxB_at hn hk
  rw [e] at h1; omega
/-- How much is behind the first k. -/
def sumB : Nat → List (Nat × Int × Int) → Int
  | 0, _ => 0
  | _, [] => 0
  | k + 1, (_, _, b) :: l => b + sumB k l
/-- A timer more. -/
def insL (nb : Nat) (id : Int) : Int → List (Nat × Int × Int) → List (Nat × Int × Int)
  | t, [] => [(nb, id, t)]
  | t, (b, i, k) :: l => if k ≤ t then (b, i, k) :: insL nb id (t - k) l else (nb, id, t) :: (b, i, k - t) :: l
theorem insL_tl (nb : Nat) (id : Int) : ∀ (L : List (Nat × Int × Int)) (t : Int), tlOf (insL nb id t L) = insF id t (tlOf L)
  | [], t => rfl
  | (b, i, k) :: l, t => by
    simp only [insL, tlOf, List.map_cons, insF]
    by_cases h : k ≤ t
    · rw [if_pos h, if_pos h, List.map_cons]
      have := insL_tl nb id l (t - k)
      unfold tlOf at this
      rw [this]
    · rw [if_neg h, if_neg h]; rfl
/-- The first of those that are left is so much less behind. -/
def bump (t : Int) : List (Nat × Int × Int) → List (Nat × Int × Int)
  | [] => []
  | (b, i, k) :: l => (b, i, k - t) :: l
theorem insL_at (nb : Nat) (id : Int) : ∀ (L : List (Nat × Int × Int)) (t u : Int) (k : Nat), k ≤ L.length → insL nb id t L = L.take k ++ insL nb id u (L.drop k) → (∀ h : k < L.length, u < (L[k]).2.2) → insL nb id t L = L.take k ++ (nb, id, u) :: bump u (L.drop k)
  | L, t, u, k, hk, h, hlt => by
    rw [h]
    congr 1
    by_cases h1 : k < L.length
    · have h2 := hlt h1
      rw [List.drop_eq_getElem_cons h1]
      obtain ⟨⟨b, i, c⟩, hx⟩ : ∃ x, L[k] = x := ⟨_, rfl⟩
      rw [hx] at h2 ⊢
      simp only [insL, bump]
      rw [if_neg (by have h3 : u < c := h2; omega)]
    · rw [List.drop_eq_nil_of_le (by omega)]; rfl
theorem insL_step (nb : Nat) (id : Int) {L : List (Nat × Int × Int)} {t u : Int} {k : Nat} (hk : k < L.length) (h : insL nb id t L = L.take k ++ insL nb id u (L.drop k)) (hle : (L[k]).2.2 ≤ u) : insL nb id t L = L.take (k + 1) ++ insL nb id (u - (L[k]).2.2) (L.drop (k + 1)) := by
  rw [h, List.take_succ_eq_append_getElem hk, List.append_assoc]
  congr 1
  rw [List.drop_eq_getElem_cons hk]
  obtain ⟨⟨b, i, c⟩, hx⟩ : ∃ x, L[k] = x := ⟨_, rfl⟩
  rw [hx] at hle ⊢
  simp only [insL]
  rw [if_pos hle]; rfl
/-- A timer less: the one at a place. -/
def cutL (k : Nat) (L : List (Nat × Int × Int)) : List (Nat × Int × Int) := L.take k ++ (match L.drop k with | [] => [] | (_, _, b) :: l => bump (-b) l)
theorem cancelF_at {L : List (Nat × Int × Int)} {id : Int} {k : Nat} (hk : k < L.length) (hno : ∀ j, j < k → ∀ h : j < L.length, (L[j]).2.1 ≠ id) (hyes : (L[k]).2.1 = id) : cancelF id (tlOf L) = (tlOf (cutL k L), true) := by
  induction L generalizing k with
  | nil => simp at hk
  | cons x l ih =>
    obtain ⟨b, i, c⟩ := x
    cases k with
    | zero =>
      have hi : i = id := hyes
      simp only [tlOf, List.map_cons, cancelF, if_pos hi, cutL, List.take_zero, List.drop_zero, List.nil_append]
      cases l with
      | nil => rfl
      | cons y m =>
        obtain ⟨b2, j, d⟩ := y
        simp only [List.map_cons, bump, Prod.mk.injEq, List.cons.injEq, and_true, true_and]
        omega
    | succ k =>
      have hi : i ≠ id := hno 0 (by omega) (by simp)
      have := ih (k := k) (by simpa using hk) (fun j hj h => hno (j + 1) (by omega) (by simpa using h)) hyes
      simp only [tlOf, List.map_cons, cancelF, if_neg hi]
      unfold tlOf at this
      rw [this]
      simp [cutL]
theorem cancelF_none {L : List (Nat × Int × Int)} {id : Int} (hno : ∀ j, ∀ h : j < L.length, (L[j]).2.1 ≠ id) : cancelF id (tlOf L) = (tlOf L, false) := by
  induction L with
  | nil => rfl
  | cons x l ih =>
    obtain ⟨b, i, c⟩ := x
    have hi : i ≠ id := hno 0 (by simp)
    have := ih fun j h => hno (j + 1) (by simpa using h)
    simp only [tlOf, List.map_cons, cancelF, if_neg hi]
    unfold tlOf at this
    rw [this]
/-- How many go with a tick, once the first one is a tick less behind. -/
def zeros : List (Nat × Int × Int) → Nat
  | [] => 0
  | (_, _, b) :: l => if b = 0 then zeros l + 1 else 0
theorem popF_zeros (L : List (Nat × Int × Int)) : popF (tlOf L) = (((L.take (zeros L)).map fun x => x.2.1), tlOf (L.drop (zeros L))) := by
  induction L with
  | nil => rfl
  | cons x l ih =>
    obtain ⟨b, i, c⟩ := x
    simp only [tlOf, List.map_cons, popF, zeros]
    by_cases h : c = 0
    · rw [if_pos h, if_pos h]
      unfold tlOf at ih
      rw [ih]; rfl
    · rw [if_neg h, if_neg h]; rfl
theorem zeros_le (L : List (Nat × Int × Int)) : zeros L ≤ L.length := by
  induction L with
  | nil => exact Nat.le_refl _
  | cons x l ih =>
    obtain ⟨b, i, c⟩ := x
    simp only [zeros]
    split <;> simp <;> omega
theorem zeros_step {L : List (Nat × Int × Int)} {k : Nat} (hk : k < L.length) (h : zeros L = k + zeros (L.drop k)) (h0 : (L[k]).2.2 = 0) : zeros L = (k + 1) + zeros (L.drop (k + 1)) := by
  rw [h, List.drop_eq_getElem_cons hk]
  obtain ⟨⟨b, i, c⟩, hx⟩ : ∃ x, L[k] = x := ⟨_, rfl⟩
  rw [hx] at h0 ⊢
  have h0 : c = 0 := h0
  simp only [zeros, if_pos h0]
  omega
theorem zeros_stop {L : List (Nat × Int × Int)} {k : Nat} (h : zeros L = k + zeros (L.drop k)) (h0 : ∀ hk : k < L.length, (L[k]).2.2 ≠ 0) (_hk : k ≤ L.length) : zeros L = k := by
  rw [h]
  by_cases h1 : k < L.length
  · have h2 := h0 h1
    rw [List.drop_eq_getElem_cons h1]
    obtain ⟨⟨b, i, c⟩, hx⟩ : ∃ x, L[k] = x := ⟨_, rfl⟩
    rw [hx] at h2 ⊢
    simp only [zeros]
    rw [if_neg h2]; rfl
  · rw [List.drop_eq_nil_of_le (by omega)]; rfl
end Go.Proofs.Ytdccpbnknfffaaa
