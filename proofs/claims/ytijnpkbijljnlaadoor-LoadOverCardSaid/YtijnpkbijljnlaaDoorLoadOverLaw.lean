/-
  The plain law: where the last one of a set is in time, the set asks for no more than all time.
-/
import Derived.Test.YtijnpkbijljnlaaDoorLoadLaw
import Derived.Test.YtijnpkbijljnlaaDoorDemandSum
namespace Go.Proofs.YtijnpkbijljnlaaDoor
/-- What tasks bring in a time. -/
def ceilS (g : Nat → Nat → Int) (t : Int) (l : List Nat) : Int := (l.map fun j => (t + g j 0 - 1) / g j 0 * g j 2).sum
theorem ceilS_cons (g : Nat → Nat → Int) (t : Int) (j : Nat) (l : List Nat) : ceilS g t (j :: l) = (t + g j 0 - 1) / g j 0 * g j 2 + ceilS g t l := by simp [ceilS]
theorem sumN_le {g : Nat → Nat → Int} {N r : Int} (hN : 1 ≤ N) (h1 : 1 ≤ r) : ∀ l : List Nat, (∀ j ∈ l, g j 0 ∣ N ∧ 1 ≤ g j 0 ∧ 1 ≤ g j 2) → sumN g N l * r ≤ N * ceilS g r l
  | [], _ => by simp [sumN, ceilS]
  | j :: l, h => by
    have ih := sumN_le hN h1 l fun k hk => h k (by simp [hk])
    obtain ⟨⟨u, hu⟩, hp, hc⟩ := h j (by simp)
    have n1 : N / g j 0 = u := by rw [hu]; exact Int.mul_ediv_cancel_left _ (by omega)
    have hu0 : 0 ≤ u := by rw [← n1]; exact Int.ediv_nonneg (by omega) (by omega)
    rw [sumN_cons, ceilS_cons, n1, Int.add_mul, Int.mul_add]
    generalize g j 0 = P at *
    generalize g j 2 = C at *
    have hq : r ≤ P * ((r + P - 1) / P) := by
      have h1 := Int.mul_ediv_add_emod (r + P - 1) P
      have h2 := Int.emod_lt_of_pos (r + P - 1) (show 0 < P by omega)
      omega
    have : C * u * r ≤ N * ((r + P - 1) / P * C) := by
      have := Int.mul_le_mul_of_nonneg_left hq (Int.mul_nonneg (show 0 ≤ C by omega) hu0)
      rw [hu, show P * u * ((r + P - 1) / P * C) = C * u * (P * ((r + P - 1) / P)) by ac_rfl]
      exact this
    omega
theorem sumN_app (g : Nat → Nat → Int) (N : Int) (l m : List Nat) : sumN g N (l ++ m) = sumN g N l + sumN g N m := by simp [sumN]
/-- Where the last one of a set is in time, the set asks for no more than all time. -/
theorem over_late {g : Nat → Nat → Int} {l : List Nat} {i : Nat} {N r B : Int} (hN : 1 ≤ N) (hO : ∀ j ∈ l ++ [i], g j 0 ∣ N ∧ 1 ≤ g j 0 ∧ 1 ≤ g j 2) (hB : 0 ≤ B) (h1 : 1 ≤ r) (hr : r ≤ g i 0) (h : g i 2 + B + ceilS g r l ≤ r) :
    sumN g N (l ++ [i]) ≤ N := by
  have ih := sumN_le hN h1 l fun k hk => hO k (by simp [hk])
  obtain ⟨⟨u, hu⟩, hp, hc⟩ := hO i (by simp)
  have n1 : N / g i 0 = u := by rw [hu]; exact Int.mul_ediv_cancel_left _ (by omega)
  have hu0 : 0 ≤ u := by rw [← n1]; exact Int.ediv_nonneg (by omega) (by omega)
  rw [sumN_snoc, n1]
  have h2 : g i 2 * u * r ≤ N * g i 2 := by
    have := Int.mul_le_mul_of_nonneg_left hr (Int.mul_nonneg (show 0 ≤ g i 2 by omega) hu0)
    rw [hu, show g i 0 * u * g i 2 = g i 2 * u * g i 0 by ac_rfl]
    exact this
  have h3 : N * (g i 2 + ceilS g r l) ≤ N * r := Int.mul_le_mul_of_nonneg_left (by omega) (by omega)
  rw [Int.mul_add] at h3
  have h4 : (sumN g N l + g i 2 * u) * r ≤ N * r := by rw [Int.add_mul]; omega
  exact Int.le_of_mul_le_mul_right h4 (by omega)
theorem sumF_some : ∀ (l : List Int) (acc s : Int), sumF acc l = some s → s = acc + l.sum ∧ ∀ x ∈ l, 0 ≤ x
  | [], acc, s, h => by
    simp only [sumF, Option.some.injEq] at h
    subst h
    exact ⟨by simp, by simp⟩
  | x :: l, acc, s, h => by
    rw [sumF] at h
    split at h
    · rename_i hc
      have : (addR acc x).1 = acc + x ∧ 0 ≤ x := by
        unfold addR at hc ⊢
        split at hc
        · rename_i hh; rw [if_pos hh]
          simp only [Bool.and_eq_true] at hh
          exact ⟨rfl, (inB_yes hh.1.2).1⟩
        · cases hc
      obtain ⟨h1, h2⟩ := sumF_some l _ _ h
      refine ⟨by rw [h1, this.1, List.sum_cons]; omega, fun y hy => ?_⟩
      rcases List.mem_cons.1 hy with rfl | hy
      · exact this.2
      · exact h2 y hy
    · cases h
theorem wkOf_plain {t p c : Int} (h1 : 1 ≤ t) (h : 0 ≤ wkOf t ⟨p, c, 0, 0⟩) : wkOf t ⟨p, c, 0, 0⟩ = (t + p - 1) / p * c := by
  unfold wkOf at h ⊢
  split
  · rename_i hc
    simp only at hc ⊢
    unfold workR at hc ⊢
    split
    · rename_i h2
      rw [if_pos h2] at hc
      split
      · rename_i h3
        rw [if_pos h3] at hc
        have e1 : (jobsR p 0 t).1 = (t + p - 1) / p := by
          unfold jobsR at h2 ⊢
          split
          · rename_i h4
            rw [if_pos h4] at h2
            have e0 : (lessR t 0).1 = t := by
              unfold lessR at h4 ⊢
              split
              · show max (t - 0) 0 = t; omega
              · rename_i h5; rw [if_neg h5] at h4; cases h4
            rw [e0] at h2 ⊢
            unfold upR at h2 ⊢
            split
            · rfl
            · rename_i h5; rw [if_neg h5] at h2; cases h2
          · rename_i h4; rw [if_neg h4] at h2; cases h2
        rw [e1] at h3 hc ⊢
        have e2 : (mulR ((t + p - 1) / p) c).1 = (t + p - 1) / p * c := by
          unfold mulR at h3 ⊢
          split
          · rfl
          · rename_i h5; rw [if_neg h5] at h3; cases h3
        rw [e2] at hc ⊢
        unfold addR at hc ⊢
        split
        · show _ + 0 = _; omega
        · rename_i h5; rw [if_neg h5] at hc; cases hc
      · rename_i h3; rw [if_neg h3] at hc; cases hc
    · rename_i h2; rw [if_neg h2] at hc; cases hc
  · rename_i hc; rw [if_neg hc] at h; omega
/-- The terms of a list of tasks. -/
def fOf (g : Nat → Nat → Int) (l : List Nat) (k : Nat) : TT := ⟨g (l.getD k 0) 0, g (l.getD k 0) 2, 0, 0⟩
theorem upto_list (t : Int) (g : Nat → Nat → Int) (l : List Nat) : upto t (fOf g l) l.length = l.map fun j => wkOf t ⟨g j 0, g j 2, 0, 0⟩ := by
  apply List.ext_getElem
  · simp [upto]
  · intro k h1 h2
    simp only [List.length_map] at h2
    simp [upto, fOf, List.getD, List.getElem?_eq_getElem h2]
theorem allR_list {t : Int} {g : Nat → Nat → Int} {l : List Nat} (h1 : 1 ≤ t) (h : (allR t (fOf g l) l.length).2 = true) : (allR t (fOf g l) l.length).1 = ceilS g t l := by
  unfold allR rSum at h ⊢
  rw [upto_list] at h ⊢
  split
  · rename_i n e
    obtain ⟨e1, e2⟩ := sumF_some _ _ _ e
    show n = _
    rw [e1, Int.zero_add]
    unfold ceilS
    congr 1
    apply List.map_congr_left
    intro j hj
    exact wkOf_plain h1 (e2 _ (List.mem_map.2 ⟨j, hj, rfl⟩))
  · rename_i e; rw [e] at h; cases h
/-- A task of a set is in time. -/
def RespOk (g : Nat → Nat → Int) (l : List Nat) (i : Nat) : Prop := ∃ r B, 0 ≤ B ∧ 1 ≤ r ∧ r ≤ g i 1 ∧ g i 2 + B + ceilS g r l ≤ r
end Go.Proofs.YtijnpkbijljnlaaDoor
