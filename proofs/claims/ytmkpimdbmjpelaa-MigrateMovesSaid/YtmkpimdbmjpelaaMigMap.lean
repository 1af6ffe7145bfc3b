/-
  Layer 29, plain law of Move: the map of which queue becomes which; what the queues hold, and which drops there are.
-/
import Derived.Test.YtmkpimdbmjpelaaMigAll
import Derived.Maps.Own
import Derived.Maps.OwnOps
import Derived.Maps.OwnSet
import Derived.Maps.OwnIn
import Derived.Maps.Views
import Derived.Sort.MapsRangeIn
namespace Go.Proofs.Ytmkpimdbmjpelaa
open Go.RowKit Go.Maps
abbrev DI := DataW Unit
theorem ikeyed : Maps.Keyed Try.prog 3 := Maps.int_keyed Try.underlying3
def kI (i : Int) : Lit := .int .i64 i
section
variable {m : Nat → Int} {n to : Nat}
/-- A map that tells the ways that came. -/
structure Told (D : DI) (pre : List (Way m n to)) : Prop where
  map : IsMap D
  has : ∀ i : Nat, Maps.has D (kI i) = true ↔ ∃ x ∈ pre, x.1.1 = i
  only : ∀ z : Int, Maps.has D (kI z) = true → ∃ x ∈ pre, ((x.1.1 : Nat) : Int) = z
  val : ∀ x ∈ pre, ∀ z, D.atKey (kI x.1.1) z = .lit (.int .i64 x.1.2)
theorem told_empty : Told (.map [] : DI) ([] : List (Way m n to)) :=
  ⟨isMap_empty, fun i => by simp [Maps.has], fun z h => by simp [Maps.has] at h, fun x hx => by cases hx⟩
theorem way_eq {x y : Way m n to} (h : x.1.1 = y.1.1) : x = y := by
  obtain ⟨⟨a, b⟩, h1, h2⟩ := x
  obtain ⟨⟨c, d⟩, h3, h4⟩ := y
  simp only at h h1 h3
  subst h
  rw [h1] at h3
  cases h3
  rfl
theorem Told.put {D : DI} {pre : List (Way m n to)} (h : Told D pre) (x : Way m n to) : Told (D.put (kI x.1.1) (.lit (.int .i64 x.1.2))) (pre ++ [x]) := by
  have hne : ∀ i : Int, i ≠ (x.1.1 : Int) → kI i ≠ kI x.1.1 := fun i hi e => hi (by unfold kI at e; injection e)
  refine ⟨h.map.put _ _, fun i => ?_, fun z hz => ?_, fun y hy z => ?_⟩
  · by_cases hi : i = x.1.1
    · subst hi
      rw [has_put_same h.map (by trivial)]
      simp
    · rw [has_put_other (hne i (by omega)), h.has i]
      constructor
      · rintro ⟨y, hy, e⟩; exact ⟨y, List.mem_append_left _ hy, e⟩
      · rintro ⟨y, hy, e⟩
        rcases List.mem_append.1 hy with h1 | h1
        · exact ⟨y, h1, e⟩
        · rw [List.mem_singleton] at h1; subst h1; exact absurd e.symm hi
  · by_cases hi : z = (x.1.1 : Int)
    · exact ⟨x, by simp, hi.symm⟩
    · rw [has_put_other (hne z hi)] at hz
      obtain ⟨y, hy, e⟩ := h.only z hz
      exact ⟨y, List.mem_append_left _ hy, e⟩
  · by_cases hi : y.1.1 = x.1.1
    · have := way_eq hi
      subst this
      exact atKey_put_same h.map (by trivial) _ _
    · rw [atKey_put_other (hne _ (by omega))]
      rcases List.mem_append.1 hy with h1 | h1
      · exact h.val y h1 z
      · rw [List.mem_singleton] at h1; subst h1; exact absurd rfl hi
theorem dup_of_stop {pre : List (Way m n to)} {x y : Way m n to} (hp : pre ++ [x] <+: waysU m n to 4) (hy : y ∈ pre) (e : y.1.2 = x.1.2) : Dup m n to := by
  have hs := (ways_sorted m n to 4).sublist hp.sublist
  have := (List.pairwise_append.1 hs).2.2 y hy x (by simp)
  exact ⟨x.1.1, y.1.1, x.1.2, this, x.2.2, x.2.1, by rw [← e]; exact y.2.1⟩
theorem no_dup {L : List (Way m n to)} (h : ∀ x ∈ L, ∀ y ∈ L, x.1.1 ≠ y.1.1 → x.1.2 ≠ y.1.2) (hL : L = waysU m n to 4) : ¬ Dup m n to := by
  rintro ⟨i, k, j, h1, h2, h3, h4⟩
  subst hL
  exact h ⟨(i, j), h3, h2⟩ ((mem_ways _ 4).2 (bec_four h3)) ⟨(k, j), h4, by omega⟩ ((mem_ways _ 4).2 (bec_four h4)) (by show i ≠ k; omega) rfl
end
/-! ### what the new queues hold, and the drops -/
def overF (g : Nat → Nat → Int) (m : Nat → Int) (to : Nat) (xs : Nat → List Int) (i : Nat) : Nat := match bec m to i with | some j => (xs i).length - (g j 0).toNat | none => (xs i).length
def dropsF (g : Nat → Nat → Int) (m : Nat → Int) (to : Nat) (xs : Nat → List Int) : Nat → List (Nat × Nat)
  | 0 => []
  | i + 1 => dropsF g m to xs i ++ (if 0 < overF g m to xs i then [(i, overF g m to xs i)] else [])
def filledF (g : Nat → Nat → Int) (m : Nat → Int) (to : Nat) (xs : Nat → List Int) : Nat → Nat → List Int
  | 0, _ => []
  | i + 1, j => if bec m to i = some j then lastF (xs i) (g j 0).toNat else filledF g m to xs i j
def dcells (L : List (Nat × Nat)) : List Value := L.flatMap fun x => [.int .i64 (x.1 : Int), .int .i64 (x.2 : Int)]
theorem dcells_append (L M : List (Nat × Nat)) : dcells (L ++ M) = dcells L ++ dcells M := by simp [dcells]
theorem dcells_length (L : List (Nat × Nat)) : (dcells L).length = L.length * 2 := by
  induction L with
  | nil => rfl
  | cons a L ih =>
    rw [show a :: L = [a] ++ L from rfl, dcells_append, List.length_append, ih]
    simp [dcells]; omega
theorem drops_len (g : Nat → Nat → Int) (m : Nat → Int) (to : Nat) (xs : Nat → List Int) (i : Nat) : (dropsF g m to xs i).length ≤ i := by
  induction i with
  | zero => exact Nat.le_refl _
  | succ i ih =>
    rw [dropsF, List.length_append]
    split <;> simp <;> omega
theorem filled_none {g : Nat → Nat → Int} {m : Nat → Int} {to : Nat} {xs : Nat → List Int} {j : Nat} : ∀ {i : Nat}, (∀ k, k < i → bec m to k ≠ some j) → filledF g m to xs i j = []
  | 0, _ => rfl
  | i + 1, h => by
    unfold filledF
    rw [if_neg (h i (Nat.lt_succ_self _))]
    exact filled_none fun k hk => h k (by omega)
end Go.Proofs.Ytmkpimdbmjpelaa
