/-
  Contracts of the package demand: the iterator over the terms' work, and the work of all terms.
-/
import Derived.Test.YtijnpkbijljnlaaDoorCheckSum
import Derived.Test.YtijnpkbijljnlaaDoorDemand
namespace Go.Proofs.YtijnpkbijljnlaaDoor
open Go.RowKit Go.Shelf
attribute [local go_sem] Oper.semAt_some
/-- A term. -/
structure TT where
  p : Int
  c : Int
  o : Int
  k : Int
/-- A slice of terms lies there. -/
def Terms (w : World) (ao : Option Addr) (n : Nat) (f : Nat → TT) : Prop := ∀ i, i < n → ∃ b o, ao = some ⟨b, o, none⟩ ∧ w.cell? ⟨b, o + i * 4, none⟩ = some (.int .i64 (f i).p) ∧ w.cell? ⟨b, o + i * 4 + 1, none⟩ = some (.int .i64 (f i).c) ∧ w.cell? ⟨b, o + i * 4 + 2, none⟩ = some (.int .i64 (f i).o) ∧ w.cell? ⟨b, o + i * 4 + 3, none⟩ = some (.int .i64 (f i).k)
theorem Terms.below {w w' : World} {ao : Option Addr} {n : Nat} {f : Nat → TT} (h : Terms w ao n f) (hb : Below w.heap.size w w') : Terms w' ao n f := fun i hi => by
  obtain ⟨b, o, e, h0, h1, h2, h3⟩ := h i hi
  exact ⟨b, o, e, kept h0 hb, kept h1 hb, kept h2 hb, kept h3 hb⟩
/-- What a term brings; one below 0 where that is too great, or none. -/
def wkOf (t : Int) (x : TT) : Int := if (workR x.p x.c x.o x.k t).2 then (workR x.p x.c x.o x.k t).1 else -1
def upto (t : Int) (f : Nat → TT) (k : Nat) : List Int := (List.range k).map fun i => wkOf t (f i)
theorem upto_succ (t : Int) (f : Nat → TT) (k : Nat) : upto t f (k + 1) = upto t f k ++ [wkOf t (f k)] := by simp [upto, List.range_succ]
theorem upto_length (t : Int) (f : Nat → TT) (k : Nat) : (upto t f k).length = k := by simp [upto]
theorem upto_prefix (t : Int) (f : Nat → TT) {k n : Nat} (h : k ≤ n) : upto t f k <+: upto t f n := by
  induction n with
  | zero => obtain rfl : k = 0 := by omega
            exact List.prefix_refl _
  | succ n ih =>
    by_cases hk : k = n + 1
    · subst hk; exact List.prefix_refl _
    · exact (ih (by omega)).trans (by rw [upto_succ]; exact List.prefix_append _ _)
theorem below_grownBy {w w' : World} (h : Below w.heap.size w w') : w.grownBy w' none := ⟨h.os, h.tape, h.output, h.size, fun k hk _ => h.block k hk⟩
/-- The work of all terms. -/
def allR (t : Int) (f : Nat → TT) (n : Nat) : Int × Bool := rSum (upto t f n)
end Go.Proofs.YtijnpkbijljnlaaDoor
