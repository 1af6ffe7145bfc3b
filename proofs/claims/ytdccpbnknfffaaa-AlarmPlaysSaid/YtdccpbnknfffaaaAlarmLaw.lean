/-
  Layer 48, plain law: what a tick does to alarms, by functions and by a list.
-/
import Derived.Test.YtdccpbnknfffaaaAlarm
namespace Go.Proofs.Ytdccpbnknfffaaa
/-- What stands: timers, every how many ticks, how often. -/
abbrev ST := TL × (Int → Int) × (Int → Int)
/-- An alarm went off. -/
def stepT (s : ST) (id : Int) : ST := if s.2.1 id = 0 then (s.1, putM s.2.1 id 0, putM s.2.2 id 0) else (addR id (s.2.1 id) s.1, s.2.1, putM s.2.2 id (min (s.2.2 id + 1) 65536))
def tickA (s : ST) : ST := (dueR s.1).foldl stepT (leftR s.1, s.2.1, s.2.2)
structure Rng (s : ST) : Prop where
  e : ∀ i, 0 ≤ s.2.1 i ∧ s.2.1 i ≤ 65536
  c : ∀ i, 0 ≤ s.2.2 i ∧ s.2.2 i ≤ 65536
theorem Rng.step {s : ST} (h : Rng s) (id : Int) : Rng (stepT s id) := by
  unfold stepT
  split
  · refine ⟨fun i => ?_, fun i => ?_⟩
    · show 0 ≤ putM s.2.1 id 0 i ∧ putM s.2.1 id 0 i ≤ 65536
      unfold putM
      split
      · omega
      · exact h.e i
    · show 0 ≤ putM s.2.2 id 0 i ∧ putM s.2.2 id 0 i ≤ 65536
      unfold putM
      split
      · omega
      · exact h.c i
  · refine ⟨h.e, fun i => ?_⟩
    show 0 ≤ putM s.2.2 id (min (s.2.2 id + 1) 65536) i ∧ putM s.2.2 id (min (s.2.2 id + 1) 65536) i ≤ 65536
    unfold putM
    have := h.c id
    split
    · omega
    · exact h.c i
theorem Rng.fold {s : ST} (h : Rng s) (l : List Int) : Rng (l.foldl stepT s) := by
  induction l generalizing s with
  | nil => exact h
  | cons x l ih => exact ih (h.step x)
theorem Rng.tick {s : ST} (h : Rng s) : Rng (tickA s) := Rng.fold (s := (leftR s.1, s.2.1, s.2.2)) ⟨h.e, h.c⟩ _
theorem fold_snoc (s : ST) (l : List Int) (x : Int) : (l ++ [x]).foldl stepT s = stepT (l.foldl stepT s) x := by rw [List.foldl_append]; rfl
end Go.Proofs.Ytdccpbnknfffaaa
