/-
  Layer 48: two alarms side by side.
-/
import Derived.Test.YtdccpbnknfffaaaAlarmEvs
import Derived.Test.YtdccpbnknfffaaaAlarmTick
namespace Go.Proofs.Ytdccpbnknfffaaa
open Go.RowKit
/-- Two alarms, whose blocks lie apart; what lies below both. -/
def Two (W : World) (s q m : Nat) (x y : ST) : Prop := ∃ Ta Tb, AS W s (s + 2) s (s + 1) m Ta x.1 x.2.1 x.2.2 ∧ AS W q (q + 2) q (q + 1) m Tb y.1 y.2.1 y.2.2 ∧ ∀ k, Ta k → ¬ Tb k
theorem Two.below {W W' : World} {s q m : Nat} {x y : ST} (h : Two W s q m x y) (hb : Below W.heap.size W W') : Two W' s q m x y := by
  obtain ⟨Ta, Tb, h1, h2, h3⟩ := h
  exact ⟨Ta, Tb, h1.below hb, h2.below hb, h3⟩
theorem Two.sz {W : World} {s q m : Nat} {x y : ST} (h : Two W s q m x y) : q + 2 < W.heap.size := by
  obtain ⟨Ta, Tb, h1, h2, h3⟩ := h
  exact h2.q.lt.1
theorem Two.left {W : World} {s q m : Nat} {x y : ST} (h : Two W s q m x y) : ∃ T, AS W s (s + 2) s (s + 1) m T x.1 x.2.1 x.2.2 ∧ (∀ k, W.heap.size ≤ k → T k) ∧ ∀ (W' : World) (m' : Nat) (x' : ST), m ≤ m' → AS W' s (s + 2) s (s + 1) m' T x'.1 x'.2.1 x'.2.2 → AK T s (s + 2) W W' → Two W' s q m' x' y := by
  obtain ⟨Ta, Tb, h1, h2, h3⟩ := h
  refine ⟨fun k => Ta k ∨ W.heap.size ≤ k, h1.cast fun _ _ h => .inl h, fun _ h => .inr h, fun W' m' x' hm k1 k2 => ⟨_, fun k => Tb k ∧ k < W.heap.size, k1, ?_, ?_⟩⟩
  · refine ((h2.cast (T' := fun k => Tb k ∧ k < W.heap.size) fun k hk ht => ⟨ht, hk⟩).save k2.s fun k hk ht hT => ?_).mono hm
    rcases hT with hT | hT
    · exact h3 k hT ht.1
    · omega
  · rintro k hT ⟨ht, hk⟩
    rcases hT with hT | hT
    · exact h3 k hT ht
    · omega
theorem Two.right {W : World} {s q m : Nat} {x y : ST} (h : Two W s q m x y) : ∃ T, AS W q (q + 2) q (q + 1) m T y.1 y.2.1 y.2.2 ∧ (∀ k, W.heap.size ≤ k → T k) ∧ ∀ (W' : World) (m' : Nat) (y' : ST), m ≤ m' → AS W' q (q + 2) q (q + 1) m' T y'.1 y'.2.1 y'.2.2 → AK T q (q + 2) W W' → Two W' s q m' x y' := by
  obtain ⟨Ta, Tb, h1, h2, h3⟩ := h
  refine ⟨fun k => Tb k ∨ W.heap.size ≤ k, h2.cast fun _ _ h => .inl h, fun _ h => .inr h, fun W' m' y' hm k1 k2 => ⟨fun k => Ta k ∧ k < W.heap.size, _, ?_, k1, ?_⟩⟩
  · refine ((h1.cast (T' := fun k => Ta k ∧ k < W.heap.size) fun k hk ht => ⟨ht, hk⟩).save k2.s fun k hk ht hT => ?_).mono hm
    rcases hT with hT | hT
    · exact h3 k ht.1 hT
    · omega
  · rintro k ⟨ht, hk⟩ hT
    rcases hT with hT | hT
    · exact h3 k ht hT
    · omega
/-- Two new ones. -/
theorem two_new {w w1 w2 : World} (h1 : AS w1 w.heap.size (w.heap.size + 2) w.heap.size (w.heap.size + 1) 0 (fun k => w.heap.size ≤ k) [] (fun _ => 0) (fun _ => 0))
    (h2 : AS w2 w1.heap.size (w1.heap.size + 2) w1.heap.size (w1.heap.size + 1) 0 (fun k => w1.heap.size ≤ k) [] (fun _ => 0) (fun _ => 0)) (hb : Below w1.heap.size w1 w2) : Two w2 w.heap.size w1.heap.size 0 ([], fun _ => 0, fun _ => 0) ([], fun _ => 0, fun _ => 0) :=
  ⟨fun k => w.heap.size ≤ k ∧ k < w1.heap.size, fun k => w1.heap.size ≤ k, (h1.cast fun k hk ht => ⟨ht, hk⟩).below hb, h2, fun k h k2 => by have := h.2; have : w1.heap.size ≤ k := k2; omega⟩
/-- What Set leaves. -/
def setS (id t e0 : Int) (s : ST) : ST := if okS id t e0 s.1 then (addR id t s.1, putM s.2.1 id e0, putM s.2.2 id 0) else s
theorem setS_is (id t e0 : Int) (s : ST) : (setS id t e0 s).1 = (if okS id t e0 s.1 then addR id t s.1 else s.1) ∧ (setS id t e0 s).2.1 = (if okS id t e0 s.1 then putM s.2.1 id e0 else s.2.1) ∧ (setS id t e0 s).2.2 = (if okS id t e0 s.1 then putM s.2.2 id 0 else s.2.2) := by
  unfold setS
  split <;> exact ⟨rfl, rfl, rfl⟩
theorem Rng.set {s : ST} (h : Rng s) (id t e0 : Int) : Rng (setS id t e0 s) := by
  unfold setS
  split
  · rename_i ho
    unfold okS at ho
    rw [Bool.and_eq_true, decide_eq_true_eq] at ho
    refine ⟨fun i => ?_, fun i => ?_⟩
    · show 0 ≤ putM s.2.1 id e0 i ∧ putM s.2.1 id e0 i ≤ 65536
      unfold putM
      split
      · exact ho.1
      · exact h.e i
    · show 0 ≤ putM s.2.2 id 0 i ∧ putM s.2.2 id 0 i ≤ 65536
      unfold putM
      split
      · omega
      · exact h.c i
  · exact h
theorem setS_wf {s : ST} {P : Int → Prop} (h : ∀ x ∈ s.1, P x.1) {id : Int} (hid : P id) (t e0 : Int) : ∀ x ∈ (setS id t e0 s).1, P x.1 := by
  unfold setS
  split
  · exact addR_wf h hid
  · exact h
theorem aset_two (base ab gb cb m : Nat) (T : Nat → Prop) (s : ST) (id t e0 : Int) (w : World) (h : AS w base ab gb cb m T s.1 s.2.1 s.2.2) (hm : m ≤ 1000000) (hid1 : (kI id).wf = true) (hT : ∀ k, w.heap.size ≤ k → T k) :
    Calls Try.prog 21 #[.pointer (some ⟨ab, 0, none⟩), .int .i64 id, .int .i64 t, .int .i64 e0] w fun e w' => e = .returned (.bool (okS id t e0 s.1)) ∧ AS w' base ab gb cb (m + 1) T (setS id t e0 s).1 (setS id t e0 s).2.1 (setS id t e0 s).2.2 ∧ AK T base ab w w' := by
  refine (aset_any base ab gb cb m T s.1 s.2.1 s.2.2 id t e0 w h hm hid1 hT).mono ?_
  rintro e w' ⟨h1, h2, h3⟩
  obtain ⟨e1, e2, e3⟩ := setS_is id t e0 s
  rw [← e1, ← e2, ← e3] at h2
  exact ⟨h1, h2, h3⟩
end Go.Proofs.Ytdccpbnknfffaaa
