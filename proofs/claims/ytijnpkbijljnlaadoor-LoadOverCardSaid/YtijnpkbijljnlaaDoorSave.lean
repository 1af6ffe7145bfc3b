/-
  All but some blocks lie as they lay.
-/
import Derived.Test.YtijnpkbijljnlaaDoorKit
import Derived.Laws.Rows
namespace Go.Proofs.YtijnpkbijljnlaaDoor
open Go.RowKit
/-- All but some blocks lie as they lay. -/
structure Save (S : Nat → Prop) (w w' : World) : Prop where
  os : w'.os = w.os
  tape : w'.tape = w.tape
  output : w'.output = w.output
  size : w.heap.size ≤ w'.heap.size
  block : ∀ k, k < w.heap.size → ¬ S k → w'.heap[k]? = w.heap[k]?
theorem Save.refl (S : Nat → Prop) (w : World) : Save S w w := ⟨rfl, rfl, rfl, Nat.le_refl _, fun _ _ _ => rfl⟩
theorem Save.trans {S S' : Nat → Prop} {a b c : World} (h : Save S a b) (k : Save S' b c) (hs : ∀ i, i < a.heap.size → S' i → S i) : Save S a c :=
  ⟨k.os.trans h.os, k.tape.trans h.tape, k.output.trans h.output, Nat.le_trans h.size k.size, fun i hi hn => (k.block i (Nat.lt_of_lt_of_le hi h.size) fun hb => hn (hs i hi hb)).trans (h.block i hi hn)⟩
theorem Save.mono {S S' : Nat → Prop} {w w' : World} (h : Save S w w') (hs : ∀ k, S k → S' k) : Save S' w w' := ⟨h.os, h.tape, h.output, h.size, fun k hk hn => h.block k hk fun hS => hn (hs k hS)⟩
theorem Save.of_grown {w w' : World} {row : Option Nat} (h : w.grownBy w' row) : Save (fun k => row = some k) w w' := ⟨h.os, h.tape, h.output, h.size, fun k hk hn => h.block k hk fun e => hn e.symm⟩
theorem Save.alloc (w : World) (o : Obj) : Save (fun _ => False) w (w.alloc o) := ⟨rfl, rfl, rfl, by simp, fun k hk _ => Below.heap_alloc w o k hk⟩
theorem Save.set (w : World) (b i : Nat) (v : Value) : Save (fun k => k = b) w (w.setCell ⟨b, i, none⟩ v) := ⟨rfl, rfl, rfl, by simp [World.setCell], fun k _ hn => Below.heap_setCell _ _ _ _ hn⟩
theorem Save.drewN (S : Nat → Prop) {w w' : World} {n : Nat} (h : Save S w w') : Save S w (w'.drewN n) := ⟨h.os, h.tape, h.output, h.size, h.block⟩
theorem Save.from_drewN {S : Nat → Prop} {w w' : World} {n : Nat} (h : Save S (w.drewN n) w') : Save S w w' := ⟨h.os, h.tape, h.output, h.size, h.block⟩
theorem Save.of_below {w w' : World} (h : Below w.heap.size w w') (S : Nat → Prop) : Save S w w' := ⟨h.os, h.tape, h.output, h.size, fun k hk _ => h.block k hk⟩
theorem Save.below {S : Nat → Prop} {B : Nat} {w0 w w' : World} (h : Save S w w') (hb : Below B w0 w) (hB : B ≤ w.heap.size) (hs : ∀ k, S k → B ≤ k) : Below B w0 w' :=
  hb.trans ⟨h.os, h.tape, h.output, h.size, fun k hk => h.block k (by omega) fun hn => by have := hs k hn; omega⟩
theorem blk_cell {W : World} {b : Nat} {a : Array Value} {t : TypeId} (h : W.heap[b]? = some (.cells a t (0, 0))) (i : Nat) : W.cell? ⟨b, i, none⟩ = a[i]? := by simp [World.cell?, h]
theorem blk_frozen {W : World} {b : Nat} {a : Array Value} {t : TypeId} (h : W.heap[b]? = some (.cells a t (0, 0))) (i : Nat) : W.frozen? ⟨b, i, none⟩ = false := by simp [World.frozen?, h]
theorem blk_save {S : Nat → Prop} {W W' : World} {b : Nat} {o : Obj} (h : W.heap[b]? = some o) (hs : Save S W W') (hn : ¬ S b) : W'.heap[b]? = some o := (hs.block b (Array.getElem?_eq_some_iff.1 h).1 hn).trans h
end Go.Proofs.YtijnpkbijljnlaaDoor
