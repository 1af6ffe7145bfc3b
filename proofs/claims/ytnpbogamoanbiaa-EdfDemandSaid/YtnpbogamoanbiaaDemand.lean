/-
  Contracts of the package demand: one term.
-/
import Derived.Test.YtnpbogamoanbiaaCheck
namespace Go.Proofs.Ytnpbogamoanbiaa
open Go.RowKit
theorem boxed4 {w w1 : World} {u v x y : Value} {t : TypeId} (h : Below (w.alloc (Obj.cells #[u, v, x, y] t)).heap.size (w.alloc (Obj.cells #[u, v, x, y] t)) w1) :
    w1.cell? ⟨w.heap.size, 0, none⟩ = some u ∧ w1.cell? ⟨w.heap.size, 1, none⟩ = some v ∧ w1.cell? ⟨w.heap.size, 2, none⟩ = some x ∧ w1.cell? ⟨w.heap.size, 3, none⟩ = some y :=
  ⟨(h.cell (p := ⟨w.heap.size, 0, none⟩) (by simp)).trans (World.cell?_alloc_at _ _ _ _ rfl), (h.cell (p := ⟨w.heap.size, 1, none⟩) (by simp)).trans (World.cell?_alloc_at _ _ _ _ rfl), (h.cell (p := ⟨w.heap.size, 2, none⟩) (by simp)).trans (World.cell?_alloc_at _ _ _ _ rfl), (h.cell (p := ⟨w.heap.size, 3, none⟩) (by simp)).trans (World.cell?_alloc_at _ _ _ _ rfl)⟩
theorem kept {w w1 : World} {p : Addr} {v : Value} (c : w.cell? p = some v) (h : Below w.heap.size w w1) : w1.cell? p = some v := (h.cell (cell_lt c)).trans c
def jobsR (p o t : Int) : Int × Bool := if (lessR t o).2 then upR (lessR t o).1 p else (0, false)
def workR (p c o k t : Int) : Int × Bool := if (jobsR p o t).2 then (if (mulR (jobsR p o t).1 c).2 then addR (mulR (jobsR p o t).1 c).1 k else (0, false)) else (0, false)
end Go.Proofs.Ytnpbogamoanbiaa
