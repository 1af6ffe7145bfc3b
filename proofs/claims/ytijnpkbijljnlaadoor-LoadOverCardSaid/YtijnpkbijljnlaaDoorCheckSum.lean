/-
  Contract of check.Sum over whatever iterator: the sum of all numbers that come, or that it is none.
-/
import Derived.RangeFuncNested
import Derived.RangeFuncBound
import Derived.RangeFuncCalls
import Derived.RangeFuncLeaves
import Derived.RangeFuncFrom
import Derived.Shelf.Abstract
import Derived.Shelf.RegionOpen
import Derived.WalkKit
import Derived.OwnWalkIn
import Derived.TacticsInMore
import Derived.LoopNIn
import Derived.LoopIn
import Derived.Test.YtijnpkbijljnlaaDoorCheck
namespace Go.Proofs.YtijnpkbijljnlaaDoor
open Go.RowKit Go.Shelf
attribute [local go_sem] Oper.semAt_some
theorem cell_new_l (W : World) (v : Value) (t : TypeId) : (W.alloc (.cells #[v] t)).cell? ⟨W.heap.size, 0, none⟩ = some v ∧ (W.alloc (.cells #[v] t)).frozen? ⟨W.heap.size, 0, none⟩ = false :=
  ⟨World.cell?_alloc_at _ _ _ _ rfl, World.frozen?_alloc_at _ _ _ _ rfl⟩
theorem cell_alloc_l {W : World} {a : Addr} {v : Value} (o : Obj) (h : W.cell? a = some v) : (W.alloc o).cell? a = some v := cell_kept h (World.grownBy_alloc W o none) (fun r e => by cases e)
theorem frozen_alloc_l {W : World} {a : Addr} {v : Value} (o : Obj) (h : W.cell? a = some v) (hf : W.frozen? a = false) : (W.alloc o).frozen? a = false := (frozen_kept h (World.grownBy_alloc W o none) (fun r e => by cases e)).trans hf
/-- The sum so far, or none: each number by check.Add. -/
def sumF (acc : Int) : List Int → Option Int
  | [] => some acc
  | x :: l => if (addR acc x).2 then sumF (addR acc x).1 l else none
def rSum (l : List Int) : Int × Bool := match sumF 0 l with | some n => (n, true) | none => (0, false)
theorem sumF_append (l m : List Int) (acc : Int) : sumF acc (l ++ m) = (sumF acc l).bind fun a => sumF a m := by
  induction l generalizing acc with
  | nil => rfl
  | cons x l ih =>
    simp only [List.cons_append, sumF]
    split
    · exact ih _
    · rfl
theorem sumF_prefix {l m : List Int} (h : l <+: m) (hn : sumF 0 l = none) : sumF 0 m = none := by
  obtain ⟨t, rfl⟩ := h
  rw [sumF_append, hn]; rfl
end Go.Proofs.YtijnpkbijljnlaaDoor
