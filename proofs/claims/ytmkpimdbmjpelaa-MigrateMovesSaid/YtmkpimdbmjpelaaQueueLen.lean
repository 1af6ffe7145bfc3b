/-
  Contracts: Len, Set.
-/
import Derived.Test.YtmkpimdbmjpelaaQueueTake
namespace Go.Proofs.Ytmkpimdbmjpelaa
open Go.RowKit
theorem qlen_any (base p : Nat) (cap pol d : Int) (v : Value) (xs : List Int) (w : World) (hq : QAt w base p cap pol v xs d) :
    Calls Try.prog 17 #[.pointer (some ⟨p, 0, none⟩)] w fun e w' => e = .returned (.int .i64 xs.length) ∧ w = w' := by
  have c2 := hq.c2
  obtain ⟨ao, c, rfl, _, _, _, _⟩ := vi_view hq.row
  go_enter Try.func17, Try.ntmps17
  go_wp2
  go_ret
  exact ⟨rfl, rfl⟩
theorem qset_any (base p : Nat) (cap pol d : Int) (v : Value) (xs : List Int) (w : World) (hq : QAt w base p cap pol v xs d) :
    Calls Try.prog 18 #[.pointer (some ⟨p, 0, none⟩)] w fun e w' => e = .returned (.agg #[.int .i64 cap, .int .i64 pol]) ∧ Below w.heap.size w w' := by
  have c0 := hq.c0
  have c1 := hq.c1
  have hpl := hq.lt
  go_enter Try.func18, Try.ntmps18
  go_wp2
  have e0 : (w.alloc (Obj.cells #[Value.int .i64 cap, Value.int .i64 pol] 43)).heap[w.heap.size]? = some (Obj.cells #[Value.int .i64 cap, Value.int .i64 pol] 43) := heap_alloc_new w _
  have f0 := blk_cell e0 0
  have f1 := blk_cell e0 1
  refine bodyPost_ret (v := .agg #[.int .i64 cap, .int .i64 pol]) ?_ rfl ?_
  · simp [results, Try.results18, go_sem, f0, f1]
  · exact ⟨rfl, (Below.refl _ _).alloc (Nat.le_refl _) _⟩
end Go.Proofs.Ytmkpimdbmjpelaa
