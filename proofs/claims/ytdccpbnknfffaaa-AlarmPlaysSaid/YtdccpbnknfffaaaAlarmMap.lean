/-
  Layer 48: a queue of timers with two maps beside it: what stands, and what an operation keeps.
-/
import Derived.Test.YtdccpbnknfffaaaDeltaAlive
import Derived.Test.YtdccpbnknfffaaaDeltaRef2
import Derived.Maps.Own
import Derived.Maps.OwnOps
import Derived.Maps.OwnSet
import Derived.Maps.Views
namespace Go.Proofs.Ytdccpbnknfffaaa
open Go.RowKit Go.Maps
abbrev DI := DataW Unit
theorem ikeyed : Maps.Keyed Try.prog 3 := Maps.int_keyed Try.underlying3
def kI (i : Int) : Lit := .int .i64 i
/-- A map's numbers: 0 where there is none. -/
def IMap (w : World) (b m : Nat) (f : Int → Int) : Prop := ∃ D : DI, w.ownsMap Try.prog 3 (plainElem Try.prog 3) b m D ∧ ∀ i, (kI i).wf = true → D.atKey (kI i) (.lit (.int .i64 0)) = .lit (.int .i64 (f i))
theorem IMap.made (w : World) : IMap (w.alloc (Obj.map #[] 0)) w.heap.size 0 (fun _ => 0) := ⟨_, World.ownsMap_made w Try.prog 3 _, fun _ _ => rfl⟩
theorem IMap.mono {w : World} {b m n : Nat} {f : Int → Int} (h : IMap w b m f) (hn : m ≤ n) : IMap w b n f := by
  obtain ⟨D, h1, h2⟩ := h
  exact ⟨D, h1.mono hn, h2⟩
theorem IMap.lt {w : World} {b m : Nat} {f : Int → Int} (h : IMap w b m f) : b < w.heap.size := by
  obtain ⟨D, h1, h2⟩ := h
  exact h1.lt
theorem IMap.is {w : World} {b m : Nat} {f : Int → Int} (h : IMap w b m f) : ∃ es ck, w.heap[b]? = some (Obj.map es ck) := by
  obtain ⟨D, ⟨es, ck, h1, _⟩, h2⟩ := h
  exact ⟨es, ck, h1⟩
theorem IMap.same {w w' : World} {b m : Nat} {f : Int → Int} (h : IMap w b m f) (hs : ∀ es ck, w.heap[b]? = some (Obj.map es ck) → w'.heap[b]? = some (Obj.map es ck)) : IMap w' b m f := by
  obtain ⟨D, ⟨es, ck, h1, h3⟩, h2⟩ := h
  exact ⟨D, ⟨es, ck, hs _ _ h1, h3⟩, h2⟩
def putM (f : Int → Int) (k v : Int) : Int → Int := fun i => if i = k then v else f i
theorem IMap.put {w' : World} {b m : Nat} {f : Int → Int} {k v : Int} {D : DI} (hD : ∀ i, (kI i).wf = true → D.atKey (kI i) (.lit (.int .i64 0)) = .lit (.int .i64 (f i))) (hm : IsMap D) (h : w'.ownsMap Try.prog 3 (plainElem Try.prog 3) b m (D.put (kI k) (.lit (.int .i64 v)))) : IMap w' b m (putM f k v) := by
  refine ⟨_, h, fun i hi => ?_⟩
  unfold putM
  by_cases e : i = k
  · subst e
    rw [if_pos rfl]
    exact atKey_put_same hm (by trivial) _ _
  · rw [if_neg e, atKey_put_other (fun h => e (by unfold kI at h; injection h))]
    exact hD i hi
theorem IMap.del {w' : World} {b m : Nat} {f : Int → Int} {k : Int} {D : DI} (hD : ∀ i, (kI i).wf = true → D.atKey (kI i) (.lit (.int .i64 0)) = .lit (.int .i64 (f i))) (h : w'.ownsMap Try.prog 3 (plainElem Try.prog 3) b m (D.del (kI k))) : IMap w' b m (putM f k 0) := by
  refine ⟨_, h, fun i hi => ?_⟩
  unfold putM
  by_cases e : i = k
  · subst e
    rw [if_pos rfl]
    exact atKey_del_same _
  · rw [if_neg e, atKey_del_other (fun h => e (by unfold kI at h; injection h))]
    exact hD i hi
/-- What an operation of the queue keeps besides: the other cells of the queue's block, and each map. -/
structure QM (qb : Nat) (w w' : World) : Prop where
  c : ∀ o, 2 ≤ o → w'.cell? ⟨qb, o, none⟩ = w.cell? ⟨qb, o, none⟩
  m : ∀ (b : Nat) (es : Array MapEntry) (ck : Nat), w.heap[b]? = some (Obj.map es ck) → w'.heap[b]? = some (Obj.map es ck)
theorem cell_not_map {w : World} {b o : Nat} {v : Value} {es : Array MapEntry} {ck : Nat} (h : w.cell? ⟨b, o, none⟩ = some v) (hm : w.heap[b]? = some (Obj.map es ck)) : False := by
  simp [World.cell?, hm] at h
theorem DSave.qm {w w' : World} {base qb : Nat} {L : List (Nat × Int × Int)} (hq : DQ w base qb 0 L) (h : DSave qb 0 L w w') : QM qb w w' :=
  ⟨fun o ho => h.c o (by omega) (by omega), fun b es ck hb => (h.s.block b (Array.getElem?_eq_some_iff.1 hb).1 (fun hS => by
    rcases hS with rfl | ⟨x, hx, rfl⟩
    · exact cell_not_map hq.first hb
    · obtain ⟨k, hk, rfl⟩ := List.getElem_of_mem hx
      have h1 := hq.ch.at_ hk
      rw [hb] at h1
      cases h1)).trans hb⟩
theorem QS.maps {W W' : World} {base qb : Nat} {r : TL} {S : Nat → Prop} (h : QS W base qb r) (hs : Save S W W') (hS : ∀ k, S k → ∃ es ck, W.heap[k]? = some (Obj.map es ck)) : QS W' base qb r := by
  obtain ⟨L, hq, h2⟩ := h
  refine ⟨L, hq.save hs (fun hk => ?_) fun x hx hk => ?_, h2⟩
  · obtain ⟨es, ck, hm⟩ := hS _ hk
    exact cell_not_map hq.first hm
  · obtain ⟨es, ck, hm⟩ := hS _ hk
    obtain ⟨k, hk2, rfl⟩ := List.getElem_of_mem hx
    have h1 := hq.ch.at_ hk2
    rw [hm] at h1
    cases h1
end Go.Proofs.Ytdccpbnknfffaaa
