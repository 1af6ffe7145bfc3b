/-
  Layer 48: what is known while ticks are gone through one by one.
-/
import Derived.Test.YtdccpbnknfffaaaAlarmTick
import Derived.Test.YtdccpbnknfffaaaAlarmEvs
import Derived.Test.YtdccpbnknfffaaaTurnS
namespace Go.Proofs.Ytdccpbnknfffaaa
open Go.RowKit Go.Shelf Go.Maps
theorem AK.mono {T T' : Nat → Prop} {base ab : Nat} {w w' : World} (h : AK T base ab w w') (hT : ∀ k, T k → T' k) : AK T' base ab w w' := ⟨h.k, h.s.mono hT⟩
/-- The alarms' blocks, while the loop's own boxes and blocks lie between. -/
def TG (w : World) (T : Nat → Prop) : Nat → Prop := fun k => (T k ∧ k < w.heap.size) ∨ w.heap.size + 6 ≤ k
structure OutA (w : World) (base ab : Nat) (T : Nat → Prop) (many most : Int) (pre : TL) (W : World) : Prop where
  out : ∃ v, Boxed W (w.heap.size + 1) 33 v ∧ W.ownsRow (w.heap.size + 4) 3 1 v (pre.length * 2) (cells2 pre)
  bm : Boxed W w.heap.size 3 (.int .i64 most)
  ba : Boxed W (w.heap.size + 2) 51 (.pointer (some ⟨ab, 0, none⟩))
  bn : Boxed W (w.heap.size + 3) 3 (.int .i64 many)
  k : AK T base ab w W
  sz : w.heap.size + 6 ≤ W.heap.size
def SA (w : World) (base ab gb cb m : Nat) (T : Nat → Prop) (s : ST) (n : Nat) (W : World) : Prop := AS W base ab gb cb (m + 64 * n) (TG w T) (evS s n).1 (evS s n).2.1 (evS s n).2.2
def FitA (s : ST) (N : Nat) (pre : TL) (x : Int × Int) : Prop := pre.length < (evE s N).length ∧ x = (evE s N).getD pre.length (0, 0) ∧ pre = (evE s N).take pre.length
def IA (w : World) (base ab gb cb m : Nat) (T : Nat → Prop) (s : ST) (N most : Nat) (many : Int) (pre : TL) (W : World) : Prop :=
  ∃ n, n ≤ N ∧ SA w base ab gb cb m T s n W ∧ OutA w base ab T many most pre W ∧ pre.length < most ∧ pre = (evE s N).take pre.length ∧
    ((∃ n0, n = n0 + 1 ∧ (evE s n0).length ≤ pre.length ∧ pre.length < (evE s n).length) ∨ (n = N ∧ pre.length = (evE s N).length))
def IA2 (w : World) (base ab gb cb m : Nat) (T : Nat → Prop) (s : ST) (N most : Nat) (many : Int) (p : TL × (Int × Int)) (W : World) : Prop :=
  FitA s N p.1 p.2 ∧ SA w base ab gb cb m T s p.2.1.toNat W ∧ OutA w base ab T many most (p.1 ++ [p.2]) W ∧ p.1.length + 1 < most
def IxA (w : World) (base ab gb cb m : Nat) (T : Nat → Prop) (s : ST) (N most : Nat) (many : Int) (E0 : Nat) (c : Code) (p : TL × (Int × Int)) (W : World) : Prop :=
  c = .exit E0 ∧ FitA s N p.1 p.2 ∧ SA w base ab gb cb m T s p.2.1.toNat W ∧ OutA w base ab T many most (p.1 ++ [p.2]) W ∧ p.1.length + 1 = most
def KpA (w : World) (W W' : World) : Prop := ∀ v, Boxed W (w.heap.size + 1) 33 v → Save (fun k => k = w.heap.size + 1 ∨ v.ownBlock = some k ∨ k = w.heap.size + 5) W W' ∧
  ∃ v', Boxed W' (w.heap.size + 1) 33 v' ∧ (v'.ownBlock = v.ownBlock ∨ ∃ g, W.heap.size ≤ g ∧ v'.ownBlock = some g)
theorem boxed_save {W W' : World} {B : Nat} {t : TypeId} {v : Value} {S : Nat → Prop} (h : Boxed W B t v) (hs : Save S W W') (hn : ¬ S B) : Boxed W' B t v := (hs.block B h.lt hn).trans h
theorem boxed_put {W : World} {B l : Nat} {t : TypeId} {v : Value} {o : Obj} (o' : Obj) (h : Boxed W B t v) (hl : W.heap[l]? = some o) (ho : o.isCells = false) : Boxed (W.putObj l o') B t v := by
  refine (World.putObj_heap_other fun e => ?_).trans h
  rw [← e, show W.heap[B]? = _ from h] at hl
  cases hl
  cases ho
theorem save_put (S : Nat → Prop) (W : World) (l : Nat) (o : Obj) (hS : S l) : Save S W (W.putObj l o) :=
  ⟨rfl, rfl, rfl, by simp [World.putObj], fun k _ hn => World.putObj_heap_other fun e => hn (e ▸ hS)⟩
/-- Through a tick. -/
theorem OutA.tick {w W W' : World} {base ab : Nat} {T : Nat → Prop} {many most : Int} {pre : TL} (h : OutA w base ab T many most pre W) (hab : ab < w.heap.size) (hT : ∀ k, w.heap.size ≤ k → T k) (k : AK (TG w T) base ab W W') : OutA w base ab T many most pre W' := by
  obtain ⟨⟨v, hv, hr⟩, h2, h3, h4, h5, h6⟩ := h
  have hn : ∀ j, j < 6 → ¬ TG w T (w.heap.size + j) := fun j hj h => by
    rcases h with ⟨_, h⟩ | h <;> omega
  refine ⟨⟨v, boxed_save hv k.s (hn 1 (by omega)), k.r (by decide) (by omega) hr⟩, boxed_save h2 k.s (hn 0 (by omega)), boxed_save h3 k.s (hn 2 (by omega)), boxed_save h4 k.s (hn 3 (by omega)), h5.trans (k.mono fun j hj => ?_), Nat.le_trans h6 k.s.size⟩
  rcases hj with ⟨h, _⟩ | h
  · exact h
  · exact hT j (by omega)
/-- Through the loop's book-keeping. -/
theorem OutA.put {w W : World} {base ab l : Nat} {T : Nat → Prop} {many most : Int} {pre : TL} {o : Obj} (o' : Obj) (h : OutA w base ab T many most pre W) (hb : base ≤ w.heap.size) (hl : w.heap.size ≤ l) (hT : ∀ k, w.heap.size ≤ k → T k) (ho : W.heap[l]? = some o) (hc : o.isCells = false) : OutA w base ab T many most pre (W.putObj l o') := by
  obtain ⟨⟨v, hv, hr⟩, h2, h3, h4, h5, h6⟩ := h
  refine ⟨⟨v, boxed_put o' hv ho hc, ownsRow_putObj hr o' ho hc⟩, boxed_put o' h2 ho hc, boxed_put o' h3 ho hc, boxed_put o' h4 ho hc, ⟨⟨?_, fun he hB hr => ownsRow_putObj (h5.r he hB hr) o' ho hc⟩, h5.s.trans (save_put T W l o' (hT l hl)) fun _ _ h => h⟩, by simpa [World.putObj] using h6⟩
  exact (save_put (fun k => k = l) W l o' rfl).below h5.b (Nat.le_trans hb h5.s.size) fun k e => by subst e; omega
theorem AS.put {w W : World} {base ab gb cb m l : Nat} {T : Nat → Prop} {r : TL} {ev ct : Int → Int} {o : Obj} (o' : Obj) (h : AS W base ab gb cb m T r ev ct) (hg : gb < w.heap.size) (hc : cb < w.heap.size) (hl : w.heap.size ≤ l) (ho : W.heap[l]? = some o) (hcl : o.isCells = false) : AS (W.putObj l o') base ab gb cb m T r ev ct := by
  have hs := save_put (fun k => k = l) W l o' rfl
  have hab : ab ≠ l := fun e => by
    have := h.c2
    rw [e] at this
    unfold World.cell? at this
    rw [show W.heap[(⟨l, 2, none⟩ : Addr).block]? = some o from ho] at this
    cases o <;> first | (cases hcl; done) | (simp at this)
  have hblk := hs.block ab h.q.lt.1 hab
  refine ⟨?_, (World.cell?_of_block (w := W) (a := ⟨ab, 2, none⟩) hblk).trans h.c2, (World.cell?_of_block (w := W) (a := ⟨ab, 3, none⟩) hblk).trans h.c3, h.g.same fun _ _ e => (hs.block _ h.g.lt (by omega)).trans e, h.k.same fun _ _ e => (hs.block _ h.k.lt (by omega)).trans e, h.ne, h.lg, h.lc, h.tg, h.tc⟩
  obtain ⟨L, hq, h2⟩ := h.q
  refine ⟨L, hq.save hs hab fun x hx e => ?_, h2⟩
  obtain ⟨k, hk2, rfl⟩ := List.getElem_of_mem hx
  have h1 := hq.ch.at_ hk2
  rw [e, ho] at h1
  cases h1
  cases hcl
section
variable {w : World} {base ab gb cb m : Nat} {T : Nat → Prop} {s : ST} {N most : Nat} {many : Int}
theorem ia_calm {d : Nat} (hd : w.heap.size ≤ d) (hb : base ≤ w.heap.size) (hg : gb < w.heap.size) (hc : cb < w.heap.size) (hT : ∀ k, w.heap.size ≤ k → T k) : Calm d (IA w base ab gb cb m T s N most many) := fun pre X l o o' h hl ho hcl => by
  obtain ⟨n, h1, h2, h3, h4⟩ := h
  exact ⟨n, h1, AS.put o' h2 hg hc (by omega) ho hcl, h3.put o' hb (by omega) hT ho hcl, h4⟩
theorem ia2_calm {d : Nat} (hd : w.heap.size ≤ d) (hb : base ≤ w.heap.size) (hg : gb < w.heap.size) (hc : cb < w.heap.size) (hT : ∀ k, w.heap.size ≤ k → T k) : Calm d (IA2 w base ab gb cb m T s N most many) := fun p X l o o' h hl ho hcl => by
  obtain ⟨h1, h2, h3, h4⟩ := h
  exact ⟨h1, AS.put o' h2 hg hc (by omega) ho hcl, h3.put o' hb (by omega) hT ho hcl, h4⟩
theorem ixa_calm {d E0 : Nat} (hd : w.heap.size ≤ d) (hb : base ≤ w.heap.size) (hg : gb < w.heap.size) (hc : cb < w.heap.size) (hT : ∀ k, w.heap.size ≤ k → T k) (c : Code) : Calm d (IxA w base ab gb cb m T s N most many E0 c) := fun p X l o o' h hl ho hcl => by
  obtain ⟨h0, h1, h2, h3, h4⟩ := h
  exact ⟨h0, h1, AS.put o' h2 hg hc (by omega) ho hcl, h3.put o' hb (by omega) hT ho hcl, h4⟩
theorem kpa_ok (w : World) : KpOk (w.heap.size + 4) (KpA w) := fun W W3 o o' o1 o2 h1 hc1 h2 hc2 h v hv => by
  obtain ⟨k1, v', k2, k3⟩ := h v (boxed_put o hv h1 hc1)
  have e1 := save_put (fun k => k = w.heap.size + 1 ∨ v.ownBlock = some k ∨ k = w.heap.size + 5) W (w.heap.size + 5) o (.inr (.inr rfl))
  have e2 := save_put (fun k => k = w.heap.size + 1 ∨ v.ownBlock = some k ∨ k = w.heap.size + 5) W3 (w.heap.size + 5) o' (.inr (.inr rfl))
  refine ⟨(e1.trans k1 fun _ _ h => h).trans e2 fun _ _ h => h, v', boxed_put o' k2 h2 hc2, ?_⟩
  rcases k3 with e | ⟨g, hg, e⟩
  · exact .inl e
  · exact .inr ⟨g, by simpa [World.putObj] using hg, e⟩
/-- The number of ticks behind a place of the events. -/
theorem FitA.at_ {pre : TL} {x : Int × Int} {n0 : Nat} (h : FitA s N pre x) (hn : n0 < N) (h1 : (evE s n0).length ≤ pre.length) (h2 : pre.length < (evE s (n0 + 1)).length) : x = ((n0 : Int) + 1, (dueR (evS s n0).1).getD (pre.length - (evE s n0).length) 0) := by
  have hl : (evE s (n0 + 1)).length = (evE s n0).length + (dueR (evS s n0).1).length := by rw [evE_succ, List.length_append, evT_len]
  have := (evE_at s hn (j := pre.length - (evE s n0).length) (by omega)).1
  rw [show (evE s n0).length + (pre.length - (evE s n0).length) = pre.length by omega] at this
  rw [h.2.1, this]
/-- What a round begins with: as many ticks as the event says. -/
theorem IA.at_ {pre : TL} {x : Int × Int} {W : World} (h : IA w base ab gb cb m T s N most many pre W) (hf : FitA s N pre x) : ∃ n0, n0 < N ∧ x.1 = (n0 : Int) + 1 ∧ SA w base ab gb cb m T s (n0 + 1) W ∧ OutA w base ab T many most pre W ∧ pre.length < most := by
  obtain ⟨n, h1, h2, h3, h4, h5, ⟨n0, rfl, h6, h7⟩ | ⟨rfl, h6⟩⟩ := h
  · have := hf.at_ (n0 := n0) (by omega) h6 h7
    exact ⟨n0, by omega, by rw [this], h2, h3, h4⟩
  · have := hf.1
    omega
end
end Go.Proofs.Ytdccpbnknfffaaa
