/-
  Layer 48: contracts of New, Set, Stop, Due, Count, Len.
-/
import Derived.Test.YtdccpbnknfffaaaAlarmMap
namespace Go.Proofs.Ytdccpbnknfffaaa
open Go.RowKit Go.Maps
theorem zeroI (w : World) : (zeroValue 3).run Try.prog w = .ok (.int .i64 0) w := by kernel_rfl
/-- A queue whose blocks are among T. -/
def QT (W : World) (base qb : Nat) (T : Nat → Prop) (r : TL) : Prop := ∃ L, DQ W base qb 0 L ∧ DInv (tlOf L) r ∧ T qb ∧ ∀ x ∈ L, T x.1
theorem QT.qs {W : World} {base qb : Nat} {T : Nat → Prop} {r : TL} (h : QT W base qb T r) : QS W base qb r := by
  obtain ⟨L, h1, h2, _⟩ := h
  exact ⟨L, h1, h2⟩
theorem QT.lt {W : World} {base qb : Nat} {T : Nat → Prop} {r : TL} (h : QT W base qb T r) : qb < W.heap.size ∧ base ≤ qb := h.qs.lt
theorem QT.len {W : World} {base qb : Nat} {T : Nat → Prop} {r : TL} (h : QT W base qb T r) : r.length ≤ 64 := by
  obtain ⟨L, h1, h2, _⟩ := h
  exact h2.len
theorem QT.tk {W : World} {base qb : Nat} {T : Nat → Prop} {r : TL} (h : QT W base qb T r) : ∀ x ∈ r, 1 ≤ x.2 ∧ x.2 ≤ 65536 := by
  obtain ⟨L, h1, h2, _⟩ := h
  exact h2.tk
theorem QT.ds {W : World} {base qb : Nat} {T : Nat → Prop} {r : TL} (h : QT W base qb T r) : Dist r := by
  obtain ⟨L, h1, h2, _⟩ := h
  exact h2.ds
theorem QT.below {W W' : World} {base qb : Nat} {T : Nat → Prop} {r : TL} (h : QT W base qb T r) (hb : Below W.heap.size W W') : QT W' base qb T r := by
  obtain ⟨L, h1, h2⟩ := h
  exact ⟨L, h1.below hb, h2⟩
theorem QT.save {W W' : World} {base qb : Nat} {T S : Nat → Prop} {r : TL} (h : QT W base qb T r) (hs : Save S W W') (hn : ∀ k, k < W.heap.size → T k → ¬ S k) : QT W' base qb T r := by
  obtain ⟨L, h1, h2, h3, h4⟩ := h
  exact ⟨L, h1.save hs (hn _ h1.lt h3) fun x hx => hn _ (h1.ch.lt x hx) (h4 x hx), h2, h3, h4⟩
theorem QT.cast {W : World} {base qb : Nat} {T T' : Nat → Prop} {r : TL} (h : QT W base qb T r) (hn : ∀ k, k < W.heap.size → T k → T' k) : QT W base qb T' r := by
  obtain ⟨L, h1, h2, h3, h4⟩ := h
  exact ⟨L, h1, h2, hn _ h1.lt h3, fun x hx => hn _ (h1.ch.lt x hx) (h4 x hx)⟩
theorem QT.maps {W W' : World} {base qb : Nat} {T : Nat → Prop} {r : TL} {S : Nat → Prop} (h : QT W base qb T r) (hs : Save S W W') (hS : ∀ k, S k → ∃ es ck, W.heap[k]? = some (Obj.map es ck)) : QT W' base qb T r := by
  obtain ⟨L, hq, h2⟩ := h
  refine ⟨L, hq.save hs (fun hk => ?_) fun x hx hk => ?_, h2⟩
  · obtain ⟨es, ck, hm⟩ := hS _ hk
    exact cell_not_map hq.first hm
  · obtain ⟨es, ck, hm⟩ := hS _ hk
    obtain ⟨k, hk2, rfl⟩ := List.getElem_of_mem hx
    have h1 := hq.ch.at_ hk2
    rw [hm] at h1
    cases h1
/-- What an operation keeps: what lies below, each row behind the queue but of timers, each block that is none of T. -/
structure AK (T : Nat → Prop) (base ab : Nat) (w w' : World) : Prop where
  k : QK base ab w w'
  s : Save T w w'
theorem AK.b {T : Nat → Prop} {base ab : Nat} {w w' : World} (h : AK T base ab w w') : Below base w w' := h.k.b
theorem AK.r {T : Nat → Prop} {base ab : Nat} {w w' : World} (h : AK T base ab w w') {B s n : Nat} {e : TypeId} {v : Value} {xs : List Value} (he : e ≠ 69) (hB : ab < B) (ho : w.ownsRow B e s v n xs) : w'.ownsRow B e s v n xs := h.k.r he hB ho
theorem AK.refl (T : Nat → Prop) (base ab : Nat) (w : World) : AK T base ab w w := ⟨QK.refl _ _ _, Save.refl _ _⟩
theorem AK.trans {T : Nat → Prop} {base ab : Nat} {a b c : World} (h : AK T base ab a b) (k : AK T base ab b c) : AK T base ab a c := ⟨h.k.trans k.k, h.s.trans k.s fun _ _ h => h⟩
theorem AK.of_below {T : Nat → Prop} {base ab : Nat} {w w' : World} (h : Below w.heap.size w w') (hB : base ≤ w.heap.size) : AK T base ab w w' := ⟨QK.of_below h hB, Save.of_below h _⟩
theorem DSave.ak {w w' : World} {base qb : Nat} {T : Nat → Prop} {L : List (Nat × Int × Int)} (hq : DQ w base qb 0 L) (h : DSave qb 0 L w w') (hB : base ≤ w.heap.size) (h3 : T qb) (h4 : ∀ x ∈ L, T x.1) : AK T base qb w w' :=
  ⟨h.qk hq hB, h.s.mono fun k hk => by
    rcases hk with rfl | ⟨x, hx, rfl⟩
    · exact h3
    · exact h4 x hx⟩
/-- Alarms: the timers, every how many ticks, how often; all their blocks are among T. -/
structure AS (W : World) (base ab gb cb m : Nat) (T : Nat → Prop) (r : TL) (ev ct : Int → Int) : Prop where
  q : QT W base ab T r
  c2 : W.cell? ⟨ab, 2, none⟩ = some (.map (some gb))
  c3 : W.cell? ⟨ab, 3, none⟩ = some (.map (some cb))
  g : IMap W gb m ev
  k : IMap W cb m ct
  ne : gb ≠ cb
  lg : base ≤ gb
  lc : base ≤ cb
  tg : T gb
  tc : T cb
theorem AS.qm {W W' : World} {base ab gb cb m : Nat} {T : Nat → Prop} {r r' : TL} {ev ct : Int → Int} (h : AS W base ab gb cb m T r ev ct) (hq : QT W' base ab T r') (hm : QM ab W W') : AS W' base ab gb cb m T r' ev ct :=
  ⟨hq, (hm.c 2 (by omega)).trans h.c2, (hm.c 3 (by omega)).trans h.c3, h.g.same (hm.m _), h.k.same (hm.m _), h.ne, h.lg, h.lc, h.tg, h.tc⟩
theorem AS.below {W W' : World} {base ab gb cb m : Nat} {T : Nat → Prop} {r : TL} {ev ct : Int → Int} (h : AS W base ab gb cb m T r ev ct) (hb : Below W.heap.size W W') : AS W' base ab gb cb m T r ev ct :=
  ⟨h.q.below hb, (hb.cell (cell_lt h.c2)).trans h.c2, (hb.cell (cell_lt h.c3)).trans h.c3, h.g.same fun _ _ e => (hb.block _ h.g.lt).trans e, h.k.same fun _ _ e => (hb.block _ h.k.lt).trans e, h.ne, h.lg, h.lc, h.tg, h.tc⟩
theorem AS.tq {W : World} {base ab gb cb m : Nat} {T : Nat → Prop} {r : TL} {ev ct : Int → Int} (h : AS W base ab gb cb m T r ev ct) : T ab := by
  obtain ⟨L, _, _, h3, _⟩ := h.q
  exact h3
/-- What others do leaves alarms alone. -/
theorem AS.save {W W' : World} {base ab gb cb m : Nat} {T S : Nat → Prop} {r : TL} {ev ct : Int → Int} (h : AS W base ab gb cb m T r ev ct) (hs : Save S W W') (hn : ∀ k, k < W.heap.size → T k → ¬ S k) : AS W' base ab gb cb m T r ev ct := by
  have hab := hs.block ab h.q.lt.1 (hn _ h.q.lt.1 h.tq)
  exact ⟨h.q.save hs hn, (World.cell?_of_block (w := W) (a := ⟨ab, 2, none⟩) hab).trans h.c2, (World.cell?_of_block (w := W) (a := ⟨ab, 3, none⟩) hab).trans h.c3, h.g.same fun es ck e => (hs.block _ h.g.lt (hn _ h.g.lt h.tg)).trans e, h.k.same fun es ck e => (hs.block _ h.k.lt (hn _ h.k.lt h.tc)).trans e, h.ne, h.lg, h.lc, h.tg, h.tc⟩
theorem AS.cast {W : World} {base ab gb cb m : Nat} {T T' : Nat → Prop} {r : TL} {ev ct : Int → Int} (h : AS W base ab gb cb m T r ev ct) (hn : ∀ k, k < W.heap.size → T k → T' k) : AS W base ab gb cb m T' r ev ct :=
  ⟨h.q.cast hn, h.c2, h.c3, h.g, h.k, h.ne, h.lg, h.lc, hn _ h.g.lt h.tg, hn _ h.k.lt h.tc⟩
theorem AS.mono {W : World} {base ab gb cb m n : Nat} {T : Nat → Prop} {r : TL} {ev ct : Int → Int} (h : AS W base ab gb cb m T r ev ct) (hn : m ≤ n) : AS W base ab gb cb n T r ev ct := ⟨h.q, h.c2, h.c3, h.g.mono hn, h.k.mono hn, h.ne, h.lg, h.lc, h.tg, h.tc⟩
/-- One map turned. -/
theorem AS.turn {W W' : World} {base ab gb cb m b : Nat} {T : Nat → Prop} {r : TL} {ev ct : Int → Int} (h : AS W base ab gb cb m T r ev ct) (hg : W.grownBy W' (some b)) (hb : b = gb ∨ b = cb) : QT W' base ab T r ∧ W'.cell? ⟨ab, 2, none⟩ = some (.map (some gb)) ∧ W'.cell? ⟨ab, 3, none⟩ = some (.map (some cb)) ∧ (b ≠ gb → IMap W' gb m ev) ∧ (b ≠ cb → IMap W' cb m ct) ∧ AK T base ab W W' := by
  have hs := Save.of_grown hg
  have hmap : ∀ k, some b = some k → ∃ es ck, W.heap[k]? = some (Obj.map es ck) := fun k e => by
    cases e
    rcases hb with rfl | rfl
    · exact h.g.is
    · exact h.k.is
  have hab : ab ≠ b := fun e => by
    obtain ⟨es, ck, hm⟩ := hmap b rfl
    rw [← e] at hm
    exact cell_not_map h.c2 hm
  have hblk := hs.block ab h.q.lt.1 (fun e => hab (Option.some.inj e).symm)
  refine ⟨h.q.maps hs hmap, (World.cell?_of_block (w := W) (a := ⟨ab, 2, none⟩) hblk).trans h.c2, (World.cell?_of_block (w := W) (a := ⟨ab, 3, none⟩) hblk).trans h.c3, fun hne => h.g.same fun es ck e => (hs.block _ h.g.lt fun e2 => hne (Option.some.inj e2)).trans e, fun hne => h.k.same fun es ck e => (hs.block _ h.k.lt fun e2 => hne (Option.some.inj e2)).trans e, ⟨hs.below (Below.refl base W) (by have := h.q.lt; omega) (fun k e => ?_), fun {B s n e v xs} he hB ho => own_save ho hs fun g hg hS => ?_⟩, hs.mono fun k e => ?_⟩
  · cases e
    rcases hb with rfl | rfl
    · exact h.lg
    · exact h.lc
  · cases hS
    obtain ⟨es, ck, hm⟩ := hmap _ rfl
    rcases ho.2 with ⟨rfl, _⟩ | ⟨g1, _, _, rfl, _, h2, _⟩
    · cases hg
    · cases hg
      rw [hm] at h2
      cases h2
  · cases e
    rcases hb with rfl | rfl
    · exact h.tg
    · exact h.tc
theorem qaddM_any (base qb : Nat) (T : Nat → Prop) (r : TL) (id t : Int) (w : World) (h : QT w base qb T r) (hT : ∀ k, w.heap.size ≤ k → T k) :
    Calls Try.prog 13 #[.pointer (some ⟨qb, 0, none⟩), .int .i64 id, .int .i64 t] w fun e w' => e = .returned (.bool (okR id t r)) ∧ QT w' base qb T (addR id t r) ∧ AK T base qb w w' ∧ QM qb w w' := by
  obtain ⟨L, h1, h2, h3, h4⟩ := h
  obtain ⟨b1, b2⟩ := h2.bnd
  have hB : base ≤ w.heap.size := by have := h1.lt; have := h1.low.1; omega
  refine (dadd_any base qb 0 L id t w h1 b1 b2 (h2.cancel id).1.bound).mono ?_
  rintro e w' ⟨L', rfl, q1, q2, q3, q4⟩
  have hok : addOk id t (tlOf L) = okR id t r := by unfold addOk okR; rw [h2.due, h2.size]
  refine ⟨by rw [hok], ⟨L', q1, ?_, h3, fun x hx => ?_⟩, q4.ak h1 hB h3 h4, q4.qm h1⟩
  rotate_left
  · rcases q3 x hx with ⟨y, hy, e⟩ | h
    · rw [← e]; exact h4 y hy
    · exact hT _ h
  rw [q2]
  unfold addF addR
  rw [hok]
  split
  · rename_i ho
    unfold okR at ho
    rw [Bool.and_eq_true, decide_eq_true_eq, Bool.or_eq_true, decide_eq_true_eq] at ho
    refine h2.add id t ho.1 ?_
    rcases ho.2 with h | h
    · have := dropR_length (look_isSome.1 h)
      have := h2.len
      omega
    · exact Nat.lt_of_le_of_lt (List.length_filter_le _ _) h
  · exact h2
theorem qcancelM_any (base qb : Nat) (T : Nat → Prop) (r : TL) (id : Int) (w : World) (h : QT w base qb T r) :
    Calls Try.prog 8 #[.pointer (some ⟨qb, 0, none⟩), .int .i64 id] w fun e w' => e = .returned (.bool (look id r).isSome) ∧ QT w' base qb T (dropR id r) ∧ AK T base qb w w' ∧ QM qb w w' := by
  obtain ⟨L, h1, h2, h3, h4⟩ := h
  obtain ⟨b1, b2⟩ := h2.bnd
  have hB : base ≤ w.heap.size := by have := h1.lt; have := h1.low.1; omega
  refine (dcancel_any base qb 0 L id w h1 b1 b2).mono ?_
  rintro e w' ⟨L', rfl, q1, q2, q3, q4⟩
  obtain ⟨c1, c2⟩ := h2.cancel id
  refine ⟨?_, ⟨L', q1, by rw [q2]; exact c1, h3, fun x hx => by obtain ⟨y, hy, e⟩ := q3 x hx; rw [← e]; exact h4 y hy⟩, q4.ak h1 hB h3 h4, q4.qm h1⟩
  congr 2
  rw [Bool.eq_iff_iff, c2, look_isSome]
def QTickM (base qb : Nat) (T : Nat → Prop) (r : TL) (w : World) (e : Ending) (w' : World) : Prop :=
  ∃ v : Value, e = .returned v ∧ w'.ownsRow w.heap.size 3 1 v (dueR r).length (iv (dueR r)) ∧ QT w' base qb T (leftR r) ∧ AK T base qb w w' ∧ QM qb w w'
theorem qtickM_any (base qb : Nat) (T : Nat → Prop) (r : TL) (w : World) (h : QT w base qb T r) : Calls Try.prog 10 #[.pointer (some ⟨qb, 0, none⟩)] w fun e w' => QTickM base qb T r w e w' := by
  obtain ⟨L, h1, h2, h3, h4⟩ := h
  obtain ⟨b1, b2⟩ := h2.bnd
  have hB : base ≤ w.heap.size := by have := h1.lt; have := h1.low.1; omega
  refine (dtick_any base qb 0 L w h1 b1 b2).mono ?_
  rintro e w' ⟨L', v, rfl, q0, q1, q2, q3, q4⟩
  obtain ⟨c1, c2⟩ := h2.tick
  rw [c2] at q0
  exact ⟨v, rfl, q0, ⟨L', q1, by rw [q2]; exact c1, h3, fun x hx => by obtain ⟨y, hy, e⟩ := q3 x hx; rw [← e]; exact h4 y hy⟩, q4.ak h1 hB h3 h4, q4.qm h1⟩
end Go.Proofs.Ytdccpbnknfffaaa
