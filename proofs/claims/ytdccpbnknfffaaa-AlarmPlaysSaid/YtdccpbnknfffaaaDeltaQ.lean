/-
  Contracts of the queue, by the timers as they were added; the same for two rows of numbers.
-/
import Derived.Test.YtdccpbnknfffaaaDeltaTick
namespace Go.Proofs.Ytdccpbnknfffaaa
open Go.RowKit
/-- A queue at a block of its own: it tells those timers. -/
def QS (W : World) (base qb : Nat) (r : TL) : Prop := ∃ L, DQ W base qb 0 L ∧ DInv (tlOf L) r
/-- What an operation keeps: what lies below, and each row behind the queue, but of timers. -/
structure QK (base qb : Nat) (w w' : World) : Prop where
  b : Below base w w'
  r : ∀ {B s n : Nat} {e : TypeId} {v : Value} {xs : List Value}, e ≠ 69 → qb < B → w.ownsRow B e s v n xs → w'.ownsRow B e s v n xs
theorem DSave.qk {w w' : World} {base qb : Nat} {L : List (Nat × Int × Int)} (hq : DQ w base qb 0 L) (h : DSave qb 0 L w w') (hB : base ≤ w.heap.size) : QK base qb w w' := by
  refine ⟨h.s.below (Below.refl base w) hB fun k hk => ?_, fun {B s n e v xs} he hB ho => own_save ho h.s fun g hg hS => ?_⟩
  · rcases hk with rfl | ⟨x, hx, rfl⟩
    · exact hq.low.1
    · exact hq.low.2 x hx
  · have hge : B ≤ g := (ho.lt g hg).1
    rcases hS with e1 | ⟨x, hx, e1⟩
    · omega
    · obtain ⟨k, hk, rfl⟩ := List.getElem_of_mem hx
      have h1 := hq.ch.at_ hk
      rw [e1] at h1
      rcases ho.2 with ⟨rfl, _⟩ | ⟨g1, _, _, rfl, _, h2, _⟩
      · cases hg
      · cases hg
        rw [h1] at h2
        simp at h2
        exact he h2.2.symm
theorem QS.below {W W' : World} {base qb : Nat} {r : TL} (h : QS W base qb r) (hb : Below W.heap.size W W') : QS W' base qb r := by
  obtain ⟨L, h1, h2⟩ := h
  exact ⟨L, h1.below hb, h2⟩
theorem QS.lt {W : World} {base qb : Nat} {r : TL} (h : QS W base qb r) : qb < W.heap.size ∧ base ≤ qb := by
  obtain ⟨L, h1, h2⟩ := h
  exact ⟨h1.lt, h1.low.1⟩
theorem QK.refl (base qb : Nat) (w : World) : QK base qb w w := ⟨Below.refl _ _, fun _ _ h => h⟩
theorem QK.trans {base qb : Nat} {a b c : World} (h : QK base qb a b) (k : QK base qb b c) : QK base qb a c := ⟨h.b.trans k.b, fun he hB ho => k.r he hB (h.r he hB ho)⟩
theorem QK.of_below {base qb : Nat} {w w' : World} (h : Below w.heap.size w w') (hB : base ≤ w.heap.size) : QK base qb w w' := ⟨h.mono hB, fun _ _ ho => own_save ho (Save.of_below h (fun _ => False)) fun _ _ h => h⟩
theorem DInv.bnd {L : List (Nat × Int × Int)} {r : TL} (h : DInv (tlOf L) r) : (∀ x ∈ L, 0 ≤ x.2.2 ∧ x.2.2 ≤ 65536) ∧ L.length ≤ 64 :=
  ⟨map_tlOf h.bound, by have := h.size; rw [tlOf_length] at this; have := h.len; omega⟩
theorem look_isSome {id : Int} {r : TL} : (look id r).isSome = true ↔ ∃ x ∈ r, x.1 = id := by
  constructor
  · intro h
    by_cases h1 : ∃ x ∈ r, x.1 = id
    · exact h1
    · rw [look_none.2 fun x hx e => h1 ⟨x, hx, e⟩] at h; cases h
  · rintro ⟨x, hx, e⟩
    cases h : look id r with
    | none => exact (look_none.1 h x hx e).elim
    | some t => rfl
def okR (id t : Int) (r : TL) : Bool := decide (1 ≤ t ∧ t ≤ 65536) && ((look id r).isSome || decide (r.length < 64))
def addR (id t : Int) (r : TL) : TL := if okR id t r then dropR id r ++ [(id, t)] else r
theorem qadd_any (base qb : Nat) (r : TL) (id t : Int) (w : World) (h : QS w base qb r) :
    Calls Try.prog 13 #[.pointer (some ⟨qb, 0, none⟩), .int .i64 id, .int .i64 t] w fun e w' => e = .returned (.bool (okR id t r)) ∧ QS w' base qb (addR id t r) ∧ QK base qb w w' := by
  obtain ⟨L, h1, h2⟩ := h
  obtain ⟨b1, b2⟩ := h2.bnd
  have hB : base ≤ w.heap.size := by have := h1.lt; have := h1.low.1; omega
  refine (dadd_any base qb 0 L id t w h1 b1 b2 (h2.cancel id).1.bound).mono ?_
  rintro e w' ⟨L', rfl, q1, q2, q3, q4⟩
  have hok : addOk id t (tlOf L) = okR id t r := by unfold addOk okR; rw [h2.due, h2.size]
  refine ⟨by rw [hok], ⟨L', q1, ?_⟩, q4.qk h1 hB⟩
  rw [q2]
  unfold addF addR
  rw [hok]
  split
  · rename_i ho
    unfold okR at ho
    rw [Bool.and_eq_true, decide_eq_true_eq, Bool.or_eq_true, decide_eq_true_eq] at ho
    refine h2.add id t ho.1 ?_
    rcases ho.2 with h | h
    · have := dropR_length (look_isSome.1 h)
      have := h2.len
      omega
    · exact Nat.lt_of_le_of_lt (List.length_filter_le _ _) h
  · exact h2
theorem qcancel_any (base qb : Nat) (r : TL) (id : Int) (w : World) (h : QS w base qb r) :
    Calls Try.prog 8 #[.pointer (some ⟨qb, 0, none⟩), .int .i64 id] w fun e w' => e = .returned (.bool (look id r).isSome) ∧ QS w' base qb (dropR id r) ∧ QK base qb w w' := by
  obtain ⟨L, h1, h2⟩ := h
  obtain ⟨b1, b2⟩ := h2.bnd
  have hB : base ≤ w.heap.size := by have := h1.lt; have := h1.low.1; omega
  refine (dcancel_any base qb 0 L id w h1 b1 b2).mono ?_
  rintro e w' ⟨L', rfl, q1, q2, q3, q4⟩
  obtain ⟨c1, c2⟩ := h2.cancel id
  refine ⟨?_, ⟨L', q1, by rw [q2]; exact c1⟩, q4.qk h1 hB⟩
  congr 2
  rw [Bool.eq_iff_iff, c2, look_isSome]
theorem qdue_any (base qb : Nat) (r : TL) (id : Int) (w : World) (h : QS w base qb r) :
    Calls Try.prog 15 #[.pointer (some ⟨qb, 0, none⟩), .int .i64 id] w fun e w' => e = .returned (.tuple #[.int .i64 (dR2 (look id r)).1, .bool (dR2 (look id r)).2]) ∧ Below w.heap.size w w' := by
  obtain ⟨L, h1, h2⟩ := h
  obtain ⟨b1, b2⟩ := h2.bnd
  have := ddue_any base qb 0 L id w h1 b1 b2
  rwa [h2.due] at this
theorem qlen_any (base qb : Nat) (r : TL) (w : World) (h : QS w base qb r) :
    Calls Try.prog 16 #[.pointer (some ⟨qb, 0, none⟩)] w fun e w' => e = .returned (.int .i64 (r.length : Int)) ∧ w = w' := by
  obtain ⟨L, h1, h2⟩ := h
  have := dlen_any base qb 0 L w h1
  have h3 := h2.size
  rw [tlOf_length] at h3
  rwa [h3] at this
def QTick (base qb : Nat) (r : TL) (w : World) (e : Ending) (w' : World) : Prop :=
  ∃ v : Value, e = .returned v ∧ w'.ownsRow w.heap.size 3 1 v (dueR r).length (iv (dueR r)) ∧ QS w' base qb (leftR r) ∧ QK base qb w w'
theorem qtick_any (base qb : Nat) (r : TL) (w : World) (h : QS w base qb r) : Calls Try.prog 10 #[.pointer (some ⟨qb, 0, none⟩)] w fun e w' => QTick base qb r w e w' := by
  obtain ⟨L, h1, h2⟩ := h
  obtain ⟨b1, b2⟩ := h2.bnd
  have hB : base ≤ w.heap.size := by have := h1.lt; have := h1.low.1; omega
  refine (dtick_any base qb 0 L w h1 b1 b2).mono ?_
  rintro e w' ⟨L', v, rfl, q0, q1, q2, q3, q4⟩
  obtain ⟨c1, c2⟩ := h2.tick
  rw [c2] at q0
  exact ⟨v, rfl, q0, ⟨L', q1, by rw [q2]; exact c1⟩, q4.qk h1 hB⟩
theorem qs_new (w : World) {base : Nat} (hB : base ≤ w.heap.size) : QS (w.alloc (Obj.cells #[.pointer none, .int .i64 0] 26)) base w.heap.size [] := by
  refine ⟨[], ⟨?_, ?_, ?_, ?_, trivial, by simp, fun x hx => (by cases hx), hB, fun x hx => (by cases hx)⟩, dinv_nil⟩
  · rw [World.cell?_alloc_at _ _ _ _ rfl]; rfl
  · rw [World.cell?_alloc_at _ _ _ _ rfl]; rfl
  · exact World.frozen?_alloc_at _ _ _ _ rfl
  · exact World.frozen?_alloc_at _ _ _ _ rfl
/-! ### two rows of numbers -/
def eqN (f g : Nat → Int) (n m : Nat) : Bool := (List.range n).map f == (List.range m).map g
theorem eqN_len {f g : Nat → Int} {n m : Nat} (h : n ≠ m) : eqN f g n m = false := by
  unfold eqN
  rw [beq_eq_false_iff_ne]
  intro e
  have := congrArg List.length e
  simp at this
  exact h this
theorem eqN_at {f g : Nat → Int} {n i : Nat} (hi : i < n) (h : f i ≠ g i) : eqN f g n n = false := by
  unfold eqN
  rw [beq_eq_false_iff_ne]
  intro e
  have := congrArg (fun l => l[i]?) e
  simp [hi] at this
  exact h this
theorem eqN_all {f g : Nat → Int} {n : Nat} (h : ∀ j, j < n → f j = g j) : eqN f g n n = true := by
  unfold eqN
  rw [beq_iff_eq]
  exact List.map_congr_left fun j hj => h j (by simpa using hj)
theorem below_drD {w W : World} {k : Nat} (h : Below w.heap.size w W) : Below w.heap.size w (W.drewN k) := h.trans ⟨rfl, rfl, rfl, Nat.le_refl _, fun _ _ => rfl⟩
set_option maxHeartbeats 1000000 in
theorem drow_any (ao bo : Option Addr) (n m ca cb : Nat) (f g : Nat → Int) (w : World) (ha : Row w ao n (fun j => .int .i64 (f j))) (hb : Row w bo m (fun j => .int .i64 (g j))) (hn : n ≤ 100000) :
    Calls Try.prog 12 #[.slice ao n ca, .slice bo m cb] w fun e w' => e = .returned (.bool (eqN f g n m)) ∧ Below w.heap.size w w' := by
  by_cases hnm : n = m
  · subst hnm
    have t1 : ((n : Int) == (n : Int)) = true := by simp
    go_enter Try.func12, Try.ntmps12
    go_wp2
    go_loopw [5] (fun i_ wr => ∃ i : Nat, i_ = .int .i64 i ∧ i ≤ n ∧ Hid (∀ j, j < i → f j = g j) ∧ Below w.heap.size w wr) (fun i_ _ => n - (intOf i_).toNat)
    case atStart => exact ⟨0, rfl, Nat.zero_le _, fun j hj => by omega, Below.refl _ _⟩
    case round =>
      obtain ⟨i, rfl, hik, HS, hbr⟩ := hrel
      rcases Nat.lt_or_ge i n with hi1 | hi1
      · have t2 : decide ((i : Int) < (n : Int)) = true := by simp; omega
        obtain ⟨b, o, rfl, hc10⟩ := (ha.below hbr) i hi1
        have hc1 : wr.cell? ⟨b, o + i, none⟩ = some (.int .i64 (f i)) := hc10
        clear hc10
        obtain ⟨b2, o2, rfl, hc20⟩ := (hb.below hbr) i hi1
        have hc2 : wr.cell? ⟨b2, o2 + i, none⟩ = some (.int .i64 (g i)) := hc20
        clear hc20
        cases h3 : (f i == g i)
        · have HB := hid (eqN_at hi1 (by simpa using h3) : eqN f g n n = false)
          clear HS
          have h4 : (f i != g i) = true := by simp [bne, h3]
          go_wp2
          go_quiet (fail)
          go_wp2
          go_ret
          exact ⟨by rw [HB.out]; rfl, below_drD hbr⟩
        · have HT : Hid (∀ j, j < i + 1 → f j = g j) := fun j hj => by
            rcases Nat.lt_or_ge j i with h5 | h5
            · exact HS.out j h5
            · obtain rfl : j = i := by omega
              simpa using h3
          clear HS
          have h4 : (f i != g i) = false := by simp [bne, h3]
          go_wp2
          go_quiet (fail)
          go_wp2
          go_roundw
          case rel => exact ⟨i + 1, by go_num, by omega, HT, below_drD hbr⟩
          case measure => simp [intOf]; omega
      · obtain rfl : i = n := by omega
        have t2 : decide ((i : Int) < (i : Int)) = false := by simp
        have HB := hid (eqN_all HS.out : eqN f g i i = true)
        clear HS
        go_wp2
        go_ret
        exact ⟨by rw [HB.out]; rfl, hbr⟩
  · have t1 : ((n : Int) == (m : Int)) = false := by simp; omega
    have HB := hid (eqN_len hnm : eqN f g n m = false)
    go_enter Try.func12, Try.ntmps12
    go_wp2
    go_ret
    exact ⟨by rw [HB.out]; rfl, Below.refl _ _⟩
theorem own_iv {w : World} {B n : Nat} {v : Value} {xs : List Int} (h : w.ownsRow B 3 1 v n (iv xs)) (hn : n = xs.length) : ∃ ao c, v = .slice ao n c ∧ Row w ao n (fun j => .int .i64 (xs.getD j 0)) := by
  have key : ∀ ao c, v = .slice ao n c → Row w ao n (fun j => .int .i64 (xs.getD j 0)) := fun ao c e => by
    subst e
    refine (row_of_own h).congr fun i hi => ?_
    subst hn
    simp [iv, hi]
  rcases h.2 with ⟨rfl, h0⟩ | ⟨g, cap, cur, rfl, _⟩
  · subst h0
    exact ⟨_, _, rfl, key _ _ rfl⟩
  · exact ⟨_, _, rfl, key _ _ rfl⟩
theorem eqN_lists (xs ys : List Int) : eqN (fun j => xs.getD j 0) (fun j => ys.getD j 0) xs.length ys.length = (xs == ys) := by
  have key : ∀ l : List Int, (List.range l.length).map (fun j => l.getD j 0) = l := fun l => by
    refine List.ext_getElem (by simp) fun i h1 h2 => ?_
    simp at h1
    simp [h1]
  unfold eqN
  rw [key, key]
/-- Two rows of the walk's own. -/
theorem drow_own {xs ys : List Int} {u v : Value} {w : World} {B B' : Nat} (h : w.ownsRow B 3 1 u xs.length (iv xs)) (k : w.ownsRow B' 3 1 v ys.length (iv ys)) (hn : xs.length ≤ 100000) : Calls Try.prog 12 #[u, v] w fun e w' => e = .returned (.bool (xs == ys)) ∧ Below w.heap.size w w' := by
  obtain ⟨ao, ca, rfl, h1⟩ := own_iv h rfl
  obtain ⟨bo, cb, rfl, h2⟩ := own_iv k rfl
  have := drow_any ao bo _ _ ca cb _ _ w h1 h2 hn
  rwa [eqN_lists] at this
end Go.Proofs.Ytdccpbnknfffaaa
