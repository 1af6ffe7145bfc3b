/-
  Contract of header.Read: how far a bank is.
-/
import Derived.Test.YtgcpfmdldgmbnaaHeader
import Derived.Laws.EntriesVeiled
namespace Go.Proofs.Ytgcpfmdldgmbnaa
open Go.RowKit
def commW : BitVec 32 := 1668246893#32
def confW : BitVec 32 := 1668247142#32
def okPairs (h : Nat → BitVec 32) : Bool := twoB h 0 && twoB h 2 && twoB h 4
def validB (h : Nat → BitVec 32) : Bool := okPairs h && (h 6 == commW && h 7 == ~~~commW)
def confB (h : Nat → BitVec 32) : Bool := validB h && (h 8 == confW && h 9 == ~~~confW)
def trialsN (h : Nat → BitVec 32) : Nat → Int
  | 0 => 0
  | k + 1 => trialsN h k + if h (10 + k) == blankW then 0 else 1
/-- How far a bank is, as a value. -/
def stV (h : Nat → BitVec 32) : Value := .agg #[.int .u32 (if validB h then B (h 0) else 0), .int .u32 (if validB h then B (h 2) else 0), .int .u32 (if validB h then B (h 4) else 0), .bool (validB h), .bool (confB h), .int .i64 (trialsN h 3)]
theorem cellA {W : World} {a : Addr} {v : Value} (o : Obj) (h : W.cell? a = some v) : (W.alloc o).cell? a = some v := (((Below.refl _ _).alloc (Nat.le_refl _) o).cell (cell_lt h)).trans h
theorem frozenA {W : World} {a : Addr} {v : Value} (o : Obj) (h : W.cell? a = some v) (hf : W.frozen? a = false) : (W.alloc o).frozen? a = false := (((Below.refl _ _).alloc (Nat.le_refl _) o).frozen (cell_lt h)).trans hf
theorem frozenA' {W : World} {a : Addr} (o : Obj) (h : a.block < W.heap.size) (hf : W.frozen? a = false) : (W.alloc o).frozen? a = false := (((Below.refl _ _).alloc (Nat.le_refl _) o).frozen h).trans hf
/-- What lies there from the closures on. -/
structure Rb (w : World) (ao : Option Addr) (n cap : Nat) (h : Nat → BitVec 32) (W : World) : Prop where
  below : Below w.heap.size w W
  size : w.heap.size + 3 ≤ W.heap.size
  cl : W.cell? ⟨w.heap.size, 0, none⟩ = some (.slice ao n cap)
  ca : W.cell? ⟨w.heap.size + 1 + 1, 0, none⟩ = some (atV w.heap.size)
  zs : ∀ j, j < 6 → ∃ v, W.cell? ⟨w.heap.size + 1, j, none⟩ = some v
  zf : ∀ j, W.frozen? ⟨w.heap.size + 1, j, none⟩ = false
  wds : Wds W ao n h
theorem Rb.step {w : World} {ao : Option Addr} {n cap : Nat} {h : Nat → BitVec 32} {W W' : World} (r : Rb w ao n cap h W) (hb : Below W.heap.size W W') : Rb w ao n cap h W' where
  below := r.below.trans (hb.mono r.below.size)
  size := Nat.le_trans r.size hb.size
  cl := (hb.cell (cell_lt r.cl)).trans r.cl
  ca := (hb.cell (cell_lt r.ca)).trans r.ca
  zs := fun j hj => by
    obtain ⟨v, hv⟩ := r.zs j hj
    exact ⟨v, (hb.cell (cell_lt hv)).trans hv⟩
  zf := fun j => (hb.frozen (by have := r.size; show w.heap.size + 1 < _; omega)).trans (r.zf j)
  wds := r.wds.below hb
/-- A state's six cells, which may be written. -/
structure St (W : World) (b : Nat) (x y z : Int) (v c : Bool) (t : Int) : Prop where
  s0 : W.cell? ⟨b, 0, none⟩ = some (.int .u32 x)
  s1 : W.cell? ⟨b, 1, none⟩ = some (.int .u32 y)
  s2 : W.cell? ⟨b, 2, none⟩ = some (.int .u32 z)
  s3 : W.cell? ⟨b, 3, none⟩ = some (.bool v)
  s4 : W.cell? ⟨b, 4, none⟩ = some (.bool c)
  s5 : W.cell? ⟨b, 5, none⟩ = some (.int .i64 t)
  sf : ∀ j, W.frozen? ⟨b, j, none⟩ = false
theorem St.step {W W' : World} {b : Nat} {x y z : Int} {v c : Bool} {t : Int} (r : St W b x y z v c t) (hb : Below W.heap.size W W') : St W' b x y z v c t where
  s0 := (hb.cell (cell_lt r.s0)).trans r.s0
  s1 := (hb.cell (cell_lt r.s1)).trans r.s1
  s2 := (hb.cell (cell_lt r.s2)).trans r.s2
  s3 := (hb.cell (cell_lt r.s3)).trans r.s3
  s4 := (hb.cell (cell_lt r.s4)).trans r.s4
  s5 := (hb.cell (cell_lt r.s5)).trans r.s5
  sf := fun j => (hb.frozen (show b < W.heap.size from cell_lt r.s0)).trans (r.sf j)
theorem csS {W : World} {a : Addr} {u v : Value} (h : W.cell? a = some u) : (W.setCell a v).cell? a = some v := World.cell?_setCell_same' W a v (by rw [h]; rfl)
theorem csO {W : World} {b j i : Nat} (v : Value) (h : j ≠ i) : (W.setCell ⟨b, j, none⟩ v).cell? ⟨b, i, none⟩ = W.cell? ⟨b, i, none⟩ := by
  refine World.cell?_setCell_other _ _ _ _ (fun e => h ?_)
  cases e; rfl
theorem szS (W : World) (a : Addr) (v : Value) : (W.setCell a v).heap.size = W.heap.size := by simp [World.setCell]
theorem St.set0 {W : World} {b : Nat} {x y z : Int} {v c : Bool} {t : Int} (r : St W b x y z v c t) (u : Int) : St (W.setCell ⟨b, 0, none⟩ (.int .u32 u)) b u y z v c t :=
  ⟨csS r.s0, (csO _ (by decide)).trans r.s1, (csO _ (by decide)).trans r.s2, (csO _ (by decide)).trans r.s3, (csO _ (by decide)).trans r.s4, (csO _ (by decide)).trans r.s5, fun i => by rw [World.frozen?_setCell]; exact r.sf i⟩
theorem St.set1 {W : World} {b : Nat} {x y z : Int} {v c : Bool} {t : Int} (r : St W b x y z v c t) (u : Int) : St (W.setCell ⟨b, 1, none⟩ (.int .u32 u)) b x u z v c t :=
  ⟨(csO _ (by decide)).trans r.s0, csS r.s1, (csO _ (by decide)).trans r.s2, (csO _ (by decide)).trans r.s3, (csO _ (by decide)).trans r.s4, (csO _ (by decide)).trans r.s5, fun i => by rw [World.frozen?_setCell]; exact r.sf i⟩
theorem St.set2 {W : World} {b : Nat} {x y z : Int} {v c : Bool} {t : Int} (r : St W b x y z v c t) (u : Int) : St (W.setCell ⟨b, 2, none⟩ (.int .u32 u)) b x y u v c t :=
  ⟨(csO _ (by decide)).trans r.s0, (csO _ (by decide)).trans r.s1, csS r.s2, (csO _ (by decide)).trans r.s3, (csO _ (by decide)).trans r.s4, (csO _ (by decide)).trans r.s5, fun i => by rw [World.frozen?_setCell]; exact r.sf i⟩
theorem St.set3 {W : World} {b : Nat} {x y z : Int} {v c : Bool} {t : Int} (r : St W b x y z v c t) (u : Bool) : St (W.setCell ⟨b, 3, none⟩ (.bool u)) b x y z u c t :=
  ⟨(csO _ (by decide)).trans r.s0, (csO _ (by decide)).trans r.s1, (csO _ (by decide)).trans r.s2, csS r.s3, (csO _ (by decide)).trans r.s4, (csO _ (by decide)).trans r.s5, fun i => by rw [World.frozen?_setCell]; exact r.sf i⟩
theorem St.set4 {W : World} {b : Nat} {x y z : Int} {v c : Bool} {t : Int} (r : St W b x y z v c t) (u : Bool) : St (W.setCell ⟨b, 4, none⟩ (.bool u)) b x y z v u t :=
  ⟨(csO _ (by decide)).trans r.s0, (csO _ (by decide)).trans r.s1, (csO _ (by decide)).trans r.s2, (csO _ (by decide)).trans r.s3, csS r.s4, (csO _ (by decide)).trans r.s5, fun i => by rw [World.frozen?_setCell]; exact r.sf i⟩
theorem St.set5 {W : World} {b : Nat} {x y z : Int} {v c : Bool} {t : Int} (r : St W b x y z v c t) (u : Int) : St (W.setCell ⟨b, 5, none⟩ (.int .i64 u)) b x y z v c u :=
  ⟨(csO _ (by decide)).trans r.s0, (csO _ (by decide)).trans r.s1, (csO _ (by decide)).trans r.s2, (csO _ (by decide)).trans r.s3, (csO _ (by decide)).trans r.s4, csS r.s5, fun i => by rw [World.frozen?_setCell]; exact r.sf i⟩
theorem Rb.set {w : World} {ao : Option Addr} {n cap : Nat} {h : Nat → BitVec 32} {W : World} (r : Rb w ao n cap h W) (hw : Wds w ao n h) {b : Nat} (hb : w.heap.size + 3 ≤ b) (j : Nat) (u : Value) : Rb w ao n cap h (W.setCell ⟨b, j, none⟩ u) where
  below := r.below.setCell (p := ⟨b, j, none⟩) (by show w.heap.size ≤ b; omega) u
  size := Nat.le_trans r.size (Nat.le_of_eq (szS W ⟨b, j, none⟩ u).symm)
  cl := (World.cell?_setCell_far W ⟨b, j, none⟩ _ u (by show b ≠ _; simp; omega)).trans r.cl
  ca := (World.cell?_setCell_far W ⟨b, j, none⟩ _ u (by show b ≠ _; simp; omega)).trans r.ca
  zs := fun i hi => by
    obtain ⟨v, hv⟩ := r.zs i hi
    exact ⟨v, (World.cell?_setCell_far W ⟨b, j, none⟩ _ u (by show b ≠ _; simp; omega)).trans hv⟩
  zf := fun i => by rw [World.frozen?_setCell]; exact r.zf i
  wds := hw.below (r.below.setCell (p := ⟨b, j, none⟩) (by show w.heap.size ≤ b; omega) u)
/-- Six cells that are written one behind the other. -/
theorem six {W : World} {b : Nat} {v0 v1 v2 v3 v4 v5 u0 u1 u2 u3 u4 u5 : Value} (z0 : W.cell? ⟨b, 0, none⟩ = some v0) (z1 : W.cell? ⟨b, 1, none⟩ = some v1) (z2 : W.cell? ⟨b, 2, none⟩ = some v2) (z3 : W.cell? ⟨b, 3, none⟩ = some v3) (z4 : W.cell? ⟨b, 4, none⟩ = some v4) (z5 : W.cell? ⟨b, 5, none⟩ = some v5) :
    ∀ W', W' = (((((W.setCell ⟨b, 0, none⟩ u0).setCell ⟨b, 1, none⟩ u1).setCell ⟨b, 2, none⟩ u2).setCell ⟨b, 3, none⟩ u3).setCell ⟨b, 4, none⟩ u4).setCell ⟨b, 5, none⟩ u5 →
    W'.cell? ⟨b, 0, none⟩ = some u0 ∧ W'.cell? ⟨b, 1, none⟩ = some u1 ∧ W'.cell? ⟨b, 2, none⟩ = some u2 ∧ W'.cell? ⟨b, 3, none⟩ = some u3 ∧ W'.cell? ⟨b, 4, none⟩ = some u4 ∧ W'.cell? ⟨b, 5, none⟩ = some u5 := by
  rintro W' rfl
  refine ⟨?_, ?_, ?_, ?_, ?_, ?_⟩
  · rw [csO _ (by decide), csO _ (by decide), csO _ (by decide), csO _ (by decide), csO _ (by decide)]; exact csS z0
  · rw [csO _ (by decide), csO _ (by decide), csO _ (by decide), csO _ (by decide)]; exact csS (by rw [csO _ (by decide)]; exact z1)
  · rw [csO _ (by decide), csO _ (by decide), csO _ (by decide)]; exact csS (by rw [csO _ (by decide), csO _ (by decide)]; exact z2)
  · rw [csO _ (by decide), csO _ (by decide)]; exact csS (by rw [csO _ (by decide), csO _ (by decide), csO _ (by decide)]; exact z3)
  · rw [csO _ (by decide)]; exact csS (by rw [csO _ (by decide), csO _ (by decide), csO _ (by decide), csO _ (by decide)]; exact z4)
  · exact csS (by rw [csO _ (by decide), csO _ (by decide), csO _ (by decide), csO _ (by decide), csO _ (by decide)]; exact z5)
theorem six_below {a W : World} {B b : Nat} (h : Below B a W) (hb : B ≤ b) (u0 u1 u2 u3 u4 u5 : Value) :
    Below B a ((((((W.setCell ⟨b, 0, none⟩ u0).setCell ⟨b, 1, none⟩ u1).setCell ⟨b, 2, none⟩ u2).setCell ⟨b, 3, none⟩ u3).setCell ⟨b, 4, none⟩ u4).setCell ⟨b, 5, none⟩ u5) :=
  (((((h.setCell (p := ⟨b, 0, none⟩) hb u0).setCell (p := ⟨b, 1, none⟩) hb u1).setCell (p := ⟨b, 2, none⟩) hb u2).setCell (p := ⟨b, 3, none⟩) hb u3).setCell (p := ⟨b, 4, none⟩) hb u4).setCell (p := ⟨b, 5, none⟩) hb u5
/-- The three pairs. -/
structure Pq (W : World) (b : Nat) (h : Nat → BitVec 32) : Prop where
  q0 : W.cell? ⟨b, 0, none⟩ = some (.int .u32 (B (h 0)))
  q1 : W.cell? ⟨b, 1, none⟩ = some (.int .u32 (B (h 1)))
  q2 : W.cell? ⟨b + 1, 0, none⟩ = some (.int .u32 (B (h 2)))
  q3 : W.cell? ⟨b + 1, 1, none⟩ = some (.int .u32 (B (h 3)))
  q4 : W.cell? ⟨b + 1 + 1, 0, none⟩ = some (.int .u32 (B (h 4)))
  q5 : W.cell? ⟨b + 1 + 1, 1, none⟩ = some (.int .u32 (B (h 5)))
theorem Pq.step {W W' : World} {b : Nat} {h : Nat → BitVec 32} (r : Pq W b h) (hb : Below W.heap.size W W') : Pq W' b h where
  q0 := (hb.cell (cell_lt r.q0)).trans r.q0
  q1 := (hb.cell (cell_lt r.q1)).trans r.q1
  q2 := (hb.cell (cell_lt r.q2)).trans r.q2
  q3 := (hb.cell (cell_lt r.q3)).trans r.q3
  q4 := (hb.cell (cell_lt r.q4)).trans r.q4
  q5 := (hb.cell (cell_lt r.q5)).trans r.q5
theorem stV_not {h : Nat → BitVec 32} (hv : validB h = false) : stV h = .agg #[.int .u32 0, .int .u32 0, .int .u32 0, .bool false, .bool false, .int .i64 (trialsN h 3)] := by
  unfold stV confB
  rw [hv]; rfl
theorem stV_is {h : Nat → BitVec 32} (c : Bool) (hv : validB h = true) (hc : confB h = c) : stV h = .agg #[.int .u32 (B (h 0)), .int .u32 (B (h 2)), .int .u32 (B (h 4)), .bool true, .bool c, .int .i64 (trialsN h 3)] := by
  unfold stV
  rw [hc, hv]; rfl
section
attribute [local go_sem] B_blank
set_option maxRecDepth 100000 in
set_option maxHeartbeats 2000000 in
theorem read_any (ao : Option Addr) (n cap : Nat) (h : Nat → BitVec 32) (w : World) (hw : Wds w ao n h) :
    Calls Try.prog 58 #[.slice ao n cap] w fun e w' => e = .returned (stV h) ∧ Below w.heap.size w w' := by
  have HT : Hid (∀ (z : Int) (W : World) (a b : Int), Rb w ao n cap h W → 0 ≤ z → z ≤ 2000 → B (h z.toNat) = a → B (h (z + 1).toNat) = b → Calls Try.prog 73 #[.int .i64 z, .pointer (some ⟨w.heap.size + 1 + 1, 0, none⟩)] W fun e w' => e = .returned (.agg #[.int .u32 a, .int .u32 b]) ∧ Below W.heap.size W w') := fun z W a b r h0 h1 ha hb => by
    rw [← ha, ← hb]
    exact two73_any ao n cap h z w.heap.size _ W r.wds r.cl r.ca h0 h1
  have HA : Hid (∀ (z : Int) (W : World), Rb w ao n cap h W → 0 ≤ z → Calls Try.prog 72 #[.int .i64 z, .pointer (some ⟨w.heap.size, 0, none⟩)] W fun e w' => e = .returned (.int .u32 (B (h z.toNat))) ∧ W = w') := fun z W r h0 =>
    at72_any ao n cap h z w.heap.size W r.wds r.cl h0
  go_enter Try.func58, Try.ntmps58
  go_wp2_with fail
  have R3 : Rb w ao n cap h (((w.alloc (Obj.cells #[Value.slice ao n cap] 39)).alloc (Obj.cells #[Value.int IntKind.u32 0, Value.int IntKind.u32 0, Value.int IntKind.u32 0, Value.bool false, Value.bool false, Value.int IntKind.i64 0] 75)).alloc (Obj.cells #[Value.func (Fn.func 72) #[] #[Value.pointer (some { block := w.heap.size, off := 0 })]] 97)) := by
    have hb : Below w.heap.size w (((w.alloc (Obj.cells #[Value.slice ao n cap] 39)).alloc (Obj.cells #[Value.int IntKind.u32 0, Value.int IntKind.u32 0, Value.int IntKind.u32 0, Value.bool false, Value.bool false, Value.int IntKind.i64 0] 75)).alloc (Obj.cells #[Value.func (Fn.func 72) #[] #[Value.pointer (some { block := w.heap.size, off := 0 })]] 97)) := (((Below.refl _ _).alloc (Nat.le_refl _) _).alloc (by simp) _).alloc (by simp; omega) _
    have hz : ∀ j, j < 6 → ∃ v, ((w.alloc (Obj.cells #[Value.slice ao n cap] 39)).alloc (Obj.cells #[Value.int IntKind.u32 0, Value.int IntKind.u32 0, Value.int IntKind.u32 0, Value.bool false, Value.bool false, Value.int IntKind.i64 0] 75)).cell? ⟨w.heap.size + 1, j, none⟩ = some v := fun j hj => by
      have h6 : #[Value.int IntKind.u32 0, Value.int IntKind.u32 0, Value.int IntKind.u32 0, Value.bool false, Value.bool false, Value.int IntKind.i64 0][j]? = some (#[Value.int IntKind.u32 0, Value.int IntKind.u32 0, Value.int IntKind.u32 0, Value.bool false, Value.bool false, Value.int IntKind.i64 0][j]'(by simpa using hj)) := Array.getElem?_eq_getElem _
      exact ⟨_, (World.cell?_alloc_at _ _ _ _ (by simp)).trans h6⟩
    refine ⟨hb, by simp, cellA _ (cellA _ (World.cell?_alloc_at _ _ _ _ rfl)), World.cell?_alloc_at _ _ _ _ (by simp), fun j hj => ?_, fun j => ?_, hw.below hb⟩
    · obtain ⟨v, hv⟩ := hz j hj
      exact ⟨v, cellA _ hv⟩
    · exact frozenA' _ (by simp) (World.frozen?_alloc_at _ _ _ _ (by simp))
  generalize ((w.alloc (Obj.cells #[Value.slice ao n cap] 39)).alloc (Obj.cells #[Value.int IntKind.u32 0, Value.int IntKind.u32 0, Value.int IntKind.u32 0, Value.bool false, Value.bool false, Value.int IntKind.i64 0] 75)).alloc (Obj.cells #[Value.func (Fn.func 72) #[] #[Value.pointer (some { block := w.heap.size, off := 0 })]] 97) = W3 at R3 ⊢
  refine (HT.out 0 W3 (B (h 0)) (B (h 1)) R3 (by omega) (by omega) rfl rfl).mono ?_
  rintro e W4 ⟨rfl, hb4⟩
  have R4 := R3.step hb4
  go_wp2_with fail
  refine (HT.out 2 W4 (B (h 2)) (B (h 3)) R4 (by omega) (by omega) rfl rfl).mono ?_
  rintro e W5 ⟨rfl, hb5⟩
  have R5 := R4.step hb5
  go_wp2_with fail
  refine (HT.out 4 W5 (B (h 4)) (B (h 5)) R5 (by omega) (by omega) rfl rfl).mono ?_
  rintro e W6 ⟨rfl, hb6⟩
  have R6 := R5.step hb6
  have hs6 := R6.size
  go_wp2_with fail
  have BA : Below W6.heap.size W6 ((((W6.alloc (Obj.cells #[Value.int IntKind.u32 (B (h 0)), Value.int IntKind.u32 (B (h 1))] 24)).alloc (Obj.cells #[Value.int IntKind.u32 (B (h 2)), Value.int IntKind.u32 (B (h 3))] 24)).alloc (Obj.cells #[Value.int IntKind.u32 (B (h 4)), Value.int IntKind.u32 (B (h 5))] 24)).alloc (Obj.cells #[Value.int IntKind.u32 (B (h 0)), Value.int IntKind.u32 (B (h 2)), Value.int IntKind.u32 (B (h 4)), Value.bool false, Value.bool false, Value.int IntKind.i64 0] 75)) := ((((Below.refl _ _).alloc (Nat.le_refl _) _).alloc (by simp) _).alloc (by simp; omega) _).alloc (by simp; omega) _
  have RA := R6.step BA
  have PA : Pq ((((W6.alloc (Obj.cells #[Value.int IntKind.u32 (B (h 0)), Value.int IntKind.u32 (B (h 1))] 24)).alloc (Obj.cells #[Value.int IntKind.u32 (B (h 2)), Value.int IntKind.u32 (B (h 3))] 24)).alloc (Obj.cells #[Value.int IntKind.u32 (B (h 4)), Value.int IntKind.u32 (B (h 5))] 24)).alloc (Obj.cells #[Value.int IntKind.u32 (B (h 0)), Value.int IntKind.u32 (B (h 2)), Value.int IntKind.u32 (B (h 4)), Value.bool false, Value.bool false, Value.int IntKind.i64 0] 75)) W6.heap.size h :=
    ⟨cellA _ (cellA _ (cellA _ (World.cell?_alloc_at _ _ _ _ rfl))), cellA _ (cellA _ (cellA _ (World.cell?_alloc_at _ _ _ _ rfl))), cellA _ (cellA _ (World.cell?_alloc_at _ _ _ _ (by simp))), cellA _ (cellA _ (World.cell?_alloc_at _ _ _ _ (by simp))), cellA _ (World.cell?_alloc_at _ _ _ _ (by simp)), cellA _ (World.cell?_alloc_at _ _ _ _ (by simp))⟩
  have SA : St ((((W6.alloc (Obj.cells #[Value.int IntKind.u32 (B (h 0)), Value.int IntKind.u32 (B (h 1))] 24)).alloc (Obj.cells #[Value.int IntKind.u32 (B (h 2)), Value.int IntKind.u32 (B (h 3))] 24)).alloc (Obj.cells #[Value.int IntKind.u32 (B (h 4)), Value.int IntKind.u32 (B (h 5))] 24)).alloc (Obj.cells #[Value.int IntKind.u32 (B (h 0)), Value.int IntKind.u32 (B (h 2)), Value.int IntKind.u32 (B (h 4)), Value.bool false, Value.bool false, Value.int IntKind.i64 0] 75)) (W6.heap.size + 1 + 1 + 1) (B (h 0)) (B (h 2)) (B (h 4)) false false 0 :=
    ⟨World.cell?_alloc_at _ _ _ _ (by simp), World.cell?_alloc_at _ _ _ _ (by simp), World.cell?_alloc_at _ _ _ _ (by simp), World.cell?_alloc_at _ _ _ _ (by simp), World.cell?_alloc_at _ _ _ _ (by simp), World.cell?_alloc_at _ _ _ _ (by simp), fun j => World.frozen?_alloc_at _ _ _ _ (by simp)⟩
  generalize (((W6.alloc (Obj.cells #[Value.int IntKind.u32 (B (h 0)), Value.int IntKind.u32 (B (h 1))] 24)).alloc (Obj.cells #[Value.int IntKind.u32 (B (h 2)), Value.int IntKind.u32 (B (h 3))] 24)).alloc (Obj.cells #[Value.int IntKind.u32 (B (h 4)), Value.int IntKind.u32 (B (h 5))] 24)).alloc (Obj.cells #[Value.int IntKind.u32 (B (h 0)), Value.int IntKind.u32 (B (h 2)), Value.int IntKind.u32 (B (h 4)), Value.bool false, Value.bool false, Value.int IntKind.i64 0] 75) = WA at RA PA SA ⊢
  clear BA R6 R5 R4 R3 hb6 hb5 hb4
  generalize W6.heap.size = b at hs6 PA SA ⊢
  clear W6 W5 W4 W3
  refine (Calls.below1 (right_any (h 0) (h 1) WA)).mono ?_
  rintro e V1 ⟨rfl, hv1⟩
  have R1 := RA.step hv1
  have P1 := PA.step hv1
  have S1 := SA.step hv1
  cases e0 : (h 1 == ~~~h 0)
  · have SX := S1
    obtain ⟨s0, s1, s2, s3, s4, s5, sf⟩ := S1
    have f0 := sf 0
    have f1 := sf 1
    have f2 := sf 2
    have f3 := sf 3
    have f4 := sf 4
    go_wp2_with fail
    obtain ⟨X, Y, Z, V, C, HV, S9⟩ : ∃ X Y Z V C, Hid (stV h = .agg #[.int .u32 X, .int .u32 Y, .int .u32 Z, .bool V, .bool C, .int .i64 (trialsN h 3)]) ∧ St (((((V1.setCell ⟨b + 1 + 1 + 1, 3, none⟩ (Value.bool false)).setCell ⟨b + 1 + 1 + 1, 4, none⟩ (Value.bool false)).setCell ⟨b + 1 + 1 + 1, 0, none⟩ (Value.int IntKind.u32 0)).setCell ⟨b + 1 + 1 + 1, 1, none⟩ (Value.int IntKind.u32 0)).setCell ⟨b + 1 + 1 + 1, 2, none⟩ (Value.int IntKind.u32 0)) (b + 1 + 1 + 1) X Y Z V C 0 := ⟨0, 0, 0, false, false, hid (stV_not (by unfold validB okPairs twoB; rw [e0]; rfl)), ((((SX.set3 false).set4 false).set0 0).set1 0).set2 0⟩
    have R9 := ((((R1.set hw (b := b + 1 + 1 + 1) (by omega) 3 (Value.bool false)).set hw (b := b + 1 + 1 + 1) (by omega) 4 (Value.bool false)).set hw (b := b + 1 + 1 + 1) (by omega) 0 (Value.int IntKind.u32 0)).set hw (b := b + 1 + 1 + 1) (by omega) 1 (Value.int IntKind.u32 0)).set hw (b := b + 1 + 1 + 1) (by omega) 2 (Value.int IntKind.u32 0)
    generalize ((((V1.setCell ⟨b + 1 + 1 + 1, 3, none⟩ (Value.bool false)).setCell ⟨b + 1 + 1 + 1, 4, none⟩ (Value.bool false)).setCell ⟨b + 1 + 1 + 1, 0, none⟩ (Value.int IntKind.u32 0)).setCell ⟨b + 1 + 1 + 1, 1, none⟩ (Value.int IntKind.u32 0)).setCell ⟨b + 1 + 1 + 1, 2, none⟩ (Value.int IntKind.u32 0) = W9 at S9 R9 ⊢
    have HW := hid hw
    clear hw HT
    go_loopw [9, 55] (fun _ i wr => ∃ k : Nat, k ≤ 3 ∧ i = .int .i64 k ∧ Rb w ao n cap h wr ∧ St wr (b + 1 + 1 + 1) X Y Z V C (trialsN h k) ∧ 0 ≤ trialsN h k ∧ trialsN h k ≤ k) (fun _ i _ => 3 - (intOf i).toNat)
    case atStart => exact ⟨0, by omega, rfl, R9, S9, by show (0 : Int) ≤ 0; omega, by show (0 : Int) ≤ 0; omega⟩
    case round =>
      obtain ⟨k, hk, rfl, R, S, hb0, hb1⟩ := hrel
      by_cases hlt : k < 3
      · have HAk := HA.out (10 + k) _ R (by omega)
        rw [show ((10 : Int) + (k : Int)).toNat = 10 + k by omega] at HAk
        have HAk := hid HAk
        have HS : Hid (trialsN h (k + 1) = trialsN h k + if h (10 + k) == blankW then 0 else 1) := rfl
        have ca := R.ca
        have SX := S
        obtain ⟨s0, s1, s2, s3, s4, s5, sf⟩ := S
        have f5 := sf 5
        generalize h (10 + k) = x at HAk HS
        generalize trialsN h k = t at *
        cases hx : (x == blankW)
        · have hx2 : (B x == 4294967295) = false := by rw [B_blank]; exact hx
          have HS2 : Hid (trialsN h (k + 1) = t + 1) := by have := HS.out; rw [hx] at this; exact this
          clear HS
          go_wp2_with (go_at_call 72; refine HAk.out.mono ?_; rintro e w' ⟨rfl, rfl⟩)
          go_roundw
          case rel => exact ⟨k + 1, by omega, by go_num, R.set HW.out (b := b + 1 + 1 + 1) (by omega) 5 _, by rw [HS2.out]; exact SX.set5 _, by rw [HS2.out]; omega, by rw [HS2.out]; omega⟩
          case measure => simp [intOf]; omega
        · have hx2 : (B x == 4294967295) = true := by rw [B_blank]; exact hx
          have HS2 : Hid (trialsN h (k + 1) = t) := by have := HS.out; rw [hx] at this; show _ = _; simpa using this
          clear HS
          go_wp2_with (go_at_call 72; refine HAk.out.mono ?_; rintro e w' ⟨rfl, rfl⟩)
          go_roundw
          case rel => exact ⟨k + 1, by omega, by go_num, R, by rw [HS2.out]; exact SX, by rw [HS2.out]; omega, by rw [HS2.out]; omega⟩
          case measure => simp [intOf]; omega
      · obtain rfl : k = 3 := by omega
        obtain ⟨s0, s1, s2, s3, s4, s5, sf⟩ := S
        obtain ⟨v0, z0⟩ := R.zs 0 (by omega)
        obtain ⟨v1, z1⟩ := R.zs 1 (by omega)
        obtain ⟨v2, z2⟩ := R.zs 2 (by omega)
        obtain ⟨v3, z3⟩ := R.zs 3 (by omega)
        obtain ⟨v4, z4⟩ := R.zs 4 (by omega)
        obtain ⟨v5, z5⟩ := R.zs 5 (by omega)
        have y0 := R.zf 0
        have y1 := R.zf 1
        have y2 := R.zf 2
        have y3 := R.zf 3
        have y4 := R.zf 4
        have y5 := R.zf 5
        have hbl := R.below
        clear R HA
        go_wp2
        have h6 := six (u0 := .int .u32 X) (u1 := .int .u32 Y) (u2 := .int .u32 Z) (u3 := .bool V) (u4 := .bool C) (u5 := .int .i64 (trialsN h 3)) z0 z1 z2 z3 z4 z5 _ rfl
        have b6 := six_below hbl (show w.heap.size ≤ w.heap.size + 1 by omega) (.int .u32 X) (.int .u32 Y) (.int .u32 Z) (.bool V) (.bool C) (.int .i64 (trialsN h 3))
        generalize (((((wr.setCell ⟨w.heap.size + 1, 0, none⟩ (.int .u32 X)).setCell ⟨w.heap.size + 1, 1, none⟩ (.int .u32 Y)).setCell ⟨w.heap.size + 1, 2, none⟩ (.int .u32 Z)).setCell ⟨w.heap.size + 1, 3, none⟩ (.bool V)).setCell ⟨w.heap.size + 1, 4, none⟩ (.bool C)).setCell ⟨w.heap.size + 1, 5, none⟩ (.int .i64 (trialsN h 3)) = WL at h6 b6 ⊢
        obtain ⟨g0, g1, g2, g3, g4, g5⟩ := h6
        exact bodyPost_ret (v := .agg #[.int .u32 X, .int .u32 Y, .int .u32 Z, .bool V, .bool C, .int .i64 (trialsN h 3)]) (by simp [results, Try.results58, go_sem, g0, g1, g2, g3, g4, g5]) rfl ⟨by rw [HV.out], b6⟩
  · have ⟨q0, q1, q2, q3, q4, q5⟩ := P1
    clear RA PA SA
    go_wp2_with fail
    refine (Calls.below1 (right_any (h 2) (h 3) V1)).mono ?_
    rintro e V2 ⟨rfl, hv2⟩
    have R2 := R1.step hv2
    have P2 := P1.step hv2
    have S2 := S1.step hv2
    cases e1 : (h 3 == ~~~h 2)
    · have SX := S2
      obtain ⟨s0, s1, s2, s3, s4, s5, sf⟩ := S2
      have f0 := sf 0
      have f1 := sf 1
      have f2 := sf 2
      have f3 := sf 3
      have f4 := sf 4
      go_wp2_with fail
      obtain ⟨X, Y, Z, V, C, HV, S9⟩ : ∃ X Y Z V C, Hid (stV h = .agg #[.int .u32 X, .int .u32 Y, .int .u32 Z, .bool V, .bool C, .int .i64 (trialsN h 3)]) ∧ St (((((V2.setCell ⟨b + 1 + 1 + 1, 3, none⟩ (Value.bool false)).setCell ⟨b + 1 + 1 + 1, 4, none⟩ (Value.bool false)).setCell ⟨b + 1 + 1 + 1, 0, none⟩ (Value.int IntKind.u32 0)).setCell ⟨b + 1 + 1 + 1, 1, none⟩ (Value.int IntKind.u32 0)).setCell ⟨b + 1 + 1 + 1, 2, none⟩ (Value.int IntKind.u32 0)) (b + 1 + 1 + 1) X Y Z V C 0 := ⟨0, 0, 0, false, false, hid (stV_not (by unfold validB okPairs twoB; rw [e1]; simp)), ((((SX.set3 false).set4 false).set0 0).set1 0).set2 0⟩
      have R9 := ((((R2.set hw (b := b + 1 + 1 + 1) (by omega) 3 (Value.bool false)).set hw (b := b + 1 + 1 + 1) (by omega) 4 (Value.bool false)).set hw (b := b + 1 + 1 + 1) (by omega) 0 (Value.int IntKind.u32 0)).set hw (b := b + 1 + 1 + 1) (by omega) 1 (Value.int IntKind.u32 0)).set hw (b := b + 1 + 1 + 1) (by omega) 2 (Value.int IntKind.u32 0)
      generalize ((((V2.setCell ⟨b + 1 + 1 + 1, 3, none⟩ (Value.bool false)).setCell ⟨b + 1 + 1 + 1, 4, none⟩ (Value.bool false)).setCell ⟨b + 1 + 1 + 1, 0, none⟩ (Value.int IntKind.u32 0)).setCell ⟨b + 1 + 1 + 1, 1, none⟩ (Value.int IntKind.u32 0)).setCell ⟨b + 1 + 1 + 1, 2, none⟩ (Value.int IntKind.u32 0) = W9 at S9 R9 ⊢
      have HW := hid hw
      clear hw HT
      go_loopw [9, 55] (fun _ i wr => ∃ k : Nat, k ≤ 3 ∧ i = .int .i64 k ∧ Rb w ao n cap h wr ∧ St wr (b + 1 + 1 + 1) X Y Z V C (trialsN h k) ∧ 0 ≤ trialsN h k ∧ trialsN h k ≤ k) (fun _ i _ => 3 - (intOf i).toNat)
      case atStart => exact ⟨0, by omega, rfl, R9, S9, by show (0 : Int) ≤ 0; omega, by show (0 : Int) ≤ 0; omega⟩
      case round =>
        obtain ⟨k, hk, rfl, R, S, hb0, hb1⟩ := hrel
        by_cases hlt : k < 3
        · have HAk := HA.out (10 + k) _ R (by omega)
          rw [show ((10 : Int) + (k : Int)).toNat = 10 + k by omega] at HAk
          have HAk := hid HAk
          have HS : Hid (trialsN h (k + 1) = trialsN h k + if h (10 + k) == blankW then 0 else 1) := rfl
          have ca := R.ca
          have SX := S
          obtain ⟨s0, s1, s2, s3, s4, s5, sf⟩ := S
          have f5 := sf 5
          generalize h (10 + k) = x at HAk HS
          generalize trialsN h k = t at *
          cases hx : (x == blankW)
          · have hx2 : (B x == 4294967295) = false := by rw [B_blank]; exact hx
            have HS2 : Hid (trialsN h (k + 1) = t + 1) := by have := HS.out; rw [hx] at this; exact this
            clear HS
            go_wp2_with (go_at_call 72; refine HAk.out.mono ?_; rintro e w' ⟨rfl, rfl⟩)
            go_roundw
            case rel => exact ⟨k + 1, by omega, by go_num, R.set HW.out (b := b + 1 + 1 + 1) (by omega) 5 _, by rw [HS2.out]; exact SX.set5 _, by rw [HS2.out]; omega, by rw [HS2.out]; omega⟩
            case measure => simp [intOf]; omega
          · have hx2 : (B x == 4294967295) = true := by rw [B_blank]; exact hx
            have HS2 : Hid (trialsN h (k + 1) = t) := by have := HS.out; rw [hx] at this; show _ = _; simpa using this
            clear HS
            go_wp2_with (go_at_call 72; refine HAk.out.mono ?_; rintro e w' ⟨rfl, rfl⟩)
            go_roundw
            case rel => exact ⟨k + 1, by omega, by go_num, R, by rw [HS2.out]; exact SX, by rw [HS2.out]; omega, by rw [HS2.out]; omega⟩
            case measure => simp [intOf]; omega
        · obtain rfl : k = 3 := by omega
          obtain ⟨s0, s1, s2, s3, s4, s5, sf⟩ := S
          obtain ⟨v0, z0⟩ := R.zs 0 (by omega)
          obtain ⟨v1, z1⟩ := R.zs 1 (by omega)
          obtain ⟨v2, z2⟩ := R.zs 2 (by omega)
          obtain ⟨v3, z3⟩ := R.zs 3 (by omega)
          obtain ⟨v4, z4⟩ := R.zs 4 (by omega)
          obtain ⟨v5, z5⟩ := R.zs 5 (by omega)
          have y0 := R.zf 0
          have y1 := R.zf 1
          have y2 := R.zf 2
          have y3 := R.zf 3
          have y4 := R.zf 4
          have y5 := R.zf 5
          have hbl := R.below
          clear R HA
          go_wp2
          have h6 := six (u0 := .int .u32 X) (u1 := .int .u32 Y) (u2 := .int .u32 Z) (u3 := .bool V) (u4 := .bool C) (u5 := .int .i64 (trialsN h 3)) z0 z1 z2 z3 z4 z5 _ rfl
          have b6 := six_below hbl (show w.heap.size ≤ w.heap.size + 1 by omega) (.int .u32 X) (.int .u32 Y) (.int .u32 Z) (.bool V) (.bool C) (.int .i64 (trialsN h 3))
          generalize (((((wr.setCell ⟨w.heap.size + 1, 0, none⟩ (.int .u32 X)).setCell ⟨w.heap.size + 1, 1, none⟩ (.int .u32 Y)).setCell ⟨w.heap.size + 1, 2, none⟩ (.int .u32 Z)).setCell ⟨w.heap.size + 1, 3, none⟩ (.bool V)).setCell ⟨w.heap.size + 1, 4, none⟩ (.bool C)).setCell ⟨w.heap.size + 1, 5, none⟩ (.int .i64 (trialsN h 3)) = WL at h6 b6 ⊢
          obtain ⟨g0, g1, g2, g3, g4, g5⟩ := h6
          exact bodyPost_ret (v := .agg #[.int .u32 X, .int .u32 Y, .int .u32 Z, .bool V, .bool C, .int .i64 (trialsN h 3)]) (by simp [results, Try.results58, go_sem, g0, g1, g2, g3, g4, g5]) rfl ⟨by rw [HV.out], b6⟩
    · have ⟨q0, q1, q2, q3, q4, q5⟩ := P2
      go_wp2_with fail
      refine (Calls.below1 (right_any (h 4) (h 5) V2)).mono ?_
      rintro e V3 ⟨rfl, hv3⟩
      have R3 := R2.step hv3
      have P3 := P2.step hv3
      have S3 := S2.step hv3
      cases e2 : (h 5 == ~~~h 4)
      · have SX := S3
        obtain ⟨s0, s1, s2, s3, s4, s5, sf⟩ := S3
        have f0 := sf 0
        have f1 := sf 1
        have f2 := sf 2
        have f3 := sf 3
        have f4 := sf 4
        go_wp2_with fail
        obtain ⟨X, Y, Z, V, C, HV, S9⟩ : ∃ X Y Z V C, Hid (stV h = .agg #[.int .u32 X, .int .u32 Y, .int .u32 Z, .bool V, .bool C, .int .i64 (trialsN h 3)]) ∧ St (((((V3.setCell ⟨b + 1 + 1 + 1, 3, none⟩ (Value.bool false)).setCell ⟨b + 1 + 1 + 1, 4, none⟩ (Value.bool false)).setCell ⟨b + 1 + 1 + 1, 0, none⟩ (Value.int IntKind.u32 0)).setCell ⟨b + 1 + 1 + 1, 1, none⟩ (Value.int IntKind.u32 0)).setCell ⟨b + 1 + 1 + 1, 2, none⟩ (Value.int IntKind.u32 0)) (b + 1 + 1 + 1) X Y Z V C 0 := ⟨0, 0, 0, false, false, hid (stV_not (by unfold validB okPairs twoB; rw [e2]; simp)), ((((SX.set3 false).set4 false).set0 0).set1 0).set2 0⟩
        have R9 := ((((R3.set hw (b := b + 1 + 1 + 1) (by omega) 3 (Value.bool false)).set hw (b := b + 1 + 1 + 1) (by omega) 4 (Value.bool false)).set hw (b := b + 1 + 1 + 1) (by omega) 0 (Value.int IntKind.u32 0)).set hw (b := b + 1 + 1 + 1) (by omega) 1 (Value.int IntKind.u32 0)).set hw (b := b + 1 + 1 + 1) (by omega) 2 (Value.int IntKind.u32 0)
        generalize ((((V3.setCell ⟨b + 1 + 1 + 1, 3, none⟩ (Value.bool false)).setCell ⟨b + 1 + 1 + 1, 4, none⟩ (Value.bool false)).setCell ⟨b + 1 + 1 + 1, 0, none⟩ (Value.int IntKind.u32 0)).setCell ⟨b + 1 + 1 + 1, 1, none⟩ (Value.int IntKind.u32 0)).setCell ⟨b + 1 + 1 + 1, 2, none⟩ (Value.int IntKind.u32 0) = W9 at S9 R9 ⊢
        have HW := hid hw
        clear hw HT
        go_loopw [9, 55] (fun _ i wr => ∃ k : Nat, k ≤ 3 ∧ i = .int .i64 k ∧ Rb w ao n cap h wr ∧ St wr (b + 1 + 1 + 1) X Y Z V C (trialsN h k) ∧ 0 ≤ trialsN h k ∧ trialsN h k ≤ k) (fun _ i _ => 3 - (intOf i).toNat)
        case atStart => exact ⟨0, by omega, rfl, R9, S9, by show (0 : Int) ≤ 0; omega, by show (0 : Int) ≤ 0; omega⟩
        case round =>
          obtain ⟨k, hk, rfl, R, S, hb0, hb1⟩ := hrel
          by_cases hlt : k < 3
          · have HAk := HA.out (10 + k) _ R (by omega)
            rw [show ((10 : Int) + (k : Int)).toNat = 10 + k by omega] at HAk
            have HAk := hid HAk
            have HS : Hid (trialsN h (k + 1) = trialsN h k + if h (10 + k) == blankW then 0 else 1) := rfl
            have ca := R.ca
            have SX := S
            obtain ⟨s0, s1, s2, s3, s4, s5, sf⟩ := S
            have f5 := sf 5
            generalize h (10 + k) = x at HAk HS
            generalize trialsN h k = t at *
            cases hx : (x == blankW)
            · have hx2 : (B x == 4294967295) = false := by rw [B_blank]; exact hx
              have HS2 : Hid (trialsN h (k + 1) = t + 1) := by have := HS.out; rw [hx] at this; exact this
              clear HS
              go_wp2_with (go_at_call 72; refine HAk.out.mono ?_; rintro e w' ⟨rfl, rfl⟩)
              go_roundw
              case rel => exact ⟨k + 1, by omega, by go_num, R.set HW.out (b := b + 1 + 1 + 1) (by omega) 5 _, by rw [HS2.out]; exact SX.set5 _, by rw [HS2.out]; omega, by rw [HS2.out]; omega⟩
              case measure => simp [intOf]; omega
            · have hx2 : (B x == 4294967295) = true := by rw [B_blank]; exact hx
              have HS2 : Hid (trialsN h (k + 1) = t) := by have := HS.out; rw [hx] at this; show _ = _; simpa using this
              clear HS
              go_wp2_with (go_at_call 72; refine HAk.out.mono ?_; rintro e w' ⟨rfl, rfl⟩)
              go_roundw
              case rel => exact ⟨k + 1, by omega, by go_num, R, by rw [HS2.out]; exact SX, by rw [HS2.out]; omega, by rw [HS2.out]; omega⟩
              case measure => simp [intOf]; omega
          · obtain rfl : k = 3 := by omega
            obtain ⟨s0, s1, s2, s3, s4, s5, sf⟩ := S
            obtain ⟨v0, z0⟩ := R.zs 0 (by omega)
            obtain ⟨v1, z1⟩ := R.zs 1 (by omega)
            obtain ⟨v2, z2⟩ := R.zs 2 (by omega)
            obtain ⟨v3, z3⟩ := R.zs 3 (by omega)
            obtain ⟨v4, z4⟩ := R.zs 4 (by omega)
            obtain ⟨v5, z5⟩ := R.zs 5 (by omega)
            have y0 := R.zf 0
            have y1 := R.zf 1
            have y2 := R.zf 2
            have y3 := R.zf 3
            have y4 := R.zf 4
            have y5 := R.zf 5
            have hbl := R.below
            clear R HA
            go_wp2
            have h6 := six (u0 := .int .u32 X) (u1 := .int .u32 Y) (u2 := .int .u32 Z) (u3 := .bool V) (u4 := .bool C) (u5 := .int .i64 (trialsN h 3)) z0 z1 z2 z3 z4 z5 _ rfl
            have b6 := six_below hbl (show w.heap.size ≤ w.heap.size + 1 by omega) (.int .u32 X) (.int .u32 Y) (.int .u32 Z) (.bool V) (.bool C) (.int .i64 (trialsN h 3))
            generalize (((((wr.setCell ⟨w.heap.size + 1, 0, none⟩ (.int .u32 X)).setCell ⟨w.heap.size + 1, 1, none⟩ (.int .u32 Y)).setCell ⟨w.heap.size + 1, 2, none⟩ (.int .u32 Z)).setCell ⟨w.heap.size + 1, 3, none⟩ (.bool V)).setCell ⟨w.heap.size + 1, 4, none⟩ (.bool C)).setCell ⟨w.heap.size + 1, 5, none⟩ (.int .i64 (trialsN h 3)) = WL at h6 b6 ⊢
            obtain ⟨g0, g1, g2, g3, g4, g5⟩ := h6
            exact bodyPost_ret (v := .agg #[.int .u32 X, .int .u32 Y, .int .u32 Z, .bool V, .bool C, .int .i64 (trialsN h 3)]) (by simp [results, Try.results58, go_sem, g0, g1, g2, g3, g4, g5]) rfl ⟨by rw [HV.out], b6⟩
      · go_wp2_with fail
        refine (HT.out 6 V3 (B (h 6)) (B (h 7)) R3 (by omega) (by omega) rfl rfl).mono ?_
        rintro e V4 ⟨rfl, hv4⟩
        have R4 := R3.step hv4
        have P4 := P3.step hv4
        have S4 := S3.step hv4
        go_wp2_with fail
        have HIs := Is_any (h 6) (h 7) commW V4
        rw [show B commW = 1668246893 by decide] at HIs
        cases ec : (h 6 == commW && h 7 == ~~~commW)
        · rw [ec] at HIs
          refine HIs.mono ?_
          rintro e V5 ⟨rfl, hv5⟩
          have R5 := R4.step hv5
          have P5 := P4.step hv5
          have S5 := S4.step hv5
          have SX := S5
          have ⟨s0, s1, s2, s3, s4, s5, sf⟩ := S5
          have f0 := sf 0
          have f1 := sf 1
          have f2 := sf 2
          have f3 := sf 3
          have f4 := sf 4
          go_wp2_with fail
          obtain ⟨X, Y, Z, V, C, HV, S9⟩ : ∃ X Y Z V C, Hid (stV h = .agg #[.int .u32 X, .int .u32 Y, .int .u32 Z, .bool V, .bool C, .int .i64 (trialsN h 3)]) ∧ St (((((V5.setCell ⟨b + 1 + 1 + 1, 3, none⟩ (Value.bool false)).setCell ⟨b + 1 + 1 + 1, 4, none⟩ (Value.bool false)).setCell ⟨b + 1 + 1 + 1, 0, none⟩ (Value.int IntKind.u32 0)).setCell ⟨b + 1 + 1 + 1, 1, none⟩ (Value.int IntKind.u32 0)).setCell ⟨b + 1 + 1 + 1, 2, none⟩ (Value.int IntKind.u32 0)) (b + 1 + 1 + 1) X Y Z V C 0 := ⟨0, 0, 0, false, false, hid (stV_not (by unfold validB; rw [ec]; simp)), ((((SX.set3 false).set4 false).set0 0).set1 0).set2 0⟩
          have R9 := ((((R5.set hw (b := b + 1 + 1 + 1) (by omega) 3 (Value.bool false)).set hw (b := b + 1 + 1 + 1) (by omega) 4 (Value.bool false)).set hw (b := b + 1 + 1 + 1) (by omega) 0 (Value.int IntKind.u32 0)).set hw (b := b + 1 + 1 + 1) (by omega) 1 (Value.int IntKind.u32 0)).set hw (b := b + 1 + 1 + 1) (by omega) 2 (Value.int IntKind.u32 0)
          generalize ((((V5.setCell ⟨b + 1 + 1 + 1, 3, none⟩ (Value.bool false)).setCell ⟨b + 1 + 1 + 1, 4, none⟩ (Value.bool false)).setCell ⟨b + 1 + 1 + 1, 0, none⟩ (Value.int IntKind.u32 0)).setCell ⟨b + 1 + 1 + 1, 1, none⟩ (Value.int IntKind.u32 0)).setCell ⟨b + 1 + 1 + 1, 2, none⟩ (Value.int IntKind.u32 0) = W9 at S9 R9 ⊢
          have HW := hid hw
          clear hw HT
          go_loopw [9, 55] (fun _ i wr => ∃ k : Nat, k ≤ 3 ∧ i = .int .i64 k ∧ Rb w ao n cap h wr ∧ St wr (b + 1 + 1 + 1) X Y Z V C (trialsN h k) ∧ 0 ≤ trialsN h k ∧ trialsN h k ≤ k) (fun _ i _ => 3 - (intOf i).toNat)
          case atStart => exact ⟨0, by omega, rfl, R9, S9, by show (0 : Int) ≤ 0; omega, by show (0 : Int) ≤ 0; omega⟩
          case round =>
            obtain ⟨k, hk, rfl, R, S, hb0, hb1⟩ := hrel
            by_cases hlt : k < 3
            · have HAk := HA.out (10 + k) _ R (by omega)
              rw [show ((10 : Int) + (k : Int)).toNat = 10 + k by omega] at HAk
              have HAk := hid HAk
              have HS : Hid (trialsN h (k + 1) = trialsN h k + if h (10 + k) == blankW then 0 else 1) := rfl
              have ca := R.ca
              have SX := S
              obtain ⟨s0, s1, s2, s3, s4, s5, sf⟩ := S
              have f5 := sf 5
              generalize h (10 + k) = x at HAk HS
              generalize trialsN h k = t at *
              cases hx : (x == blankW)
              · have hx2 : (B x == 4294967295) = false := by rw [B_blank]; exact hx
                have HS2 : Hid (trialsN h (k + 1) = t + 1) := by have := HS.out; rw [hx] at this; exact this
                clear HS
                go_wp2_with (go_at_call 72; refine HAk.out.mono ?_; rintro e w' ⟨rfl, rfl⟩)
                go_roundw
                case rel => exact ⟨k + 1, by omega, by go_num, R.set HW.out (b := b + 1 + 1 + 1) (by omega) 5 _, by rw [HS2.out]; exact SX.set5 _, by rw [HS2.out]; omega, by rw [HS2.out]; omega⟩
                case measure => simp [intOf]; omega
              · have hx2 : (B x == 4294967295) = true := by rw [B_blank]; exact hx
                have HS2 : Hid (trialsN h (k + 1) = t) := by have := HS.out; rw [hx] at this; show _ = _; simpa using this
                clear HS
                go_wp2_with (go_at_call 72; refine HAk.out.mono ?_; rintro e w' ⟨rfl, rfl⟩)
                go_roundw
                case rel => exact ⟨k + 1, by omega, by go_num, R, by rw [HS2.out]; exact SX, by rw [HS2.out]; omega, by rw [HS2.out]; omega⟩
                case measure => simp [intOf]; omega
            · obtain rfl : k = 3 := by omega
              obtain ⟨s0, s1, s2, s3, s4, s5, sf⟩ := S
              obtain ⟨v0, z0⟩ := R.zs 0 (by omega)
              obtain ⟨v1, z1⟩ := R.zs 1 (by omega)
              obtain ⟨v2, z2⟩ := R.zs 2 (by omega)
              obtain ⟨v3, z3⟩ := R.zs 3 (by omega)
              obtain ⟨v4, z4⟩ := R.zs 4 (by omega)
              obtain ⟨v5, z5⟩ := R.zs 5 (by omega)
              have y0 := R.zf 0
              have y1 := R.zf 1
              have y2 := R.zf 2
              have y3 := R.zf 3
              have y4 := R.zf 4
              have y5 := R.zf 5
              have hbl := R.below
              clear R HA
              go_wp2
              have h6 := six (u0 := .int .u32 X) (u1 := .int .u32 Y) (u2 := .int .u32 Z) (u3 := .bool V) (u4 := .bool C) (u5 := .int .i64 (trialsN h 3)) z0 z1 z2 z3 z4 z5 _ rfl
              have b6 := six_below hbl (show w.heap.size ≤ w.heap.size + 1 by omega) (.int .u32 X) (.int .u32 Y) (.int .u32 Z) (.bool V) (.bool C) (.int .i64 (trialsN h 3))
              generalize (((((wr.setCell ⟨w.heap.size + 1, 0, none⟩ (.int .u32 X)).setCell ⟨w.heap.size + 1, 1, none⟩ (.int .u32 Y)).setCell ⟨w.heap.size + 1, 2, none⟩ (.int .u32 Z)).setCell ⟨w.heap.size + 1, 3, none⟩ (.bool V)).setCell ⟨w.heap.size + 1, 4, none⟩ (.bool C)).setCell ⟨w.heap.size + 1, 5, none⟩ (.int .i64 (trialsN h 3)) = WL at h6 b6 ⊢
              obtain ⟨g0, g1, g2, g3, g4, g5⟩ := h6
              exact bodyPost_ret (v := .agg #[.int .u32 X, .int .u32 Y, .int .u32 Z, .bool V, .bool C, .int .i64 (trialsN h 3)]) (by simp [results, Try.results58, go_sem, g0, g1, g2, g3, g4, g5]) rfl ⟨by rw [HV.out], b6⟩
        · rw [ec] at HIs
          refine HIs.mono ?_
          rintro e V5 ⟨rfl, hv5⟩
          have R5 := R4.step hv5
          have P5 := P4.step hv5
          have S5 := S4.step hv5
          have SX := S5
          have ⟨s0, s1, s2, s3, s4, s5, sf⟩ := S5
          have f0 := sf 0
          have f1 := sf 1
          have f2 := sf 2
          have f3 := sf 3
          have f4 := sf 4
          go_wp2_with fail
          have R6 := R5.set hw (b := b + 1 + 1 + 1) (by omega) 3 (Value.bool true)
          have S6 := SX.set3 true
          generalize V5.setCell ⟨b + 1 + 1 + 1, 3, none⟩ (Value.bool true) = V6 at R6 S6 ⊢
          clear s0 s1 s2 s3 s4 s5 sf f0 f1 f2 f3 f4
          refine (HT.out 8 V6 (B (h 8)) (B (h 9)) R6 (by omega) (by omega) rfl rfl).mono ?_
          rintro e V7 ⟨rfl, hv7⟩
          have R7 := R6.step hv7
          have S7 := S6.step hv7
          go_wp2_with fail
          have HIt := Is_any (h 8) (h 9) confW V7
          rw [show B confW = 1668247142 by decide] at HIt
          cases ed : (h 8 == confW && h 9 == ~~~confW)
          · rw [ed] at HIt
            refine HIt.mono ?_
            rintro e V8 ⟨rfl, hv8⟩
            have R8 := R7.step hv8
            have S8 := S7.step hv8
            have SX := S8
            have ⟨s0, s1, s2, s3, s4, s5, sf⟩ := S8
            have f0 := sf 0
            have f1 := sf 1
            have f2 := sf 2
            have f3 := sf 3
            have f4 := sf 4
            go_wp2_with fail
            obtain ⟨X, Y, Z, V, C, HV, S9⟩ : ∃ X Y Z V C, Hid (stV h = .agg #[.int .u32 X, .int .u32 Y, .int .u32 Z, .bool V, .bool C, .int .i64 (trialsN h 3)]) ∧ St (V8.setCell ⟨b + 1 + 1 + 1, 4, none⟩ (Value.bool false)) (b + 1 + 1 + 1) X Y Z V C 0 := ⟨_, _, _, _, _, hid (stV_is false (by unfold validB okPairs twoB; rw [e0, e1, e2, ec]; rfl) (by unfold confB validB okPairs twoB; rw [e0, e1, e2, ec, ed]; rfl)), SX.set4 false⟩
            have R9 := R8.set hw (b := b + 1 + 1 + 1) (by omega) 4 (Value.bool false)
            generalize V8.setCell ⟨b + 1 + 1 + 1, 4, none⟩ (Value.bool false) = W9 at S9 R9 ⊢
            have HW := hid hw
            clear hw HT
            go_loopw [9, 55] (fun _ i wr => ∃ k : Nat, k ≤ 3 ∧ i = .int .i64 k ∧ Rb w ao n cap h wr ∧ St wr (b + 1 + 1 + 1) X Y Z V C (trialsN h k) ∧ 0 ≤ trialsN h k ∧ trialsN h k ≤ k) (fun _ i _ => 3 - (intOf i).toNat)
            case atStart => exact ⟨0, by omega, rfl, R9, S9, by show (0 : Int) ≤ 0; omega, by show (0 : Int) ≤ 0; omega⟩
            case round =>
              obtain ⟨k, hk, rfl, R, S, hb0, hb1⟩ := hrel
              by_cases hlt : k < 3
              · have HAk := HA.out (10 + k) _ R (by omega)
                rw [show ((10 : Int) + (k : Int)).toNat = 10 + k by omega] at HAk
                have HAk := hid HAk
                have HS : Hid (trialsN h (k + 1) = trialsN h k + if h (10 + k) == blankW then 0 else 1) := rfl
                have ca := R.ca
                have SX := S
                obtain ⟨s0, s1, s2, s3, s4, s5, sf⟩ := S
                have f5 := sf 5
                generalize h (10 + k) = x at HAk HS
                generalize trialsN h k = t at *
                cases hx : (x == blankW)
                · have hx2 : (B x == 4294967295) = false := by rw [B_blank]; exact hx
                  have HS2 : Hid (trialsN h (k + 1) = t + 1) := by have := HS.out; rw [hx] at this; exact this
                  clear HS
                  go_wp2_with (go_at_call 72; refine HAk.out.mono ?_; rintro e w' ⟨rfl, rfl⟩)
                  go_roundw
                  case rel => exact ⟨k + 1, by omega, by go_num, R.set HW.out (b := b + 1 + 1 + 1) (by omega) 5 _, by rw [HS2.out]; exact SX.set5 _, by rw [HS2.out]; omega, by rw [HS2.out]; omega⟩
                  case measure => simp [intOf]; omega
                · have hx2 : (B x == 4294967295) = true := by rw [B_blank]; exact hx
                  have HS2 : Hid (trialsN h (k + 1) = t) := by have := HS.out; rw [hx] at this; show _ = _; simpa using this
                  clear HS
                  go_wp2_with (go_at_call 72; refine HAk.out.mono ?_; rintro e w' ⟨rfl, rfl⟩)
                  go_roundw
                  case rel => exact ⟨k + 1, by omega, by go_num, R, by rw [HS2.out]; exact SX, by rw [HS2.out]; omega, by rw [HS2.out]; omega⟩
                  case measure => simp [intOf]; omega
              · obtain rfl : k = 3 := by omega
                obtain ⟨s0, s1, s2, s3, s4, s5, sf⟩ := S
                obtain ⟨v0, z0⟩ := R.zs 0 (by omega)
                obtain ⟨v1, z1⟩ := R.zs 1 (by omega)
                obtain ⟨v2, z2⟩ := R.zs 2 (by omega)
                obtain ⟨v3, z3⟩ := R.zs 3 (by omega)
                obtain ⟨v4, z4⟩ := R.zs 4 (by omega)
                obtain ⟨v5, z5⟩ := R.zs 5 (by omega)
                have y0 := R.zf 0
                have y1 := R.zf 1
                have y2 := R.zf 2
                have y3 := R.zf 3
                have y4 := R.zf 4
                have y5 := R.zf 5
                have hbl := R.below
                clear R HA
                go_wp2
                have h6 := six (u0 := .int .u32 X) (u1 := .int .u32 Y) (u2 := .int .u32 Z) (u3 := .bool V) (u4 := .bool C) (u5 := .int .i64 (trialsN h 3)) z0 z1 z2 z3 z4 z5 _ rfl
                have b6 := six_below hbl (show w.heap.size ≤ w.heap.size + 1 by omega) (.int .u32 X) (.int .u32 Y) (.int .u32 Z) (.bool V) (.bool C) (.int .i64 (trialsN h 3))
                generalize (((((wr.setCell ⟨w.heap.size + 1, 0, none⟩ (.int .u32 X)).setCell ⟨w.heap.size + 1, 1, none⟩ (.int .u32 Y)).setCell ⟨w.heap.size + 1, 2, none⟩ (.int .u32 Z)).setCell ⟨w.heap.size + 1, 3, none⟩ (.bool V)).setCell ⟨w.heap.size + 1, 4, none⟩ (.bool C)).setCell ⟨w.heap.size + 1, 5, none⟩ (.int .i64 (trialsN h 3)) = WL at h6 b6 ⊢
                obtain ⟨g0, g1, g2, g3, g4, g5⟩ := h6
                exact bodyPost_ret (v := .agg #[.int .u32 X, .int .u32 Y, .int .u32 Z, .bool V, .bool C, .int .i64 (trialsN h 3)]) (by simp [results, Try.results58, go_sem, g0, g1, g2, g3, g4, g5]) rfl ⟨by rw [HV.out], b6⟩
          · rw [ed] at HIt
            refine HIt.mono ?_
            rintro e V8 ⟨rfl, hv8⟩
            have R8 := R7.step hv8
            have S8 := S7.step hv8
            have SX := S8
            have ⟨s0, s1, s2, s3, s4, s5, sf⟩ := S8
            have f0 := sf 0
            have f1 := sf 1
            have f2 := sf 2
            have f3 := sf 3
            have f4 := sf 4
            go_wp2_with fail
            obtain ⟨X, Y, Z, V, C, HV, S9⟩ : ∃ X Y Z V C, Hid (stV h = .agg #[.int .u32 X, .int .u32 Y, .int .u32 Z, .bool V, .bool C, .int .i64 (trialsN h 3)]) ∧ St (V8.setCell ⟨b + 1 + 1 + 1, 4, none⟩ (Value.bool true)) (b + 1 + 1 + 1) X Y Z V C 0 := ⟨_, _, _, _, _, hid (stV_is true (by unfold validB okPairs twoB; rw [e0, e1, e2, ec]; rfl) (by unfold confB validB okPairs twoB; rw [e0, e1, e2, ec, ed]; rfl)), SX.set4 true⟩
            have R9 := R8.set hw (b := b + 1 + 1 + 1) (by omega) 4 (Value.bool true)
            generalize V8.setCell ⟨b + 1 + 1 + 1, 4, none⟩ (Value.bool true) = W9 at S9 R9 ⊢
            have HW := hid hw
            clear hw HT
            go_loopw [9, 55] (fun _ i wr => ∃ k : Nat, k ≤ 3 ∧ i = .int .i64 k ∧ Rb w ao n cap h wr ∧ St wr (b + 1 + 1 + 1) X Y Z V C (trialsN h k) ∧ 0 ≤ trialsN h k ∧ trialsN h k ≤ k) (fun _ i _ => 3 - (intOf i).toNat)
            case atStart => exact ⟨0, by omega, rfl, R9, S9, by show (0 : Int) ≤ 0; omega, by show (0 : Int) ≤ 0; omega⟩
            case round =>
              obtain ⟨k, hk, rfl, R, S, hb0, hb1⟩ := hrel
              by_cases hlt : k < 3
              · have HAk := HA.out (10 + k) _ R (by omega)
                rw [show ((10 : Int) + (k : Int)).toNat = 10 + k by omega] at HAk
                have HAk := hid HAk
                have HS : Hid (trialsN h (k + 1) = trialsN h k + if h (10 + k) == blankW then 0 else 1) := rfl
                have ca := R.ca
                have SX := S
                obtain ⟨s0, s1, s2, s3, s4, s5, sf⟩ := S
                have f5 := sf 5
                generalize h (10 + k) = x at HAk HS
                generalize trialsN h k = t at *
                cases hx : (x == blankW)
                · have hx2 : (B x == 4294967295) = false := by rw [B_blank]; exact hx
                  have HS2 : Hid (trialsN h (k + 1) = t + 1) := by have := HS.out; rw [hx] at this; exact this
                  clear HS
                  go_wp2_with (go_at_call 72; refine HAk.out.mono ?_; rintro e w' ⟨rfl, rfl⟩)
                  go_roundw
                  case rel => exact ⟨k + 1, by omega, by go_num, R.set HW.out (b := b + 1 + 1 + 1) (by omega) 5 _, by rw [HS2.out]; exact SX.set5 _, by rw [HS2.out]; omega, by rw [HS2.out]; omega⟩
                  case measure => simp [intOf]; omega
                · have hx2 : (B x == 4294967295) = true := by rw [B_blank]; exact hx
                  have HS2 : Hid (trialsN h (k + 1) = t) := by have := HS.out; rw [hx] at this; show _ = _; simpa using this
                  clear HS
                  go_wp2_with (go_at_call 72; refine HAk.out.mono ?_; rintro e w' ⟨rfl, rfl⟩)
                  go_roundw
                  case rel => exact ⟨k + 1, by omega, by go_num, R, by rw [HS2.out]; exact SX, by rw [HS2.out]; omega, by rw [HS2.out]; omega⟩
                  case measure => simp [intOf]; omega
              · obtain rfl : k = 3 := by omega
                obtain ⟨s0, s1, s2, s3, s4, s5, sf⟩ := S
                obtain ⟨v0, z0⟩ := R.zs 0 (by omega)
                obtain ⟨v1, z1⟩ := R.zs 1 (by omega)
                obtain ⟨v2, z2⟩ := R.zs 2 (by omega)
                obtain ⟨v3, z3⟩ := R.zs 3 (by omega)
                obtain ⟨v4, z4⟩ := R.zs 4 (by omega)
                obtain ⟨v5, z5⟩ := R.zs 5 (by omega)
                have y0 := R.zf 0
                have y1 := R.zf 1
                have y2 := R.zf 2
                have y3 := R.zf 3
                have y4 := R.zf 4
                have y5 := R.zf 5
                have hbl := R.below
                clear R HA
                go_wp2
                have h6 := six (u0 := .int .u32 X) (u1 := .int .u32 Y) (u2 := .int .u32 Z) (u3 := .bool V) (u4 := .bool C) (u5 := .int .i64 (trialsN h 3)) z0 z1 z2 z3 z4 z5 _ rfl
                have b6 := six_below hbl (show w.heap.size ≤ w.heap.size + 1 by omega) (.int .u32 X) (.int .u32 Y) (.int .u32 Z) (.bool V) (.bool C) (.int .i64 (trialsN h 3))
                generalize (((((wr.setCell ⟨w.heap.size + 1, 0, none⟩ (.int .u32 X)).setCell ⟨w.heap.size + 1, 1, none⟩ (.int .u32 Y)).setCell ⟨w.heap.size + 1, 2, none⟩ (.int .u32 Z)).setCell ⟨w.heap.size + 1, 3, none⟩ (.bool V)).setCell ⟨w.heap.size + 1, 4, none⟩ (.bool C)).setCell ⟨w.heap.size + 1, 5, none⟩ (.int .i64 (trialsN h 3)) = WL at h6 b6 ⊢
                obtain ⟨g0, g1, g2, g3, g4, g5⟩ := h6
                exact bodyPost_ret (v := .agg #[.int .u32 X, .int .u32 Y, .int .u32 Z, .bool V, .bool C, .int .i64 (trialsN h 3)]) (by simp [results, Try.results58, go_sem, g0, g1, g2, g3, g4, g5]) rfl ⟨by rw [HV.out], b6⟩
end
end Go.Proofs.Ytgcpfmdldgmbnaa
