/-
  Contract of the document's layer 7: how far a bank is.
-/
import Derived.Test.YtgcpfmdldgmbnaaHeaderRead
namespace Go.Proofs.Ytgcpfmdldgmbnaa
open Go.RowKit
theorem valid_ref (h : Nat → BitVec 32) : (twoB h 0 && twoB h 2 && twoB h 4 && twoB h 6 && h 6 == commW) = validB h := by
  unfold validB okPairs twoB
  by_cases e : h 6 = commW
  · rw [e]; simp
  · have : (h 6 == commW) = false := by simp [e]
    rw [this]; simp
theorem conf_ref (h : Nat → BitVec 32) : (validB h && twoB h 8 && h 8 == confW) = confB h := by
  unfold confB twoB
  by_cases e : h 8 = confW
  · rw [e]; simp
  · have : (h 8 == confW) = false := by simp [e]
    rw [this]; simp
/-- What lies there. -/
structure Rr (w : World) (ao : Option Addr) (n : Nat) (h : Nat → BitVec 32) (W : World) : Prop where
  below : Below w.heap.size w W
  zs : ∀ j, j < 6 → ∃ v, W.cell? ⟨w.heap.size, j, none⟩ = some v
  zf : ∀ j, W.frozen? ⟨w.heap.size, j, none⟩ = false
  wds : Wds W ao n h
theorem Rr.set {w : World} {ao : Option Addr} {n : Nat} {h : Nat → BitVec 32} {W : World} (r : Rr w ao n h W) (hw : Wds w ao n h) (j : Nat) (u : Value) : Rr w ao n h (W.setCell ⟨w.heap.size + 1, j, none⟩ u) where
  below := r.below.setCell (p := ⟨w.heap.size + 1, j, none⟩) (by show w.heap.size ≤ w.heap.size + 1; omega) u
  zs := fun i hi => by
    obtain ⟨v, hv⟩ := r.zs i hi
    exact ⟨v, (World.cell?_setCell_far W ⟨w.heap.size + 1, j, none⟩ _ u (by show w.heap.size + 1 ≠ w.heap.size; omega)).trans hv⟩
  zf := fun i => by rw [World.frozen?_setCell]; exact r.zf i
  wds := hw.below (r.below.setCell (p := ⟨w.heap.size + 1, j, none⟩) (by show w.heap.size ≤ w.heap.size + 1; omega) u)
section
attribute [local go_sem] B_blank
set_option maxRecDepth 100000 in
set_option maxHeartbeats 4000000 in
theorem refRead_any (ao : Option Addr) (n cap : Nat) (h : Nat → BitVec 32) (w : World) (hw : Wds w ao n h) (hn : n ≤ 2000) :
    Calls Try.prog 59 #[.slice ao n cap] w fun e w' => e = .returned (stV h) ∧ Below w.heap.size w w' := by
  have HT : Hid (∀ (i : Nat) (z : Int) (W : World) (b : Bool), Rr w ao n h W → z = i → i < 2000 → twoB h i = b → Calls Try.prog 74 #[.slice ao n cap, .int .i64 z] W fun e w' => e = .returned (.bool b) ∧ W = w') := fun i z W b r hz hi hb => by
    rw [← hb, hz]; exact two07_any ao n cap h i W r.wds hn hi
  have HA : Hid (∀ (i : Nat) (z : Int) (W : World), Rr w ao n h W → z = i → i < 2000 → Calls Try.prog 56 #[.slice ao n cap, .int .i64 z] W fun e w' => e = .returned (.int .u32 (B (h i))) ∧ W = w') := fun i z W r hz hi => by
    rw [hz]; exact refAt_any ao n cap h i W r.wds hn (by omega)
  go_enter Try.func59, Try.ntmps59
  go_wp2_with fail
  have RA : Rr w ao n h ((w.alloc (Obj.cells #[Value.int IntKind.u32 0, Value.int IntKind.u32 0, Value.int IntKind.u32 0, Value.bool false, Value.bool false, Value.int IntKind.i64 0] 78)).alloc (Obj.cells #[Value.int IntKind.u32 0, Value.int IntKind.u32 0, Value.int IntKind.u32 0, Value.bool false, Value.bool false, Value.int IntKind.i64 0] 78)) := by
    have hb : Below w.heap.size w ((w.alloc (Obj.cells #[Value.int IntKind.u32 0, Value.int IntKind.u32 0, Value.int IntKind.u32 0, Value.bool false, Value.bool false, Value.int IntKind.i64 0] 78)).alloc (Obj.cells #[Value.int IntKind.u32 0, Value.int IntKind.u32 0, Value.int IntKind.u32 0, Value.bool false, Value.bool false, Value.int IntKind.i64 0] 78)) := ((Below.refl _ _).alloc (Nat.le_refl _) _).alloc (by simp) _
    refine ⟨hb, fun j hj => ?_, fun j => frozenA' _ (by simp) (World.frozen?_alloc_at _ _ _ _ rfl), hw.below hb⟩
    have h6 : #[Value.int IntKind.u32 0, Value.int IntKind.u32 0, Value.int IntKind.u32 0, Value.bool false, Value.bool false, Value.int IntKind.i64 0][j]? = some (#[Value.int IntKind.u32 0, Value.int IntKind.u32 0, Value.int IntKind.u32 0, Value.bool false, Value.bool false, Value.int IntKind.i64 0][j]'(by simpa using hj)) := Array.getElem?_eq_getElem _
    exact ⟨_, cellA _ ((World.cell?_alloc_at _ _ _ _ rfl).trans h6)⟩
  have SA : St ((w.alloc (Obj.cells #[Value.int IntKind.u32 0, Value.int IntKind.u32 0, Value.int IntKind.u32 0, Value.bool false, Value.bool false, Value.int IntKind.i64 0] 78)).alloc (Obj.cells #[Value.int IntKind.u32 0, Value.int IntKind.u32 0, Value.int IntKind.u32 0, Value.bool false, Value.bool false, Value.int IntKind.i64 0] 78)) (w.heap.size + 1) 0 0 0 false false 0 :=
    ⟨World.cell?_alloc_at _ _ _ _ (by simp), World.cell?_alloc_at _ _ _ _ (by simp), World.cell?_alloc_at _ _ _ _ (by simp), World.cell?_alloc_at _ _ _ _ (by simp), World.cell?_alloc_at _ _ _ _ (by simp), World.cell?_alloc_at _ _ _ _ (by simp), fun j => World.frozen?_alloc_at _ _ _ _ (by simp)⟩
  generalize (w.alloc (Obj.cells #[Value.int IntKind.u32 0, Value.int IntKind.u32 0, Value.int IntKind.u32 0, Value.bool false, Value.bool false, Value.int IntKind.i64 0] 78)).alloc (Obj.cells #[Value.int IntKind.u32 0, Value.int IntKind.u32 0, Value.int IntKind.u32 0, Value.bool false, Value.bool false, Value.int IntKind.i64 0] 78) = WA at RA SA ⊢
  have ⟨s0, s1, s2, s3, s4, s5, sf⟩ := SA
  have f0 := sf 0
  have f1 := sf 1
  have f2 := sf 2
  have f3 := sf 3
  have f4 := sf 4
  have hVR := valid_ref h
  have hCR := conf_ref h
  cases e0 : twoB h 0
  · refine (HT.out 0 0 WA false RA (by omega) (by omega) e0).mono ?_
    rintro e w' ⟨rfl, rfl⟩
    go_wp2_with fail
    obtain ⟨X, Y, Z, V, C, HV, S9⟩ : ∃ X Y Z V C, Hid (stV h = .agg #[.int .u32 X, .int .u32 Y, .int .u32 Z, .bool V, .bool C, .int .i64 (trialsN h 3)]) ∧ St ((WA.setCell ⟨w.heap.size + 1, 3, none⟩ (Value.bool false)).setCell ⟨w.heap.size + 1, 4, none⟩ (Value.bool false)) (w.heap.size + 1) X Y Z V C 0 := ⟨_, _, _, _, _, hid (stV_not (by rw [← hVR, e0]; simp)), ((SA.set3 false).set4 false)⟩
    have R9 := ((RA.set hw 3 (Value.bool false)).set hw 4 (Value.bool false))
    generalize ((WA.setCell ⟨w.heap.size + 1, 3, none⟩ (Value.bool false)).setCell ⟨w.heap.size + 1, 4, none⟩ (Value.bool false)) = W9 at S9 R9 ⊢
    have HW := hid hw
    clear hw HT hVR hCR s0 s1 s2 s3 s4 s5 sf f0 f1 f2 f3 f4
    go_loopw [4] (fun i wr => ∃ k : Nat, k ≤ 3 ∧ i = .int .i64 (10 + (k : Int)) ∧ Rr w ao n h wr ∧ St wr (w.heap.size + 1) X Y Z V C (trialsN h k) ∧ 0 ≤ trialsN h k ∧ trialsN h k ≤ k) (fun i _ => 13 - (intOf i).toNat)
    case atStart => exact ⟨0, by omega, rfl, R9, S9, by show (0 : Int) ≤ 0; omega, by show (0 : Int) ≤ 0; omega⟩
    case round =>
      obtain ⟨k, hk, rfl, R, S, hb0, hb1⟩ := hrel
      by_cases hlt : k < 3
      · have HAk := hid (HA.out (10 + k) (10 + (k : Int)) _ R (by omega) (by omega))
        have HS : Hid (trialsN h (k + 1) = trialsN h k + if h (10 + k) == blankW then 0 else 1) := rfl
        have SX := S
        obtain ⟨s0, s1, s2, s3, s4, s5, sf⟩ := S
        have f5 := sf 5
        generalize h (10 + k) = x at HAk HS
        generalize trialsN h k = t at *
        cases hx : (x == blankW)
        · have hx2 : (B x == 4294967295) = false := by rw [B_blank]; exact hx
          have HS2 : Hid (trialsN h (k + 1) = t + 1) := by have := HS.out; rw [hx] at this; exact this
          clear HS
          go_wp2_with (go_at_call 56; refine HAk.out.mono ?_; rintro e w' ⟨rfl, rfl⟩)
          go_roundw
          case rel => exact ⟨k + 1, by omega, by go_num, R.set HW.out 5 _, by rw [HS2.out]; exact SX.set5 _, by rw [HS2.out]; omega, by rw [HS2.out]; omega⟩
          case measure => simp [intOf]; omega
        · have hx2 : (B x == 4294967295) = true := by rw [B_blank]; exact hx
          have HS2 : Hid (trialsN h (k + 1) = t) := by have := HS.out; rw [hx] at this; show _ = _; simpa using this
          clear HS
          go_wp2_with (go_at_call 56; refine HAk.out.mono ?_; rintro e w' ⟨rfl, rfl⟩)
          go_roundw
          case rel => exact ⟨k + 1, by omega, by go_num, R, by rw [HS2.out]; exact SX, by rw [HS2.out]; omega, by rw [HS2.out]; omega⟩
          case measure => simp [intOf]; omega
      · obtain rfl : k = 3 := by omega
        obtain ⟨s0, s1, s2, s3, s4, s5, sf⟩ := S
        obtain ⟨v0, z0⟩ := R.zs 0 (by omega)
        obtain ⟨v1, z1⟩ := R.zs 1 (by omega)
        obtain ⟨v2, z2⟩ := R.zs 2 (by omega)
        obtain ⟨v3, z3⟩ := R.zs 3 (by omega)
        obtain ⟨v4, z4⟩ := R.zs 4 (by omega)
        obtain ⟨v5, z5⟩ := R.zs 5 (by omega)
        have y0 := R.zf 0
        have y1 := R.zf 1
        have y2 := R.zf 2
        have y3 := R.zf 3
        have y4 := R.zf 4
        have y5 := R.zf 5
        have hbl := R.below
        clear R HA
        go_wp2
        have h6 := six (u0 := .int .u32 X) (u1 := .int .u32 Y) (u2 := .int .u32 Z) (u3 := .bool V) (u4 := .bool C) (u5 := .int .i64 (trialsN h 3)) z0 z1 z2 z3 z4 z5 _ rfl
        have b6 := six_below hbl (Nat.le_refl w.heap.size) (.int .u32 X) (.int .u32 Y) (.int .u32 Z) (.bool V) (.bool C) (.int .i64 (trialsN h 3))
        generalize (((((wr.setCell ⟨w.heap.size, 0, none⟩ (.int .u32 X)).setCell ⟨w.heap.size, 1, none⟩ (.int .u32 Y)).setCell ⟨w.heap.size, 2, none⟩ (.int .u32 Z)).setCell ⟨w.heap.size, 3, none⟩ (.bool V)).setCell ⟨w.heap.size, 4, none⟩ (.bool C)).setCell ⟨w.heap.size, 5, none⟩ (.int .i64 (trialsN h 3)) = WL at h6 b6 ⊢
        obtain ⟨g0, g1, g2, g3, g4, g5⟩ := h6
        exact bodyPost_ret (v := .agg #[.int .u32 X, .int .u32 Y, .int .u32 Z, .bool V, .bool C, .int .i64 (trialsN h 3)]) (by simp [results, Try.results59, go_sem, g0, g1, g2, g3, g4, g5]) rfl ⟨by rw [HV.out], b6⟩
  · refine (HT.out 0 0 WA true RA (by omega) (by omega) e0).mono ?_
    rintro e w' ⟨rfl, rfl⟩
    go_wp2_with fail
    cases e2 : twoB h 2
    · refine (HT.out 2 2 WA false RA (by omega) (by omega) e2).mono ?_
      rintro e w' ⟨rfl, rfl⟩
      go_wp2_with fail
      obtain ⟨X, Y, Z, V, C, HV, S9⟩ : ∃ X Y Z V C, Hid (stV h = .agg #[.int .u32 X, .int .u32 Y, .int .u32 Z, .bool V, .bool C, .int .i64 (trialsN h 3)]) ∧ St ((WA.setCell ⟨w.heap.size + 1, 3, none⟩ (Value.bool false)).setCell ⟨w.heap.size + 1, 4, none⟩ (Value.bool false)) (w.heap.size + 1) X Y Z V C 0 := ⟨_, _, _, _, _, hid (stV_not (by rw [← hVR, e2]; simp)), ((SA.set3 false).set4 false)⟩
      have R9 := ((RA.set hw 3 (Value.bool false)).set hw 4 (Value.bool false))
      generalize ((WA.setCell ⟨w.heap.size + 1, 3, none⟩ (Value.bool false)).setCell ⟨w.heap.size + 1, 4, none⟩ (Value.bool false)) = W9 at S9 R9 ⊢
      have HW := hid hw
      clear hw HT hVR hCR s0 s1 s2 s3 s4 s5 sf f0 f1 f2 f3 f4
      go_loopw [4] (fun i wr => ∃ k : Nat, k ≤ 3 ∧ i = .int .i64 (10 + (k : Int)) ∧ Rr w ao n h wr ∧ St wr (w.heap.size + 1) X Y Z V C (trialsN h k) ∧ 0 ≤ trialsN h k ∧ trialsN h k ≤ k) (fun i _ => 13 - (intOf i).toNat)
      case atStart => exact ⟨0, by omega, rfl, R9, S9, by show (0 : Int) ≤ 0; omega, by show (0 : Int) ≤ 0; omega⟩
      case round =>
        obtain ⟨k, hk, rfl, R, S, hb0, hb1⟩ := hrel
        by_cases hlt : k < 3
        · have HAk := hid (HA.out (10 + k) (10 + (k : Int)) _ R (by omega) (by omega))
          have HS : Hid (trialsN h (k + 1) = trialsN h k + if h (10 + k) == blankW then 0 else 1) := rfl
          have SX := S
          obtain ⟨s0, s1, s2, s3, s4, s5, sf⟩ := S
          have f5 := sf 5
          generalize h (10 + k) = x at HAk HS
          generalize trialsN h k = t at *
          cases hx : (x == blankW)
          · have hx2 : (B x == 4294967295) = false := by rw [B_blank]; exact hx
            have HS2 : Hid (trialsN h (k + 1) = t + 1) := by have := HS.out; rw [hx] at this; exact this
            clear HS
            go_wp2_with (go_at_call 56; refine HAk.out.mono ?_; rintro e w' ⟨rfl, rfl⟩)
            go_roundw
            case rel => exact ⟨k + 1, by omega, by go_num, R.set HW.out 5 _, by rw [HS2.out]; exact SX.set5 _, by rw [HS2.out]; omega, by rw [HS2.out]; omega⟩
            case measure => simp [intOf]; omega
          · have hx2 : (B x == 4294967295) = true := by rw [B_blank]; exact hx
            have HS2 : Hid (trialsN h (k + 1) = t) := by have := HS.out; rw [hx] at this; show _ = _; simpa using this
            clear HS
            go_wp2_with (go_at_call 56; refine HAk.out.mono ?_; rintro e w' ⟨rfl, rfl⟩)
            go_roundw
            case rel => exact ⟨k + 1, by omega, by go_num, R, by rw [HS2.out]; exact SX, by rw [HS2.out]; omega, by rw [HS2.out]; omega⟩
            case measure => simp [intOf]; omega
        · obtain rfl : k = 3 := by omega
          obtain ⟨s0, s1, s2, s3, s4, s5, sf⟩ := S
          obtain ⟨v0, z0⟩ := R.zs 0 (by omega)
          obtain ⟨v1, z1⟩ := R.zs 1 (by omega)
          obtain ⟨v2, z2⟩ := R.zs 2 (by omega)
          obtain ⟨v3, z3⟩ := R.zs 3 (by omega)
          obtain ⟨v4, z4⟩ := R.zs 4 (by omega)
          obtain ⟨v5, z5⟩ := R.zs 5 (by omega)
          have y0 := R.zf 0
          have y1 := R.zf 1
          have y2 := R.zf 2
          have y3 := R.zf 3
          have y4 := R.zf 4
          have y5 := R.zf 5
          have hbl := R.below
          clear R HA
          go_wp2
          have h6 := six (u0 := .int .u32 X) (u1 := .int .u32 Y) (u2 := .int .u32 Z) (u3 := .bool V) (u4 := .bool C) (u5 := .int .i64 (trialsN h 3)) z0 z1 z2 z3 z4 z5 _ rfl
          have b6 := six_below hbl (Nat.le_refl w.heap.size) (.int .u32 X) (.int .u32 Y) (.int .u32 Z) (.bool V) (.bool C) (.int .i64 (trialsN h 3))
          generalize (((((wr.setCell ⟨w.heap.size, 0, none⟩ (.int .u32 X)).setCell ⟨w.heap.size, 1, none⟩ (.int .u32 Y)).setCell ⟨w.heap.size, 2, none⟩ (.int .u32 Z)).setCell ⟨w.heap.size, 3, none⟩ (.bool V)).setCell ⟨w.heap.size, 4, none⟩ (.bool C)).setCell ⟨w.heap.size, 5, none⟩ (.int .i64 (trialsN h 3)) = WL at h6 b6 ⊢
          obtain ⟨g0, g1, g2, g3, g4, g5⟩ := h6
          exact bodyPost_ret (v := .agg #[.int .u32 X, .int .u32 Y, .int .u32 Z, .bool V, .bool C, .int .i64 (trialsN h 3)]) (by simp [results, Try.results59, go_sem, g0, g1, g2, g3, g4, g5]) rfl ⟨by rw [HV.out], b6⟩
    · refine (HT.out 2 2 WA true RA (by omega) (by omega) e2).mono ?_
      rintro e w' ⟨rfl, rfl⟩
      go_wp2_with fail
      cases e4 : twoB h 4
      · refine (HT.out 4 4 WA false RA (by omega) (by omega) e4).mono ?_
        rintro e w' ⟨rfl, rfl⟩
        go_wp2_with fail
        obtain ⟨X, Y, Z, V, C, HV, S9⟩ : ∃ X Y Z V C, Hid (stV h = .agg #[.int .u32 X, .int .u32 Y, .int .u32 Z, .bool V, .bool C, .int .i64 (trialsN h 3)]) ∧ St ((WA.setCell ⟨w.heap.size + 1, 3, none⟩ (Value.bool false)).setCell ⟨w.heap.size + 1, 4, none⟩ (Value.bool false)) (w.heap.size + 1) X Y Z V C 0 := ⟨_, _, _, _, _, hid (stV_not (by rw [← hVR, e4]; simp)), ((SA.set3 false).set4 false)⟩
        have R9 := ((RA.set hw 3 (Value.bool false)).set hw 4 (Value.bool false))
        generalize ((WA.setCell ⟨w.heap.size + 1, 3, none⟩ (Value.bool false)).setCell ⟨w.heap.size + 1, 4, none⟩ (Value.bool false)) = W9 at S9 R9 ⊢
        have HW := hid hw
        clear hw HT hVR hCR s0 s1 s2 s3 s4 s5 sf f0 f1 f2 f3 f4
        go_loopw [4] (fun i wr => ∃ k : Nat, k ≤ 3 ∧ i = .int .i64 (10 + (k : Int)) ∧ Rr w ao n h wr ∧ St wr (w.heap.size + 1) X Y Z V C (trialsN h k) ∧ 0 ≤ trialsN h k ∧ trialsN h k ≤ k) (fun i _ => 13 - (intOf i).toNat)
        case atStart => exact ⟨0, by omega, rfl, R9, S9, by show (0 : Int) ≤ 0; omega, by show (0 : Int) ≤ 0; omega⟩
        case round =>
          obtain ⟨k, hk, rfl, R, S, hb0, hb1⟩ := hrel
          by_cases hlt : k < 3
          · have HAk := hid (HA.out (10 + k) (10 + (k : Int)) _ R (by omega) (by omega))
            have HS : Hid (trialsN h (k + 1) = trialsN h k + if h (10 + k) == blankW then 0 else 1) := rfl
            have SX := S
            obtain ⟨s0, s1, s2, s3, s4, s5, sf⟩ := S
            have f5 := sf 5
            generalize h (10 + k) = x at HAk HS
            generalize trialsN h k = t at *
            cases hx : (x == blankW)
            · have hx2 : (B x == 4294967295) = false := by rw [B_blank]; exact hx
              have HS2 : Hid (trialsN h (k + 1) = t + 1) := by have := HS.out; rw [hx] at this; exact this
              clear HS
              go_wp2_with (go_at_call 56; refine HAk.out.mono ?_; rintro e w' ⟨rfl, rfl⟩)
              go_roundw
              case rel => exact ⟨k + 1, by omega, by go_num, R.set HW.out 5 _, by rw [HS2.out]; exact SX.set5 _, by rw [HS2.out]; omega, by rw [HS2.out]; omega⟩
              case measure => simp [intOf]; omega
            · have hx2 : (B x == 4294967295) = true := by rw [B_blank]; exact hx
              have HS2 : Hid (trialsN h (k + 1) = t) := by have := HS.out; rw [hx] at this; show _ = _; simpa using this
              clear HS
              go_wp2_with (go_at_call 56; refine HAk.out.mono ?_; rintro e w' ⟨rfl, rfl⟩)
              go_roundw
              case rel => exact ⟨k + 1, by omega, by go_num, R, by rw [HS2.out]; exact SX, by rw [HS2.out]; omega, by rw [HS2.out]; omega⟩
              case measure => simp [intOf]; omega
          · obtain rfl : k = 3 := by omega
            obtain ⟨s0, s1, s2, s3, s4, s5, sf⟩ := S
            obtain ⟨v0, z0⟩ := R.zs 0 (by omega)
            obtain ⟨v1, z1⟩ := R.zs 1 (by omega)
            obtain ⟨v2, z2⟩ := R.zs 2 (by omega)
            obtain ⟨v3, z3⟩ := R.zs 3 (by omega)
            obtain ⟨v4, z4⟩ := R.zs 4 (by omega)
            obtain ⟨v5, z5⟩ := R.zs 5 (by omega)
            have y0 := R.zf 0
            have y1 := R.zf 1
            have y2 := R.zf 2
            have y3 := R.zf 3
            have y4 := R.zf 4
            have y5 := R.zf 5
            have hbl := R.below
            clear R HA
            go_wp2
            have h6 := six (u0 := .int .u32 X) (u1 := .int .u32 Y) (u2 := .int .u32 Z) (u3 := .bool V) (u4 := .bool C) (u5 := .int .i64 (trialsN h 3)) z0 z1 z2 z3 z4 z5 _ rfl
            have b6 := six_below hbl (Nat.le_refl w.heap.size) (.int .u32 X) (.int .u32 Y) (.int .u32 Z) (.bool V) (.bool C) (.int .i64 (trialsN h 3))
            generalize (((((wr.setCell ⟨w.heap.size, 0, none⟩ (.int .u32 X)).setCell ⟨w.heap.size, 1, none⟩ (.int .u32 Y)).setCell ⟨w.heap.size, 2, none⟩ (.int .u32 Z)).setCell ⟨w.heap.size, 3, none⟩ (.bool V)).setCell ⟨w.heap.size, 4, none⟩ (.bool C)).setCell ⟨w.heap.size, 5, none⟩ (.int .i64 (trialsN h 3)) = WL at h6 b6 ⊢
            obtain ⟨g0, g1, g2, g3, g4, g5⟩ := h6
            exact bodyPost_ret (v := .agg #[.int .u32 X, .int .u32 Y, .int .u32 Z, .bool V, .bool C, .int .i64 (trialsN h 3)]) (by simp [results, Try.results59, go_sem, g0, g1, g2, g3, g4, g5]) rfl ⟨by rw [HV.out], b6⟩
      · refine (HT.out 4 4 WA true RA (by omega) (by omega) e4).mono ?_
        rintro e w' ⟨rfl, rfl⟩
        go_wp2_with fail
        cases e6 : twoB h 6
        · refine (HT.out 6 6 WA false RA (by omega) (by omega) e6).mono ?_
          rintro e w' ⟨rfl, rfl⟩
          go_wp2_with fail
          obtain ⟨X, Y, Z, V, C, HV, S9⟩ : ∃ X Y Z V C, Hid (stV h = .agg #[.int .u32 X, .int .u32 Y, .int .u32 Z, .bool V, .bool C, .int .i64 (trialsN h 3)]) ∧ St ((WA.setCell ⟨w.heap.size + 1, 3, none⟩ (Value.bool false)).setCell ⟨w.heap.size + 1, 4, none⟩ (Value.bool false)) (w.heap.size + 1) X Y Z V C 0 := ⟨_, _, _, _, _, hid (stV_not (by rw [← hVR, e6]; simp)), ((SA.set3 false).set4 false)⟩
          have R9 := ((RA.set hw 3 (Value.bool false)).set hw 4 (Value.bool false))
          generalize ((WA.setCell ⟨w.heap.size + 1, 3, none⟩ (Value.bool false)).setCell ⟨w.heap.size + 1, 4, none⟩ (Value.bool false)) = W9 at S9 R9 ⊢
          have HW := hid hw
          clear hw HT hVR hCR s0 s1 s2 s3 s4 s5 sf f0 f1 f2 f3 f4
          go_loopw [4] (fun i wr => ∃ k : Nat, k ≤ 3 ∧ i = .int .i64 (10 + (k : Int)) ∧ Rr w ao n h wr ∧ St wr (w.heap.size + 1) X Y Z V C (trialsN h k) ∧ 0 ≤ trialsN h k ∧ trialsN h k ≤ k) (fun i _ => 13 - (intOf i).toNat)
          case atStart => exact ⟨0, by omega, rfl, R9, S9, by show (0 : Int) ≤ 0; omega, by show (0 : Int) ≤ 0; omega⟩
          case round =>
            obtain ⟨k, hk, rfl, R, S, hb0, hb1⟩ := hrel
            by_cases hlt : k < 3
            · have HAk := hid (HA.out (10 + k) (10 + (k : Int)) _ R (by omega) (by omega))
              have HS : Hid (trialsN h (k + 1) = trialsN h k + if h (10 + k) == blankW then 0 else 1) := rfl
              have SX := S
              obtain ⟨s0, s1, s2, s3, s4, s5, sf⟩ := S
              have f5 := sf 5
              generalize h (10 + k) = x at HAk HS
              generalize trialsN h k = t at *
              cases hx : (x == blankW)
              · have hx2 : (B x == 4294967295) = false := by rw [B_blank]; exact hx
                have HS2 : Hid (trialsN h (k + 1) = t + 1) := by have := HS.out; rw [hx] at this; exact this
                clear HS
                go_wp2_with (go_at_call 56; refine HAk.out.mono ?_; rintro e w' ⟨rfl, rfl⟩)
                go_roundw
                case rel => exact ⟨k + 1, by omega, by go_num, R.set HW.out 5 _, by rw [HS2.out]; exact SX.set5 _, by rw [HS2.out]; omega, by rw [HS2.out]; omega⟩
                case measure => simp [intOf]; omega
              · have hx2 : (B x == 4294967295) = true := by rw [B_blank]; exact hx
                have HS2 : Hid (trialsN h (k + 1) = t) := by have := HS.out; rw [hx] at this; show _ = _; simpa using this
                clear HS
                go_wp2_with (go_at_call 56; refine HAk.out.mono ?_; rintro e w' ⟨rfl, rfl⟩)
                go_roundw
                case rel => exact ⟨k + 1, by omega, by go_num, R, by rw [HS2.out]; exact SX, by rw [HS2.out]; omega, by rw [HS2.out]; omega⟩
                case measure => simp [intOf]; omega
            · obtain rfl : k = 3 := by omega
              obtain ⟨s0, s1, s2, s3, s4, s5, sf⟩ := S
              obtain ⟨v0, z0⟩ := R.zs 0 (by omega)
              obtain ⟨v1, z1⟩ := R.zs 1 (by omega)
              obtain ⟨v2, z2⟩ := R.zs 2 (by omega)
              obtain ⟨v3, z3⟩ := R.zs 3 (by omega)
              obtain ⟨v4, z4⟩ := R.zs 4 (by omega)
              obtain ⟨v5, z5⟩ := R.zs 5 (by omega)
              have y0 := R.zf 0
              have y1 := R.zf 1
              have y2 := R.zf 2
              have y3 := R.zf 3
              have y4 := R.zf 4
              have y5 := R.zf 5
              have hbl := R.below
              clear R HA
              go_wp2
              have h6 := six (u0 := .int .u32 X) (u1 := .int .u32 Y) (u2 := .int .u32 Z) (u3 := .bool V) (u4 := .bool C) (u5 := .int .i64 (trialsN h 3)) z0 z1 z2 z3 z4 z5 _ rfl
              have b6 := six_below hbl (Nat.le_refl w.heap.size) (.int .u32 X) (.int .u32 Y) (.int .u32 Z) (.bool V) (.bool C) (.int .i64 (trialsN h 3))
              generalize (((((wr.setCell ⟨w.heap.size, 0, none⟩ (.int .u32 X)).setCell ⟨w.heap.size, 1, none⟩ (.int .u32 Y)).setCell ⟨w.heap.size, 2, none⟩ (.int .u32 Z)).setCell ⟨w.heap.size, 3, none⟩ (.bool V)).setCell ⟨w.heap.size, 4, none⟩ (.bool C)).setCell ⟨w.heap.size, 5, none⟩ (.int .i64 (trialsN h 3)) = WL at h6 b6 ⊢
              obtain ⟨g0, g1, g2, g3, g4, g5⟩ := h6
              exact bodyPost_ret (v := .agg #[.int .u32 X, .int .u32 Y, .int .u32 Z, .bool V, .bool C, .int .i64 (trialsN h 3)]) (by simp [results, Try.results59, go_sem, g0, g1, g2, g3, g4, g5]) rfl ⟨by rw [HV.out], b6⟩
        · refine (HT.out 6 6 WA true RA (by omega) (by omega) e6).mono ?_
          rintro e w' ⟨rfl, rfl⟩
          go_wp2_with fail
          cases ec : (h 6 == commW)
          · have ec2 : (B (h 6) == 1668246893) = false := by rw [show (1668246893 : Int) = B commW by decide, B_inj]; exact ec
            refine (HA.out 6 6 WA RA (by omega) (by omega)).mono ?_
            rintro e w' ⟨rfl, rfl⟩
            go_wp2_with fail
            obtain ⟨X, Y, Z, V, C, HV, S9⟩ : ∃ X Y Z V C, Hid (stV h = .agg #[.int .u32 X, .int .u32 Y, .int .u32 Z, .bool V, .bool C, .int .i64 (trialsN h 3)]) ∧ St ((WA.setCell ⟨w.heap.size + 1, 3, none⟩ (Value.bool false)).setCell ⟨w.heap.size + 1, 4, none⟩ (Value.bool false)) (w.heap.size + 1) X Y Z V C 0 := ⟨_, _, _, _, _, hid (stV_not (by rw [← hVR, ec]; simp)), ((SA.set3 false).set4 false)⟩
            have R9 := ((RA.set hw 3 (Value.bool false)).set hw 4 (Value.bool false))
            generalize ((WA.setCell ⟨w.heap.size + 1, 3, none⟩ (Value.bool false)).setCell ⟨w.heap.size + 1, 4, none⟩ (Value.bool false)) = W9 at S9 R9 ⊢
            have HW := hid hw
            clear hw HT hVR hCR s0 s1 s2 s3 s4 s5 sf f0 f1 f2 f3 f4
            go_loopw [4] (fun i wr => ∃ k : Nat, k ≤ 3 ∧ i = .int .i64 (10 + (k : Int)) ∧ Rr w ao n h wr ∧ St wr (w.heap.size + 1) X Y Z V C (trialsN h k) ∧ 0 ≤ trialsN h k ∧ trialsN h k ≤ k) (fun i _ => 13 - (intOf i).toNat)
            case atStart => exact ⟨0, by omega, rfl, R9, S9, by show (0 : Int) ≤ 0; omega, by show (0 : Int) ≤ 0; omega⟩
            case round =>
              obtain ⟨k, hk, rfl, R, S, hb0, hb1⟩ := hrel
              by_cases hlt : k < 3
              · have HAk := hid (HA.out (10 + k) (10 + (k : Int)) _ R (by omega) (by omega))
                have HS : Hid (trialsN h (k + 1) = trialsN h k + if h (10 + k) == blankW then 0 else 1) := rfl
                have SX := S
                obtain ⟨s0, s1, s2, s3, s4, s5, sf⟩ := S
                have f5 := sf 5
                generalize h (10 + k) = x at HAk HS
                generalize trialsN h k = t at *
                cases hx : (x == blankW)
                · have hx2 : (B x == 4294967295) = false := by rw [B_blank]; exact hx
                  have HS2 : Hid (trialsN h (k + 1) = t + 1) := by have := HS.out; rw [hx] at this; exact this
                  clear HS
                  go_wp2_with (go_at_call 56; refine HAk.out.mono ?_; rintro e w' ⟨rfl, rfl⟩)
                  go_roundw
                  case rel => exact ⟨k + 1, by omega, by go_num, R.set HW.out 5 _, by rw [HS2.out]; exact SX.set5 _, by rw [HS2.out]; omega, by rw [HS2.out]; omega⟩
                  case measure => simp [intOf]; omega
                · have hx2 : (B x == 4294967295) = true := by rw [B_blank]; exact hx
                  have HS2 : Hid (trialsN h (k + 1) = t) := by have := HS.out; rw [hx] at this; show _ = _; simpa using this
                  clear HS
                  go_wp2_with (go_at_call 56; refine HAk.out.mono ?_; rintro e w' ⟨rfl, rfl⟩)
                  go_roundw
                  case rel => exact ⟨k + 1, by omega, by go_num, R, by rw [HS2.out]; exact SX, by rw [HS2.out]; omega, by rw [HS2.out]; omega⟩
                  case measure => simp [intOf]; omega
              · obtain rfl : k = 3 := by omega
                obtain ⟨s0, s1, s2, s3, s4, s5, sf⟩ := S
                obtain ⟨v0, z0⟩ := R.zs 0 (by omega)
                obtain ⟨v1, z1⟩ := R.zs 1 (by omega)
                obtain ⟨v2, z2⟩ := R.zs 2 (by omega)
                obtain ⟨v3, z3⟩ := R.zs 3 (by omega)
                obtain ⟨v4, z4⟩ := R.zs 4 (by omega)
                obtain ⟨v5, z5⟩ := R.zs 5 (by omega)
                have y0 := R.zf 0
                have y1 := R.zf 1
                have y2 := R.zf 2
                have y3 := R.zf 3
                have y4 := R.zf 4
                have y5 := R.zf 5
                have hbl := R.below
                clear R HA
                go_wp2
                have h6 := six (u0 := .int .u32 X) (u1 := .int .u32 Y) (u2 := .int .u32 Z) (u3 := .bool V) (u4 := .bool C) (u5 := .int .i64 (trialsN h 3)) z0 z1 z2 z3 z4 z5 _ rfl
                have b6 := six_below hbl (Nat.le_refl w.heap.size) (.int .u32 X) (.int .u32 Y) (.int .u32 Z) (.bool V) (.bool C) (.int .i64 (trialsN h 3))
                generalize (((((wr.setCell ⟨w.heap.size, 0, none⟩ (.int .u32 X)).setCell ⟨w.heap.size, 1, none⟩ (.int .u32 Y)).setCell ⟨w.heap.size, 2, none⟩ (.int .u32 Z)).setCell ⟨w.heap.size, 3, none⟩ (.bool V)).setCell ⟨w.heap.size, 4, none⟩ (.bool C)).setCell ⟨w.heap.size, 5, none⟩ (.int .i64 (trialsN h 3)) = WL at h6 b6 ⊢
                obtain ⟨g0, g1, g2, g3, g4, g5⟩ := h6
                exact bodyPost_ret (v := .agg #[.int .u32 X, .int .u32 Y, .int .u32 Z, .bool V, .bool C, .int .i64 (trialsN h 3)]) (by simp [results, Try.results59, go_sem, g0, g1, g2, g3, g4, g5]) rfl ⟨by rw [HV.out], b6⟩
          · have ec2 : (B (h 6) == 1668246893) = true := by rw [show (1668246893 : Int) = B commW by decide, B_inj]; exact ec
            have hval : validB h = true := by rw [← hVR, e0, e2, e4, e6, ec]; rfl
            refine (HA.out 6 6 WA RA (by omega) (by omega)).mono ?_
            rintro e w' ⟨rfl, rfl⟩
            go_wp2_with fail
            cases e8 : twoB h 8
            · refine (HT.out 8 8 (WA.setCell ⟨w.heap.size + 1, 3, none⟩ (Value.bool true)) false (RA.set hw 3 (Value.bool true)) (by omega) (by omega) e8).mono ?_
              rintro e w' ⟨rfl, rfl⟩
              go_wp2_with fail
              refine (HA.out 0 0 ((WA.setCell ⟨w.heap.size + 1, 3, none⟩ (Value.bool true)).setCell ⟨w.heap.size + 1, 4, none⟩ (Value.bool false)) ((RA.set hw 3 (Value.bool true)).set hw 4 (Value.bool false)) (by omega) (by omega)).mono ?_
              rintro e w' ⟨rfl, rfl⟩
              go_wp2_with fail
              refine (HA.out 2 2 (((WA.setCell ⟨w.heap.size + 1, 3, none⟩ (Value.bool true)).setCell ⟨w.heap.size + 1, 4, none⟩ (Value.bool false)).setCell ⟨w.heap.size + 1, 0, none⟩ (Value.int IntKind.u32 (B (h 0)))) (((RA.set hw 3 (Value.bool true)).set hw 4 (Value.bool false)).set hw 0 (Value.int IntKind.u32 (B (h 0)))) (by omega) (by omega)).mono ?_
              rintro e w' ⟨rfl, rfl⟩
              go_wp2_with fail
              refine (HA.out 4 4 ((((WA.setCell ⟨w.heap.size + 1, 3, none⟩ (Value.bool true)).setCell ⟨w.heap.size + 1, 4, none⟩ (Value.bool false)).setCell ⟨w.heap.size + 1, 0, none⟩ (Value.int IntKind.u32 (B (h 0)))).setCell ⟨w.heap.size + 1, 1, none⟩ (Value.int IntKind.u32 (B (h 2)))) ((((RA.set hw 3 (Value.bool true)).set hw 4 (Value.bool false)).set hw 0 (Value.int IntKind.u32 (B (h 0)))).set hw 1 (Value.int IntKind.u32 (B (h 2)))) (by omega) (by omega)).mono ?_
              rintro e w' ⟨rfl, rfl⟩
              go_wp2_with fail
              obtain ⟨X, Y, Z, V, C, HV, S9⟩ : ∃ X Y Z V C, Hid (stV h = .agg #[.int .u32 X, .int .u32 Y, .int .u32 Z, .bool V, .bool C, .int .i64 (trialsN h 3)]) ∧ St (((((WA.setCell ⟨w.heap.size + 1, 3, none⟩ (Value.bool true)).setCell ⟨w.heap.size + 1, 4, none⟩ (Value.bool false)).setCell ⟨w.heap.size + 1, 0, none⟩ (Value.int IntKind.u32 (B (h 0)))).setCell ⟨w.heap.size + 1, 1, none⟩ (Value.int IntKind.u32 (B (h 2)))).setCell ⟨w.heap.size + 1, 2, none⟩ (Value.int IntKind.u32 (B (h 4)))) (w.heap.size + 1) X Y Z V C 0 := ⟨_, _, _, _, _, hid (stV_is false hval (by rw [← hCR, hval, e8]; simp)), (((((SA.set3 true).set4 false).set0 (B (h 0))).set1 (B (h 2))).set2 (B (h 4)))⟩
              have R9 := (((((RA.set hw 3 (Value.bool true)).set hw 4 (Value.bool false)).set hw 0 (Value.int IntKind.u32 (B (h 0)))).set hw 1 (Value.int IntKind.u32 (B (h 2)))).set hw 2 (Value.int IntKind.u32 (B (h 4))))
              generalize (((((WA.setCell ⟨w.heap.size + 1, 3, none⟩ (Value.bool true)).setCell ⟨w.heap.size + 1, 4, none⟩ (Value.bool false)).setCell ⟨w.heap.size + 1, 0, none⟩ (Value.int IntKind.u32 (B (h 0)))).setCell ⟨w.heap.size + 1, 1, none⟩ (Value.int IntKind.u32 (B (h 2)))).setCell ⟨w.heap.size + 1, 2, none⟩ (Value.int IntKind.u32 (B (h 4)))) = W9 at S9 R9 ⊢
              have HW := hid hw
              clear hw HT hVR hCR s0 s1 s2 s3 s4 s5 sf f0 f1 f2 f3 f4
              go_loopw [4] (fun i wr => ∃ k : Nat, k ≤ 3 ∧ i = .int .i64 (10 + (k : Int)) ∧ Rr w ao n h wr ∧ St wr (w.heap.size + 1) X Y Z V C (trialsN h k) ∧ 0 ≤ trialsN h k ∧ trialsN h k ≤ k) (fun i _ => 13 - (intOf i).toNat)
              case atStart => exact ⟨0, by omega, rfl, R9, S9, by show (0 : Int) ≤ 0; omega, by show (0 : Int) ≤ 0; omega⟩
              case round =>
                obtain ⟨k, hk, rfl, R, S, hb0, hb1⟩ := hrel
                by_cases hlt : k < 3
                · have HAk := hid (HA.out (10 + k) (10 + (k : Int)) _ R (by omega) (by omega))
                  have HS : Hid (trialsN h (k + 1) = trialsN h k + if h (10 + k) == blankW then 0 else 1) := rfl
                  have SX := S
                  obtain ⟨s0, s1, s2, s3, s4, s5, sf⟩ := S
                  have f5 := sf 5
                  generalize h (10 + k) = x at HAk HS
                  generalize trialsN h k = t at *
                  cases hx : (x == blankW)
                  · have hx2 : (B x == 4294967295) = false := by rw [B_blank]; exact hx
                    have HS2 : Hid (trialsN h (k + 1) = t + 1) := by have := HS.out; rw [hx] at this; exact this
                    clear HS
                    go_wp2_with (go_at_call 56; refine HAk.out.mono ?_; rintro e w' ⟨rfl, rfl⟩)
                    go_roundw
                    case rel => exact ⟨k + 1, by omega, by go_num, R.set HW.out 5 _, by rw [HS2.out]; exact SX.set5 _, by rw [HS2.out]; omega, by rw [HS2.out]; omega⟩
                    case measure => simp [intOf]; omega
                  · have hx2 : (B x == 4294967295) = true := by rw [B_blank]; exact hx
                    have HS2 : Hid (trialsN h (k + 1) = t) := by have := HS.out; rw [hx] at this; show _ = _; simpa using this
                    clear HS
                    go_wp2_with (go_at_call 56; refine HAk.out.mono ?_; rintro e w' ⟨rfl, rfl⟩)
                    go_roundw
                    case rel => exact ⟨k + 1, by omega, by go_num, R, by rw [HS2.out]; exact SX, by rw [HS2.out]; omega, by rw [HS2.out]; omega⟩
                    case measure => simp [intOf]; omega
                · obtain rfl : k = 3 := by omega
                  obtain ⟨s0, s1, s2, s3, s4, s5, sf⟩ := S
                  obtain ⟨v0, z0⟩ := R.zs 0 (by omega)
                  obtain ⟨v1, z1⟩ := R.zs 1 (by omega)
                  obtain ⟨v2, z2⟩ := R.zs 2 (by omega)
                  obtain ⟨v3, z3⟩ := R.zs 3 (by omega)
                  obtain ⟨v4, z4⟩ := R.zs 4 (by omega)
                  obtain ⟨v5, z5⟩ := R.zs 5 (by omega)
                  have y0 := R.zf 0
                  have y1 := R.zf 1
                  have y2 := R.zf 2
                  have y3 := R.zf 3
                  have y4 := R.zf 4
                  have y5 := R.zf 5
                  have hbl := R.below
                  clear R HA
                  go_wp2
                  have h6 := six (u0 := .int .u32 X) (u1 := .int .u32 Y) (u2 := .int .u32 Z) (u3 := .bool V) (u4 := .bool C) (u5 := .int .i64 (trialsN h 3)) z0 z1 z2 z3 z4 z5 _ rfl
                  have b6 := six_below hbl (Nat.le_refl w.heap.size) (.int .u32 X) (.int .u32 Y) (.int .u32 Z) (.bool V) (.bool C) (.int .i64 (trialsN h 3))
                  generalize (((((wr.setCell ⟨w.heap.size, 0, none⟩ (.int .u32 X)).setCell ⟨w.heap.size, 1, none⟩ (.int .u32 Y)).setCell ⟨w.heap.size, 2, none⟩ (.int .u32 Z)).setCell ⟨w.heap.size, 3, none⟩ (.bool V)).setCell ⟨w.heap.size, 4, none⟩ (.bool C)).setCell ⟨w.heap.size, 5, none⟩ (.int .i64 (trialsN h 3)) = WL at h6 b6 ⊢
                  obtain ⟨g0, g1, g2, g3, g4, g5⟩ := h6
                  exact bodyPost_ret (v := .agg #[.int .u32 X, .int .u32 Y, .int .u32 Z, .bool V, .bool C, .int .i64 (trialsN h 3)]) (by simp [results, Try.results59, go_sem, g0, g1, g2, g3, g4, g5]) rfl ⟨by rw [HV.out], b6⟩
            · refine (HT.out 8 8 (WA.setCell ⟨w.heap.size + 1, 3, none⟩ (Value.bool true)) true (RA.set hw 3 (Value.bool true)) (by omega) (by omega) e8).mono ?_
              rintro e w' ⟨rfl, rfl⟩
              go_wp2_with fail
              cases ed : (h 8 == confW)
              · have ed2 : (B (h 8) == 1668247142) = false := by rw [show (1668247142 : Int) = B confW by decide, B_inj]; exact ed
                refine (HA.out 8 8 (WA.setCell ⟨w.heap.size + 1, 3, none⟩ (Value.bool true)) (RA.set hw 3 (Value.bool true)) (by omega) (by omega)).mono ?_
                rintro e w' ⟨rfl, rfl⟩
                go_wp2_with fail
                refine (HA.out 0 0 ((WA.setCell ⟨w.heap.size + 1, 3, none⟩ (Value.bool true)).setCell ⟨w.heap.size + 1, 4, none⟩ (Value.bool false)) ((RA.set hw 3 (Value.bool true)).set hw 4 (Value.bool false)) (by omega) (by omega)).mono ?_
                rintro e w' ⟨rfl, rfl⟩
                go_wp2_with fail
                refine (HA.out 2 2 (((WA.setCell ⟨w.heap.size + 1, 3, none⟩ (Value.bool true)).setCell ⟨w.heap.size + 1, 4, none⟩ (Value.bool false)).setCell ⟨w.heap.size + 1, 0, none⟩ (Value.int IntKind.u32 (B (h 0)))) (((RA.set hw 3 (Value.bool true)).set hw 4 (Value.bool false)).set hw 0 (Value.int IntKind.u32 (B (h 0)))) (by omega) (by omega)).mono ?_
                rintro e w' ⟨rfl, rfl⟩
                go_wp2_with fail
                refine (HA.out 4 4 ((((WA.setCell ⟨w.heap.size + 1, 3, none⟩ (Value.bool true)).setCell ⟨w.heap.size + 1, 4, none⟩ (Value.bool false)).setCell ⟨w.heap.size + 1, 0, none⟩ (Value.int IntKind.u32 (B (h 0)))).setCell ⟨w.heap.size + 1, 1, none⟩ (Value.int IntKind.u32 (B (h 2)))) ((((RA.set hw 3 (Value.bool true)).set hw 4 (Value.bool false)).set hw 0 (Value.int IntKind.u32 (B (h 0)))).set hw 1 (Value.int IntKind.u32 (B (h 2)))) (by omega) (by omega)).mono ?_
                rintro e w' ⟨rfl, rfl⟩
                go_wp2_with fail
                obtain ⟨X, Y, Z, V, C, HV, S9⟩ : ∃ X Y Z V C, Hid (stV h = .agg #[.int .u32 X, .int .u32 Y, .int .u32 Z, .bool V, .bool C, .int .i64 (trialsN h 3)]) ∧ St (((((WA.setCell ⟨w.heap.size + 1, 3, none⟩ (Value.bool true)).setCell ⟨w.heap.size + 1, 4, none⟩ (Value.bool false)).setCell ⟨w.heap.size + 1, 0, none⟩ (Value.int IntKind.u32 (B (h 0)))).setCell ⟨w.heap.size + 1, 1, none⟩ (Value.int IntKind.u32 (B (h 2)))).setCell ⟨w.heap.size + 1, 2, none⟩ (Value.int IntKind.u32 (B (h 4)))) (w.heap.size + 1) X Y Z V C 0 := ⟨_, _, _, _, _, hid (stV_is false hval (by rw [← hCR, hval, e8, ed]; simp)), (((((SA.set3 true).set4 false).set0 (B (h 0))).set1 (B (h 2))).set2 (B (h 4)))⟩
                have R9 := (((((RA.set hw 3 (Value.bool true)).set hw 4 (Value.bool false)).set hw 0 (Value.int IntKind.u32 (B (h 0)))).set hw 1 (Value.int IntKind.u32 (B (h 2)))).set hw 2 (Value.int IntKind.u32 (B (h 4))))
                generalize (((((WA.setCell ⟨w.heap.size + 1, 3, none⟩ (Value.bool true)).setCell ⟨w.heap.size + 1, 4, none⟩ (Value.bool false)).setCell ⟨w.heap.size + 1, 0, none⟩ (Value.int IntKind.u32 (B (h 0)))).setCell ⟨w.heap.size + 1, 1, none⟩ (Value.int IntKind.u32 (B (h 2)))).setCell ⟨w.heap.size + 1, 2, none⟩ (Value.int IntKind.u32 (B (h 4)))) = W9 at S9 R9 ⊢
                have HW := hid hw
                clear hw HT hVR hCR s0 s1 s2 s3 s4 s5 sf f0 f1 f2 f3 f4
                go_loopw [4] (fun i wr => ∃ k : Nat, k ≤ 3 ∧ i = .int .i64 (10 + (k : Int)) ∧ Rr w ao n h wr ∧ St wr (w.heap.size + 1) X Y Z V C (trialsN h k) ∧ 0 ≤ trialsN h k ∧ trialsN h k ≤ k) (fun i _ => 13 - (intOf i).toNat)
                case atStart => exact ⟨0, by omega, rfl, R9, S9, by show (0 : Int) ≤ 0; omega, by show (0 : Int) ≤ 0; omega⟩
                case round =>
                  obtain ⟨k, hk, rfl, R, S, hb0, hb1⟩ := hrel
                  by_cases hlt : k < 3
                  · have HAk := hid (HA.out (10 + k) (10 + (k : Int)) _ R (by omega) (by omega))
                    have HS : Hid (trialsN h (k + 1) = trialsN h k + if h (10 + k) == blankW then 0 else 1) := rfl
                    have SX := S
                    obtain ⟨s0, s1, s2, s3, s4, s5, sf⟩ := S
                    have f5 := sf 5
                    generalize h (10 + k) = x at HAk HS
                    generalize trialsN h k = t at *
                    cases hx : (x == blankW)
                    · have hx2 : (B x == 4294967295) = false := by rw [B_blank]; exact hx
                      have HS2 : Hid (trialsN h (k + 1) = t + 1) := by have := HS.out; rw [hx] at this; exact this
                      clear HS
                      go_wp2_with (go_at_call 56; refine HAk.out.mono ?_; rintro e w' ⟨rfl, rfl⟩)
                      go_roundw
                      case rel => exact ⟨k + 1, by omega, by go_num, R.set HW.out 5 _, by rw [HS2.out]; exact SX.set5 _, by rw [HS2.out]; omega, by rw [HS2.out]; omega⟩
                      case measure => simp [intOf]; omega
                    · have hx2 : (B x == 4294967295) = true := by rw [B_blank]; exact hx
                      have HS2 : Hid (trialsN h (k + 1) = t) := by have := HS.out; rw [hx] at this; show _ = _; simpa using this
                      clear HS
                      go_wp2_with (go_at_call 56; refine HAk.out.mono ?_; rintro e w' ⟨rfl, rfl⟩)
                      go_roundw
                      case rel => exact ⟨k + 1, by omega, by go_num, R, by rw [HS2.out]; exact SX, by rw [HS2.out]; omega, by rw [HS2.out]; omega⟩
                      case measure => simp [intOf]; omega
                  · obtain rfl : k = 3 := by omega
                    obtain ⟨s0, s1, s2, s3, s4, s5, sf⟩ := S
                    obtain ⟨v0, z0⟩ := R.zs 0 (by omega)
                    obtain ⟨v1, z1⟩ := R.zs 1 (by omega)
                    obtain ⟨v2, z2⟩ := R.zs 2 (by omega)
                    obtain ⟨v3, z3⟩ := R.zs 3 (by omega)
                    obtain ⟨v4, z4⟩ := R.zs 4 (by omega)
                    obtain ⟨v5, z5⟩ := R.zs 5 (by omega)
                    have y0 := R.zf 0
                    have y1 := R.zf 1
                    have y2 := R.zf 2
                    have y3 := R.zf 3
                    have y4 := R.zf 4
                    have y5 := R.zf 5
                    have hbl := R.below
                    clear R HA
                    go_wp2
                    have h6 := six (u0 := .int .u32 X) (u1 := .int .u32 Y) (u2 := .int .u32 Z) (u3 := .bool V) (u4 := .bool C) (u5 := .int .i64 (trialsN h 3)) z0 z1 z2 z3 z4 z5 _ rfl
                    have b6 := six_below hbl (Nat.le_refl w.heap.size) (.int .u32 X) (.int .u32 Y) (.int .u32 Z) (.bool V) (.bool C) (.int .i64 (trialsN h 3))
                    generalize (((((wr.setCell ⟨w.heap.size, 0, none⟩ (.int .u32 X)).setCell ⟨w.heap.size, 1, none⟩ (.int .u32 Y)).setCell ⟨w.heap.size, 2, none⟩ (.int .u32 Z)).setCell ⟨w.heap.size, 3, none⟩ (.bool V)).setCell ⟨w.heap.size, 4, none⟩ (.bool C)).setCell ⟨w.heap.size, 5, none⟩ (.int .i64 (trialsN h 3)) = WL at h6 b6 ⊢
                    obtain ⟨g0, g1, g2, g3, g4, g5⟩ := h6
                    exact bodyPost_ret (v := .agg #[.int .u32 X, .int .u32 Y, .int .u32 Z, .bool V, .bool C, .int .i64 (trialsN h 3)]) (by simp [results, Try.results59, go_sem, g0, g1, g2, g3, g4, g5]) rfl ⟨by rw [HV.out], b6⟩
              · have ed2 : (B (h 8) == 1668247142) = true := by rw [show (1668247142 : Int) = B confW by decide, B_inj]; exact ed
                refine (HA.out 8 8 (WA.setCell ⟨w.heap.size + 1, 3, none⟩ (Value.bool true)) (RA.set hw 3 (Value.bool true)) (by omega) (by omega)).mono ?_
                rintro e w' ⟨rfl, rfl⟩
                go_wp2_with fail
                refine (HA.out 0 0 ((WA.setCell ⟨w.heap.size + 1, 3, none⟩ (Value.bool true)).setCell ⟨w.heap.size + 1, 4, none⟩ (Value.bool true)) ((RA.set hw 3 (Value.bool true)).set hw 4 (Value.bool true)) (by omega) (by omega)).mono ?_
                rintro e w' ⟨rfl, rfl⟩
                go_wp2_with fail
                refine (HA.out 2 2 (((WA.setCell ⟨w.heap.size + 1, 3, none⟩ (Value.bool true)).setCell ⟨w.heap.size + 1, 4, none⟩ (Value.bool true)).setCell ⟨w.heap.size + 1, 0, none⟩ (Value.int IntKind.u32 (B (h 0)))) (((RA.set hw 3 (Value.bool true)).set hw 4 (Value.bool true)).set hw 0 (Value.int IntKind.u32 (B (h 0)))) (by omega) (by omega)).mono ?_
                rintro e w' ⟨rfl, rfl⟩
                go_wp2_with fail
                refine (HA.out 4 4 ((((WA.setCell ⟨w.heap.size + 1, 3, none⟩ (Value.bool true)).setCell ⟨w.heap.size + 1, 4, none⟩ (Value.bool true)).setCell ⟨w.heap.size + 1, 0, none⟩ (Value.int IntKind.u32 (B (h 0)))).setCell ⟨w.heap.size + 1, 1, none⟩ (Value.int IntKind.u32 (B (h 2)))) ((((RA.set hw 3 (Value.bool true)).set hw 4 (Value.bool true)).set hw 0 (Value.int IntKind.u32 (B (h 0)))).set hw 1 (Value.int IntKind.u32 (B (h 2)))) (by omega) (by omega)).mono ?_
                rintro e w' ⟨rfl, rfl⟩
                go_wp2_with fail
                obtain ⟨X, Y, Z, V, C, HV, S9⟩ : ∃ X Y Z V C, Hid (stV h = .agg #[.int .u32 X, .int .u32 Y, .int .u32 Z, .bool V, .bool C, .int .i64 (trialsN h 3)]) ∧ St (((((WA.setCell ⟨w.heap.size + 1, 3, none⟩ (Value.bool true)).setCell ⟨w.heap.size + 1, 4, none⟩ (Value.bool true)).setCell ⟨w.heap.size + 1, 0, none⟩ (Value.int IntKind.u32 (B (h 0)))).setCell ⟨w.heap.size + 1, 1, none⟩ (Value.int IntKind.u32 (B (h 2)))).setCell ⟨w.heap.size + 1, 2, none⟩ (Value.int IntKind.u32 (B (h 4)))) (w.heap.size + 1) X Y Z V C 0 := ⟨_, _, _, _, _, hid (stV_is true hval (by rw [← hCR, hval, e8, ed]; simp)), (((((SA.set3 true).set4 true).set0 (B (h 0))).set1 (B (h 2))).set2 (B (h 4)))⟩
                have R9 := (((((RA.set hw 3 (Value.bool true)).set hw 4 (Value.bool true)).set hw 0 (Value.int IntKind.u32 (B (h 0)))).set hw 1 (Value.int IntKind.u32 (B (h 2)))).set hw 2 (Value.int IntKind.u32 (B (h 4))))
                generalize (((((WA.setCell ⟨w.heap.size + 1, 3, none⟩ (Value.bool true)).setCell ⟨w.heap.size + 1, 4, none⟩ (Value.bool true)).setCell ⟨w.heap.size + 1, 0, none⟩ (Value.int IntKind.u32 (B (h 0)))).setCell ⟨w.heap.size + 1, 1, none⟩ (Value.int IntKind.u32 (B (h 2)))).setCell ⟨w.heap.size + 1, 2, none⟩ (Value.int IntKind.u32 (B (h 4)))) = W9 at S9 R9 ⊢
                have HW := hid hw
                clear hw HT hVR hCR s0 s1 s2 s3 s4 s5 sf f0 f1 f2 f3 f4
                go_loopw [4] (fun i wr => ∃ k : Nat, k ≤ 3 ∧ i = .int .i64 (10 + (k : Int)) ∧ Rr w ao n h wr ∧ St wr (w.heap.size + 1) X Y Z V C (trialsN h k) ∧ 0 ≤ trialsN h k ∧ trialsN h k ≤ k) (fun i _ => 13 - (intOf i).toNat)
                case atStart => exact ⟨0, by omega, rfl, R9, S9, by show (0 : Int) ≤ 0; omega, by show (0 : Int) ≤ 0; omega⟩
                case round =>
                  obtain ⟨k, hk, rfl, R, S, hb0, hb1⟩ := hrel
                  by_cases hlt : k < 3
                  · have HAk := hid (HA.out (10 + k) (10 + (k : Int)) _ R (by omega) (by omega))
                    have HS : Hid (trialsN h (k + 1) = trialsN h k + if h (10 + k) == blankW then 0 else 1) := rfl
                    have SX := S
                    obtain ⟨s0, s1, s2, s3, s4, s5, sf⟩ := S
                    have f5 := sf 5
                    generalize h (10 + k) = x at HAk HS
                    generalize trialsN h k = t at *
                    cases hx : (x == blankW)
                    · have hx2 : (B x == 4294967295) = false := by rw [B_blank]; exact hx
                      have HS2 : Hid (trialsN h (k + 1) = t + 1) := by have := HS.out; rw [hx] at this; exact this
                      clear HS
                      go_wp2_with (go_at_call 56; refine HAk.out.mono ?_; rintro e w' ⟨rfl, rfl⟩)
                      go_roundw
                      case rel => exact ⟨k + 1, by omega, by go_num, R.set HW.out 5 _, by rw [HS2.out]; exact SX.set5 _, by rw [HS2.out]; omega, by rw [HS2.out]; omega⟩
                      case measure => simp [intOf]; omega
                    · have hx2 : (B x == 4294967295) = true := by rw [B_blank]; exact hx
                      have HS2 : Hid (trialsN h (k + 1) = t) := by have := HS.out; rw [hx] at this; show _ = _; simpa using this
                      clear HS
                      go_wp2_with (go_at_call 56; refine HAk.out.mono ?_; rintro e w' ⟨rfl, rfl⟩)
                      go_roundw
                      case rel => exact ⟨k + 1, by omega, by go_num, R, by rw [HS2.out]; exact SX, by rw [HS2.out]; omega, by rw [HS2.out]; omega⟩
                      case measure => simp [intOf]; omega
                  · obtain rfl : k = 3 := by omega
                    obtain ⟨s0, s1, s2, s3, s4, s5, sf⟩ := S
                    obtain ⟨v0, z0⟩ := R.zs 0 (by omega)
                    obtain ⟨v1, z1⟩ := R.zs 1 (by omega)
                    obtain ⟨v2, z2⟩ := R.zs 2 (by omega)
                    obtain ⟨v3, z3⟩ := R.zs 3 (by omega)
                    obtain ⟨v4, z4⟩ := R.zs 4 (by omega)
                    obtain ⟨v5, z5⟩ := R.zs 5 (by omega)
                    have y0 := R.zf 0
                    have y1 := R.zf 1
                    have y2 := R.zf 2
                    have y3 := R.zf 3
                    have y4 := R.zf 4
                    have y5 := R.zf 5
                    have hbl := R.below
                    clear R HA
                    go_wp2
                    have h6 := six (u0 := .int .u32 X) (u1 := .int .u32 Y) (u2 := .int .u32 Z) (u3 := .bool V) (u4 := .bool C) (u5 := .int .i64 (trialsN h 3)) z0 z1 z2 z3 z4 z5 _ rfl
                    have b6 := six_below hbl (Nat.le_refl w.heap.size) (.int .u32 X) (.int .u32 Y) (.int .u32 Z) (.bool V) (.bool C) (.int .i64 (trialsN h 3))
                    generalize (((((wr.setCell ⟨w.heap.size, 0, none⟩ (.int .u32 X)).setCell ⟨w.heap.size, 1, none⟩ (.int .u32 Y)).setCell ⟨w.heap.size, 2, none⟩ (.int .u32 Z)).setCell ⟨w.heap.size, 3, none⟩ (.bool V)).setCell ⟨w.heap.size, 4, none⟩ (.bool C)).setCell ⟨w.heap.size, 5, none⟩ (.int .i64 (trialsN h 3)) = WL at h6 b6 ⊢
                    obtain ⟨g0, g1, g2, g3, g4, g5⟩ := h6
                    exact bodyPost_ret (v := .agg #[.int .u32 X, .int .u32 Y, .int .u32 Z, .bool V, .bool C, .int .i64 (trialsN h 3)]) (by simp [results, Try.results59, go_sem, g0, g1, g2, g3, g4, g5]) rfl ⟨by rw [HV.out], b6⟩
end
end Go.Proofs.Ytgcpfmdldgmbnaa
