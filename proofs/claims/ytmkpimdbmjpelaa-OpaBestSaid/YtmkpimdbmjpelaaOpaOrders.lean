/-
  Layer 38: the example, and the walk of OpaOrders.
-/
import Derived.Test.YtmkpimdbmjpelaaOpaOrder
import Derived.Test.YtmkpimdbmjpelaaOpaBestLaw2
namespace Go.Proofs.Ytmkpimdbmjpelaa
open Go.RowKit
/-- The example's tasks. -/
def exO (i j : Nat) : Int := if i = 0 then (match j with | 0 => 20 | 1 => 20 | 2 => 5 | _ => 0) else (match j with | 0 => 4 | 1 => 4 | 2 => 2 | _ => 0)
theorem exO_ok : ∀ i, i < 2 → OkT (exO i) := fun i hi => by
  rcases i with _ | _ | i
  · exact ⟨by decide, by decide, by decide, by decide, by decide, by decide⟩
  · exact ⟨by decide, by decide, by decide, by decide, by decide, by decide⟩
  · omega
theorem exO_order : orderR exO 2 = some [1, 0] := by
  have h01 : ∀ i ∈ [0, 1], OkT (exO i) := fun i hi => exO_ok i (by simp at hi; omega)
  have h1 : ∀ i ∈ [1], OkT (exO i) := fun i hi => exO_ok i (by simp at hi; omega)
  have f1 : fitK exO [0, 1] 1 = false := by
    rw [Bool.eq_false_iff]
    intro h
    obtain ⟨t, a, b, c⟩ := (fitK_is h01 (show 1 < [0, 1].length by decide) (by decide)).1 h
    have b : t ≤ 4 := b
    have c : 2 + (shr t (exO 0) + 0) ≤ t := c
    have := shr_least (exO_ok 0 (by omega)) a
    have : (5 : Int) ≤ shr t (exO 0) := this
    omega
  have f0 : fitK exO [0, 1] 0 = true := (fitK_is h01 (show 0 < [0, 1].length by decide) (by decide)).2 ⟨11, by decide, by decide, by decide⟩
  have f2 : fitK exO [1] 0 = true := (fitK_is h1 (show 0 < [1].length by decide) (by decide)).2 ⟨2, by decide, by decide, by decide⟩
  have p0 : pickK exO [0, 1] [0, 1].length = some 0 := pickK_at (by decide) f0 fun j a b => by
    obtain rfl : j = 1 := by simp at b; omega
    exact f1
  have p1 : pickK exO [1] [1].length = some 0 := pickK_at (by decide) f2 fun j a b => by simp at b; omega
  show orderF exO 2 [0, 1] [] = _
  rw [order_some p0]
  show orderF exO 1 [1] [0] = _
  rw [order_some p1]
  rfl
theorem exO_lies (w : World) : Tasks (w.alloc (Obj.cells #[.int .i64 20, .int .i64 20, .int .i64 5, .int .i64 0, .int .i64 0, .int .i64 0, .int .i64 0, .int .i64 0, .int .i64 0, .int .i64 0, .int .i64 0, .int .i64 4, .int .i64 4, .int .i64 2, .int .i64 0, .int .i64 0, .int .i64 0, .int .i64 0, .int .i64 0, .int .i64 0, .int .i64 0, .int .i64 0] 64)) (some ⟨w.heap.size, 0, none⟩) 2 exO := fun i hi => ⟨w.heap.size, 0, rfl, fun j hj => by
  rw [World.cell?_alloc_at _ _ _ _ rfl]
  rcases i with _ | _ | i
  · rcases j with _ | _ | _ | _ | _ | _ | _ | _ | _ | _ | _ | j
    all_goals first | rfl | (exfalso; omega)
  · rcases j with _ | _ | _ | _ | _ | _ | _ | _ | _ | _ | _ | j
    all_goals first | rfl | (exfalso; omega)
  · omega⟩
theorem row_ints {w : World} {ao : Option Addr} {L : List Nat} (h : Places w ao L) : Row w ao L.length (fun j => .int .i64 ((fun j => ((L.getD j 0 : Nat) : Int)) j)) := h
set_option maxRecDepth 100000 in
set_option maxHeartbeats 1000000 in
theorem opaAlive_any (w : World) : Calls Try.prog 13 #[] w fun e w' => e = .returned (.bool true) ∧ Below w.heap.size w w' := by
  have hb := (Below.refl w.heap.size w).alloc (Nat.le_refl _) (Obj.cells #[.int .i64 20, .int .i64 20, .int .i64 5, .int .i64 0, .int .i64 0, .int .i64 0, .int .i64 0, .int .i64 0, .int .i64 0, .int .i64 0, .int .i64 0, .int .i64 4, .int .i64 4, .int .i64 2, .int .i64 0, .int .i64 0, .int .i64 0, .int .i64 0, .int .i64 0, .int .i64 0, .int .i64 0, .int .i64 0] 64)
  have HC := hid (opaOrder_any (some ⟨w.heap.size, 0, none⟩) 2 2 exO _ (by omega) (exO_lies w) exO_ok)
  have HB := hid hb
  clear hb
  go_enter Try.func13, Try.ntmps13
  go_wp2_with fail
  refine HC.out.mono ?_
  rintro e w1 (⟨h0, _, _⟩ | ⟨o, v, h0, rfl, o1, b1⟩)
  · rw [exO_order] at h0; cases h0
  · rw [exO_order] at h0
    cases h0
    obtain ⟨ro, rc, rfl, HP⟩ := own_places o1
    have B1 := hid (HB.out.trans (b1.mono HB.out.size))
    have e1 := World.ownsRow_lit (base := w1.heap.size) (e := 3) (size := 1) w1 #[.int .i64 1, .int .i64 0] 2 (Nat.le_refl _) (by unfold maxLen; omega) (by simp)
    have hA := (Below.refl w1.heap.size w1).alloc (Nat.le_refl _) (Obj.cells #[.int .i64 1, .int .i64 0] 3)
    have HR := hid (row38_same ro (some ⟨w1.heap.size, 0, none⟩) 2 rc 2 (fun j => (([1, 0].getD j 0 : Nat) : Int)) _ (row_ints (HP.out.below hA)) (row_ints (L := [1, 0]) (Places.of_own (n := 2) rfl e1)) (by omega))
    have B2 := hid (B1.out.trans (hA.mono B1.out.size))
    clear HC HB b1 e1 hA o1
    go_wp2_with fail
    refine HR.out.mono ?_
    rintro e w2 ⟨rfl, b2⟩
    go_wp2
    go_ret
    exact ⟨rfl, B2.out.trans (b2.mono B2.out.size)⟩
end Go.Proofs.Ytmkpimdbmjpelaa
