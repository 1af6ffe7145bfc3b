/-
  Layer 38: the example, and the walk of OpaOrders.
-/
import Derived.Test.YtmjfodaoeeepcaaOpaOrder
import Derived.Test.YtmjfodaoeeepcaaOpaBestLaw2
namespace Go.Proofs.Ytmjfodaoeeepcaa
open Go.RowKit
/-- The example's tasks. -/
def exO (i j : Nat) : Int := if i = 0 then (match j with | 0 => 20 | 1 => 20 | 2 => 5 | _ => 0) else (match j with | 0 => 4 | 1 => 4 | 2 => 2 | _ => 0)
theorem exO_ok : ∀ i, i < 2 → OkT (exO i) := fun i hi => by
  rcases i with _ | _ | i
  · exact ⟨by decide, by decide, by decide, by decide, by decide, by decide⟩
  · exact ⟨by decide, by decide, by decide, by decide, by decide, by decide⟩
  · omega
theorem exO_order : orderR exO 2 = some [1, 0] := by
  have h01 : ∀ i ∈ [0, 1], OkT (exO i) := fun i hi => exO_ok i (by simp at hi; omega)
  have h1 : ∀ i ∈ [1], OkT (exO i) := fun i hi => exO_ok i (by simp at hi; omega)
  have f1 : fitK exO [0, 1] 1 = false := by
    rw [Bool.eq_false_iff]
    intro h
    obtain ⟨t, a, b, c⟩ := (fitK_is h01 (show 1 < [0, 1].length by decide) (by decide)).1 h
    have b : t ≤ 4 := b
    have c : 2 + (shr t (exO 0) + 0) ≤ t := c
    have := shr_least (exO_ok 0 (by omega)) a
    have : (5 : Int) ≤ shr t (exO 0) := this
    omega
  have f0 : fitK exO [0, 1] 0 = true := (fitK_is h01 (show 0 < [0, 1].length by decide) (by decide)).2 ⟨11, by decide, by decide, by decide⟩
  have f2 : fitK exO [1] 0 = true := (fitK_is h1 (show 0 < [1].length by decide) (by decide)).2 ⟨2, by decide, by decide, by decide⟩
  have p0 : pickK exO [0, 1] [0, 1].length = some 0 := pickK_at (by decide) f0 fun j a b => by
    obtain rfl : j = 1 := by simp at b; omega
    exact f1
  have p1 : pickK exO [1] [1].length = some 0 := pickK_at (by decide) f2 fun j a b => by simp at b; omega
  show orderF exO 2 [0, 1] [] = _
  rw [order_some p0]
  show orderF exO 1 [1] [0] = _
  rw [order_some p1]
  rfl
theorem exO_lies (w : World) : Tasks (w.alloc (Obj.cells #[.int .i64 20, .int .i64 20, .int .i64 5, .int .i64 0, .int .i64 0, .int .i64 0, .int .i64 0, .int .i64 0, .int .i64 0, .int .i64 0, .int .i64 0, .int .i64 4, .int .i64 4, .int .i64 2, .int .i64 0, .int .i64 0, .int .i64 0, .int .i64 0, .int .i64 0, .int .i64 0, .int .i64 0, .int .i64 0] 77)) (some ⟨w.heap.size, 0, none⟩) 2 exO := fun i hi => ⟨w.heap.size, 0, rfl, fun j hj => by
  rw [World.cell?_alloc_at _ _ _ _ rfl]
  rcases i with _ | _ | i
  · rcases j with _ | _ | _ | _ | _ | _ | _ | _ | _ | _ | _ | j
    all_goals first | rfl | (exfalso; omega)
  · rcases j with _ | _ | _ | _ | _ | _ | _ | _ | _ | _ | _ | j
    all_goals first | rfl | (exfalso; omega)
  · omega⟩
theorem row_ints {w : World} {ao : Option Addr} {L : List Nat} (h : Places w ao L) : Row w ao L.length (fun j => .int .i64 ((fun j => ((L.getD j 0 : Nat) : Int)) j)) := h
set_option maxRecDepth 100000 in
set_option maxHeartbeats 1000000 in
theorem opaAlive_any (w : World) : Calls Try.prog 19 #[] w fun e w' => e = .returned (.bool true) ∧ Below w.heap.size w w' := by
  have hb := (Below.refl w.heap.size w).alloc (Nat.le_refl _) (Obj.cells #[.int .i64 20, .int .i64 20, .int .i64 5, .int .i64 0, .int .i64 0, .int .i64 0, .int .i64 0, .int .i64 0, .int .i64 0, .int .i64 0, .int .i64 0, .int .i64 4, .int .i64 4, .int .i64 2, .int .i64 0, .int .i64 0, .int .i64 0, .int .i64 0, .int .i64 0, .int .i64 0, .int .i64 0, .int .i64 0] 77)
  have HC := hid (opaOrder_any (some ⟨w.heap.size, 0, none⟩) 2 2 exO _ (by omega) (exO_lies w) exO_ok)
  have HB := hid hb
  clear hb
  go_enter Try.func19, Try.ntmps19
  go_wp2_with fail
  refine HC.out.mono ?_
  rintro e w1 (⟨h0, _, _⟩ | ⟨o, v, h0, rfl, o1, b1⟩)
  · rw [exO_order] at h0; cases h0
  · rw [exO_order] at h0
    cases h0
    obtain ⟨ro, rc, rfl, HP⟩ := own_places o1
    have B1 := hid (HB.out.trans (b1.mono HB.out.size))
    have e1 := World.ownsRow_lit (base := w1.heap.size) (e := 3) (size := 1) w1 #[.int .i64 1, .int .i64 0] 2 (Nat.le_refl _) (by unfold maxLen; omega) (by simp)
    have hA := (Below.refl w1.heap.size w1).alloc (Nat.le_refl _) (Obj.cells #[.int .i64 1, .int .i64 0] 3)
    have HR := hid (row38_same ro (some ⟨w1.heap.size, 0, none⟩) 2 rc 2 (fun j => (([1, 0].getD j 0 : Nat) : Int)) _ (row_ints (HP.out.below hA)) (row_ints (L := [1, 0]) (Places.of_own (n := 2) rfl e1)) (by omega))
    have B2 := hid (B1.out.trans (hA.mono B1.out.size))
    clear HC HB b1 e1 hA o1
    go_wp2_with fail
    refine HR.out.mono ?_
    rintro e w2 ⟨rfl, b2⟩
    go_wp2
    go_ret
    exact ⟨rfl, B2.out.trans (b2.mono B2.out.size)⟩
set_option maxRecDepth 100000 in
set_option maxHeartbeats 1000000 in
theorem opaOrders_walk (ao : Option Addr) (n cap : Nat) (g : Nat → Nat → Int) (w : World) (hT : Tasks w ao n g) (hm : n ≤ maxLen) (hcap : n ≤ cap ∧ cap ≤ maxLen) :
    Calls Try.prog 4 #[.slice ao n cap] w fun e w' => e = .returned (.bool true) ∧ Below w.heap.size w w' := by
  have HT := hid hT
  have HR := hid (right38_any ao n cap g 10 w hm (by omega) hT)
  have HCAP := hid hcap
  clear hT hm hcap
  go_enter Try.func4, Try.ntmps4
  go_wp2_with fail
  refine HR.out.mono ?_
  rintro e w1 ⟨r, rfl, hr, b1⟩
  have B1 := hid b1
  clear b1 HR
  cases r with
  | false =>
    go_wp2
    go_ret
    exact ⟨rfl, B1.out⟩
  | true =>
    obtain ⟨hn, hG⟩ := hr.1 rfl
    have HG := hid hG
    have HFT := hid (fun (W : World) (hb : Below w.heap.size w W) => opaFits_any ao n cap g W (by omega) HCAP.out (HT.out.below hb) HG.out)
    have HFR := hid (fun (W : World) (hb : Below w.heap.size w W) => refFits38_any ao n cap g W (by omega) HCAP.out (HT.out.below hb) HG.out)
    obtain ⟨ff, hff⟩ : ∃ ff, fits38 g n = ff := ⟨_, rfl⟩
    rw [hff] at HFT HFR
    have tf : (ff == ff) = true := by simp
    clear hr hG hff
    go_wp2_with fail
    refine (opaOrder_any ao n cap g w1 hn (HT.out.below B1.out) HG.out).mono ?_
    rintro e w2 (⟨h0, rfl, b2⟩ | ⟨o, v, h0, rfl, o2, b2⟩)
    · have B2 := hid (B1.out.trans (b2.mono B1.out.size))
      clear b2
      go_wp2_with fail
      refine (refOrder_any ao n cap g w2 hn (HT.out.below B2.out) HG.out).mono ?_
      rintro e w3 (⟨_, rfl, b3⟩ | ⟨o', _, h1, _⟩)
      · have B3 := hid (B2.out.trans (b3.mono B2.out.size))
        clear b3
        go_wp2_with fail
        refine (row38_same none none 0 0 0 (fun _ => 0) w3 (fun i hi => by omega) (fun i hi => by omega) (by omega)).mono ?_
        rintro e w4 ⟨rfl, b4⟩
        have B4 := hid (B3.out.trans (b4.mono B3.out.size))
        clear b4
        go_wp2_with fail
        refine (HFT.out w4 B4.out).mono ?_
        rintro e w5 ⟨rfl, b5⟩
        have B5 := hid (B4.out.trans (b5.mono B4.out.size))
        clear b5
        go_wp2_with fail
        refine (HFR.out w5 B5.out).mono ?_
        rintro e w6 ⟨rfl, b6⟩
        have B6 := hid (B5.out.trans (b6.mono B5.out.size))
        clear b6
        go_wp2_with fail
        refine (opaAlive_any _).mono ?_
        rintro e w7 ⟨rfl, b7⟩
        have B7 := hid (B6.out.trans (b7.mono B6.out.size))
        go_wp2
        go_ret
        exact ⟨rfl, B7.out⟩
      · rw [h0] at h1; cases h1
    · have B2 := hid (B1.out.trans (b2.mono B1.out.size))
      clear b2
      go_wp2_with fail
      refine (refOrder_any ao n cap g w2 hn (HT.out.below B2.out) HG.out).mono ?_
      rintro e w3 (⟨h1, _, _⟩ | ⟨o', v', h1, rfl, o3, b3⟩)
      · rw [h0] at h1; cases h1
      · rw [h0] at h1
        cases h1
        obtain ⟨ra, rc, rfl, HP⟩ := own_places o2
        obtain ⟨rb, rd, rfl, HP'⟩ := own_places o3
        have B3 := hid (B2.out.trans (b3.mono B2.out.size))
        have HRW := hid (row38_same ra rb o.length rc rd _ w3 (row_ints (HP.out.below b3)) (row_ints HP'.out) (by
          obtain ⟨Q, hq, hp, _⟩ := order_found n (List.range n) [] o (by simp) (fun i hi => HG.out i (List.mem_range.1 hi)) (by omega) h0
          rw [hq, List.append_nil, hp.length_eq, List.length_range]; omega))
        clear o2 o3 b3 h0
        go_wp2_with fail
        refine HRW.out.mono ?_
        rintro e w4 ⟨rfl, b4⟩
        have B4 := hid (B3.out.trans (b4.mono B3.out.size))
        clear b4
        go_wp2_with fail
        refine (HFT.out w4 B4.out).mono ?_
        rintro e w5 ⟨rfl, b5⟩
        have B5 := hid (B4.out.trans (b5.mono B4.out.size))
        clear b5
        go_wp2_with fail
        refine (HFR.out w5 B5.out).mono ?_
        rintro e w6 ⟨rfl, b6⟩
        have B6 := hid (B5.out.trans (b6.mono B5.out.size))
        clear b6
        go_wp2_with fail
        refine (opaAlive_any _).mono ?_
        rintro e w7 ⟨rfl, b7⟩
        have B7 := hid (B6.out.trans (b7.mono B6.out.size))
        go_wp2
        go_ret
        exact ⟨rfl, B7.out⟩
end Go.Proofs.Ytmjfodaoeeepcaa
