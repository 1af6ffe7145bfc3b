/-
  May an image be: the walks of layer 10's reference.
-/
import Derived.Test.YtijnpkbijljnlaaDoorImgIn
namespace Go.Proofs.YtijnpkbijljnlaaDoor
open Go.RowKit Go.Shelf
def inR (n a b : Int) : Bool := decide (a ≤ n) && decide (n ≤ b)
theorem in10_any (n a b : Int) (w : World) : Calls Tryd.prog 38 #[.int .i64 n, .int .i64 a, .int .i64 b] w fun e w' => e = .returned (.bool (inR n a b)) ∧ w = w' := by
  by_cases h : a ≤ n
  · have t1 : decide (a ≤ n) = true := by simp [h]
    go_enter Tryd.func38, Tryd.ntmps38
    go_wp2
    go_ret
    exact ⟨by simp [inR, h], rfl⟩
  · have t1 : decide (a ≤ n) = false := by simp; omega
    go_enter Tryd.func38, Tryd.ntmps38
    go_wp2
    go_ret
    exact ⟨by simp only [inR]; rw [t1]; rfl, rfl⟩
theorem inR_yes {n a b : Int} (h : inR n a b = true) : a ≤ n ∧ n ≤ b := by simpa [inR] using h
/-- A task in a box. -/
def tvBoxR (x : Nat → Int) : Obj := .cells #[.int .i64 (x 0), .int .i64 (x 1), .int .i64 (x 2), .int .i64 (x 3), .int .i64 (x 4), .int .i64 (x 5), .int .i64 (x 6), .int .i64 (x 7), .int .i64 (x 8), .int .i64 (x 9), .int .i64 (x 10)] 37
/-- A task that may be. -/
structure OkTask (x : Nat → Int) (res : Int) : Prop where
  p1 : 1 ≤ x 0
  p2 : x 0 ≤ 4096
  d1 : 1 ≤ x 1
  d2 : x 1 ≤ x 0
  c1 : 1 ≤ x 2
  c2 : x 2 ≤ x 1
  l : ∀ j, j < 8 → 0 ≤ x (3 + j) ∧ x (3 + j) ≤ x 2
set_option maxRecDepth 100000 in
set_option maxHeartbeats 1000000 in
theorem task10_any (x : Nat → Int) (res : Int) (w : World) : Calls Tryd.prog 39 #[tv x, .int .i64 res] w fun e w' => ∃ r : Bool, e = .returned (.bool r) ∧ (r = true → OkTask x res) ∧ Below w.heap.size w w' := by
  unfold tv
  have hb1 := (Below.refl w.heap.size w).alloc (Nat.le_refl _) (tvBoxR x)
  have hblk := heap_alloc_new w (tvBoxR x)
  unfold tvBoxR at hb1 hblk
  cases h1 : inR (x 0) 1 4096
  · go_enter Tryd.func39, Tryd.ntmps39
    go_wp2_with (go_at_call 38; refine (in10_any _ _ _ _).mono ?_; rintro e w' ⟨rfl, rfl⟩)
    go_ret
    exact ⟨false, rfl, by simp, hb1⟩
  · cases h2 : inR (x 1) 1 (x 0)
    · go_enter Tryd.func39, Tryd.ntmps39
      go_wp2_with (go_at_call 38; refine (in10_any _ _ _ _).mono ?_; rintro e w' ⟨rfl, rfl⟩)
      go_ret
      exact ⟨false, rfl, by simp, hb1⟩
    · cases h3 : inR (x 2) 1 (x 1)
      · go_enter Tryd.func39, Tryd.ntmps39
        go_wp2_with (go_at_call 38; refine (in10_any _ _ _ _).mono ?_; rintro e w' ⟨rfl, rfl⟩)
        go_ret
        exact ⟨false, rfl, by simp, hb1⟩
      · go_enter Tryd.func39, Tryd.ntmps39
        go_wp2_with (go_at_call 38; refine (in10_any _ _ _ _).mono ?_; rintro e w' ⟨rfl, rfl⟩)
        have y1 := inR_yes h1
        have y2 := inR_yes h2
        have y3 := inR_yes h3
        obtain ⟨W0, hW0⟩ : ∃ W, W = (w.alloc (Obj.cells #[.int .i64 (x 0), .int .i64 (x 1), .int .i64 (x 2), .int .i64 (x 3), .int .i64 (x 4), .int .i64 (x 5), .int .i64 (x 6), .int .i64 (x 7), .int .i64 (x 8), .int .i64 (x 9), .int .i64 (x 10)] 37)) := ⟨_, rfl⟩
        rw [← hW0] at hb1 hblk ⊢
        have HB := hid hb1
        have HK := hid hblk
        have HA0 : Hid (∀ k, k < 0 → 0 ≤ x (3 + k) ∧ x (3 + k) ≤ x 2) := fun k hk => by omega
        have HY := hid (show 0 ≤ x 2 by omega)
        have HO := hid (show (∀ k, k < 8 → 0 ≤ x (3 + k) ∧ x (3 + k) ≤ x 2) → OkTask x res from fun h => ⟨y1.1, y1.2, y2.1, y2.2, y3.1, y3.2, h⟩)
        clear hW0 hb1 hblk h1 h2 h3 y1 y2 y3
        go_loopw [5] (fun i_ wr => ∃ i : Nat, i ≤ 8 ∧ i_ = .int .i64 i ∧ Hid (∀ k, k < i → 0 ≤ x (3 + k) ∧ x (3 + k) ≤ x 2) ∧ W0 = wr) (fun i_ _ => 8 - (intOf i_).toNat)
        case atStart => exact ⟨0, by omega, rfl, HA0, rfl⟩
        case round =>
          clear HA0
          obtain ⟨i, hi, rfl, HA, rfl⟩ := hrel
          have c2 := blk_cell HK.out 2
          by_cases hlt : i < 8
          · have t0 : decide ((i : Int) < 8) = true := by simp; omega
            have ci : W0.cell? ⟨w.heap.size, 3 + i, none⟩ = some (.int .i64 (x (3 + i))) := by
              rw [blk_cell HK.out]
              rcases i with _ | _ | _ | _ | _ | _ | _ | _ | i
              all_goals first | rfl | omega
            have i0' : (0 : Int) ≤ (i : Int) := by omega
            have i1 : (i : Int) < 8 := by omega
            have HA2 : Hid (0 ≤ x (3 + i) ∧ x (3 + i) ≤ x 2 → ∀ k, k < i + 1 → 0 ≤ x (3 + k) ∧ x (3 + k) ≤ x 2) := fun h k hk => by
              rcases (show k < i ∨ k = i by omega) with h1 | rfl
              · exact HA.out k h1
              · exact h
            generalize x (3 + i) = l at ci HA2
            by_cases hr : res ≤ (i : Int)
            · have t1 : decide (res ≤ (i : Int)) = true := by simp [hr]
              cases h4 : inR l 0 0
              · go_wp2_with (go_at_call 38; refine (in10_any _ _ _ _).mono ?_; rintro e w' ⟨rfl, rfl⟩)
                go_ret
                exact ⟨false, rfl, by simp, HB.out⟩
              · have hy := inR_yes h4
                have HA3 := hid (HA2.out ⟨by omega, by have := HY.out; omega⟩)
                clear hy
                go_wp2_with (go_at_call 38; refine (in10_any _ _ _ _).mono ?_; rintro e w' ⟨rfl, rfl⟩)
                go_roundw
                case rel => exact ⟨i + 1, by omega, by go_num, HA3, trivial⟩
                case measure => simp [intOf]; omega
            · have t1 : decide (res ≤ (i : Int)) = false := by simp; omega
              cases h4 : inR l 0 (x 2)
              · go_wp2_with (go_at_call 38; refine (in10_any _ _ _ _).mono ?_; rintro e w' ⟨rfl, rfl⟩)
                go_ret
                exact ⟨false, rfl, by simp, HB.out⟩
              · have hy := inR_yes h4
                have HA3 := hid (HA2.out ⟨by omega, by omega⟩)
                clear hy
                go_wp2_with (go_at_call 38; refine (in10_any _ _ _ _).mono ?_; rintro e w' ⟨rfl, rfl⟩)
                go_roundw
                case rel => exact ⟨i + 1, by omega, by go_num, HA3, trivial⟩
                case measure => simp [intOf]; omega
          · obtain rfl : i = 8 := by omega
            go_wp2
            go_ret
            exact ⟨true, rfl, fun _ => HO.out HA.out, HB.out⟩
set_option maxRecDepth 100000 in
set_option maxHeartbeats 1000000 in
theorem queues10_any (qo : Option Addr) (qn qc : Nat) (q : Nat → Nat → Int) (w : World) (hF : FlatAt w qo qn 2 q) (hm : qn ≤ maxLen) : Calls Tryd.prog 40 #[.slice qo qn qc] w fun e w' => ∃ r : Bool, e = .returned (.bool r) ∧ w = w' := by
  unfold maxLen at hm
  have HF := hid hF
  clear hF
  go_enter Tryd.func40, Tryd.ntmps40
  go_wp2
  go_loopw [3] (fun i_ wr => ∃ i : Nat, i ≤ qn ∧ i_ = .int .i64 i ∧ w = wr) (fun i_ _ => qn - (intOf i_).toNat)
  case atStart => exact ⟨0, by omega, rfl, rfl⟩
  case round =>
    obtain ⟨i, hi, rfl, rfl⟩ := hrel
    by_cases hlt : i < qn
    · have t0 : decide ((i : Int) < (qn : Int)) = true := by simp; omega
      obtain ⟨b, o, rfl, hc⟩ := HF.out i hlt
      have c0 := hc 0 (by omega)
      have c1 := hc 1 (by omega)
      rw [Nat.add_zero] at c0
      have i0' : (0 : Int) ≤ (i : Int) := by omega
      have i1 : (i : Int) < (qn : Int) := by omega
      clear hc
      generalize q i 0 = x at c0
      generalize q i 1 = y at c1
      by_cases h4 : 4 ≤ i
      · have t1 : decide ((4 : Int) ≤ (i : Int)) = true := by simp; omega
        go_wp2_with (go_at_call 38; refine (in10_any _ _ _ _).mono ?_; rintro e w' ⟨rfl, rfl⟩)
        go_ret
        exact ⟨false, rfl, rfl⟩
      · have t1 : decide ((4 : Int) ≤ (i : Int)) = false := by simp; omega
        cases h5 : inR x 1 16
        · go_wp2_with (go_at_call 38; refine (in10_any _ _ _ _).mono ?_; rintro e w' ⟨rfl, rfl⟩)
          go_ret
          exact ⟨false, rfl, rfl⟩
        · cases h6 : inR y 1 3
          · go_wp2_with (go_at_call 38; refine (in10_any _ _ _ _).mono ?_; rintro e w' ⟨rfl, rfl⟩)
            go_ret
            exact ⟨false, rfl, rfl⟩
          · go_wp2_with (go_at_call 38; refine (in10_any _ _ _ _).mono ?_; rintro e w' ⟨rfl, rfl⟩)
            go_roundw
            case rel => exact ⟨i + 1, by omega, by go_num, trivial⟩
            case measure => simp [intOf]; omega
    · obtain rfl : i = qn := by omega
      have t0 : decide ((i : Int) < (i : Int)) = false := by simp
      go_wp2
      go_ret
      exact ⟨true, rfl, rfl⟩
end Go.Proofs.YtijnpkbijljnlaaDoor
