/-
  Contracts of the package check: the greatest common divisor, the least common multiple.
-/
import Derived.Test.YtijnpkbijljnlaaDoorCheck
namespace Go.Proofs.YtijnpkbijljnlaaDoor
open Go.RowKit
/-! ### the greatest common divisor, the least common multiple -/
def comR (a b : Int) : Int × Bool := if inB a && inB b then (((Int.gcd a b : Nat) : Int), true) else (0, false)
def multR (a b : Int) : Int × Bool := if inB a && inB b && !(a == 0) && !(b == 0) then mulR (a / ((Int.gcd a b : Nat) : Int)) b else (0, false)
theorem gcd_nat (x y : Nat) : Int.gcd (x : Int) (y : Int) = Nat.gcd x y := rfl
theorem common_any (a b : Int) (w : World) : Calls Tryd.prog 43 #[.int .i64 a, .int .i64 b] w fun e w' => e = .returned (rv (comR a b)) ∧ Below w.heap.size w w' := by
  cases ha : inB a
  · have H : Hid (comR a b = (0, false)) := by show _ = _; unfold comR; rw [ha]; rfl
    go_enter Tryd.func43, Tryd.ntmps43
    go_wp2_with (go_at_call 44; refine (in_any _ _).mono ?_; rintro e w' ⟨rfl, rfl⟩)
    go_ret2
    exact ⟨by rw [H.out]; rfl, Below.refl _ _⟩
  · cases hb : inB b
    · have H : Hid (comR a b = (0, false)) := by show _ = _; unfold comR; rw [ha, hb]; rfl
      go_enter Tryd.func43, Tryd.ntmps43
      go_wp2_with (go_at_call 44; refine (in_any _ _).mono ?_; rintro e w' ⟨rfl, rfl⟩)
      go_ret2
      exact ⟨by rw [H.out]; rfl, Below.refl _ _⟩
    · have H : Hid (comR a b = (((Int.gcd a b : Nat) : Int), true)) := by show _ = _; unfold comR; rw [ha, hb]; rfl
      obtain ⟨a1, a2⟩ := inB_yes ha
      obtain ⟨b1, b2⟩ := inB_yes hb
      obtain ⟨x, rfl⟩ := Int.eq_ofNat_of_zero_le a1
      obtain ⟨y, rfl⟩ := Int.eq_ofNat_of_zero_le b1
      generalize hg : Int.gcd (x : Int) (y : Int) = g at H
      have HG : Hid (Nat.gcd x y = g) := hg
      clear hg
      go_enter Tryd.func43, Tryd.ntmps43
      go_wp2_with (go_at_call 44; refine (in_any _ _).mono ?_; rintro e w' ⟨rfl, rfl⟩)
      go_loopw [0, 1] (fun p q wr => ∃ u v : Nat, u ≤ 1099511627776 ∧ v ≤ 1099511627776 ∧ p = .int .i64 u ∧ q = .int .i64 v ∧ Hid (Nat.gcd u v = g) ∧ Below w.heap.size w wr) (fun _ q _ => (intOf q).toNat)
      case atStart => exact ⟨x, y, by omega, by omega, rfl, rfl, HG, Below.refl _ _⟩
      case round =>
        obtain ⟨u, v, hu, hv, rfl, rfl, hgr, hbr⟩ := hrel
        rcases Nat.eq_zero_or_pos v with rfl | hpos
        · go_wp2
          go_ret2
          exact ⟨by rw [H.out, ← hgr.out, Nat.gcd_zero_right]; rfl, hbr⟩
        · have h0 : ((v : Int) == 0) = false := by simp; omega
          have h1 : ((v : Int) != 0) = true := by simp; omega
          have h2 : 1 ≤ (v : Int) := by omega
          have h3 : u % v < v := Nat.mod_lt _ hpos
          go_wp2
          go_region
          all_goals go_wp2
          all_goals
            go_roundw
            case rel => exact ⟨v, u % v, by omega, by omega, rfl, by first | rfl | (refine congrArg (Value.int .i64) ?_; simp), by show _ = _; rw [← hgr.out, Nat.gcd_comm u v, Nat.gcd_rec v u, Nat.gcd_comm], hbr.drew⟩
            case measure => simp [intOf]; omega
theorem gcd_pos {a b : Int} (ha : a ≠ 0) : 1 ≤ ((Int.gcd a b : Nat) : Int) := by
  have : 0 < Int.gcd a b := Int.gcd_pos_of_ne_zero_left _ ha
  omega
theorem multiple_any (a b : Int) (w : World) : Calls Tryd.prog 28 #[.int .i64 a, .int .i64 b] w fun e w' => e = .returned (rv (multR a b)) ∧ Below w.heap.size w w' := by
  cases ha : inB a
  · have H : Hid (multR a b = (0, false)) := by show _ = _; unfold multR; rw [ha]; rfl
    have hc : comR a b = (0, false) := by unfold comR; rw [ha]; rfl
    go_enter Tryd.func28, Tryd.ntmps28
    go_wp2_with (go_at_call 43; refine (common_any _ _ _).mono ?_; rintro e w' ⟨rfl, hb⟩)
    go_ret2
    exact ⟨by rw [H.out]; rfl, hb⟩
  · cases hb : inB b
    · have H : Hid (multR a b = (0, false)) := by show _ = _; unfold multR; rw [ha, hb]; rfl
      have hc : comR a b = (0, false) := by unfold comR; rw [ha, hb]; rfl
      go_enter Tryd.func28, Tryd.ntmps28
      go_wp2_with (go_at_call 43; refine (common_any _ _ _).mono ?_; rintro e w' ⟨rfl, hb⟩)
      go_ret2
      exact ⟨by rw [H.out]; rfl, hb⟩
    · have hc : comR a b = (((Int.gcd a b : Nat) : Int), true) := by unfold comR; rw [ha, hb]; rfl
      by_cases h0 : a = 0
      · subst h0
        have H : Hid (multR 0 b = (0, false)) := by show _ = _; unfold multR; rw [ha, hb]; rfl
        go_enter Tryd.func28, Tryd.ntmps28
        go_wp2_with (go_at_call 43; refine (common_any _ _ _).mono ?_; rintro e w' ⟨rfl, hb⟩)
        go_ret2
        exact ⟨by rw [H.out]; rfl, hb⟩
      · by_cases h1 : b = 0
        · subst h1
          have a4 : (a == 0) = false := by simp [h0]
          have H : Hid (multR a 0 = (0, false)) := by show _ = _; unfold multR; rw [ha, hb, a4]; rfl
          clear h0
          go_enter Tryd.func28, Tryd.ntmps28
          go_wp2_with (go_at_call 43; refine (common_any _ _ _).mono ?_; rintro e w' ⟨rfl, hb⟩)
          go_ret2
          exact ⟨by rw [H.out]; rfl, hb⟩
        · have a4 : (a == 0) = false := by simp [h0]
          have b4 : (b == 0) = false := by simp [h1]
          have H : Hid (multR a b = mulR (a / ((Int.gcd a b : Nat) : Int)) b) := by show _ = _; unfold multR; rw [ha, hb, a4, b4]; rfl
          have hg := gcd_pos (b := b) h0
          obtain ⟨a1, a2⟩ := inB_yes ha
          clear h0 h1
          generalize ((Int.gcd a b : Nat) : Int) = g at hg H hc
          have hq : 0 ≤ a / g := Int.ediv_nonneg a1 (by omega)
          have hq2 : a / g ≤ a := Int.ediv_le_self _ a1
          have hg0 : (g == 0) = false := by simp; omega
          go_enter Tryd.func28, Tryd.ntmps28
          go_wp2_with (first | (go_at_call 43; refine (common_any _ _ _).mono ?_; rintro e w' ⟨rfl, hb⟩) | (go_at_call 33; refine (mul_any _ _ _).mono ?_; rintro e w' ⟨rfl, rfl⟩))
          go_ret2
          exact ⟨by rw [H.out]; rfl, hb⟩
end Go.Proofs.YtijnpkbijljnlaaDoor
