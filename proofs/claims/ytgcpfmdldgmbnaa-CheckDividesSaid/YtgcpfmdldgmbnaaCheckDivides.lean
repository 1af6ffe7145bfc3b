/-
  The walk of CheckDivides.
-/
import Derived.Test.YtgcpfmdldgmbnaaCheckLaws
import Derived.Deep.RegionWith
namespace Go.Proofs.Ytgcpfmdldgmbnaa
open Go.RowKit
theorem divides_yes (g a : Int) (hg : g ≠ 0 ∧ a % g = 0 ∧ 0 ≤ a ∧ 1 ≤ g ∨ g = 0 ∧ a = 0) (w : World) : Calls Try.prog 42 #[.int .i64 g, .int .i64 a] w fun e w' => e = .returned (.bool true) ∧ w = w' := by
  rcases hg with ⟨h1, h2, h3, h4⟩ | ⟨rfl, rfl⟩
  · have g1 : (g == 0) = false := by simp [h1]
    have g2 : (a % g == 0) = true := by simp [h2]
    clear h1 h2
    go_enter Try.func42, Try.ntmps42
    go_wp2
    go_ret
    exact ⟨rfl, rfl⟩
  · go_enter Try.func42, Try.ntmps42
    go_wp2
    go_ret
    exact ⟨rfl, rfl⟩
theorem gcd_divides {a b : Int} (ha : 0 ≤ a) : ((Int.gcd a b : Nat) : Int) ≠ 0 ∧ a % ((Int.gcd a b : Nat) : Int) = 0 ∧ 0 ≤ a ∧ 1 ≤ ((Int.gcd a b : Nat) : Int) ∨ ((Int.gcd a b : Nat) : Int) = 0 ∧ a = 0 := by
  by_cases h : Int.gcd a b = 0
  · right
    rw [Int.gcd_eq_zero_iff] at h
    exact ⟨by rw [h.1, h.2]; rfl, h.1⟩
  · left
    exact ⟨by omega, Int.emod_eq_zero_of_dvd (Int.gcd_dvd_left a b), ha, by omega⟩
theorem gcd_divides' {a b : Int} (hb : 0 ≤ b) : ((Int.gcd a b : Nat) : Int) ≠ 0 ∧ b % ((Int.gcd a b : Nat) : Int) = 0 ∧ 0 ≤ b ∧ 1 ≤ ((Int.gcd a b : Nat) : Int) ∨ ((Int.gcd a b : Nat) : Int) = 0 ∧ b = 0 := by
  rw [Int.gcd_comm]; exact gcd_divides hb
theorem lcm_facts {a b : Int} (ha : 1 ≤ a) (hb : 1 ≤ b) (ha2 : a ≤ 1048576) (hb2 : b ≤ 1048576) : 1 ≤ a / ((Int.gcd a b : Nat) : Int) * b ∧ a / ((Int.gcd a b : Nat) : Int) * b ≤ 1099511627776 ∧ a / ((Int.gcd a b : Nat) : Int) * b * ((Int.gcd a b : Nat) : Int) = a * b ∧ a / ((Int.gcd a b : Nat) : Int) ≤ 1048576 ∧ 0 ≤ a / ((Int.gcd a b : Nat) : Int) := by
  have hg := gcd_pos (a := a) (b := b) (by omega)
  have hd : a / ((Int.gcd a b : Nat) : Int) * ((Int.gcd a b : Nat) : Int) = a := Int.ediv_mul_cancel (Int.gcd_dvd_left a b)
  generalize ((Int.gcd a b : Nat) : Int) = g at hg hd ⊢
  have hq : a / g ≤ a := Int.ediv_le_self _ (by omega)
  have hq1 : 1 ≤ a / g := by
    rcases Int.lt_or_le (a / g) 1 with h | h
    · have : a / g * g ≤ 0 * g := Int.mul_le_mul_of_nonneg_right (by omega) (by omega)
      omega
    · exact h
  refine ⟨?_, ?_, ?_, by omega, by omega⟩
  · have := Int.mul_le_mul hq1 hb (by omega) (by omega : 0 ≤ a / g); omega
  · have h1 : a / g * b ≤ 1048576 * 1048576 := Int.mul_le_mul (by omega) hb2 (by omega) (by omega)
    omega
  · rw [Int.mul_right_comm, hd]
theorem gcd_mod {a b d : Int} (h1 : a % d = 0) (h2 : b % d = 0) : ((Int.gcd a b : Nat) : Int) % d = 0 := by
  refine Int.emod_eq_zero_of_dvd ?_
  exact Int.dvd_coe_gcd (Int.dvd_of_emod_eq_zero h1) (Int.dvd_of_emod_eq_zero h2)
set_option maxRecDepth 100000 in
set_option maxHeartbeats 1000000 in
theorem divides_out (a b d : Int) (h : inB a = false ∨ inB b = false) (w : World) : Calls Try.prog 9 #[.int .i64 a, .int .i64 b, .int .i64 d] w fun e w' => e = .returned (.bool true) ∧ Below w.heap.size w w' := by
  have hc : comR a b = (0, false) := by unfold comR; rcases h with h | h <;> rw [h] <;> simp
  have hm : multR a b = (0, false) := by unfold multR; rcases h with h | h <;> rw [h] <;> simp
  have ht : a < 0 ∨ 0 ≤ a ∧ (b < 0 ∨ 0 ≤ b ∧ (1099511627776 < a ∨ a ≤ 1099511627776 ∧ 1099511627776 < b)) := by
    rcases h with h | h <;> have := inB_no h <;> omega
  clear h
  rcases ht with h1 | ⟨h1, h2 | ⟨h2, h3 | ⟨h3, h4⟩⟩⟩
  all_goals
    go_enter Try.func9, Try.ntmps9
    go_wp2_with (first | (go_at_call 39; refine (common_any _ _ _).mono ?_; rintro e w1 ⟨rfl, hb1⟩) | (go_at_call 40; refine (multiple_any _ _ _).mono ?_; rintro e w2 ⟨rfl, hb2⟩) | (go_at_call 41; refine (checkAlive_any _).mono ?_; rintro e w3 ⟨rfl, hb3⟩))
    go_ret
    have hb12 := hb1.trans (hb2.mono hb1.size)
    exact ⟨rfl, hb12.trans (hb3.mono hb12.size)⟩
set_option maxRecDepth 100000 in
set_option maxHeartbeats 1000000 in
theorem divides_large (a b d : Int) (ha : inB a = true) (hb : inB b = true) (h : 1048576 < a ∨ a ≤ 1048576 ∧ 1048576 < b) (w : World) : Calls Try.prog 9 #[.int .i64 a, .int .i64 b, .int .i64 d] w fun e w' => e = .returned (.bool true) ∧ Below w.heap.size w w' := by
  obtain ⟨a1, a2⟩ := inB_yes ha
  obtain ⟨b1, b2⟩ := inB_yes hb
  clear ha hb
  rcases h with h1 | ⟨h1, h2⟩
  all_goals
    go_enter Try.func9, Try.ntmps9
    go_wp2_with (first | (go_at_call 39; refine (common_any _ _ _).mono ?_; rintro e w1 ⟨rfl, hb1⟩) | (go_at_call 40; refine (multiple_any _ _ _).mono ?_; rintro e w2 ⟨rfl, hb2⟩) | (go_at_call 41; refine (checkAlive_any _).mono ?_; rintro e w3 ⟨rfl, hb3⟩))
    go_ret
    exact ⟨rfl, hb1.trans (hb2.mono hb1.size)⟩
set_option maxRecDepth 100000 in
set_option maxHeartbeats 1000000 in
theorem divides_both (a b d : Int) (ha : 1 ≤ a) (ha2 : a ≤ 1048576) (hb : 1 ≤ b) (hb2 : b ≤ 1048576) (w : World) : Calls Try.prog 9 #[.int .i64 a, .int .i64 b, .int .i64 d] w fun e w' => e = .returned (.bool true) ∧ Below w.heap.size w w' := by
  have hc : comR a b = (((Int.gcd a b : Nat) : Int), true) := by unfold comR; rw [inB_mk (by omega) (by omega), inB_mk (by omega) (by omega)]; rfl
  obtain ⟨f1, f2, f3, f4, f5⟩ := lcm_facts ha hb ha2 hb2
  have a4 : (a == 0) = false := by simp; omega
  have b4 : (b == 0) = false := by simp; omega
  have hm : multR a b = (a / ((Int.gcd a b : Nat) : Int) * b, true) := by
    unfold multR; rw [inB_mk (by omega) (by omega), inB_mk (by omega) (by omega), a4, b4]
    show mulR _ _ = _
    unfold mulR; rw [inB_mk (by omega) (by omega), inB_mk (by omega) (by omega), decide_eq_true f2]; rfl
  have hga := hid (gcd_divides (a := a) (b := b) (by omega))
  have hgb := hid (gcd_divides' (a := a) (b := b) (by omega))
  have hgd : Hid (a % d = 0 → b % d = 0 → ((Int.gcd a b : Nat) : Int) % d = 0) := gcd_mod
  have hg := gcd_pos (a := a) (b := b) (by omega)
  have hg2 : ((Int.gcd a b : Nat) : Int) ≤ a := by
    have := Int.le_of_dvd (by omega) (Int.gcd_dvd_left a b); exact this
  generalize ((Int.gcd a b : Nat) : Int) = g at *
  generalize a / g * b = m at *
  have hmg : (m * g == a * b) = true := by simp [f3]
  have hmg2 : m * g = a * b := f3
  have hab : 0 ≤ a * b := Int.mul_nonneg (by omega) (by omega)
  have hab2 : a * b ≤ 1048576 * 1048576 := Int.mul_le_mul ha2 hb2 (by omega) (by omega)
  have hab3 : m * g ≤ 1099511627776 := by omega
  have hab4 : 0 ≤ m * g := by omega
  have HD : decide (d < 1) = true ∨ decide (d < 1) = false ∧ 1 ≤ d ∧ ((a % d != 0) = true ∨ (a % d != 0) = false ∧ ((b % d != 0) = true ∨ (b % d != 0) = false ∧ (g % d == 0) = true)) := by
    by_cases h1 : d < 1
    · exact .inl (by simp [h1])
    · refine .inr ⟨by simp [h1], by omega, ?_⟩
      by_cases h2 : a % d = 0
      · by_cases h3 : b % d = 0
        · exact .inr ⟨by simp [h2], .inr ⟨by simp [h3], by simp [hgd.out h2 h3]⟩⟩
        · exact .inr ⟨by simp [h2], .inl (by simp [h3])⟩
      · exact .inl (by simp [h2])
  have n1 : decide (a < 0) = false := by simp; omega
  have n2 : decide (b < 0) = false := by simp; omega
  have n3 : decide (1099511627776 < a) = false := by simp; omega
  have n4 : decide (1099511627776 < b) = false := by simp; omega
  have n5 : decide (1048576 < a) = false := by simp; omega
  have n6 : decide (1048576 < b) = false := by simp; omega
  have n7 : (a != 0) = true := by simp; omega
  have n8 : (b != 0) = true := by simp; omega
  have n9 : decide (0 < g) = true := by simp; omega
  have n10 : decide (0 < m) = true := by simp; omega
  clear hmg2 f3
  rcases HD with h1 | ⟨h0, h1, h2 | ⟨h2, h3 | ⟨h3, h4⟩⟩⟩
  all_goals
    go_enter Try.func9, Try.ntmps9
    go_wp2_with (first | (go_at_call 39; refine (common_any _ _ _).mono ?_; rintro e w1 ⟨rfl, hb1⟩) | (go_at_call 40; refine (multiple_any _ _ _).mono ?_; rintro e w2 ⟨rfl, hb2⟩) | (go_at_call 41; refine (checkAlive_any _).mono ?_; rintro e w3 ⟨rfl, hb3⟩) | (go_at_call 42; refine (divides_yes _ _ (by first | exact hga.out | exact hgb.out) _).mono ?_; rintro e w' ⟨rfl, rfl⟩))
    go_ret
    have hb12 := hb1.trans (hb2.mono hb1.size)
    exact ⟨rfl, hb12.trans (hb3.mono hb12.size)⟩
theorem divides_of0 (g : Int) (h : 1 ≤ g) (w : World) : Calls Try.prog 42 #[.int .i64 g, .int .i64 0] w fun e w' => e = .returned (.bool true) ∧ w = w' :=
  divides_yes g 0 (.inl ⟨by omega, Int.zero_emod g, by omega, h⟩) w
theorem divides_self (g : Int) (h : 1 ≤ g) (w : World) : Calls Try.prog 42 #[.int .i64 g, .int .i64 g] w fun e w' => e = .returned (.bool true) ∧ w = w' :=
  divides_yes g g (.inl ⟨by omega, Int.emod_self, by omega, h⟩) w
theorem divides_00 (w : World) : Calls Try.prog 42 #[.int .i64 0, .int .i64 0] w fun e w' => e = .returned (.bool true) ∧ w = w' :=
  divides_yes 0 0 (.inr ⟨rfl, rfl⟩) w
theorem zero_facts {a b : Int} (ha : 0 ≤ a) (ha2 : a ≤ 1048576) (hb : 0 ≤ b) (hb2 : b ≤ 1048576) (h : a = 0 ∨ b = 0) : comR a b = (a + b, true) ∧ multR a b = (0, false) := by
  have hga' : ((Int.gcd a b : Nat) : Int) = a + b := by
    rcases h with rfl | rfl
    · rw [Int.gcd_zero_left]; omega
    · rw [Int.gcd_zero_right]; omega
  refine ⟨by unfold comR; rw [inB_mk (by omega) (by omega), inB_mk (by omega) (by omega), hga']; rfl, ?_⟩
  unfold multR
  rcases h with rfl | rfl <;> simp
set_option maxRecDepth 100000 in
set_option maxHeartbeats 1000000 in
theorem divides_zero1 (b d : Int) (hb : 1 ≤ b) (hb2 : b ≤ 1048576) (w : World) : Calls Try.prog 9 #[.int .i64 0, .int .i64 b, .int .i64 d] w fun e w' => e = .returned (.bool true) ∧ Below w.heap.size w w' := by
  obtain ⟨hc, hm⟩ := zero_facts (a := 0) (b := b) (by omega) (by omega) (by omega) hb2 (.inl rfl)
  rw [Int.zero_add] at hc
  have n2 : decide (b < 0) = false := by simp; omega
  have n4 : decide (1099511627776 < b) = false := by simp; omega
  have n6 : decide (1048576 < b) = false := by simp; omega
  go_enter Try.func9, Try.ntmps9
  go_wp2_with (first | (go_at_call 39; refine (common_any _ _ _).mono ?_; rintro e w1 ⟨rfl, hb1⟩) | (go_at_call 40; refine (multiple_any _ _ _).mono ?_; rintro e w2 ⟨rfl, hb2⟩) | (go_at_call 41; refine (checkAlive_any _).mono ?_; rintro e w3 ⟨rfl, hb3⟩) | (go_at_call_of 42 (Value.int IntKind.i64 0); refine (divides_of0 _ hb _).mono ?_; rintro e w' ⟨rfl, rfl⟩) | (go_at_call 42; refine (divides_self _ hb _).mono ?_; rintro e w' ⟨rfl, rfl⟩))
  go_ret
  have hb12 := hb1.trans (hb2.mono hb1.size)
  exact ⟨rfl, hb12.trans (hb3.mono hb12.size)⟩
set_option maxRecDepth 100000 in
set_option maxHeartbeats 1000000 in
theorem divides_zero2 (a d : Int) (ha : 1 ≤ a) (ha2 : a ≤ 1048576) (w : World) : Calls Try.prog 9 #[.int .i64 a, .int .i64 0, .int .i64 d] w fun e w' => e = .returned (.bool true) ∧ Below w.heap.size w w' := by
  obtain ⟨hc, hm⟩ := zero_facts (a := a) (b := 0) (by omega) (by omega) (by omega) (by omega) (.inr rfl)
  rw [Int.add_zero] at hc
  have n1 : decide (a < 0) = false := by simp; omega
  have n3 : decide (1099511627776 < a) = false := by simp; omega
  have n5 : decide (1048576 < a) = false := by simp; omega
  have n7 : (a != 0) = true := by simp; omega
  go_enter Try.func9, Try.ntmps9
  go_wp2_with (first | (go_at_call 39; refine (common_any _ _ _).mono ?_; rintro e w1 ⟨rfl, hb1⟩) | (go_at_call 40; refine (multiple_any _ _ _).mono ?_; rintro e w2 ⟨rfl, hb2⟩) | (go_at_call 41; refine (checkAlive_any _).mono ?_; rintro e w3 ⟨rfl, hb3⟩) | (go_at_call_of 42 (Value.int IntKind.i64 0); refine (divides_of0 _ ha _).mono ?_; rintro e w' ⟨rfl, rfl⟩) | (go_at_call 42; refine (divides_self _ ha _).mono ?_; rintro e w' ⟨rfl, rfl⟩))
  go_ret
  have hb12 := hb1.trans (hb2.mono hb1.size)
  exact ⟨rfl, hb12.trans (hb3.mono hb12.size)⟩
set_option maxRecDepth 100000 in
set_option maxHeartbeats 1000000 in
theorem divides_zero3 (d : Int) (w : World) : Calls Try.prog 9 #[.int .i64 0, .int .i64 0, .int .i64 d] w fun e w' => e = .returned (.bool true) ∧ Below w.heap.size w w' := by
  obtain ⟨hc, hm⟩ := zero_facts (a := 0) (b := 0) (by omega) (by omega) (by omega) (by omega) (.inl rfl)
  rw [Int.add_zero] at hc
  go_enter Try.func9, Try.ntmps9
  go_wp2_with (first | (go_at_call 39; refine (common_any _ _ _).mono ?_; rintro e w1 ⟨rfl, hb1⟩) | (go_at_call 40; refine (multiple_any _ _ _).mono ?_; rintro e w2 ⟨rfl, hb2⟩) | (go_at_call 41; refine (checkAlive_any _).mono ?_; rintro e w3 ⟨rfl, hb3⟩) | (go_at_call 42; refine (divides_00 _).mono ?_; rintro e w' ⟨rfl, rfl⟩))
  go_ret
  have hb12 := hb1.trans (hb2.mono hb1.size)
  exact ⟨rfl, hb12.trans (hb3.mono hb12.size)⟩
theorem divides_walk (a b d : Int) (w : World) : Calls Try.prog 9 #[.int .i64 a, .int .i64 b, .int .i64 d] w fun e w' => e = .returned (.bool true) ∧ Below w.heap.size w w' := by
  cases ha : inB a
  · exact divides_out a b d (.inl ha) w
  · cases hb : inB b
    · exact divides_out a b d (.inr hb) w
    · have h1 := inB_yes ha
      have h2 := inB_yes hb
      by_cases h3 : 1048576 < a ∨ a ≤ 1048576 ∧ 1048576 < b
      · exact divides_large a b d ha hb h3 w
      · by_cases h4 : a = 0 ∨ 1 ≤ a ∧ b = 0
        · rcases h4 with rfl | ⟨h5, rfl⟩
          · by_cases h6 : b = 0
            · subst h6; exact divides_zero3 d w
            · exact divides_zero1 b d (by omega) (by omega) w
          · exact divides_zero2 a d h5 (by omega) w
        · exact divides_both a b d (by omega) (by omega) (by omega) (by omega) w
end Go.Proofs.Ytgcpfmdldgmbnaa
