/-
  Contracts of the document's layer 2.
-/
import Derived.Test.YtijnpkbijljnlaaDoorCheck
namespace Go.Proofs.YtijnpkbijljnlaaDoor
open Go.RowKit
theorem inRef_any (n : Int) (w : World) : Calls Tryd.prog 32 #[.int .i64 n] w fun e w' => e = .returned (.bool (inB n)) ∧ w = w' := by
  cases h : inB n
  · have H := hid h
    have h' := inB_no h
    clear h
    rcases Int.lt_or_le n 0 with h1 | h1
    · go_enter Tryd.func32, Tryd.ntmps32
      go_wp2
      go_ret
      exact ⟨by rfl, rfl⟩
    · have h2 : decide (n ≤ 1099511627776) = false := by simp; omega
      go_enter Tryd.func32, Tryd.ntmps32
      go_wp2
      go_ret
      exact ⟨by rfl, rfl⟩
  · have H := hid h
    have h' := inB_yes h
    obtain ⟨h1, h2⟩ := h'
    clear h
    go_enter Tryd.func32, Tryd.ntmps32
    go_wp2
    go_ret
    exact ⟨by rfl, rfl⟩
theorem addRef_any (a b : Int) (w : World) : Calls Tryd.prog 49 #[.int .i64 a, .int .i64 b] w fun e w' => e = .returned (rv (addR a b)) ∧ w = w' := by
  cases ha : inB a
  · have H : Hid (addR a b = (0, false)) := by show _ = _; unfold addR; rw [ha]; rfl
    go_enter Tryd.func49, Tryd.ntmps49
    go_wp2_with (go_at_call 32; refine (inRef_any _ _).mono ?_; rintro e w' ⟨rfl, rfl⟩)
    go_ret2
    exact ⟨by rw [H.out]; rfl, rfl⟩
  · cases hb : inB b
    · have H : Hid (addR a b = (0, false)) := by show _ = _; unfold addR; rw [ha, hb]; rfl
      go_enter Tryd.func49, Tryd.ntmps49
      go_wp2_with (go_at_call 32; refine (inRef_any _ _).mono ?_; rintro e w' ⟨rfl, rfl⟩)
      go_ret2
      exact ⟨by rw [H.out]; rfl, rfl⟩
    · obtain ⟨a1, a2⟩ := inB_yes ha
      obtain ⟨b1, b2⟩ := inB_yes hb
      cases hc : inB (a + b)
      · have hc' := inB_no hc
        have H : Hid (addR a b = (0, false)) := by show _ = _; unfold addR; rw [if_neg (by simp; intros; omega)]
        clear hc'
        go_enter Tryd.func49, Tryd.ntmps49
        go_wp2_with (go_at_call 32; refine (inRef_any _ _).mono ?_; rintro e w' ⟨rfl, rfl⟩)
        go_ret2
        exact ⟨by rw [H.out]; rfl, rfl⟩
      · have hc' := inB_yes hc
        have H : Hid (addR a b = (a + b, true)) := by show _ = _; unfold addR; rw [ha, hb, decide_eq_true hc'.2]; rfl
        clear hc'
        go_enter Tryd.func49, Tryd.ntmps49
        go_wp2_with (go_at_call 32; refine (inRef_any _ _).mono ?_; rintro e w' ⟨rfl, rfl⟩)
        go_ret2
        exact ⟨by rw [H.out]; rfl, rfl⟩
theorem mulRef_any (a b : Int) (w : World) : Calls Tryd.prog 21 #[.int .i64 a, .int .i64 b] w fun e w' => e = .returned (rv (mulR a b)) ∧ w = w' := by
  cases ha : inB a
  · have H : Hid (mulR a b = (0, false)) := by show _ = _; unfold mulR; rw [ha]; rfl
    go_enter Tryd.func21, Tryd.ntmps21
    go_wp2_with (go_at_call 32; refine (inRef_any _ _).mono ?_; rintro e w' ⟨rfl, rfl⟩)
    go_ret2
    exact ⟨by rw [H.out]; rfl, rfl⟩
  · cases hb : inB b
    · have H : Hid (mulR a b = (0, false)) := by show _ = _; unfold mulR; rw [ha, hb]; rfl
      go_enter Tryd.func21, Tryd.ntmps21
      go_wp2_with (go_at_call 32; refine (inRef_any _ _).mono ?_; rintro e w' ⟨rfl, rfl⟩)
      go_ret2
      exact ⟨by rw [H.out]; rfl, rfl⟩
    · obtain ⟨a1, a2⟩ := inB_yes ha
      obtain ⟨b1, b2⟩ := inB_yes hb
      by_cases h0 : a = 0
      · subst h0
        have H : Hid (mulR 0 b = (0, true)) := by show _ = _; unfold mulR; rw [ha, hb]; simp
        go_enter Tryd.func21, Tryd.ntmps21
        go_wp2_with (go_at_call 32; refine (inRef_any _ _).mono ?_; rintro e w' ⟨rfl, rfl⟩)
        go_ret2
        exact ⟨by rw [H.out]; rfl, rfl⟩
      · by_cases h1 : b = 0
        · subst h1
          have a4 : (a == 0) = false := by simp [h0]
          clear h0
          have H : Hid (mulR a 0 = (0, true)) := by show _ = _; unfold mulR; rw [ha, hb]; simp
          go_enter Tryd.func21, Tryd.ntmps21
          go_wp2_with (go_at_call 32; refine (inRef_any _ _).mono ?_; rintro e w' ⟨rfl, rfl⟩)
          go_ret2
          exact ⟨by rw [H.out]; rfl, rfl⟩
        · have a3 : 1 ≤ a := by omega
          have a4 : (a == 0) = false := by simp [h0]
          have b4 : (b == 0) = false := by simp [h1]
          have hd := tdiv_le (a := b) (c := 1099511627776) (by omega : 0 < a)
          clear h0 h1
          rcases Int.lt_or_le (1099511627776 / a) b with h | h
          · have H : Hid (mulR a b = (0, false)) := by
              show _ = _; unfold mulR; rw [if_neg (by rw [Int.mul_comm a b]; simp; intros; omega)]
            clear hd
            go_enter Tryd.func21, Tryd.ntmps21
            go_wp2_with (go_at_call 32; refine (inRef_any _ _).mono ?_; rintro e w' ⟨rfl, rfl⟩)
            go_ret2
            exact ⟨by rw [H.out]; rfl, rfl⟩
          · have hm : a * b ≤ 1099511627776 := by rw [Int.mul_comm]; exact hd.1 h
            have hm0 : 0 ≤ a * b := Int.mul_nonneg a1 b1
            have H : Hid (mulR a b = (a * b, true)) := by show _ = _; unfold mulR; rw [ha, hb, decide_eq_true hm]; rfl
            clear hd
            go_enter Tryd.func21, Tryd.ntmps21
            go_wp2_with (go_at_call 32; refine (inRef_any _ _).mono ?_; rintro e w' ⟨rfl, rfl⟩)
            go_ret2
            exact ⟨by rw [H.out]; rfl, rfl⟩
theorem up_parts {a b : Int} (hb : 1 ≤ b) : (a / b * b < a → (a + b - 1) / b = a / b + 1) ∧ (a ≤ a / b * b → (a + b - 1) / b = a / b) := by
  have h1 := Int.mul_ediv_add_emod a b
  have h2 := Int.emod_nonneg a (show b ≠ 0 by omega)
  have h3 := Int.emod_lt_of_pos a (show 0 < b by omega)
  have e1 : a / b * b = b * (a / b) := Int.mul_comm _ _
  constructor
  · intro h
    rw [show a + b - 1 = (a % b - 1) + (a / b + 1) * b by rw [Int.add_mul]; omega, Int.add_mul_ediv_right _ _ (by omega), Int.ediv_eq_zero_of_lt (by omega) (by omega)]
    omega
  · intro h
    rw [show a + b - 1 = (b - 1) + (a / b) * b by omega, Int.add_mul_ediv_right _ _ (by omega), Int.ediv_eq_zero_of_lt (by omega) (by omega)]
    omega
theorem upRef_any (a b : Int) (w : World) : Calls Tryd.prog 54 #[.int .i64 a, .int .i64 b] w fun e w' => e = .returned (rv (upR a b)) ∧ w = w' := by
  cases ha : inB a
  · have H : Hid (upR a b = (0, false)) := by show _ = _; unfold upR; rw [ha]; rfl
    go_enter Tryd.func54, Tryd.ntmps54
    go_wp2_with (go_at_call 32; refine (inRef_any _ _).mono ?_; rintro e w' ⟨rfl, rfl⟩)
    go_ret2
    exact ⟨by rw [H.out]; rfl, rfl⟩
  · cases hb : inB b
    · have H : Hid (upR a b = (0, false)) := by show _ = _; unfold upR; rw [ha, hb]; rfl
      go_enter Tryd.func54, Tryd.ntmps54
      go_wp2_with (go_at_call 32; refine (inRef_any _ _).mono ?_; rintro e w' ⟨rfl, rfl⟩)
      go_ret2
      exact ⟨by rw [H.out]; rfl, rfl⟩
    · obtain ⟨a1, a2⟩ := inB_yes ha
      obtain ⟨b1, b2⟩ := inB_yes hb
      by_cases h0 : b = 0
      · subst h0
        have H : Hid (upR a 0 = (0, false)) := by show _ = _; unfold upR; rw [ha, hb]; rfl
        go_enter Tryd.func54, Tryd.ntmps54
        go_wp2_with (go_at_call 32; refine (inRef_any _ _).mono ?_; rintro e w' ⟨rfl, rfl⟩)
        go_ret2
        exact ⟨by rw [H.out]; rfl, rfl⟩
      · have b3 : 1 ≤ b := by omega
        have b4 : (b == 0) = false := by simp [h0]
        have H : Hid (upR a b = ((a + b - 1) / b, true)) := by show _ = _; unfold upR; rw [ha, hb, b4]; rfl
        clear h0
        have q0 : 0 ≤ a / b := Int.ediv_nonneg a1 (by omega)
        have q1 : a / b ≤ a := Int.ediv_le_self _ a1
        have q2 : 0 ≤ a / b * b := Int.mul_nonneg q0 b1
        have q3 : a / b * b ≤ a := Int.ediv_mul_le a (by omega)
        obtain ⟨u1, u2⟩ := up_parts (a := a) b3
        rcases Int.lt_or_le (a / b * b) a with h | h
        · have H2 := hid (u1 h)
          clear u1 u2
          go_enter Tryd.func54, Tryd.ntmps54
          go_wp2_with (go_at_call 32; refine (inRef_any _ _).mono ?_; rintro e w' ⟨rfl, rfl⟩)
          go_ret2
          exact ⟨by rw [H.out, H2.out]; rfl, rfl⟩
        · have H2 := hid (u2 h)
          clear u1 u2
          go_enter Tryd.func54, Tryd.ntmps54
          go_wp2_with (go_at_call 32; refine (inRef_any _ _).mono ?_; rintro e w' ⟨rfl, rfl⟩)
          go_ret2
          exact ⟨by rw [H.out, H2.out]; rfl, rfl⟩
theorem lessRef_any (a b : Int) (w : World) : Calls Tryd.prog 53 #[.int .i64 a, .int .i64 b] w fun e w' => e = .returned (rv (lessR a b)) ∧ w = w' := by
  cases ha : inB a
  · have H : Hid (lessR a b = (0, false)) := by show _ = _; unfold lessR; rw [ha]; rfl
    go_enter Tryd.func53, Tryd.ntmps53
    go_wp2_with (go_at_call 32; refine (inRef_any _ _).mono ?_; rintro e w' ⟨rfl, rfl⟩)
    go_ret2
    exact ⟨by rw [H.out]; rfl, rfl⟩
  · cases hb : inB b
    · have H : Hid (lessR a b = (0, false)) := by show _ = _; unfold lessR; rw [ha, hb]; rfl
      go_enter Tryd.func53, Tryd.ntmps53
      go_wp2_with (go_at_call 32; refine (inRef_any _ _).mono ?_; rintro e w' ⟨rfl, rfl⟩)
      go_ret2
      exact ⟨by rw [H.out]; rfl, rfl⟩
    · obtain ⟨a1, a2⟩ := inB_yes ha
      obtain ⟨b1, b2⟩ := inB_yes hb
      rcases Int.lt_or_le a b with h | h
      · have H : Hid (lessR a b = (0, true)) := by show _ = _; unfold lessR; rw [ha, hb]; simp; omega
        go_enter Tryd.func53, Tryd.ntmps53
        go_wp2_with (go_at_call 32; refine (inRef_any _ _).mono ?_; rintro e w' ⟨rfl, rfl⟩)
        go_ret2
        exact ⟨by rw [H.out]; rfl, rfl⟩
      · have H : Hid (lessR a b = (a - b, true)) := by show _ = _; unfold lessR; rw [ha, hb]; simp; omega
        go_enter Tryd.func53, Tryd.ntmps53
        go_wp2_with (go_at_call 32; refine (inRef_any _ _).mono ?_; rintro e w' ⟨rfl, rfl⟩)
        go_ret2
        exact ⟨by rw [H.out]; rfl, rfl⟩
/-! ### the chapter's examples -/
end Go.Proofs.YtijnpkbijljnlaaDoor
