/-
  Contracts of the package check: numbers from 0 to 2^40.
-/
import Derived.Test.YtijnpkbijljnlaaDoorKit
namespace Go.Proofs.YtijnpkbijljnlaaDoor
open Go.RowKit
/-- Is it a number with which one reckons? -/
def inB (n : Int) : Bool := decide (0 ≤ n ∧ n ≤ 1099511627776)
theorem inB_yes {n : Int} (h : inB n = true) : 0 ≤ n ∧ n ≤ 1099511627776 := of_decide_eq_true h
theorem inB_no {n : Int} (h : inB n = false) : n < 0 ∨ 1099511627776 < n := by
  have := of_decide_eq_false h; omega
theorem inB_mk {n : Int} (h1 : 0 ≤ n) (h2 : n ≤ 1099511627776) : inB n = true := decide_eq_true ⟨h1, h2⟩
theorem inB_not {n : Int} (h : n < 0 ∨ 1099511627776 < n) : inB n = false := decide_eq_false (by omega)
@[go_sem] def rv (r : Int × Bool) : Value := .tuple #[.int .i64 r.1, .bool r.2]
def addR (a b : Int) : Int × Bool := if inB a && inB b && decide (a + b ≤ 1099511627776) then (a + b, true) else (0, false)
def mulR (a b : Int) : Int × Bool := if inB a && inB b && decide (a * b ≤ 1099511627776) then (a * b, true) else (0, false)
def upR (a b : Int) : Int × Bool := if inB a && inB b && !(b == 0) then ((a + b - 1) / b, true) else (0, false)
def lessR (a b : Int) : Int × Bool := if inB a && inB b then (max (a - b) 0, true) else (0, false)
theorem in_any (n : Int) (w : World) : Calls Tryd.prog 44 #[.int .i64 n] w fun e w' => e = .returned (.bool (inB n)) ∧ w = w' := by
  cases h : inB n
  · have H := hid h
    have h' := inB_no h
    clear h
    rcases Int.lt_or_le n 0 with h1 | h1
    · go_enter Tryd.func44, Tryd.ntmps44
      go_wp2
      go_ret
      exact ⟨by rfl, rfl⟩
    · have h2 : decide (n ≤ 1099511627776) = false := by simp; omega
      go_enter Tryd.func44, Tryd.ntmps44
      go_wp2
      go_ret
      exact ⟨by rfl, rfl⟩
  · have H := hid h
    have h' := inB_yes h
    obtain ⟨h1, h2⟩ := h'
    clear h
    go_enter Tryd.func44, Tryd.ntmps44
    go_wp2
    go_ret
    exact ⟨by rfl, rfl⟩
theorem tdiv_le {a b c : Int} (hb : 0 < b) : a ≤ c / b ↔ a * b ≤ c := Int.le_ediv_iff_mul_le hb
theorem add_any (a b : Int) (w : World) : Calls Tryd.prog 37 #[.int .i64 a, .int .i64 b] w fun e w' => e = .returned (rv (addR a b)) ∧ w = w' := by
  cases ha : inB a
  · have H : Hid (addR a b = (0, false)) := by show _ = _; unfold addR; rw [ha]; rfl
    go_enter Tryd.func37, Tryd.ntmps37
    go_wp2_with (go_at_call 44; refine (in_any _ _).mono ?_; rintro e w' ⟨rfl, rfl⟩)
    go_ret2
    exact ⟨by rw [H.out]; rfl, rfl⟩
  · cases hb : inB b
    · have H : Hid (addR a b = (0, false)) := by show _ = _; unfold addR; rw [ha, hb]; rfl
      go_enter Tryd.func37, Tryd.ntmps37
      go_wp2_with (go_at_call 44; refine (in_any _ _).mono ?_; rintro e w' ⟨rfl, rfl⟩)
      go_ret2
      exact ⟨by rw [H.out]; rfl, rfl⟩
    · obtain ⟨a1, a2⟩ := inB_yes ha
      obtain ⟨b1, b2⟩ := inB_yes hb
      rcases Int.lt_or_le 1099511627776 (a + b) with h | h
      · have H : Hid (addR a b = (0, false)) := by show _ = _; unfold addR; rw [if_neg (by simp; intros; omega)]
        have h' : 1099511627776 - a < b := by omega
        go_enter Tryd.func37, Tryd.ntmps37
        go_wp2_with (go_at_call 44; refine (in_any _ _).mono ?_; rintro e w' ⟨rfl, rfl⟩)
        go_ret2
        exact ⟨by rw [H.out]; rfl, rfl⟩
      · have H : Hid (addR a b = (a + b, true)) := by show _ = _; unfold addR; rw [ha, hb, decide_eq_true h]; rfl
        have h' : b ≤ 1099511627776 - a := by omega
        go_enter Tryd.func37, Tryd.ntmps37
        go_wp2_with (go_at_call 44; refine (in_any _ _).mono ?_; rintro e w' ⟨rfl, rfl⟩)
        go_ret2
        exact ⟨by rw [H.out]; rfl, rfl⟩
theorem mul_any (a b : Int) (w : World) : Calls Tryd.prog 33 #[.int .i64 a, .int .i64 b] w fun e w' => e = .returned (rv (mulR a b)) ∧ w = w' := by
  cases ha : inB a
  · have H : Hid (mulR a b = (0, false)) := by show _ = _; unfold mulR; rw [ha]; rfl
    go_enter Tryd.func33, Tryd.ntmps33
    go_wp2_with (go_at_call 44; refine (in_any _ _).mono ?_; rintro e w' ⟨rfl, rfl⟩)
    go_ret2
    exact ⟨by rw [H.out]; rfl, rfl⟩
  · cases hb : inB b
    · have H : Hid (mulR a b = (0, false)) := by show _ = _; unfold mulR; rw [ha, hb]; rfl
      go_enter Tryd.func33, Tryd.ntmps33
      go_wp2_with (go_at_call 44; refine (in_any _ _).mono ?_; rintro e w' ⟨rfl, rfl⟩)
      go_ret2
      exact ⟨by rw [H.out]; rfl, rfl⟩
    · obtain ⟨a1, a2⟩ := inB_yes ha
      obtain ⟨b1, b2⟩ := inB_yes hb
      by_cases h0 : b = 0
      · subst h0
        have H : Hid (mulR a 0 = (0, true)) := by show _ = _; unfold mulR; rw [ha, hb]; simp
        go_enter Tryd.func33, Tryd.ntmps33
        go_wp2_with (go_at_call 44; refine (in_any _ _).mono ?_; rintro e w' ⟨rfl, rfl⟩)
        go_ret2
        exact ⟨by rw [H.out]; rfl, rfl⟩
      · have b3 : 1 ≤ b := by omega
        have b4 : (b == 0) = false := by simp [h0]
        have b5 : (b != 0) = true := by simp [h0]
        have hd := tdiv_le (a := a) (c := 1099511627776) (by omega : 0 < b)
        clear h0
        rcases Int.lt_or_le (1099511627776 / b) a with h | h
        · have H : Hid (mulR a b = (0, false)) := by
            show _ = _; unfold mulR; rw [if_neg (by simp; intros; omega)]
          clear hd
          go_enter Tryd.func33, Tryd.ntmps33
          go_wp2_with (go_at_call 44; refine (in_any _ _).mono ?_; rintro e w' ⟨rfl, rfl⟩)
          go_ret2
          exact ⟨by rw [H.out]; rfl, rfl⟩
        · have hm : a * b ≤ 1099511627776 := hd.1 h
          have hm0 : 0 ≤ a * b := Int.mul_nonneg a1 b1
          have H : Hid (mulR a b = (a * b, true)) := by show _ = _; unfold mulR; rw [ha, hb, decide_eq_true hm]; rfl
          clear hd
          go_enter Tryd.func33, Tryd.ntmps33
          go_wp2_with (go_at_call 44; refine (in_any _ _).mono ?_; rintro e w' ⟨rfl, rfl⟩)
          go_ret2
          exact ⟨by rw [H.out]; rfl, rfl⟩
theorem up_eq {a b : Int} (hb : 1 ≤ b) : (a - 1) / b + 1 = (a + b - 1) / b := by
  rw [show a + b - 1 = (a - 1) + 1 * b by omega, Int.add_mul_ediv_right _ _ (by omega)]
theorem up_zero {b : Int} (hb : 1 ≤ b) : (0 + b - 1) / b = 0 := Int.ediv_eq_zero_of_lt (by omega) (by omega)
theorem up_any (a b : Int) (w : World) : Calls Tryd.prog 29 #[.int .i64 a, .int .i64 b] w fun e w' => e = .returned (rv (upR a b)) ∧ w = w' := by
  cases ha : inB a
  · have H : Hid (upR a b = (0, false)) := by show _ = _; unfold upR; rw [ha]; rfl
    go_enter Tryd.func29, Tryd.ntmps29
    go_wp2_with (go_at_call 44; refine (in_any _ _).mono ?_; rintro e w' ⟨rfl, rfl⟩)
    go_ret2
    exact ⟨by rw [H.out]; rfl, rfl⟩
  · cases hb : inB b
    · have H : Hid (upR a b = (0, false)) := by show _ = _; unfold upR; rw [ha, hb]; rfl
      go_enter Tryd.func29, Tryd.ntmps29
      go_wp2_with (go_at_call 44; refine (in_any _ _).mono ?_; rintro e w' ⟨rfl, rfl⟩)
      go_ret2
      exact ⟨by rw [H.out]; rfl, rfl⟩
    · obtain ⟨a1, a2⟩ := inB_yes ha
      obtain ⟨b1, b2⟩ := inB_yes hb
      by_cases h0 : b = 0
      · subst h0
        have H : Hid (upR a 0 = (0, false)) := by show _ = _; unfold upR; rw [ha, hb]; rfl
        go_enter Tryd.func29, Tryd.ntmps29
        go_wp2_with (go_at_call 44; refine (in_any _ _).mono ?_; rintro e w' ⟨rfl, rfl⟩)
        go_ret2
        exact ⟨by rw [H.out]; rfl, rfl⟩
      · have b3 : 1 ≤ b := by omega
        have b4 : (b == 0) = false := by simp [h0]
        have b5 : (b != 0) = true := by simp [h0]
        have H : Hid (upR a b = ((a + b - 1) / b, true)) := by show _ = _; unfold upR; rw [ha, hb, b4]; rfl
        clear h0
        by_cases h1 : a = 0
        · subst h1
          have H2 := hid (up_zero b3)
          go_enter Tryd.func29, Tryd.ntmps29
          go_wp2_with (go_at_call 44; refine (in_any _ _).mono ?_; rintro e w' ⟨rfl, rfl⟩)
          go_ret2
          exact ⟨by rw [H.out, H2.out]; rfl, rfl⟩
        · have a3 : 1 ≤ a := by omega
          have a4 : (a == 0) = false := by simp [h1]
          have H2 := hid (up_eq (a := a) b3)
          have q0 : 0 ≤ (a - 1) / b := Int.ediv_nonneg (by omega) (by omega)
          have q1 : (a - 1) / b ≤ a - 1 := Int.ediv_le_self _ (by omega)
          clear h1
          go_enter Tryd.func29, Tryd.ntmps29
          go_wp2_with (go_at_call 44; refine (in_any _ _).mono ?_; rintro e w' ⟨rfl, rfl⟩)
          go_ret2
          exact ⟨by rw [H.out, ← H2.out]; rfl, rfl⟩
theorem less_any (a b : Int) (w : World) : Calls Tryd.prog 36 #[.int .i64 a, .int .i64 b] w fun e w' => e = .returned (rv (lessR a b)) ∧ w = w' := by
  cases ha : inB a
  · have H : Hid (lessR a b = (0, false)) := by show _ = _; unfold lessR; rw [ha]; rfl
    go_enter Tryd.func36, Tryd.ntmps36
    go_wp2_with (go_at_call 44; refine (in_any _ _).mono ?_; rintro e w' ⟨rfl, rfl⟩)
    go_ret2
    exact ⟨by rw [H.out]; rfl, rfl⟩
  · cases hb : inB b
    · have H : Hid (lessR a b = (0, false)) := by show _ = _; unfold lessR; rw [ha, hb]; rfl
      go_enter Tryd.func36, Tryd.ntmps36
      go_wp2_with (go_at_call 44; refine (in_any _ _).mono ?_; rintro e w' ⟨rfl, rfl⟩)
      go_ret2
      exact ⟨by rw [H.out]; rfl, rfl⟩
    · obtain ⟨a1, a2⟩ := inB_yes ha
      obtain ⟨b1, b2⟩ := inB_yes hb
      rcases Int.lt_or_le a b with h | h
      · have H : Hid (lessR a b = (0, true)) := by show _ = _; unfold lessR; rw [ha, hb]; simp; omega
        have h' : a - b < 0 := by omega
        go_enter Tryd.func36, Tryd.ntmps36
        go_wp2_with (go_at_call 44; refine (in_any _ _).mono ?_; rintro e w' ⟨rfl, rfl⟩)
        go_ret2
        exact ⟨by rw [H.out]; rfl, rfl⟩
      · have H : Hid (lessR a b = (a - b, true)) := by show _ = _; unfold lessR; rw [ha, hb]; simp; omega
        have h' : 0 ≤ a - b := by omega
        go_enter Tryd.func36, Tryd.ntmps36
        go_wp2_with (go_at_call 44; refine (in_any _ _).mono ?_; rintro e w' ⟨rfl, rfl⟩)
        go_ret2
        exact ⟨by rw [H.out]; rfl, rfl⟩
end Go.Proofs.YtijnpkbijljnlaaDoor
