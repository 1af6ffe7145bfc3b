/-
  The walks of layer 56's first laws: ServerTurns, ServerGets.
-/
import Derived.Test.YtcjdfgfnpmmcnaaServerRef
namespace Go.Proofs.Ytcjdfgfnpmmcnaa
open Go.RowKit
theorem kept {w w1 : World} {p : Addr} {v : Value} (c : w.cell? p = some v) (h : Below w.heap.size w w1) : w1.cell? p = some v := (h.cell (cell_lt c)).trans c
theorem within_5 (w : World) : Calls Try.prog 15 #[.agg #[.int .i64 10, .int .i64 4], .int .i64 5] w fun e w' => e = .returned (rv (23, true)) ∧ Below w.heap.size w w' := by
  have := within_any 10 4 5 w
  rwa [show sW 10 4 5 = (23, true) by decide] at this
theorem least_12 (w : World) : Calls Try.prog 16 #[.agg #[.int .i64 10, .int .i64 4], .int .i64 12] w fun e w' => e = .returned (.int .i64 0) ∧ Below w.heap.size w w' := by
  have := least_any 10 4 12 (by omega) w
  rwa [show sL 10 4 12 = 0 by decide] at this
theorem least_14 (w : World) : Calls Try.prog 16 #[.agg #[.int .i64 10, .int .i64 4], .int .i64 14] w fun e w' => e = .returned (.int .i64 2) ∧ Below w.heap.size w w' := by
  have := least_any 10 4 14 (by omega) w
  rwa [show sL 10 4 14 = 2 by decide] at this
theorem serverAlive_any (w : World) : Calls Try.prog 17 #[] w fun e w' => e = .returned (.bool true) ∧ Below w.heap.size w w' := by
  go_enter Try.func17, Try.ntmps17
  go_wp2_with fail
  refine (within_5 _).mono ?_
  rintro e w1 ⟨rfl, hb1⟩
  have c0 := (boxed2 hb1).1
  have c1 := (boxed2 hb1).2
  go_wp2_with fail
  refine (least_12 _).mono ?_
  rintro e w2 ⟨rfl, hb2⟩
  have d0 := kept c0 hb2
  have d1 := kept c1 hb2
  go_wp2_with fail
  refine (least_14 _).mono ?_
  rintro e w3 ⟨rfl, hb3⟩
  go_wp2_with fail
  go_ret
  have b1 := ((Below.refl w.heap.size w).alloc (Nat.le_refl _) (Obj.cells #[Value.int .i64 10, Value.int .i64 4] 23)).trans (hb1.mono (by simp))
  have b2 := b1.trans (hb2.mono b1.size)
  exact ⟨rfl, b2.trans (hb3.mono b2.size)⟩
set_option maxHeartbeats 2000000 in
theorem turns_walk (p b k : Int) (w : World) : Calls Try.prog 3 #[.agg #[.int .i64 p, .int .i64 b], .int .i64 k] w fun e w' => e = .returned (.bool true) ∧ Below w.heap.size w w' := by
  have HR := hid (refRight_any p b)
  by_cases h : sR p b = true ∧ 1 ≤ k ∧ k ≤ 65536
  · obtain ⟨h, h1, h2⟩ := h
    rw [h] at HR
    obtain ⟨s0, s1, s2⟩ := sN_spec h h1
    have HW := hid (within_any p b k)
    rw [show sW p b k = (sN p b k, decide (sN p b k ≤ 65536)) by unfold sW; rw [if_pos ⟨h, by omega, by omega⟩, if_neg (by omega)]] at HW
    have h3 : k ≤ sL p b (sN p b k + 1) := by
      have := cnt_mono (p := p) (b := b) (show (sN p b k).toNat ≤ (sN p b k + 1).toNat by omega)
      rw [cnt_least h, cnt_least h, show ((sN p b k).toNat : Int) = sN p b k by omega, show ((sN p b k + 1).toNat : Int) = sN p b k + 1 by omega] at this
      omega
    generalize sN p b k = n at HW s0 s1 s2 h3
    have e1 : decide (k < 1) = false := by simp; omega
    have e2 : decide (65536 < k) = false := by simp; omega
    have e3 : decide (k ≤ sL p b (n + 1)) = true := by simp; omega
    have e4 : decide (k - 1 < k) = true := by simp; omega
    have e5 : decide (k ≤ k) = true := by simp
    cases hd : decide (n ≤ 65536)
    · rw [hd] at HW
      go_enter Try.func3, Try.ntmps3
      go_wp2_with (first | (go_at_call 14; refine (HR.out _).mono ?_; rintro e w0 ⟨rfl, rfl⟩) | (go_at_call 15; refine (HW.out _).mono ?_; rintro e w1 ⟨rfl, hb1⟩; have c0 := (boxed2 hb1).1; have c1 := (boxed2 hb1).2))
      have d0 := Cls.cell c0
      have d1 := Cls.cell c1
      refine wp_region_cls (by kernel_rfl) (by kernel_rfl) ?_
      repeat (go_big_quiet_step ((go_at_call 17; exact Calls.cls _ (serverAlive_any _))))
      refine wpQuiet_nil ?_
      intro _ hw'
      obtain ⟨nq, rfl⟩ := hw'
      go_wp2
      go_ret
      exact ⟨rfl, (((Below.refl _ _).alloc (Nat.le_refl _) _).trans (hb1.mono (by simp))).trans (nq.below.mono (by have := hb1.size; simp at this; omega))⟩
    · rw [hd] at HW
      have hn : n ≤ 65536 := of_decide_eq_true hd
      go_enter Try.func3, Try.ntmps3
      go_wp2_with (first | (go_at_call 14; refine (HR.out _).mono ?_; rintro e w0 ⟨rfl, rfl⟩) | (go_at_call 15; refine (HW.out _).mono ?_; rintro e w1 ⟨rfl, hb1⟩; have c0 := (boxed2 hb1).1; have c1 := (boxed2 hb1).2))
      have d0 := Cls.cell c0
      have d1 := Cls.cell c1
      refine wp_region_cls (by kernel_rfl) (by kernel_rfl) ?_
      repeat (go_big_quiet_step ((first | (go_at_call 17; exact Calls.cls _ (serverAlive_any _)) | (go_at_call 16; exact Calls.cls _ (least_any _ _ _ (by omega) _)))))
      refine wpQuiet_nil ?_
      intro _ hw'
      obtain ⟨nq, rfl⟩ := hw'
      go_wp2
      go_ret
      exact ⟨rfl, (((Below.refl _ _).alloc (Nat.le_refl _) _).trans (hb1.mono (by simp))).trans (nq.below.mono (by have := hb1.size; simp at this; omega))⟩
  · cases hh : sR p b
    · rw [hh] at HR
      go_enter Try.func3, Try.ntmps3
      go_wp2_with (go_at_call 14; refine (HR.out _).mono ?_; rintro e w0 ⟨rfl, rfl⟩)
      go_ret
      exact ⟨rfl, (Below.refl _ _).alloc (Nat.le_refl _) _⟩
    · rw [hh] at HR
      rcases (show k < 1 ∨ 1 ≤ k ∧ 65536 < k by have : ¬ (1 ≤ k ∧ k ≤ 65536) := fun e => h ⟨hh, e⟩; omega) with h1 | ⟨h1, h2⟩
      all_goals
        go_enter Try.func3, Try.ntmps3
        go_wp2_with (go_at_call 14; refine (HR.out _).mono ?_; rintro e w0 ⟨rfl, rfl⟩)
        go_ret
        exact ⟨rfl, (Below.refl _ _).alloc (Nat.le_refl _) _⟩
end Go.Proofs.Ytcjdfgfnpmmcnaa
