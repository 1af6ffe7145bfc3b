/-
  The walk of ServerGets.
-/
import Derived.Test.YtcjdfgfnpmmcnaaServerTurns
namespace Go.Proofs.Ytcjdfgfnpmmcnaa
open Go.RowKit
theorem task_any (p b : Int) (w : World) : Calls Try.prog 20 #[.agg #[.int .i64 p, .int .i64 b]] w fun e w' => e = .returned (.agg #[.int .i64 p, .int .i64 p, .int .i64 b, .int .i64 0, .int .i64 0, .int .i64 0, .int .i64 0, .int .i64 0, .int .i64 0, .int .i64 0, .int .i64 0]) ∧ Below w.heap.size w w' := by
  go_enter Try.func20, Try.ntmps20
  go_wp2
  exact bodyPost_ret (v := .agg #[.int .i64 p, .int .i64 p, .int .i64 b, .int .i64 0, .int .i64 0, .int .i64 0, .int .i64 0, .int .i64 0, .int .i64 0, .int .i64 0, .int .i64 0]) (by simp [results, Try.results20, go_sem]) rfl ⟨rfl, (((Below.refl w.heap.size w).alloc (Nat.le_refl _) _).alloc (by simp) _)⟩
theorem run_eq_zeros (w : World) : (Op.equalIn 9999 31 (.agg #[.int .i64 0, .int .i64 0, .int .i64 0, .int .i64 0, .int .i64 0, .int .i64 0, .int .i64 0, .int .i64 0]) (.agg #[.int .i64 0, .int .i64 0, .int .i64 0, .int .i64 0, .int .i64 0, .int .i64 0, .int .i64 0, .int .i64 0])).run Try.prog w = .ok true w := by kernel_rfl
attribute [local go_sem] run_eq_zeros
theorem run_neq_task (p b : Int) (w : World) : (binOp .neq 33 (.agg #[.int .i64 p, .int .i64 p, .int .i64 b, .int .i64 0, .int .i64 0, .int .i64 0, .int .i64 0, .int .i64 0, .int .i64 0, .int .i64 0, .int .i64 0]) (.agg #[.int .i64 p, .int .i64 p, .int .i64 b, .int .i64 0, .int .i64 0, .int .i64 0, .int .i64 0, .int .i64 0, .int .i64 0, .int .i64 0, .int .i64 0])).run Try.prog w = .ok (.bool false) w := by
  simp [go_sem]
attribute [local go_sem high] run_neq_task
theorem sL_not {p b t : Int} (h : sR p b = false) : sL p b t = 0 := by
  unfold sL; rw [h]; simp
theorem sW_not {p b k : Int} (h : sR p b = false ∨ k < 0 ∨ 65536 < k) : sW p b k = (0, false) := by
  unfold sW
  rw [if_neg]
  rintro ⟨h1, h2, h3⟩
  rcases h with h | h | h
  · rw [h] at h1; cases h1
  · omega
  · omega
theorem sW_is {p b k : Int} (h : sR p b = true) (h0 : 0 ≤ k) (h1 : k ≤ 65536) : (∃ n, sW p b k = (n, true) ∧ sWr p b k = (n, true)) ∨ (∃ n, sW p b k = (n, false) ∧ sWr p b k = (0, false)) := by
  unfold sW sWr
  rw [if_pos ⟨h, h0, h1⟩]
  by_cases hk : k = 0
  · rw [if_pos hk, if_pos hk]; exact .inl ⟨0, rfl, rfl⟩
  · rw [if_neg hk, if_neg hk]
    by_cases hn : sN p b k ≤ 65536
    · rw [if_pos hn, decide_eq_true hn]; exact .inl ⟨_, rfl, rfl⟩
    · rw [if_neg hn, decide_eq_false hn]; exact .inr ⟨_, rfl, rfl⟩
set_option maxHeartbeats 2000000 in
set_option maxRecDepth 100000 in
theorem gets_walk (p b t k : Int) (w : World) : Calls Try.prog 4 #[.agg #[.int .i64 p, .int .i64 b], .int .i64 t, .int .i64 k] w fun e w' => e = .returned (.bool true) ∧ Below w.heap.size w w' := by
  by_cases ht : 5000 < t
  · go_enter Try.func4, Try.ntmps4
    go_wp2
    go_ret
    exact ⟨rfl, (Below.refl _ _).alloc (Nat.le_refl _) _⟩
  · have e0 : decide (5000 < t) = false := by simp; omega
    have HR := hid (refRight_any p b)
    have HR2 := hid (right_any p b)
    have HW := hid (within_any p b k)
    have HL := hid (least_any p b t (by omega))
    cases h : sR p b
    · rw [h] at HR HR2
      rw [sW_not (.inl h)] at HW
      rw [sL_not h] at HL
      go_enter Try.func4, Try.ntmps4
      go_wp2_with (first | (go_at_call 14; refine (HR.out _).mono ?_; rintro e w0 ⟨rfl, rfl⟩) | (go_at_call 15; refine (HW.out _).mono ?_; rintro e w1 ⟨rfl, hb1⟩; have c0 := (boxed2 hb1).1; have c1 := (boxed2 hb1).2))
      have d0 := Cls.cell c0
      have d1 := Cls.cell c1
      refine wp_region_cls (by kernel_rfl) (by kernel_rfl) ?_
      repeat (go_big_quiet_step ((first | (go_at_call 19; exact Calls.cls _ (HR2.out _)) | (go_at_call 16; exact Calls.cls _ (HL.out _)) | (go_at_call 20; exact Calls.cls _ (task_any _ _ _)))))
      refine wpQuiet_nil ?_
      intro _ hw'
      obtain ⟨nq, rfl⟩ := hw'
      go_wp2_with (go_at_call 17; refine (serverAlive_any _).mono ?_; rintro e w3 ⟨rfl, hb3⟩)
      go_ret
      have b1 := ((Below.refl w.heap.size w).alloc (Nat.le_refl _) (Obj.cells #[Value.int .i64 p, Value.int .i64 b] 23)).trans (hb1.mono (by simp))
      have b2 := b1.trans (nq.below.mono b1.size)
      exact ⟨rfl, b2.trans (hb3.mono b2.size)⟩
    · rw [h] at HR HR2
      by_cases hk : 0 ≤ k ∧ k ≤ 65536
      · have HM := hid (refWithin_any p b k)
        have HG := hid (refLeast_any p b t)
        generalize sL p b t = v at HL HG
        have e1 : decide (k < 0) = false := by simp; omega
        have e2 : decide (65536 < k) = false := by simp; omega
        rcases sW_is h hk.1 hk.2 with ⟨n, e3, e4⟩ | ⟨n, e3, e4⟩
        all_goals
          rw [e3] at HW
          rw [e4] at HM
          clear e3 e4
          go_enter Try.func4, Try.ntmps4
          go_wp2_with (first | (go_at_call 14; refine (HR.out _).mono ?_; rintro e w0 ⟨rfl, rfl⟩) | (go_at_call 18; refine (HG.out _ h (by omega)).mono ?_; rintro e w0 ⟨rfl, rfl⟩) | (go_at_call 15; refine (HW.out _).mono ?_; rintro e w1 ⟨rfl, hb1⟩; have c0 := (boxed2 hb1).1; have c1 := (boxed2 hb1).2))
          have d0 := Cls.cell c0
          have d1 := Cls.cell c1
          refine wp_region_cls (by kernel_rfl) (by kernel_rfl) ?_
          repeat (go_big_quiet_step ((first | (go_at_call 19; exact Calls.cls _ (HR2.out _)) | (go_at_call 16; exact Calls.cls _ (HL.out _)) | (go_at_call 20; exact Calls.cls _ (task_any _ _ _)))))
          refine wpQuiet_nil ?_
          intro _ hw'
          obtain ⟨nq, rfl⟩ := hw'
          have c0 := d0 nq
          have c1 := d1 nq
          go_wp2_with (first | (go_at_call 21; refine (HM.out _ h hk.1 hk.2).mono ?_; rintro e w2 ⟨rfl, rfl⟩) | (go_at_call 17; refine (serverAlive_any _).mono ?_; rintro e w3 ⟨rfl, hb3⟩))
          go_ret
          have b1 := ((Below.refl w.heap.size w).alloc (Nat.le_refl _) (Obj.cells #[Value.int .i64 p, Value.int .i64 b] 23)).trans (hb1.mono (by simp))
          have b2 := b1.trans (nq.below.mono b1.size)
          exact ⟨rfl, b2.trans (hb3.mono b2.size)⟩
      · rw [sW_not (by omega)] at HW
        have HG := hid (refLeast_any p b t)
        generalize sL p b t = v at HL HG
        rcases (show k < 0 ∨ 0 ≤ k ∧ 65536 < k by omega) with h1 | ⟨h1, h2⟩
        all_goals
          go_enter Try.func4, Try.ntmps4
          go_wp2_with (first | (go_at_call 14; refine (HR.out _).mono ?_; rintro e w0 ⟨rfl, rfl⟩) | (go_at_call 18; refine (HG.out _ h (by omega)).mono ?_; rintro e w0 ⟨rfl, rfl⟩) | (go_at_call 15; refine (HW.out _).mono ?_; rintro e w1 ⟨rfl, hb1⟩; have c0 := (boxed2 hb1).1; have c1 := (boxed2 hb1).2))
          have d0 := Cls.cell c0
          have d1 := Cls.cell c1
          refine wp_region_cls (by kernel_rfl) (by kernel_rfl) ?_
          repeat (go_big_quiet_step ((first | (go_at_call 19; exact Calls.cls _ (HR2.out _)) | (go_at_call 16; exact Calls.cls _ (HL.out _)) | (go_at_call 20; exact Calls.cls _ (task_any _ _ _)))))
          refine wpQuiet_nil ?_
          intro _ hw'
          obtain ⟨nq, rfl⟩ := hw'
          go_wp2_with (go_at_call 17; refine (serverAlive_any _).mono ?_; rintro e w3 ⟨rfl, hb3⟩)
          go_ret
          have b1 := ((Below.refl w.heap.size w).alloc (Nat.le_refl _) (Obj.cells #[Value.int .i64 p, Value.int .i64 b] 23)).trans (hb1.mono (by simp))
          have b2 := b1.trans (nq.below.mono b1.size)
          exact ⟨rfl, b2.trans (hb3.mono b2.size)⟩
end Go.Proofs.Ytcjdfgfnpmmcnaa
