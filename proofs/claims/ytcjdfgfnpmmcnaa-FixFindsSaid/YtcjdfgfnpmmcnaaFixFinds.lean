/-
  The walk of FixFinds.
-/
import Derived.Test.YtcjdfgfnpmmcnaaFixAlive
namespace Go.Proofs.Ytcjdfgfnpmmcnaa
open Go.RowKit
theorem leastR_some {own most : Int} {f : Nat → TT} {n : Nat} {x : Int} {m : Nat} (h0 : 0 ≤ own) (h : run (fun w => stepR own w f n) most (max own 1) 0 = some (x, m)) : leastR own most f n = (x, true) ∧ stepsR own most f n = ((m : Int), true) := by
  unfold leastR stepsR
  rw [if_neg (by omega), if_neg (by omega), h]; exact ⟨rfl, rfl⟩
theorem leastR_none {own most : Int} {f : Nat → TT} {n : Nat} (h : 0 ≤ own → run (fun w => stepR own w f n) most (max own 1) 0 = none) : leastR own most f n = (0, false) ∧ stepsR own most f n = (0, false) := by
  unfold leastR stepsR
  by_cases h0 : own < 0
  · rw [if_pos h0, if_pos h0]; exact ⟨rfl, rfl⟩
  · rw [if_neg h0, if_neg h0, h (by omega)]; exact ⟨rfl, rfl⟩
set_option maxRecDepth 100000 in
set_option maxHeartbeats 4000000 in
theorem finds_walk (ao : Option Addr) (n cap : Nat) (f : Nat → TT) (own most : Int) (w : World) (hT : Terms w ao n f) (hm : n ≤ maxLen) (ho : own ≤ 9223372036854775807) :
    Calls Try.prog 7 #[.int .i64 own, .int .i64 most, .slice ao n cap] w fun e w' => e = .returned (.bool true) ∧ Below w.heap.size w w' := by
  unfold maxLen at hm
  by_cases h : 20 < n ∨ n ≤ 20 ∧ 5000 < most
  · rcases h with h | ⟨h, h2⟩
    all_goals
      go_enter Try.func7, Try.ntmps7
      go_wp2
      go_ret
      exact ⟨rfl, Below.refl _ _⟩
  · have h1 : decide (20 < (n : Int)) = false := by simp; omega
    have h2 : decide (5000 < most) = false := by simp; omega
    have hn : n ≤ 20 := by omega
    have hmo : most ≤ 5000 := by omega
    clear hm h
    have HPl := hid (plain_any ao n cap f w hT (by omega))
    have HL : Hid (∀ W, Terms W ao n f → Calls Try.prog 30 #[.int .i64 own, .int .i64 most, .slice ao n cap] W fun e w' => e = .returned (rv (leastR own most f n)) ∧ Below W.heap.size W w') := fun W hW => fixLeast_any ao n cap f own most W (by omega) hW ho
    have HS : Hid (∀ W, Terms W ao n f → Calls Try.prog 31 #[.int .i64 own, .int .i64 most, .slice ao n cap] W fun e w' => e = .returned (rv (stepsR own most f n)) ∧ Below W.heap.size W w') := fun W hW => fixSteps_any ao n cap f own most W (by omega) hW hmo ho
    have HD : Hid (∀ W, Terms W ao n f → Calls Try.prog 32 #[.int .i64 own, .int .i64 most, .slice ao n cap] W fun e w' => e = .returned (.bool ((stepR own most f n).2 && decide ((stepR own most f n).1 ≤ most))) ∧ Below W.heap.size W w') := fun W hW => fixDone_any ao n cap f own most W (by omega) hW
    have HP : Hid (∀ xo xc W, Terms W xo n f → Calls Try.prog 29 #[.int .i64 own, .int .i64 most, .slice xo n xc] W fun e w' => e = .returned (rv (stepR own most f n)) ∧ Below W.heap.size W w') := fun xo xc W hW => lstep_any xo n xc f own most W (by omega) hW
    have HQ : Hid (∀ xo xc x W, Terms W xo n f → Calls Try.prog 29 #[.int .i64 own, .int .i64 x, .slice xo n xc] W fun e w' => e = .returned (rv (stepR own x f n)) ∧ Below W.heap.size W w') := fun xo xc x W hW => lstep_any xo n xc f own x W (by omega) hW
    obtain ⟨⟨d, fits⟩, hd⟩ : ∃ y, stepR own most f n = y := ⟨_, rfl⟩
    rw [hd] at HD HP
    clear hd
    have hfd : ∃ z, (fits && decide (d ≤ most)) = z := ⟨_, rfl⟩
    cases fits
    all_goals
      cases hdm : decide (d ≤ most)
      all_goals
        simp only [hdm, Bool.and_true, Bool.and_false] at HD
        rcases (show max own 1 = 1 ∧ own < 1 ∨ max own 1 = own ∧ 1 ≤ own by omega) with ⟨hx, hx2⟩ | ⟨hx, hx2⟩
        all_goals
          have HF1 : Hid (∀ x m, 0 ≤ own → run (fun w => stepR own w f n) most (max own 1) 0 = some (x, m) → leastR own most f n = (x, true) ∧ stepsR own most f n = ((m : Int), true)) := fun x m h h' => leastR_some h h'
          have HF0 : Hid ((0 ≤ own → run (fun w => stepR own w f n) most (max own 1) 0 = none) → leastR own most f n = (0, false) ∧ stepsR own most f n = (0, false)) := leastR_none
          go_enter Try.func7, Try.ntmps7
          go_wp2_with (go_at_call 24; refine HPl.out.mono ?_; rintro e w1 ⟨v, rfl, hown, hb1⟩)
          obtain ⟨xo, xc, rfl, hX⟩ := terms_of_own hown
          clear hown HPl
          have HP := hid (HP.out xo xc)
          have HQ := hid (HQ.out xo xc)
          go_loopw [8, 9, 10, 11, 12] (fun a m b _ _ wr => ∃ x : Int, ∃ many : Nat, ∃ fd : Bool, a = .int .i64 x ∧ m = .int .i64 many ∧ b = .bool fd ∧ Hid (fd = true → leastR own most f n = (x, true) ∧ stepsR own most f n = ((many : Int), true)) ∧ Hid (fd = false → own < 0 ∨ (0 ≤ own ∧ run (fun w => stepR own w f n) most (max own 1) 0 = run (fun w => stepR own w f n) most x many ∧ (many : Int) < x)) ∧ Below w1.heap.size w1 wr) (fun a _ b _ _ _ => match b with | .bool true => 0 | _ => (most + 1 - intOf a).toNat + 1)
          case atStart => exact ⟨_, 0, false, rfl, rfl, rfl, (fun h => by cases h), (fun _ => by
            rcases Int.lt_or_le own 0 with h | h
            · exact .inl h
            · exact .inr ⟨h, by rw [hx], by omega⟩), Below.refl _ _⟩
          case round =>
            obtain ⟨x, many, fd, rfl, rfl, rfl, K1, K0, hbr⟩ := hrel
            cases fd
            · rcases K0.out rfl with h0 | ⟨h0, hrun, hmx⟩
              · obtain ⟨e1, e2⟩ := HF0.out (fun h => by omega)
                rw [e1] at HL
                rw [e2] at HS
                clear e1 e2 HF0 HF1 K0 K1 hx
                try (exfalso; omega)
                all_goals
                  have hTr := (hT.below hb1).below hbr
                  have hXr := hX.below hbr
                  go_wp2_with (first | (go_at_call 30; refine (HL.out _ hTr).mono ?_; rintro e w2 ⟨rfl, hb2⟩; have hT2 := hTr.below hb2; have hX2 := hXr.below hb2) | (go_at_call 31; refine (HS.out _ hT2).mono ?_; rintro e w3 ⟨rfl, hb3⟩; have hT3 := hT2.below hb3; have hX3 := hX2.below hb3) | (go_at_call 29; refine (HP.out _ hX3).mono ?_; rintro e w4 ⟨rfl, hb4⟩; have hT4 := hT3.below hb4) | (go_at_call 32; refine (HD.out _ hT4).mono ?_; rintro e w5 ⟨rfl, hb5⟩) | (go_at_call 33; refine (fixAlive_any _).mono ?_; rintro e w6 ⟨rfl, hb6⟩))
                  go_ret
                  have b1 := hb1.trans (hbr.mono hb1.size)
                  have b2 := b1.trans (hb2.mono b1.size)
                  have b3 := b2.trans (hb3.mono b2.size)
                  have b4 := b3.trans (hb4.mono b3.size)
                  have b5 := b4.trans (hb5.mono b4.size)
                  exact ⟨rfl, b5.trans (hb6.mono b5.size)⟩
              · have h0d : decide (0 ≤ own) = true := by simp; omega
                by_cases hlt : x ≤ most
                · have HRun := hid hrun
                  clear hrun K0 K1
                  have HN : Hid ((stepR own x f n).2 = false → run (fun w => stepR own w f n) most x many = none) := fun h => run_none hlt h
                  have HSm : Hid ((stepR own x f n).2 = true → (stepR own x f n).1 ≤ x → run (fun w => stepR own w f n) most x many = some (x, many + 1)) := fun h h2 => run_some hlt h h2
                  have HG : Hid ((stepR own x f n).2 = true → x < (stepR own x f n).1 → run (fun w => stepR own w f n) most x many = run (fun w => stepR own w f n) most (stepR own x f n).1 (many + 1)) := fun h h2 => run_on hlt h h2
                  have HW := hid (HQ.out x wr (hX.below hbr))
                  obtain ⟨⟨r, ok⟩, hy⟩ : ∃ y, stepR own x f n = y := ⟨_, rfl⟩
                  rw [hy] at HN HSm HG HW
                  cases ok
                  · obtain ⟨e1, e2⟩ := HF0.out (fun _ => HRun.out.trans (HN.out rfl))
                    rw [e1] at HL
                    rw [e2] at HS
                    clear e1 e2 HF0 HF1 HN HSm HG hy hx
                    go_wp2_with fail
                    refine HW.out.mono ?_
                    rintro e wq ⟨rfl, hbq⟩
                    have hbr := hbr.trans (hbq.mono hbr.size)
                    clear HW
                    have hTr := (hT.below hb1).below hbr
                    have hXr := hX.below hbr
                    go_wp2_with (first | (go_at_call 30; refine (HL.out _ hTr).mono ?_; rintro e w2 ⟨rfl, hb2⟩; have hT2 := hTr.below hb2; have hX2 := hXr.below hb2) | (go_at_call 31; refine (HS.out _ hT2).mono ?_; rintro e w3 ⟨rfl, hb3⟩; have hT3 := hT2.below hb3; have hX3 := hX2.below hb3) | (go_at_call 29; refine (HP.out _ hX3).mono ?_; rintro e w4 ⟨rfl, hb4⟩; have hT4 := hT3.below hb4) | (go_at_call 32; refine (HD.out _ hT4).mono ?_; rintro e w5 ⟨rfl, hb5⟩) | (go_at_call 33; refine (fixAlive_any _).mono ?_; rintro e w6 ⟨rfl, hb6⟩))
                    go_ret
                    have b1 := hb1.trans (hbr.mono hb1.size)
                    have b2 := b1.trans (hb2.mono b1.size)
                    have b3 := b2.trans (hb3.mono b2.size)
                    have b4 := b3.trans (hb4.mono b3.size)
                    have b5 := b4.trans (hb5.mono b4.size)
                    exact ⟨rfl, b5.trans (hb6.mono b5.size)⟩
                  · by_cases hle : r ≤ x
                    · have HE := hid (HF1.out x (many + 1) h0 (HRun.out.trans (HSm.out rfl hle)))
                      have hrd : decide (r ≤ x) = true := by simp; omega
                      clear HN HSm HG hy hx
                      go_wp2_with (go_at_call 29; refine HW.out.mono ?_; rintro e wq ⟨rfl, hbq⟩)
                      go_roundw
                      case rel => exact ⟨x, many + 1, true, rfl, by go_num, rfl, (fun _ => HE.out), (fun h => by cases h), hbr.trans (hbq.mono hbr.size)⟩
                      case measure => simp
                    · have HE := hid (HRun.out.trans (HG.out rfl (by show x < r; omega)))
                      have hrd : decide (r ≤ x) = false := by simp; omega
                      clear HN HSm HG hy
                      go_wp2_with (go_at_call 29; refine HW.out.mono ?_; rintro e wq ⟨rfl, hbq⟩)
                      go_roundw
                      case rel => exact ⟨r, many + 1, false, rfl, by go_num, rfl, (fun h => by cases h), (fun _ => Or.inr ⟨h0, HE.out, by omega⟩), hbr.trans (hbq.mono hbr.size)⟩
                      case measure => simp [intOf]; omega
                · obtain ⟨e1, e2⟩ := HF0.out (fun _ => hrun.trans (run_over (by omega)))
                  rw [e1] at HL
                  rw [e2] at HS
                  clear e1 e2 HF0 HF1 K0 K1 hrun hx
                  have hTr := (hT.below hb1).below hbr
                  have hXr := hX.below hbr
                  go_wp2_with (first | (go_at_call 30; refine (HL.out _ hTr).mono ?_; rintro e w2 ⟨rfl, hb2⟩; have hT2 := hTr.below hb2; have hX2 := hXr.below hb2) | (go_at_call 31; refine (HS.out _ hT2).mono ?_; rintro e w3 ⟨rfl, hb3⟩; have hT3 := hT2.below hb3; have hX3 := hX2.below hb3) | (go_at_call 29; refine (HP.out _ hX3).mono ?_; rintro e w4 ⟨rfl, hb4⟩; have hT4 := hT3.below hb4) | (go_at_call 32; refine (HD.out _ hT4).mono ?_; rintro e w5 ⟨rfl, hb5⟩) | (go_at_call 33; refine (fixAlive_any _).mono ?_; rintro e w6 ⟨rfl, hb6⟩))
                  go_ret
                  have b1 := hb1.trans (hbr.mono hb1.size)
                  have b2 := b1.trans (hb2.mono b1.size)
                  have b3 := b2.trans (hb3.mono b2.size)
                  have b4 := b3.trans (hb4.mono b3.size)
                  have b5 := b4.trans (hb5.mono b4.size)
                  exact ⟨rfl, b5.trans (hb6.mono b5.size)⟩
            · obtain ⟨e1, e2⟩ := K1.out rfl
              rw [e1] at HL
              rw [e2] at HS
              clear e1 e2 HF0 HF1 K0 K1 hx
              rcases (show own < 0 ∨ 0 ≤ own ∧ x ≤ most ∨ 0 ≤ own ∧ most < x by omega) with h0 | ⟨h0, h4⟩ | ⟨h0, h4⟩
              all_goals
                try (exfalso; omega)
              all_goals
                have hTr := (hT.below hb1).below hbr
                have hXr := hX.below hbr
                go_wp2_with (first | (go_at_call 30; refine (HL.out _ hTr).mono ?_; rintro e w2 ⟨rfl, hb2⟩; have hT2 := hTr.below hb2; have hX2 := hXr.below hb2) | (go_at_call 31; refine (HS.out _ hT2).mono ?_; rintro e w3 ⟨rfl, hb3⟩; have hT3 := hT2.below hb3; have hX3 := hX2.below hb3) | (go_at_call 29; refine (HP.out _ hX3).mono ?_; rintro e w4 ⟨rfl, hb4⟩; have hT4 := hT3.below hb4) | (go_at_call 32; refine (HD.out _ hT4).mono ?_; rintro e w5 ⟨rfl, hb5⟩) | (go_at_call 33; refine (fixAlive_any _).mono ?_; rintro e w6 ⟨rfl, hb6⟩))
                go_ret
                have b1 := hb1.trans (hbr.mono hb1.size)
                have b2 := b1.trans (hb2.mono b1.size)
                have b3 := b2.trans (hb3.mono b2.size)
                have b4 := b3.trans (hb4.mono b3.size)
                have b5 := b4.trans (hb5.mono b4.size)
                exact ⟨rfl, b5.trans (hb6.mono b5.size)⟩
end Go.Proofs.Ytcjdfgfnpmmcnaa
