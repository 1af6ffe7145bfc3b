/-
  Contracts of the package fix.
-/
import Derived.Test.YtmkpimdbmjpelaaDemandSum
import Derived.Test.YtmkpimdbmjpelaaRun
namespace Go.Proofs.Ytmkpimdbmjpelaa
open Go.RowKit
def stepR (own t : Int) (f : Nat → TT) (n : Nat) : Int × Bool := if (allR t f n).2 then addR own (allR t f n).1 else (0, false)
theorem fstep_any (ao : Option Addr) (n cap : Nat) (f : Nat → TT) (own t : Int) (w : World) (hn : n ≤ 100) (hT : Terms w ao n f) :
    Calls Try.prog 45 #[.int .i64 own, .int .i64 t, .slice ao n cap] w fun e w' => e = .returned (rv (stepR own t f n)) ∧ Below w.heap.size w w' := by
  have HD := hid (demandWork_any ao n cap f t w hn hT)
  unfold stepR
  obtain ⟨⟨r, ok⟩, hx⟩ : ∃ y, allR t f n = y := ⟨_, rfl⟩
  rw [hx] at HD ⊢
  cases ok
  · go_enter Try.func45, Try.ntmps45
    go_wp2_with (go_at_call 48; refine HD.out.mono ?_; rintro e w1 ⟨rfl, hb1⟩)
    go_ret2
    exact ⟨rfl, hb1⟩
  · have HA := hid (add_any own r)
    simp only [if_true]
    obtain ⟨⟨s, is⟩, hy⟩ : ∃ y, addR own r = y := ⟨_, rfl⟩
    rw [hy] at HA ⊢
    go_enter Try.func45, Try.ntmps45
    go_wp2_with (first | (go_at_call 48; refine HD.out.mono ?_; rintro e w1 ⟨rfl, hb1⟩) | (go_at_call 49; refine (HA.out _).mono ?_; rintro e w2 ⟨rfl, rfl⟩))
    go_ret2
    exact ⟨rfl, hb1⟩
def leastR (own most : Int) (f : Nat → TT) (n : Nat) : Int × Bool := if own < 0 then (0, false) else match run (fun w => stepR own w f n) most (max own 1) 0 with | some (w, _) => (w, true) | none => (0, false)
def stepsR (own most : Int) (f : Nat → TT) (n : Nat) : Int × Bool := if own < 0 then (0, false) else match run (fun w => stepR own w f n) most (max own 1) 0 with | some (_, m) => ((m : Int), true) | none => (0, false)
set_option maxHeartbeats 1000000 in
theorem fixLeast_any (ao : Option Addr) (n cap : Nat) (f : Nat → TT) (own most : Int) (w : World) (hn : n ≤ 100) (hT : Terms w ao n f) (ho : own ≤ 9223372036854775807) :
    Calls Try.prog 38 #[.int .i64 own, .int .i64 most, .slice ao n cap] w fun e w' => e = .returned (rv (leastR own most f n)) ∧ Below w.heap.size w w' := by
  by_cases h0 : own < 0
  · have HE : Hid (leastR own most f n = (0, false)) := if_pos h0
    go_enter Try.func38, Try.ntmps38
    go_wp2
    all_goals
      go_ret2
      exact ⟨by rw [HE.out]; rfl, Below.refl _ _⟩
  · have h1 : decide (own < 0) = false := by simp; omega
    have HS := hid (fun t => fstep_any ao n cap f own t)
    rcases (show max own 1 = 1 ∧ own < 1 ∨ max own 1 = own ∧ 1 ≤ own by omega) with ⟨hx, hx2⟩ | ⟨hx, hx2⟩
    all_goals
      have HE : Hid (leastR own most f n = match run (fun w => stepR own w f n) most (max own 1) 0 with | some (w, _) => (w, true) | none => (0, false)) := if_neg h0
      rw [hx] at HE
      go_enter Try.func38, Try.ntmps38
      go_wp2
      go_loopw [8, 9, 10] (fun a _ _ wr => ∃ x : Int, ∃ many : Nat, a = .int .i64 x ∧ Hid (run (fun w => stepR own w f n) most (_) 0 = run (fun w => stepR own w f n) most x many) ∧ Below w.heap.size w wr) (fun a _ _ _ => (most + 1 - intOf a).toNat)
      case atStart => exact ⟨_, 0, rfl, rfl, Below.refl _ _⟩
      case round =>
        obtain ⟨x, many, rfl, HR, hb⟩ := hrel
        rw [HR.out] at HE
        by_cases hlt : x ≤ most
        · have HN : Hid ((stepR own x f n).2 = false → run (fun w => stepR own w f n) most x many = none) := fun h => run_none hlt h
          have HF : Hid ((stepR own x f n).2 = true → (stepR own x f n).1 ≤ x → run (fun w => stepR own w f n) most x many = some (x, many + 1)) := fun h h2 => run_some hlt h h2
          have HG : Hid ((stepR own x f n).2 = true → x < (stepR own x f n).1 → run (fun w => stepR own w f n) most x many = run (fun w => stepR own w f n) most (stepR own x f n).1 (many + 1)) := fun h h2 => run_on hlt h h2
          have HW := hid (HS.out x wr hn (hT.below hb))
          obtain ⟨⟨r, ok⟩, hy⟩ : ∃ y, stepR own x f n = y := ⟨_, rfl⟩
          rw [hy] at HN HF HG HW
          cases ok
          · have HN2 : Hid (run (fun w => stepR own w f n) most x many = none) := HN.out rfl
            clear HN HF HG hy
            go_wp2_with (go_at_call 45; refine HW.out.mono ?_; rintro e w1 ⟨rfl, hb1⟩)
            go_ret2
            exact ⟨by rw [HE.out, HN2.out]; rfl, hb.trans (hb1.mono hb.size)⟩
          · by_cases hle : r ≤ x
            · have HF2 : Hid (run (fun w => stepR own w f n) most x many = some (x, many + 1)) := HF.out rfl hle
              clear HN HF HG hy
              go_wp2_with (go_at_call 45; refine HW.out.mono ?_; rintro e w1 ⟨rfl, hb1⟩)
              go_ret2
              exact ⟨by rw [HE.out, HF2.out]; rfl, hb.trans (hb1.mono hb.size)⟩
            · have HG2 : Hid (run (fun w => stepR own w f n) most x many = run (fun w => stepR own w f n) most r (many + 1)) := HG.out rfl (by show x < r; omega)
              clear HN HF HG hy
              go_wp2_with (go_at_call 45; refine HW.out.mono ?_; rintro e w1 ⟨rfl, hb1⟩)
              go_roundw
              case rel => exact ⟨r, many + 1, rfl, hid (by rw [HR.out, HG2.out]), hb.trans (hb1.mono hb.size)⟩
              case measure => simp [intOf]; omega
        · have HN2 : Hid (run (fun w => stepR own w f n) most x many = none) := run_over (by omega)
          go_wp2
          go_ret2
          exact ⟨by rw [HE.out, HN2.out]; rfl, hb⟩
end Go.Proofs.Ytmkpimdbmjpelaa
