/-
  The walk of DemandWorks.
-/
import Derived.Test.YtcjdfgfnpmmcnaaDemandRef
namespace Go.Proofs.Ytcjdfgfnpmmcnaa
open Go.RowKit
set_option maxHeartbeats 2000000 in
theorem works_walk (ao : Option Addr) (n cap : Nat) (f : Nat → TT) (t : Int) (w : World) (hT : Terms w ao n f) (hm : n ≤ maxLen) :
    Calls Try.prog 6 #[.int .i64 t, .slice ao n cap] w fun e w' => e = .returned (.bool true) ∧ Below w.heap.size w w' := by
  unfold maxLen at hm
  by_cases h : 100 < n
  · go_enter Try.func6, Try.ntmps6
    go_wp2
    go_ret
    exact ⟨rfl, Below.refl _ _⟩
  · have h1 : decide (100 < (n : Int)) = false := by simp; omega
    have hn : n ≤ 100 := by omega
    clear hm h
    have HP := hid (plain_any ao n cap f w hT hn)
    go_enter Try.func6, Try.ntmps6
    go_wp2_with (go_at_call 24; refine HP.out.mono ?_; rintro e w1 ⟨v, rfl, hown, hb1⟩)
    obtain ⟨xo, xc, rfl, hX⟩ := terms_of_own hown
    clear hown
    go_loopw [6, 7, 8, 9, 10] (fun i _ _ _ _ wr => ∃ k : Nat, k ≤ n ∧ i = .int .i64 k ∧ Below w1.heap.size w1 wr) (fun i _ _ _ _ _ => n - (intOf i).toNat)
    case atStart => exact ⟨0, by omega, rfl, Below.refl _ _⟩
    case round =>
      obtain ⟨k, hk, rfl, hbr⟩ := hrel
      by_cases hlt : k < n
      · obtain ⟨b, o, rfl, c0, c1, c2, c3⟩ := (hT.below hb1).below hbr k hlt
        have hbl : b < w.heap.size := by
          obtain ⟨b', o', e, x, _⟩ := hT k hlt
          cases e
          exact cell_lt x
        obtain ⟨b2, o2, rfl, d0, d1, d2, d3⟩ := hX.below hbr k hlt
        have HW := hid (work_any (f k).p (f k).c (f k).o (f k).k t)
        have HR := hid (rwork_any (f k).p (f k).c (f k).o (f k).k t)
        obtain ⟨⟨z, ok⟩, hx⟩ : ∃ y, workR (f k).p (f k).c (f k).o (f k).k t = y := ⟨_, rfl⟩
        rw [hx] at HW HR
        clear hx
        go_wp2_with (first | (go_at_call 25; refine (HW.out _).mono ?_; rintro e w2 ⟨rfl, hb2⟩; have d0' := kept d0 hb2; have d1' := kept d1 hb2; have d2' := kept d2 hb2; have d3' := kept d3 hb2) | (go_at_call 26; refine (HR.out _).mono ?_; rintro e w3 ⟨rfl, hb3⟩))
        go_roundw
        case rel => exact ⟨k + 1, by omega, by go_num, (hbr.trans (hb2.mono hbr.size)).trans (hb3.mono (Nat.le_trans hbr.size hb2.size))⟩
        case measure => simp [intOf]; omega
      · obtain rfl : k = n := by omega
        have HA := hid (demandWork_any ao k cap f t wr hn ((hT.below hb1).below hbr))
        have hX' := hX.below hbr
        have HB : Hid (∀ w2, Below wr.heap.size wr w2 → Calls Try.prog 28 #[.slice xo k xc, .int .i64 t] w2 fun e w' => e = .returned (rv (allR t f k)) ∧ Below w2.heap.size w2 w') := fun w2 hb => rall_any xo k xc f t w2 (hX'.below hb) hn
        generalize allR t f k = r at HA HB
        obtain ⟨r1, r2⟩ := r
        go_wp2_with (first | (go_at_call 27; refine HA.out.mono ?_; rintro e w2 ⟨rfl, hb2⟩) | (go_at_call 28; refine (HB.out _ hb2).mono ?_; rintro e w3 ⟨rfl, hb3⟩) | (go_at_call 23; refine (demandAlive_any _).mono ?_; rintro e w4 ⟨rfl, hb4⟩))
        go_ret
        have b1 := hb1.trans (hbr.mono hb1.size)
        have b2 := b1.trans (hb2.mono b1.size)
        have b3 := b2.trans (hb3.mono b2.size)
        exact ⟨rfl, b3.trans (hb4.mono b3.size)⟩
end Go.Proofs.Ytcjdfgfnpmmcnaa
