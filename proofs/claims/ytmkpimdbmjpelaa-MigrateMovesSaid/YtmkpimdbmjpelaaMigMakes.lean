/-
  Layer 29: the walk of MigrateMakes.
-/
import Derived.Test.YtmkpimdbmjpelaaMigAlive
namespace Go.Proofs.Ytmkpimdbmjpelaa
open Go.RowKit Go.Shelf
theorem qlen_below (base p : Nat) (cap pol d : Int) (v : Value) (xs : List Int) (w : World) (hq : QAt w base p cap pol v xs d) :
    Calls Try.prog 17 #[.pointer (some ⟨p, 0, none⟩)] w fun e w' => e = .returned (.int .i64 xs.length) ∧ Below w.heap.size w w' :=
  (qlen_any base p cap pol d v xs w hq).mono fun e w' h => ⟨h.1, by rw [← h.2]; exact Below.refl _ _⟩
set_option maxRecDepth 100000 in
set_option maxHeartbeats 2000000 in
theorem migMakes_walk (lo : Option Addr) (n lc : Nat) (g : Nat → Nat → Int) (w : World) (hS : Sets w lo n g) :
    Calls Try.prog 4 #[.slice lo n lc] w fun e w' => e = .returned (.bool true) ∧ Below w.heap.size w w' := by
  by_cases hn : 20 < n
  · have t1 : decide ((20 : Int) < (n : Int)) = true := by simp; omega
    go_enter Try.func4, Try.ntmps4
    go_wp2
    go_ret
    exact ⟨rfl, Below.refl _ _⟩
  have t1 : decide ((20 : Int) < (n : Int)) = false := by simp; omega
  have HS := hid hS
  by_cases hR : RightS n g
  · have HM := hid (make_good lo n lc g w hS hR)
    have HR := hid hR
    clear hS
    go_enter Try.func4, Try.ntmps4
    go_wp2_with fail
    refine HM.out.mono ?_
    rintro e w1 ⟨P, v, rfl, own1, qs1, b1⟩
    obtain ⟨ao, ac, rfl, _, hPR⟩ := prow_of_own own1
    have HRT := hid (right29_any lo n lc g w1 (by omega) (HS.out.below b1))
    have HQ1 := hid qs1
    have HP1 := hid hPR.out
    have HB1 := hid b1
    clear HM own1 qs1 hPR b1
    go_wp2_with fail
    refine HRT.out.mono ?_
    rintro e w2 ⟨r, rfl, hr, b2⟩
    obtain rfl : r = true := hr.2 HR.out
    have HQ2 := hid (HQ1.out.below b2)
    have HP2 : Hid (PRow w2 ao n P) := HP1.out.below b2
    have HB2 := hid (HB1.out.trans (b2.mono HB1.out.size))
    have tn : ((n : Int) != (n : Int)) = false := by simp
    clear HRT hr b2 HQ1 HP1 hR
    go_wp2
    go_loopw [5] (fun i_ wr => ∃ i : Nat, i_ = .int .i64 i ∧ i ≤ n ∧ Hid (Below w2.heap.size w2 wr)) (fun i_ _ => n - (intOf i_).toNat)
    case atStart => exact ⟨0, rfl, Nat.zero_le _, Below.refl _ _⟩
    case round =>
      obtain ⟨i, rfl, hin, HW⟩ := hrel
      by_cases hlt : i < n
      · have t0 : decide ((i : Int) < (n : Int)) = true := by simp; omega
        obtain ⟨fb, fo, rfl, cF0⟩ := (HP2.out.below HW.out) i hlt
        have cF := Cls.cell (show wr.cell? ⟨fb, fo + i, none⟩ = some (.pointer (some ⟨P i, 0, none⟩)) from cF0)
        obtain ⟨lb, lof, rfl, l0, l1⟩ := (HS.out.below (HB2.out.trans (HW.out.mono HB2.out.size))) i hlt
        have f0 := Cls.cell l0
        have f1 := Cls.cell l1
        have hq := (HQ2.out.below HW.out).at_ i hlt
        have hcp := (rightB_is.1 (HR.out.2 i hlt)).1
        have hq' : QAt wr w.heap.size (P i) (g i 0) (g i 1) (.slice none 0 0) [] 0 := by
          have h : QAt wr w.heap.size (P i) (((g i 0).toNat : Nat) : Int) (g i 1) (.slice none 0 0) [] 0 := hq
          rwa [show (((g i 0).toNat : Nat) : Int) = g i 0 by omega] at h
        have HLE := hid (fun (c : Cls wr) => qlen_below w.heap.size (P i) (g i 0) (g i 1) 0 (.slice none 0 0) [] c.wd (hq'.below c.below))
        have HSE := hid (fun (c : Cls wr) => qset_any w.heap.size (P i) (g i 0) (g i 1) 0 (.slice none 0 0) [] c.wd (hq'.below c.below))
        have j0' : (0 : Int) ≤ (i : Int) := by omega
        have j1 : (i : Int) < (n : Int) := by omega
        clear cF0 l0 l1 hq hq' hcp
        go_wp2
        refine wp_region_cls (by kernel_rfl) (by kernel_rfl) ?_
        repeat (go_big_quiet_step ((first | (go_at_call 17; exact Calls.cls _ (HLE.out _)) | (go_at_call 18; exact Calls.cls _ (HSE.out _)))))
        refine wpQuiet_nil ?_
        intro _ hw'
        obtain ⟨nq, rfl⟩ := hw'
        have HW2 := hid (HW.out.trans (nq.below.mono HW.out.size))
        go_wp2
        go_roundw
        case rel => exact ⟨i + 1, by go_num, by omega, HW2⟩
        case measure => simp [intOf]; omega
      · obtain rfl : i = n := by omega
        have t0 : decide ((i : Int) < (i : Int)) = false := by simp
        go_wp2_with fail
        refine (migAlive_any _).mono ?_
        rintro e w9 ⟨rfl, b9⟩
        have HB9 := hid (HB2.out.trans ((HW.out.trans (b9.mono HW.out.size)).mono HB2.out.size))
        go_wp2
        go_ret
        exact ⟨rfl, HB9.out⟩
  · have HM := hid (make_bad lo n lc g w (by omega) hS hR)
    have HR := hid hR
    clear hS
    go_enter Try.func4, Try.ntmps4
    go_wp2_with fail
    refine HM.out.mono ?_
    rintro e w1 ⟨rfl, b1⟩
    have HRT := hid (right29_any lo n lc g w1 (by omega) (HS.out.below b1))
    have HB1 := hid b1
    clear HM b1
    go_wp2_with fail
    refine HRT.out.mono ?_
    rintro e w2 ⟨r, rfl, hr, b2⟩
    have hrf : r = false := by
      cases r with
      | false => rfl
      | true => exact absurd (hr.1 rfl) HR.out
    subst hrf
    have HB2 := hid (HB1.out.trans (b2.mono HB1.out.size))
    clear HRT hr b2
    go_wp2_with fail
    refine (migAlive_any _).mono ?_
    rintro e w9 ⟨rfl, b9⟩
    have HB9 := hid (HB2.out.trans (b9.mono HB2.out.size))
    go_wp2
    go_ret
    exact ⟨rfl, HB9.out⟩
end Go.Proofs.Ytmkpimdbmjpelaa
