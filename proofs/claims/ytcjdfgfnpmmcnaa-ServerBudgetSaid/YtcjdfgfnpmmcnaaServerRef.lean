/-
  Contracts of the document's layer 56 (its own numbers), and the law's own function.
-/
import Derived.Test.YtcjdfgfnpmmcnaaServerMath
namespace Go.Proofs.Ytcjdfgfnpmmcnaa
open Go.RowKit
theorem gets_any (p b a : Int) (w : World) (h : sR p b = true) (h0 : 0 ≤ a) (h1 : a ≤ 65536) : Calls Try.prog 51 #[.int .i64 p, .int .i64 b, .int .i64 a] w fun e w' => e = .returned (.bool (sG p b a)) ∧ w = w' := by
  have h' := of_decide_eq_true h
  have e1 : (p == 0) = false := by simp; omega
  have u1 : wrap64 (p - b) = p - b := IntWalk.wrap64_in _ ⟨by omega, by omega⟩
  have u2 : wrap64 (2 * (p - b)) = 2 * (p - b) := IntWalk.wrap64_in _ ⟨by omega, by omega⟩
  obtain ⟨g, hg⟩ : ∃ g, 2 * (p - b) = g := ⟨_, rfl⟩
  unfold sG
  rw [hg] at u2 ⊢
  have g0 : 0 ≤ g := by omega
  have g1 : g ≤ 8192 := by omega
  by_cases h2 : g ≤ a
  · have u3 : wrap64 (a - g) = a - g := IntWalk.wrap64_in _ ⟨by omega, by omega⟩
    have m0 : 0 ≤ a - g := by omega
    cases hd : decide ((a - g) % p < b)
    all_goals
      rw [decide_eq_true h2]
      go_enter Try.func51, Try.ntmps51
      go_wp2
      go_ret
      exact ⟨rfl, rfl⟩
  · have h3 : a < g := by omega
    have hd : decide (g ≤ a) = false := decide_eq_false h2
    rw [hd]
    go_enter Try.func51, Try.ntmps51
    go_wp2
    go_ret
    exact ⟨rfl, rfl⟩
theorem refLeast_any (p b t : Int) (w : World) (h : sR p b = true) (h1 : t ≤ 5000) : Calls Try.prog 18 #[.int .i64 p, .int .i64 b, .int .i64 t] w fun e w' => e = .returned (.int .i64 (sL p b t)) ∧ w = w' := by
  have HL := hid (cntS_least h)
  have HT : Hid (t ≤ 0 → sL p b t = 0) := fun h2 => by
    have h' := of_decide_eq_true h
    unfold sL
    rw [if_neg]
    omega
  have HB := hid (cntS_nonneg p b)
  have HS : Hid (∀ k : Nat, cntS p b (k + 1) = cntS p b k + if sG p b k then 1 else 0) := fun k => rfl
  go_enter Try.func18, Try.ntmps18
  go_wp2
  go_loop [7, 8] (fun n i => ∃ k : Nat, (k : Int) ≤ max t 0 ∧ i = .int .i64 k ∧ n = .int .i64 (cntS p b k) ∧ cntS p b k ≤ k) (fun _ i => (max t 0).toNat - (intOf i).toNat)
  case atStart => exact ⟨0, by omega, rfl, rfl, by show (0 : Int) ≤ _; omega⟩
  case round =>
    obtain ⟨k, hk, rfl, rfl, hc⟩ := hrel
    have hB := HB.out k
    by_cases hlt : (k : Int) < t
    · have hS := hid (HS.out k)
      generalize cntS p b k = c at hS hc hB ⊢
      cases hg : sG p b k
      all_goals
        go_wp2_with (go_at_call 51; refine (gets_any p b k _ h (by omega) (by omega)).mono ?_; rintro e w' ⟨rfl, rfl⟩)
        go_round
        case rel => exact ⟨k + 1, by omega, by go_num, by rw [hS.out, hg]; simp, by rw [hS.out, hg]; simp; omega⟩
        case measure => simp [intOf]; omega
    · have e : cntS p b k = sL p b t := by
        rcases Int.lt_or_le t 1 with h2 | h2
        · obtain rfl : k = 0 := by omega
          rw [HT.out (by omega)]; rfl
        · rw [HL.out, show (k : Int) = t by omega]
      have E := hid e
      clear e
      generalize cntS p b k = c at E hc hB ⊢
      go_wp2
      go_ret
      exact ⟨by rw [← E.out]; rfl, rfl⟩
theorem refWithin_any (p b wk : Int) (w : World) (h : sR p b = true) (h0 : 0 ≤ wk) (h1 : wk ≤ 65536) : Calls Try.prog 21 #[.int .i64 p, .int .i64 b, .int .i64 wk] w fun e w' => e = .returned (rv (sWr p b wk)) ∧ w = w' := by
  have HB := hid (cntS_nonneg p b)
  have HS : Hid (∀ k : Nat, cntS p b (k + 1) = cntS p b k + if sG p b k then 1 else 0) := fun k => rfl
  go_enter Try.func21, Try.ntmps21
  go_wp2
  go_loop [8, 9] (fun n i => ∃ k : Nat, k ≤ 65537 ∧ i = .int .i64 k ∧ n = .int .i64 (cntS p b k) ∧ cntS p b k ≤ k ∧ Hid (∀ j, j < k → cntS p b j < wk)) (fun _ i => 65537 - (intOf i).toNat)
  case atStart => exact ⟨0, by omega, rfl, rfl, by show (0 : Int) ≤ _; omega, fun j hj => by omega⟩
  case round =>
    obtain ⟨k, hk, rfl, rfl, hc, HJ⟩ := hrel
    have hB := HB.out k
    by_cases hlt : k < 65537
    · have hS := hid (HS.out k)
      by_cases hge : wk ≤ cntS p b k
      · have E := hid (found h h0 (by omega) hge HJ.out)
        clear HJ
        generalize cntS p b k = c at hS hc hB hge ⊢
        go_wp2
        go_ret2
        exact ⟨by rw [E.out]; rfl, rfl⟩
      · have HJ' : Hid (∀ j, j < k + 1 → cntS p b j < wk) := fun j hj => by
          rcases Nat.lt_or_ge j k with h2 | h2
          · exact HJ.out j h2
          · obtain rfl : j = k := by omega
            omega
        clear HJ
        generalize cntS p b k = c at hS hc hB hge ⊢
        cases hg : sG p b k
        all_goals
          go_wp2_with (go_at_call 51; refine (gets_any p b k _ h (by omega) (by omega)).mono ?_; rintro e w' ⟨rfl, rfl⟩)
          go_round
          case rel => exact ⟨k + 1, by omega, by go_num, by rw [hS.out, hg]; simp, by rw [hS.out, hg]; simp; omega, HJ'⟩
          case measure => simp [intOf]; omega
    · obtain rfl : k = 65537 := by omega
      have E := hid (notfound h h0 HJ.out)
      clear HJ
      go_wp2
      go_ret2
      exact ⟨by rw [E.out]; rfl, rfl⟩
end Go.Proofs.Ytcjdfgfnpmmcnaa
