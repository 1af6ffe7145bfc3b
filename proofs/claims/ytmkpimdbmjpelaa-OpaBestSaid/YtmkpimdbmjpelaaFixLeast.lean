/-
  The walk of FixLeast: the document's search, one by one, finds the same time.
-/
import Derived.Test.YtmkpimdbmjpelaaFixAlive
import Derived.Test.YtmkpimdbmjpelaaFixLaw
namespace Go.Proofs.Ytmkpimdbmjpelaa
open Go.RowKit
theorem fit_cases (x : TT) : Fit x ∨ x.p < 1 ∨ (1 ≤ x.p ∧ 1099511627776 < x.p) ∨ (1 ≤ x.p ∧ x.p ≤ 1099511627776 ∧ x.c < 0) ∨ (1 ≤ x.p ∧ x.p ≤ 1099511627776 ∧ 0 ≤ x.c ∧ 100000 < x.c) ∨
    (1 ≤ x.p ∧ x.p ≤ 1099511627776 ∧ 0 ≤ x.c ∧ x.c ≤ 100000 ∧ x.o < 0) ∨ (1 ≤ x.p ∧ x.p ≤ 1099511627776 ∧ 0 ≤ x.c ∧ x.c ≤ 100000 ∧ 0 ≤ x.o ∧ 100000 < x.o) ∨
    (1 ≤ x.p ∧ x.p ≤ 1099511627776 ∧ 0 ≤ x.c ∧ x.c ≤ 100000 ∧ 0 ≤ x.o ∧ x.o ≤ 100000 ∧ x.k < 0) ∨ (1 ≤ x.p ∧ x.p ≤ 1099511627776 ∧ 0 ≤ x.c ∧ x.c ≤ 100000 ∧ 0 ≤ x.o ∧ x.o ≤ 100000 ∧ 0 ≤ x.k ∧ 100000 < x.k) := by
  by_cases h : 1 ≤ x.p ∧ x.p ≤ 1099511627776 ∧ 0 ≤ x.c ∧ x.c ≤ 100000 ∧ 0 ≤ x.o ∧ x.o ≤ 100000 ∧ 0 ≤ x.k ∧ x.k ≤ 100000
  · exact .inl ⟨h.1, h.2.1, h.2.2.1, h.2.2.2.1, h.2.2.2.2.1, h.2.2.2.2.2.1, h.2.2.2.2.2.2.1, h.2.2.2.2.2.2.2⟩
  · right; omega
theorem least_neg {own most : Int} {f : Nat → TT} {n : Nat} (h : own < 0) : leastR own most f n = (0, false) := if_pos h
set_option maxHeartbeats 1000000 in
theorem ref16Least_any (ao : Option Addr) (n cap : Nat) (f : Nat → TT) (own most : Int) (w : World) (hn : n ≤ 20) (hT : Terms w ao n f) (hF : ∀ i, i < n → Fit (f i)) (ho : own ≤ 100000) (hm : most ≤ 3000) :
    Calls Try.prog 39 #[.int .i64 own, .int .i64 most, .slice ao n cap] w fun e w' => e = .returned (rv (leastR own most f n)) ∧ Below w.heap.size w w' := by
  by_cases h0 : own < 0
  · have HE := hid (least_neg (most := most) (f := f) (n := n) h0)
    go_enter Try.func39, Try.ntmps39
    go_wp2
    go_ret2
    exact ⟨by rw [HE.out]; rfl, Below.refl _ _⟩
  · have hL := hid (leastR_isLeast (own := own) (most := most) hF (by omega) (by omega) hm hn)
    have hF := hid hF
    obtain ⟨⟨r, ok⟩, hr⟩ : ∃ y, leastR own most f n = y := ⟨_, rfl⟩
    rw [hr] at hL ⊢
    clear hr
    rcases (show max own 1 = 1 ∧ own < 1 ∨ max own 1 = own ∧ 1 ≤ own by omega) with ⟨hx, hx2⟩ | ⟨hx, hx2⟩
    all_goals
      go_enter Try.func39, Try.ntmps39
      go_wp2
      go_loopw [8, 9, 10, 11, 12] (fun a _ _ _ _ wr => ∃ x : Int, a = .int .i64 x ∧ max own 1 ≤ x ∧ Hid (∀ t, max own 1 ≤ t → t < x → t < due own t f n) ∧ Below w.heap.size w wr) (fun a _ _ _ _ _ => (most + 1 - intOf a).toNat)
      case atStart => exact ⟨_, rfl, by omega, (fun t h1 h2 => by omega), Below.refl _ _⟩
      case round =>
        obtain ⟨x, rfl, hx1, HB, hb⟩ := hrel
        by_cases hlt : x ≤ most
        · have h1 := total_bound hF.out (t := x) (by omega) (by omega)
          have HW := rall_any ao n cap f x wr (hT.below hb) (by omega)
          rw [allR_total hF.out (by omega) (by omega) hn] at HW
          have HW := hid HW
          have HD : Hid (due own x f n = own + total x f n) := rfl
          generalize total x f n = s at h1 HW HD
          have HA := addRef_any own s
          rw [addR_yes (by omega) h1.1 (by omega)] at HA
          have HA := hid HA
          by_cases hle : own + s ≤ x
          · have HR : Hid ((r, ok) = (x, true)) := hL.out.unique (.inl ⟨x, rfl, hx1, hlt, by show due own x f n ≤ x; rw [HD.out]; exact hle, HB.out⟩)
            have hd : decide (own + s ≤ x) = true := by simp; omega
            go_wp2_with (first | (go_at_call 46; refine HW.out.mono ?_; rintro e w1 ⟨rfl, hb1⟩) | (go_at_call 47; refine (HA.out _).mono ?_; rintro e w2 ⟨rfl, rfl⟩))
            go_ret2
            exact ⟨by obtain ⟨e1, e2⟩ := Prod.mk.inj HR.out; rw [e1, e2]; rfl, hb.trans (hb1.mono hb.size)⟩
          · have hd : decide (own + s ≤ x) = false := by simp; omega
            have HB2 : Hid (∀ t, max own 1 ≤ t → t < x + 1 → t < due own t f n) := fun t g1 g2 => by
              rcases (show t < x ∨ t = x by omega) with e | rfl
              · exact HB.out t g1 e
              · rw [HD.out]; omega
            go_wp2_with (first | (go_at_call 46; refine HW.out.mono ?_; rintro e w1 ⟨rfl, hb1⟩) | (go_at_call 47; refine (HA.out _).mono ?_; rintro e w2 ⟨rfl, rfl⟩))
            go_roundw
            case rel => exact ⟨x + 1, by go_num, by omega, HB2, hb.trans (hb1.mono hb.size)⟩
            case measure => simp [intOf]; omega
        · have HR : Hid ((r, ok) = (0, false)) := hL.out.unique (.inr ⟨rfl, fun t g1 g2 => HB.out t g1 (by omega)⟩)
          go_wp2
          go_ret2
          exact ⟨by obtain ⟨e1, e2⟩ := Prod.mk.inj HR.out; rw [e1, e2]; rfl, hb⟩
end Go.Proofs.Ytmkpimdbmjpelaa
