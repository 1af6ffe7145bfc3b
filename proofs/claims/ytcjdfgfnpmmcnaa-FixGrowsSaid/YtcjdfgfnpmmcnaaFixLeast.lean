/-
  The walk of FixLeast: the document's search, one by one, finds the same time.
-/
import Derived.Test.YtcjdfgfnpmmcnaaFixAlive
import Derived.Test.YtcjdfgfnpmmcnaaFixLaw
namespace Go.Proofs.Ytcjdfgfnpmmcnaa
open Go.RowKit
theorem fit_cases (x : TT) : Fit x ∨ x.p < 1 ∨ (1 ≤ x.p ∧ 1099511627776 < x.p) ∨ (1 ≤ x.p ∧ x.p ≤ 1099511627776 ∧ x.c < 0) ∨ (1 ≤ x.p ∧ x.p ≤ 1099511627776 ∧ 0 ≤ x.c ∧ 100000 < x.c) ∨
    (1 ≤ x.p ∧ x.p ≤ 1099511627776 ∧ 0 ≤ x.c ∧ x.c ≤ 100000 ∧ x.o < 0) ∨ (1 ≤ x.p ∧ x.p ≤ 1099511627776 ∧ 0 ≤ x.c ∧ x.c ≤ 100000 ∧ 0 ≤ x.o ∧ 100000 < x.o) ∨
    (1 ≤ x.p ∧ x.p ≤ 1099511627776 ∧ 0 ≤ x.c ∧ x.c ≤ 100000 ∧ 0 ≤ x.o ∧ x.o ≤ 100000 ∧ x.k < 0) ∨ (1 ≤ x.p ∧ x.p ≤ 1099511627776 ∧ 0 ≤ x.c ∧ x.c ≤ 100000 ∧ 0 ≤ x.o ∧ x.o ≤ 100000 ∧ 0 ≤ x.k ∧ 100000 < x.k) := by
  by_cases h : 1 ≤ x.p ∧ x.p ≤ 1099511627776 ∧ 0 ≤ x.c ∧ x.c ≤ 100000 ∧ 0 ≤ x.o ∧ x.o ≤ 100000 ∧ 0 ≤ x.k ∧ x.k ≤ 100000
  · exact .inl ⟨h.1, h.2.1, h.2.2.1, h.2.2.2.1, h.2.2.2.2.1, h.2.2.2.2.2.1, h.2.2.2.2.2.2.1, h.2.2.2.2.2.2.2⟩
  · right; omega
theorem least_neg {own most : Int} {f : Nat → TT} {n : Nat} (h : own < 0) : leastR own most f n = (0, false) := if_pos h
set_option maxHeartbeats 1000000 in
theorem ref16Least_any (ao : Option Addr) (n cap : Nat) (f : Nat → TT) (own most : Int) (w : World) (hn : n ≤ 20) (hT : Terms w ao n f) (hF : ∀ i, i < n → Fit (f i)) (ho : own ≤ 100000) (hm : most ≤ 3000) :
    Calls Try.prog 34 #[.int .i64 own, .int .i64 most, .slice ao n cap] w fun e w' => e = .returned (rv (leastR own most f n)) ∧ Below w.heap.size w w' := by
  by_cases h0 : own < 0
  · have HE := hid (least_neg (most := most) (f := f) (n := n) h0)
    go_enter Try.func34, Try.ntmps34
    go_wp2
    go_ret2
    exact ⟨by rw [HE.out]; rfl, Below.refl _ _⟩
  · have hL := hid (leastR_isLeast (own := own) (most := most) hF (by omega) (by omega) hm hn)
    have hF := hid hF
    obtain ⟨⟨r, ok⟩, hr⟩ : ∃ y, leastR own most f n = y := ⟨_, rfl⟩
    rw [hr] at hL ⊢
    clear hr
    rcases (show max own 1 = 1 ∧ own < 1 ∨ max own 1 = own ∧ 1 ≤ own by omega) with ⟨hx, hx2⟩ | ⟨hx, hx2⟩
    all_goals
      go_enter Try.func34, Try.ntmps34
      go_wp2
      go_loopw [8, 9, 10, 11, 12] (fun a _ _ _ _ wr => ∃ x : Int, a = .int .i64 x ∧ max own 1 ≤ x ∧ Hid (∀ t, max own 1 ≤ t → t < x → t < due own t f n) ∧ Below w.heap.size w wr) (fun a _ _ _ _ _ => (most + 1 - intOf a).toNat)
      case atStart => exact ⟨_, rfl, by omega, (fun t h1 h2 => by omega), Below.refl _ _⟩
      case round =>
        obtain ⟨x, rfl, hx1, HB, hb⟩ := hrel
        by_cases hlt : x ≤ most
        · have h1 := total_bound hF.out (t := x) (by omega) (by omega)
          have HW := rall_any ao n cap f x wr (hT.below hb) (by omega)
          rw [allR_total hF.out (by omega) (by omega) hn] at HW
          have HW := hid HW
          have HD : Hid (due own x f n = own + total x f n) := rfl
          generalize total x f n = s at h1 HW HD
          have HA := addRef_any own s
          rw [addR_yes (by omega) h1.1 (by omega)] at HA
          have HA := hid HA
          by_cases hle : own + s ≤ x
          · have HR : Hid ((r, ok) = (x, true)) := hL.out.unique (.inl ⟨x, rfl, hx1, hlt, by show due own x f n ≤ x; rw [HD.out]; exact hle, HB.out⟩)
            have hd : decide (own + s ≤ x) = true := by simp; omega
            go_wp2_with (first | (go_at_call 28; refine HW.out.mono ?_; rintro e w1 ⟨rfl, hb1⟩) | (go_at_call 59; refine (HA.out _).mono ?_; rintro e w2 ⟨rfl, rfl⟩))
            go_ret2
            exact ⟨by obtain ⟨e1, e2⟩ := Prod.mk.inj HR.out; rw [e1, e2]; rfl, hb.trans (hb1.mono hb.size)⟩
          · have hd : decide (own + s ≤ x) = false := by simp; omega
            have HB2 : Hid (∀ t, max own 1 ≤ t → t < x + 1 → t < due own t f n) := fun t g1 g2 => by
              rcases (show t < x ∨ t = x by omega) with e | rfl
              · exact HB.out t g1 e
              · rw [HD.out]; omega
            go_wp2_with (first | (go_at_call 28; refine HW.out.mono ?_; rintro e w1 ⟨rfl, hb1⟩) | (go_at_call 59; refine (HA.out _).mono ?_; rintro e w2 ⟨rfl, rfl⟩))
            go_roundw
            case rel => exact ⟨x + 1, by go_num, by omega, HB2, hb.trans (hb1.mono hb.size)⟩
            case measure => simp [intOf]; omega
        · have HR : Hid ((r, ok) = (0, false)) := hL.out.unique (.inr ⟨rfl, fun t g1 g2 => HB.out t g1 (by omega)⟩)
          go_wp2
          go_ret2
          exact ⟨by obtain ⟨e1, e2⟩ := Prod.mk.inj HR.out; rw [e1, e2]; rfl, hb⟩
set_option maxRecDepth 100000 in
set_option maxHeartbeats 2000000 in
theorem fixLeast_walk (ao : Option Addr) (n cap : Nat) (f : Nat → TT) (own most : Int) (w : World) (hT : Terms w ao n f) (hm : n ≤ maxLen) :
    Calls Try.prog 8 #[.int .i64 own, .int .i64 most, .slice ao n cap] w fun e w' => e = .returned (.bool true) ∧ Below w.heap.size w w' := by
  unfold maxLen at hm
  rcases (show 20 < n ∨ n ≤ 20 ∧ 3000 < most ∨ n ≤ 20 ∧ most ≤ 3000 ∧ own < 0 ∨ n ≤ 20 ∧ most ≤ 3000 ∧ 0 ≤ own ∧ 100000 < own ∨ n ≤ 20 ∧ most ≤ 3000 ∧ 0 ≤ own ∧ own ≤ 100000 by omega) with h | ⟨h, h2⟩ | ⟨h, h2, h3⟩ | ⟨h, h2, h3, h4⟩ | ⟨hn, h2, h3, h4⟩
  iterate 4
    · go_enter Try.func8, Try.ntmps8
      go_wp2
      go_ret
      exact ⟨rfl, Below.refl _ _⟩
  · go_enter Try.func8, Try.ntmps8
    go_wp2
    go_loopw [7, 8] (fun i _ wr => ∃ k : Nat, k ≤ n ∧ i = .int .i64 k ∧ Hid (∀ j, j < k → Fit (f j)) ∧ Below w.heap.size w wr) (fun i _ _ => n - (intOf i).toNat)
    case atStart => exact ⟨0, by omega, rfl, (fun j hj => by omega), Below.refl _ _⟩
    case round =>
      obtain ⟨k, hk, rfl, HF, hb⟩ := hrel
      by_cases hlt : k < n
      · obtain ⟨b, o, rfl, c0, c1, c2, c3⟩ := hT.below hb k hlt
        have hbl : b < w.heap.size := by
          obtain ⟨b', o', e, x, _⟩ := hT k hlt
          cases e
          exact cell_lt x
        rcases fit_cases (f k) with hf | hf | hf | hf | hf | hf | hf | hf | hf
        · have HF2 : Hid (∀ j, j < k + 1 → Fit (f j)) := fun j hj => by
            rcases (show j < k ∨ j = k by omega) with e | rfl
            · exact HF.out j e
            · exact hf
          obtain ⟨p1, p2, p3, p4, p5, p6, p7, p8⟩ := hf
          go_wp2
          go_roundw
          case rel => exact ⟨k + 1, by omega, by go_num, HF2, hb.alloc hb.size _⟩
          case measure => simp [intOf]; omega
        all_goals
          go_wp2
          go_ret
          exact ⟨rfl, hb.alloc hb.size _⟩
      · obtain rfl : k = n := by omega
        have HL := fixLeast_any ao k cap f own most wr (by omega) (hT.below hb) (by omega)
        have HR : Hid (∀ xo xc W, Terms W xo k f → Calls Try.prog 34 #[.int .i64 own, .int .i64 most, .slice xo k xc] W fun e w' => e = .returned (rv (leastR own most f k)) ∧ Below W.heap.size W w') := fun xo xc W hW => ref16Least_any xo k xc f own most W hn hW HF.out h4 h2
        have hTr := hid (hT.below hb)
        obtain ⟨⟨m, ok⟩, hr⟩ : ∃ y, leastR own most f k = y := ⟨_, rfl⟩
        rw [hr] at HL HR
        have HL := hid HL
        clear hr
        cases ok
        all_goals
          go_wp2_with (first | (go_at_call 30; refine HL.out.mono ?_; rintro e w1 ⟨rfl, hb1⟩) | (go_at_call 24; refine (plain_any _ _ _ f _ (hTr.out.below hb1) (by omega)).mono ?_; rintro e w2 ⟨v, rfl, hown, hb2⟩; obtain ⟨xo, xc, rfl, hX⟩ := terms_of_own hown) | (go_at_call 34; refine (HR.out _ _ _ hX).mono ?_; rintro e w3 ⟨rfl, hb3⟩) | (go_at_call 33; refine (fixAlive_any _).mono ?_; rintro e w4 ⟨rfl, hb4⟩))
          go_ret
          have b1 := hb.trans (hb1.mono hb.size)
          have b2 := b1.trans (hb2.mono b1.size)
          have b3 := b2.trans (hb3.mono b2.size)
          exact ⟨rfl, b3.trans (hb4.mono b3.size)⟩
end Go.Proofs.Ytcjdfgfnpmmcnaa
