/-
  The walk of FixGrows: with more first work, or a term more, the time is no less.
-/
import Derived.Test.YtcjdfgfnpmmcnaaFixLeast
namespace Go.Proofs.Ytcjdfgfnpmmcnaa
open Go.RowKit
theorem Terms.tail {w : World} {b o n : Nat} {f : Nat → TT} (h : Terms w (some ⟨b, o, none⟩) (n + 1) f) : Terms w (some ⟨b, o + 4, none⟩) n (fun i => f (i + 1)) := fun i hi => by
  obtain ⟨b', o', e, h0, h1, h2, h3⟩ := h (i + 1) (by omega)
  cases e
  rw [show o + (i + 1) * 4 = o + 4 + i * 4 by omega] at h0 h1 h2 h3
  exact ⟨b, o + 4, rfl, h0, h1, h2, h3⟩
theorem fit_dec {x : TT} (h : Fit x) : decide (x.p < 1) = false ∧ decide (1099511627776 < x.p) = false ∧ decide (x.c < 0) = false ∧ decide (100000 < x.c) = false ∧ decide (x.o < 0) = false ∧ decide (100000 < x.o) = false ∧ decide (x.k < 0) = false ∧ decide (100000 < x.k) = false := by
  obtain ⟨h1, h2, h3, h4, h5, h6, h7, h8⟩ := h
  simp only [decide_eq_false_iff_not]
  omega
theorem fit_casesD (x : TT) : Fit x ∨ (decide (x.p < 1) = true) ∨ (decide (x.p < 1) = false ∧ decide (1099511627776 < x.p) = true) ∨ (decide (x.p < 1) = false ∧ decide (1099511627776 < x.p) = false ∧ decide (x.c < 0) = true) ∨ (decide (x.p < 1) = false ∧ decide (1099511627776 < x.p) = false ∧ decide (x.c < 0) = false ∧ decide (100000 < x.c) = true) ∨ (decide (x.p < 1) = false ∧ decide (1099511627776 < x.p) = false ∧ decide (x.c < 0) = false ∧ decide (100000 < x.c) = false ∧ decide (x.o < 0) = true) ∨ (decide (x.p < 1) = false ∧ decide (1099511627776 < x.p) = false ∧ decide (x.c < 0) = false ∧ decide (100000 < x.c) = false ∧ decide (x.o < 0) = false ∧ decide (100000 < x.o) = true) ∨ (decide (x.p < 1) = false ∧ decide (1099511627776 < x.p) = false ∧ decide (x.c < 0) = false ∧ decide (100000 < x.c) = false ∧ decide (x.o < 0) = false ∧ decide (100000 < x.o) = false ∧ decide (x.k < 0) = true) ∨ (decide (x.p < 1) = false ∧ decide (1099511627776 < x.p) = false ∧ decide (x.c < 0) = false ∧ decide (100000 < x.c) = false ∧ decide (x.o < 0) = false ∧ decide (100000 < x.o) = false ∧ decide (x.k < 0) = false ∧ decide (100000 < x.k) = true) := by
  rcases fit_cases x with h | h
  · exact .inl h
  · right
    simp only [decide_eq_true_iff, decide_eq_false_iff_not]
    omega
/-- The three ways in which the three times may lie. -/
theorem grows_cases {own more : Int} {f : Nat → TT} {n : Nat} (h : ∀ i, i < n + 1 → Fit (f i)) (ho : 0 ≤ own) (ho2 : own ≤ 100000) (hm : 0 ≤ more) (hm2 : more ≤ 100000) (hn : n + 1 ≤ 20) :
    ∃ a oa b ob c oc, leastR own 3000 (fun i => f (i + 1)) n = (a, oa) ∧ leastR own 3000 f (n + 1) = (b, ob) ∧ leastR (own + more) 3000 f (n + 1) = (c, oc) ∧
      (ob = false ∧ oc = false ∨ oa = true ∧ ob = true ∧ decide (a ≤ b) = true ∧ oc = false ∨ oa = true ∧ ob = true ∧ decide (a ≤ b) = true ∧ oc = true ∧ decide (b ≤ c) = true) := by
  obtain ⟨h1, h2⟩ := grows h ho ho2 hm hm2 hn
  obtain ⟨⟨a, oa⟩, ea⟩ : ∃ y, leastR own 3000 (fun i => f (i + 1)) n = y := ⟨_, rfl⟩
  obtain ⟨⟨b, ob⟩, eb⟩ : ∃ y, leastR own 3000 f (n + 1) = y := ⟨_, rfl⟩
  obtain ⟨⟨c, oc⟩, ec⟩ : ∃ y, leastR (own + more) 3000 f (n + 1) = y := ⟨_, rfl⟩
  rw [ea, eb] at h1
  rw [eb, ec] at h2
  refine ⟨a, oa, b, ob, c, oc, ea, eb, ec, ?_⟩
  cases ob
  · cases oc
    · exact .inl ⟨rfl, rfl⟩
    · have := (h2 rfl).1
      cases this
  · obtain ⟨g1, g2⟩ := h1 rfl
    cases oc
    · exact .inr (.inl ⟨g1, rfl, decide_eq_true g2, rfl⟩)
    · exact .inr (.inr ⟨g1, rfl, decide_eq_true g2, rfl, decide_eq_true (h2 rfl).2⟩)
set_option maxRecDepth 100000 in
set_option maxHeartbeats 16000000 in
theorem fixGrows_walk (ao : Option Addr) (n cap : Nat) (f : Nat → TT) (own more : Int) (w : World) (hT : Terms w ao n f) (hm : n ≤ maxLen) (hq : n ≤ cap ∧ cap ≤ maxLen) :
    Calls Try.prog 9 #[.int .i64 own, .int .i64 more, .slice ao n cap] w fun e w' => e = .returned (.bool true) ∧ Below w.heap.size w w' := by
  unfold maxLen at hm hq
  obtain ⟨hq1, hq2⟩ := hq
  rcases (show n < 1 ∨ 1 ≤ n ∧ 20 < n ∨ 1 ≤ n ∧ n ≤ 20 ∧ own < 0 ∨ 1 ≤ n ∧ n ≤ 20 ∧ 0 ≤ own ∧ 100000 < own ∨ 1 ≤ n ∧ n ≤ 20 ∧ 0 ≤ own ∧ own ≤ 100000 ∧ more < 0 ∨ 1 ≤ n ∧ n ≤ 20 ∧ 0 ≤ own ∧ own ≤ 100000 ∧ 0 ≤ more ∧ 100000 < more ∨ 1 ≤ n ∧ n ≤ 20 ∧ 0 ≤ own ∧ own ≤ 100000 ∧ 0 ≤ more ∧ more ≤ 100000 by omega) with h | ⟨h, h2⟩ | ⟨h, h2, h3⟩ | ⟨h, h2, h3, h4⟩ | ⟨h, h2, h3, h4, h5⟩ | ⟨h, h2, h3, h4, h5, h6⟩ | ⟨hn, h2, h3, h4, h5, h6⟩
  iterate 6
    · go_enter Try.func9, Try.ntmps9
      go_wp2
      go_ret
      exact ⟨rfl, Below.refl _ _⟩
  · obtain ⟨m, rfl⟩ : ∃ m, n = m + 1 := ⟨n - 1, by omega⟩
    have g1 : decide ((m : Int) + 1 < 1) = false := by simp; omega
    have g2 : decide (20 < (m : Int) + 1) = false := by simp; omega
    have g3 : decide (own < 0) = false := by simp; omega
    have g4 : decide (100000 < own) = false := by simp; omega
    have g5 : decide (more < 0) = false := by simp; omega
    have g6 : decide (100000 < more) = false := by simp; omega
    go_enter Try.func9, Try.ntmps9
    go_wp2
    go_loopw [7, 8] (fun i _ wr => ∃ k : Nat, k ≤ m + 1 ∧ i = .int .i64 k ∧ Hid (∀ j, j < k → Fit (f j)) ∧ Below w.heap.size w wr) (fun i _ _ => m + 1 - (intOf i).toNat)
    case atStart => exact ⟨0, by omega, rfl, (fun j hj => by omega), Below.refl _ _⟩
    case round =>
      obtain ⟨k, hk, rfl, HF, hb⟩ := hrel
      by_cases hlt : k < m + 1
      · obtain ⟨b, o, rfl, c0, c1, c2, c3⟩ := hT.below hb k hlt
        have hbl : b < w.heap.size := by
          obtain ⟨b', o', e, x, _⟩ := hT k hlt
          cases e
          exact cell_lt x
        rcases fit_casesD (f k) with hf | hf | ⟨d1, hf⟩ | ⟨d1, d2, hf⟩ | ⟨d1, d2, d3, hf⟩ | ⟨d1, d2, d3, d4, hf⟩ | ⟨d1, d2, d3, d4, d5, hf⟩ | ⟨d1, d2, d3, d4, d5, d6, hf⟩ | ⟨d1, d2, d3, d4, d5, d6, d7, hf⟩
        · have HF2 : Hid (∀ j, j < k + 1 → Fit (f j)) := fun j hj => by
            rcases (show j < k ∨ j = k by omega) with e | rfl
            · exact HF.out j e
            · exact hf
          obtain ⟨p1, p2, p3, p4, p5, p6, p7, p8⟩ := fit_dec hf
          go_wp2
          go_roundw
          case rel => exact ⟨k + 1, by omega, by go_num, HF2, hb.alloc hb.size _⟩
          case measure => simp [intOf]; omega
        all_goals
          go_wp2
          go_ret
          exact ⟨rfl, hb.alloc hb.size _⟩
      · obtain rfl : k = m + 1 := by omega
        obtain ⟨b, o, rfl, _⟩ := hT 0 (by omega)
        obtain ⟨a1, oa, a2, ob, a3, oc, e1, e2, e3, hcs⟩ := grows_cases HF.out h3 h4 h5 h6 h2
        have L1 : Hid (∀ xo xc W, Terms W xo m (fun i => f (i + 1)) → Calls Try.prog 30 #[.int .i64 own, .int .i64 3000, .slice xo m xc] W fun e w' => e = .returned (rv (a1, oa)) ∧ Below W.heap.size W w') := fun xo xc W hW => by
          rw [← e1]; exact fixLeast_any _ m _ _ own 3000 W (by omega) hW (by omega)
        have L2 : Hid (∀ W, Below w.heap.size w W → Calls Try.prog 30 #[.int .i64 own, .int .i64 3000, .slice (some ⟨b, o, none⟩) (m + 1) cap] W fun e w' => e = .returned (rv (a2, ob)) ∧ Below W.heap.size W w') := fun W hW => by
          rw [← e2]; exact fixLeast_any _ (m + 1) _ _ own 3000 W (by omega) (hT.below hW) (by omega)
        have L3 : Hid (∀ W, Below w.heap.size w W → Calls Try.prog 30 #[.int .i64 (own + more), .int .i64 3000, .slice (some ⟨b, o, none⟩) (m + 1) cap] W fun e w' => e = .returned (rv (a3, oc)) ∧ Below W.heap.size W w') := fun W hW => by
          rw [← e3]; exact fixLeast_any _ (m + 1) _ _ (own + more) 3000 W (by omega) (hT.below hW) (by omega)
        clear e1 e2 e3
        rcases hcs with ⟨rfl, rfl⟩ | ⟨rfl, rfl, d1, rfl⟩ | ⟨rfl, rfl, d1, rfl, d2⟩
        all_goals
          rcases (show cap = 1 ∧ m = 0 ∨ 1 < cap by omega) with ⟨rfl, rfl⟩ | hc1
        all_goals
          go_wp2_with fail
          refine (L1.out _ _ _ (by first | exact (hT.below hb).tail | exact fun i hi => by omega)).mono ?_
          rintro e w1 ⟨rfl, hb1⟩
          have b1 := hb.trans (hb1.mono hb.size)
          go_wp2_with fail
          refine (L2.out _ b1).mono ?_
          rintro e w2 ⟨rfl, hb2⟩
          have b2 := b1.trans (hb2.mono b1.size)
          go_wp2_with fail
          refine (L3.out _ b2).mono ?_
          rintro e w3 ⟨rfl, hb3⟩
          have b3 := b2.trans (hb3.mono b2.size)
          clear L1 L2 L3 HF
          go_wp2_with fail
          refine (fixAlive_any _).mono ?_
          rintro e w4 ⟨rfl, hb4⟩
          go_wp2
          go_ret
          exact ⟨rfl, b3.trans (hb4.mono b3.size)⟩
end Go.Proofs.Ytcjdfgfnpmmcnaa
