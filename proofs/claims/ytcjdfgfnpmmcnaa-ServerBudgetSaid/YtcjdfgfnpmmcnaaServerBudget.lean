/-
  The walk of ServerBudget: the halving finds the least budget.
-/
import Derived.Test.YtcjdfgfnpmmcnaaServerFits
namespace Go.Proofs.Ytcjdfgfnpmmcnaa
open Go.RowKit
def BudgetOk (p : Int) (F : Int → Bool) (r : Int) (ok : Bool) : Prop :=
  (p < 1 ∧ r = 0 ∧ ok = false) ∨ (1 ≤ p ∧ F p = false ∧ r = 0 ∧ ok = false) ∨ (1 ≤ p ∧ F p = true ∧ ok = true ∧ 1 ≤ r ∧ r ≤ p ∧ F r = true ∧ (r = 1 ∨ 1 < r ∧ F (r - 1) = false))
def BudgetPost (p : Int) (F : Int → Bool) (w : World) (e : Ending) (w' : World) : Prop := ∃ r ok, e = .returned (rv (r, ok)) ∧ BudgetOk p F r ok ∧ Below w.heap.size w w'
theorem BudgetPost.mk {p : Int} {F : Int → Bool} {w w' : World} {e : Ending} (r : Int) (ok : Bool) (h1 : e = .returned (rv (r, ok))) (h2 : BudgetOk p F r ok) (h3 : Below w.heap.size w w') : BudgetPost p F w e w' := ⟨r, ok, h1, h2, h3⟩
theorem sR_mk {p b : Int} (h1 : 1 ≤ p) (h2 : p ≤ 400) (h3 : 1 ≤ b) (h4 : b ≤ p) : sR p b = true := decide_eq_true ⟨h1, by omega, h3, h4⟩
set_option maxRecDepth 100000 in
set_option maxHeartbeats 2000000 in
theorem budget_any (ao : Option Addr) (n cap : Nat) (p : Int) (g : Nat → Nat → Int) (w : World) (hn : n ≤ 20) (hcap : n ≤ cap ∧ cap ≤ maxLen) (hT : Tasks w ao n g) (hG : ∀ i, i < n → OkT (g i)) (hp : p ≤ 400) :
    Calls Try.prog 40 #[.int .i64 p, .slice ao n cap] w fun e w' => BudgetPost p (fun b => fitsR p b g n) w e w' := by
  have HF : Hid (∀ b v W, fitsR p b g n = v → 1 ≤ b → b ≤ p → Tasks W ao n g → Calls Try.prog 38 #[.agg #[.int .i64 p, .int .i64 b], .slice ao n cap] W fun e w' => e = .returned (.bool v) ∧ Below W.heap.size W w') := fun b v W hv h1 h2 hW => by
    rw [← hv]; exact serverFits_any ao n cap p b g W hn hcap hW hG (sR_mk (by omega) hp h1 h2)
  clear hG hcap
  generalize hF : (fun b => fitsR p b g n) = F
  have HF2 : Hid (∀ b v W, F b = v → 1 ≤ b → b ≤ p → Tasks W ao n g → Calls Try.prog 38 #[.agg #[.int .i64 p, .int .i64 b], .slice ao n cap] W fun e w' => e = .returned (.bool v) ∧ Below W.heap.size W w') := fun b v W hv => HF.out b v W (by rw [← hv, ← hF])
  clear HF hF
  rcases (show p < 1 ∨ 1 ≤ p by omega) with h1 | h1
  · go_enter Try.func40, Try.ntmps40
    go_wp2
    go_ret2
    exact BudgetPost.mk 0 false rfl (.inl ⟨h1, rfl, rfl⟩) (Below.refl _ _)
  · cases hFp : F p
    · have HB : Hid (BudgetOk p F 0 false) := .inr (.inl ⟨h1, hFp, rfl, rfl⟩)
      have HC := hid (HF2.out p false w hFp h1 (Int.le_refl _) hT)
      clear hFp HF2
      go_enter Try.func40, Try.ntmps40
      go_wp2_with (go_at_call 38; refine HC.out.mono ?_; rintro e w1 ⟨rfl, hb1⟩)
      go_ret2
      exact BudgetPost.mk 0 false rfl HB.out hb1
    · have HC := hid (HF2.out p true w hFp h1 (Int.le_refl _) hT)
      have HFp := hid hFp
      clear hFp
      go_enter Try.func40, Try.ntmps40
      go_wp2_with (go_at_call 38; refine HC.out.mono ?_; rintro e w1 ⟨rfl, hb1⟩)
      go_loopw [6, 7, 8] (fun lo hi _ wr => ∃ l h : Int, lo = .int .i64 l ∧ hi = .int .i64 h ∧ 1 ≤ l ∧ l ≤ h ∧ h ≤ p ∧ Hid (F h = true) ∧ Hid (l = 1 ∨ 1 < l ∧ F (l - 1) = false) ∧ Below w.heap.size w wr) (fun lo hi _ _ => (intOf hi - intOf lo).toNat)
      case atStart => exact ⟨1, p, rfl, rfl, by omega, h1, by omega, HFp, .inl rfl, hb1⟩
      case round =>
        obtain ⟨l, h, rfl, rfl, hl1, hlh, hhp, Hh, Hl, hbr⟩ := hrel
        by_cases hlt : l < h
        · have hd : decide (l < h) = true := by simp; omega
          have m1 : l ≤ (l + h) / 2 := by omega
          have m2 : (l + h) / 2 < h := by omega
          cases hFm : F ((l + h) / 2)
          · have HC := hid (HF2.out ((l + h) / 2) false wr hFm (by omega) (by omega) (hT.below hbr))
            have HL : Hid ((l + h) / 2 + 1 = 1 ∨ 1 < (l + h) / 2 + 1 ∧ F ((l + h) / 2 + 1 - 1) = false) := .inr ⟨by omega, by rw [show (l + h) / 2 + 1 - 1 = (l + h) / 2 by omega]; exact hFm⟩
            clear hFm
            go_wp2_with (go_at_call 38; refine HC.out.mono ?_; rintro e w2 ⟨rfl, hb2⟩)
            go_roundw
            case rel => exact ⟨(l + h) / 2 + 1, h, by go_num, rfl, by omega, by omega, hhp, Hh, HL, hbr.trans (hb2.mono hbr.size)⟩
            case measure => simp [intOf]; omega
          · have HC := hid (HF2.out ((l + h) / 2) true wr hFm (by omega) (by omega) (hT.below hbr))
            have HM := hid hFm
            clear hFm
            go_wp2_with (go_at_call 38; refine HC.out.mono ?_; rintro e w2 ⟨rfl, hb2⟩)
            go_roundw
            case rel => exact ⟨l, (l + h) / 2, rfl, rfl, hl1, m1, by omega, HM, Hl, hbr.trans (hb2.mono hbr.size)⟩
            case measure => simp [intOf]; omega
        · obtain rfl : l = h := by omega
          have hd : decide (l < l) = false := by simp
          go_wp2
          go_ret2
          exact BudgetPost.mk l true rfl (.inr (.inr ⟨h1, HFp.out, rfl, hl1, hhp, Hh.out, Hl.out⟩)) hbr
set_option maxRecDepth 100000 in
set_option maxHeartbeats 4000000 in
theorem serverBudget_walk (ao : Option Addr) (n cap : Nat) (p : Int) (g : Nat → Nat → Int) (w : World) (hm : n ≤ maxLen) (hcap : n ≤ cap ∧ cap ≤ maxLen) (hT : Tasks w ao n g) :
    Calls Try.prog 11 #[.int .i64 p, .slice ao n cap] w fun e w' => e = .returned (.bool true) ∧ Below w.heap.size w w' := by
  rcases (show 400 < p ∨ p ≤ 400 by omega) with hp | hp
  · go_enter Try.func11, Try.ntmps11
    go_wp2
    go_ret
    exact ⟨rfl, Below.refl _ _⟩
  · by_cases hG : n ≤ 4 ∧ ∀ i, i < n → OkT (g i)
    · have HRt : Hid (∀ W, Tasks W ao n g → Calls Try.prog 35 #[.slice ao n cap, .int .i64 4] W fun e w' => e = .returned (.bool true) ∧ Below W.heap.size W w') := fun W hW =>
        (right56_any ao n cap g 4 W hm (by omega) hW).mono fun e w' ⟨r, he, hr, hb⟩ => ⟨by rw [he, hr.2 hG], hb⟩
      obtain ⟨hn, hOk⟩ := hG
      have HB : Hid (∀ W, Tasks W ao n g → Calls Try.prog 40 #[.int .i64 p, .slice ao n cap] W fun e w' => BudgetPost p (fun b => fitsR p b g n) W e w') := fun W hW =>
        budget_any ao n cap p g W (by omega) hcap hW hOk hp
      have HF : Hid (∀ b v W, fitsR p b g n = v → 1 ≤ b → b ≤ p → Tasks W ao n g → Calls Try.prog 39 #[.int .i64 p, .int .i64 b, .slice ao n cap] W fun e w' => e = .returned (.bool v) ∧ Below W.heap.size W w') := fun b v W hv h1 h2 hW => by
        rw [← hv]; exact refFits_any ao n cap p b g W (by omega) hcap hW hOk (sR_mk (by omega) hp h1 h2)
      have HT := hid hT
      clear hOk hcap hm hT
      go_enter Try.func11, Try.ntmps11
      go_wp2_with (go_at_call 35; refine (HRt.out _ HT.out).mono ?_; rintro e w1 ⟨rfl, hb1⟩)
      refine (HB.out _ (HT.out.below hb1)).mono ?_
      rintro e w2 ⟨r, ok, rfl, hbud, hb2⟩
      have b2 := hb1.trans (hb2.mono hb1.size)
      clear HB HRt
      rcases hbud with ⟨q1, rfl, rfl⟩ | ⟨q1, q2, rfl, rfl⟩ | ⟨q1, q2, rfl, q3, q4, q5, q6⟩
      · clear HF HT
        go_wp2_with (go_at_call 17; refine (serverAlive_any _).mono ?_; rintro e w3 ⟨rfl, hb3⟩)
        go_ret
        exact ⟨rfl, b2.trans (hb3.mono b2.size)⟩
      · have HC := hid (HF.out p false w2 q2 q1 (Int.le_refl _) (HT.out.below b2))
        clear HF HT q2
        go_wp2_with (first | (go_at_call 39; refine HC.out.mono ?_; rintro e w4 ⟨rfl, hb4⟩) | (go_at_call 17; refine (serverAlive_any _).mono ?_; rintro e w3 ⟨rfl, hb3⟩))
        go_ret
        have b4 := b2.trans (hb4.mono b2.size)
        exact ⟨rfl, b4.trans (hb3.mono b4.size)⟩
      · have hd : decide (p < r) = false := by simp; omega
        have HC1 := hid (HF.out p true w2 q2 q1 (Int.le_refl _) (HT.out.below b2))
        have HC2 := hid (fun W hW => HF.out r true W q5 q3 q4 (HT.out.below hW))
        clear q2 q5
        rcases q6 with rfl | ⟨q6, q7⟩
        · clear HF HT
          go_wp2_with fail
          refine HC1.out.mono ?_
          rintro e w4 ⟨rfl, hb4⟩
          have b4 := b2.trans (hb4.mono b2.size)
          go_wp2_with fail
          refine (HC2.out _ b4).mono ?_
          rintro e w5 ⟨rfl, hb5⟩
          have b5 := b4.trans (hb5.mono b4.size)
          go_wp2_with (go_at_call 17; refine (serverAlive_any _).mono ?_; rintro e w3 ⟨rfl, hb3⟩)
          go_ret
          exact ⟨rfl, b5.trans (hb3.mono b5.size)⟩
        · have HC3 := hid (fun W hW => HF.out (r - 1) false W q7 (by omega) (by omega) (HT.out.below hW))
          have hr1 : (r == 1) = false := by simp; omega
          clear HF HT q7
          go_wp2_with fail
          refine HC1.out.mono ?_
          rintro e w4 ⟨rfl, hb4⟩
          have b4 := b2.trans (hb4.mono b2.size)
          go_wp2_with fail
          refine (HC2.out _ b4).mono ?_
          rintro e w5 ⟨rfl, hb5⟩
          have b5 := b4.trans (hb5.mono b4.size)
          go_wp2_with fail
          refine (HC3.out _ b5).mono ?_
          rintro e w6 ⟨rfl, hb6⟩
          have b6 := b5.trans (hb6.mono b5.size)
          go_wp2_with (go_at_call 17; refine (serverAlive_any _).mono ?_; rintro e w3 ⟨rfl, hb3⟩)
          go_ret
          exact ⟨rfl, b6.trans (hb3.mono b6.size)⟩
    · have HRt : Hid (Calls Try.prog 35 #[.slice ao n cap, .int .i64 4] w fun e w' => e = .returned (.bool false) ∧ Below w.heap.size w w') :=
        (right56_any ao n cap g 4 w hm (by omega) hT).mono fun e w' ⟨r, he, hr, hb⟩ => ⟨by
          cases r
          · exact he
          · exact absurd (hr.1 rfl) hG, hb⟩
      clear hG hT
      go_enter Try.func11, Try.ntmps11
      go_wp2_with (go_at_call 35; refine HRt.out.mono ?_; rintro e w1 ⟨rfl, hb1⟩)
      go_ret
      exact ⟨rfl, hb1⟩
end Go.Proofs.Ytcjdfgfnpmmcnaa
