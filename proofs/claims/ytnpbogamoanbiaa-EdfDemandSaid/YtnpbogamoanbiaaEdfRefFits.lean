/-
  The document's Fits; that all ways to tell whether none is ever late say the same; the law's guard.
-/
import Derived.Test.YtnpbogamoanbiaaEdfRef
namespace Go.Proofs.Ytnpbogamoanbiaa
open Go.RowKit
theorem okAt_is {f : Nat → TK} {n : Nat} (hO : ∀ i, i < n → OkK (f i)) (hn : n ≤ 20) {t : Int} (h0 : 0 ≤ t) (ht : t ≤ 65536) : okAt f n t = decide (hasN t f n ≤ t) := by
  unfold okAt
  rw [allK_ok hO h0 ht hn]; rfl
open Classical in
theorem fitsB_K {f : Nat → TK} {n : Nat} (hO : ∀ i, i < n → OkK (f i)) (hn : n ≤ 20) : fitsB f n = fitsK f n := by
  unfold fitsB fitsK
  cases hb : busyR 65536 f n with
  | mk x ok =>
    cases ok
    · rfl
    · obtain ⟨x0, x1⟩ := busyR_bound hO hb
      simp only [Bool.true_and]
      rw [Bool.eq_iff_iff, List.all_eq_true, decide_eq_true_iff]
      have hm := pts_mem hO x.toNat x (by omega)
      constructor
      · intro h t h1 h2 h3
        have := h t ((hm t).2 ⟨h1, h2, h3⟩)
        rw [okAt_is hO hn (by omega) (by omega), decide_eq_true_iff] at this
        exact this
      · intro h t ht
        obtain ⟨h1, h2, h3⟩ := (hm t).1 ht
        rw [okAt_is hO hn (by omega) (by omega), decide_eq_true_iff]
        exact h t h1 h2 h3
open Classical in
theorem quickB_K {f : Nat → TK} {n : Nat} (hO : ∀ i, i < n → OkK (f i)) : quickB f n = fitsK f n := by
  unfold quickB fitsK
  cases hb : busyR 65536 f n with
  | mk x ok =>
    cases ok
    · rfl
    · obtain ⟨x0, x1⟩ := busyR_bound hO hb
      simp only [Bool.true_and]
      have hl := nextP_last (a := x) hO
      have hp0 := nextP_nonneg (a := x) hO
      have hp1 := nextP_le hO x0
      have hq := quick_fine hO (fun i hi => firstF_le (x := x) (f := f) i hi) x.toNat (nextP x f n) (by omega) (fun h => by
        rcases hl.1 with h | ⟨_, _, h⟩
        · omega
        · exact .inl h)
      rw [Bool.eq_iff_iff, hq, decide_eq_true_iff]
      constructor
      · intro h t h1 h2 h3
        rcases Int.lt_or_le (nextP x f n) t with e | e
        · exact absurd h3 (hl.2 t e h2)
        · exact h t h1 e h3
      · exact fun h => h.mono hp1
theorem fitsK_no {f : Nat → TK} {n : Nat} (h : (busyR 65536 f n).2 = false) : fitsK f n = false := by unfold fitsK; rw [h]; rfl
open Classical in
theorem fitsK_bad {f : Nat → TK} {n : Nat} {t : Int} (h1 : 1 ≤ t) (h2 : t ≤ (busyR 65536 f n).1) (h3 : ptB t f n = true) (h4 : t < hasN t f n) : fitsK f n = false := by
  unfold fitsK
  rw [Bool.and_eq_false_iff]
  right
  rw [decide_eq_false_iff_not]
  intro h
  have := h t h1 h2 (ptB_iff.1 h3)
  omega
open Classical in
theorem fitsK_good {f : Nat → TK} {n : Nat} (h : (busyR 65536 f n).2 = true) (h2 : ∀ t, 1 ≤ t → t ≤ (busyR 65536 f n).1 → ptB t f n = true → hasN t f n ≤ t) : fitsK f n = true := by
  unfold fitsK
  rw [h, Bool.true_and, decide_eq_true_iff]
  exact fun t h1 h3 h4 => h2 t h1 h3 (ptB_iff.2 h4)
set_option maxRecDepth 100000 in
set_option maxHeartbeats 2000000 in
theorem refFits46_any (ao : Option Addr) (n cap : Nat) (g : Nat → Nat → Int) (w : World) (hn : n ≤ 20) (hT : Tasks w ao n g) (hG : ∀ i, i < n → OkK (tkOf (g i))) :
    Calls Try.prog 14 #[.slice ao n cap, .int .i64 65536] w fun e w' => e = .returned (.bool (fitsK (fun i => tkOf (g i)) n)) ∧ Below w.heap.size w w' := by
  obtain ⟨f, hf⟩ : ∃ f : Nat → TK, f = fun i => tkOf (g i) := ⟨_, rfl⟩
  have hHO : ∀ i, i < n → OkK (f i) := fun i hi => by rw [hf]; exact hG i hi
  have HBU := hid (refBusy_any ao n cap g 65536 w hn hT hG (Int.le_refl _))
  have hbnd := hid (fun w hb => busyR_bound (most := 65536) hHO (w := w) hb)
  have HPT := hid (fun t W (hW : Below w.heap.size w W) (h0 : 0 ≤ t) (ht : t ≤ 65536) => refPoint_any ao n cap g t W hn (hT.below hW) hG h0 ht)
  have HALL := hid (fun t W (hW : Below w.heap.size w W) (h0 : 0 ≤ t) (ht : t ≤ 65536) => refAll_any ao n cap g t W hn (hT.below hW) hG h0 ht)
  have HNO := hid (fitsK_no (f := f) (n := n))
  have HBAD := hid (fun t => fitsK_bad (f := f) (n := n) (t := t))
  have HGOOD := hid (fitsK_good (f := f) (n := n))
  rw [← hf] at HBU HPT HALL ⊢
  clear hf hHO hG hT
  obtain ⟨⟨x, ok⟩, hx⟩ : ∃ y, busyR 65536 f n = y := ⟨_, rfl⟩
  rw [hx] at HBU hbnd HNO HBAD HGOOD
  obtain ⟨R, hR⟩ : ∃ R, fitsK f n = R := ⟨_, rfl⟩
  rw [hR] at HNO HBAD HGOOD ⊢
  clear hx hR
  go_enter Try.func14, Try.ntmps14
  go_wp2_with fail
  refine HBU.out.mono ?_
  rintro e w' ⟨rfl, rfl⟩
  clear HBU
  cases ok
  · have HE := hid (HNO.out rfl)
    clear HBAD HGOOD HNO hbnd
    go_wp2
    go_loop [7] (fun _ => True) (fun _ => 0)
    case atStart => trivial
    case round =>
      go_wp2
      go_ret
      exact ⟨by rw [HE.out]; rfl, Below.refl _ _⟩
  · obtain ⟨x0, x1⟩ := hbnd.out x rfl
    clear HNO hbnd
    go_wp2
    go_loopw [7] (fun a wr => ∃ t : Int, a = .int .i64 t ∧ 1 ≤ t ∧ t ≤ x + 1 ∧ Hid (∀ u, 1 ≤ u → u < t → ptB u f n = true → hasN u f n ≤ u) ∧ Below w.heap.size w wr) (fun a _ => (x + 1 - intOf a).toNat)
    case atStart => exact ⟨1, rfl, by omega, by omega, fun u h1 h2 => by omega, Below.refl _ _⟩
    case round =>
      obtain ⟨t, rfl, t0, t1, HU, B1⟩ := hrel
      by_cases hle : t ≤ x
      · have d1 : decide (t ≤ x) = true := by simpa using hle
        have HP := hid (HPT.out t wr B1 (by omega) (by omega))
        have HA := hid (fun W hW => HALL.out t W hW (by omega) (by omega))
        cases hpt : ptB t f n with
        | false =>
          rw [hpt] at HP
          have HU2 : Hid (∀ u, 1 ≤ u → u < t + 1 → ptB u f n = true → hasN u f n ≤ u) := fun u h1 h2 h3 => by
            rcases (show u < t ∨ u = t by omega) with e | rfl
            · exact HU.out u h1 e h3
            · rw [hpt] at h3; cases h3
          clear hpt HU
          go_wp2_with fail
          refine HP.out.mono ?_
          rintro e w2 ⟨rfl, hb2⟩
          have B2 := B1.trans (hb2.mono B1.size)
          go_wp2
          go_roundw
          case rel => exact ⟨t + 1, rfl, by omega, by omega, HU2, B2⟩
          case measure => simp [intOf]; omega
        | true =>
          rw [hpt] at HP
          by_cases hh : hasN t f n ≤ t
          · have HU2 : Hid (∀ u, 1 ≤ u → u < t + 1 → ptB u f n = true → hasN u f n ≤ u) := fun u h1 h2 h3 => by
              rcases (show u < t ∨ u = t by omega) with e | rfl
              · exact HU.out u h1 e h3
              · exact hh
            obtain ⟨z, hz⟩ : ∃ z, hasN t f n = z := ⟨_, rfl⟩
            rw [hz] at HA hh
            clear hpt HU hz
            have d2 : decide (t < z) = false := by simpa using hh
            go_wp2_with fail
            refine HP.out.mono ?_
            rintro e w2 ⟨rfl, hb2⟩
            have B2 := B1.trans (hb2.mono B1.size)
            go_wp2_with fail
            refine (HA.out _ B2).mono ?_
            rintro e w3 ⟨rfl, hb3⟩
            have B3 := B2.trans (hb3.mono B2.size)
            go_wp2
            go_roundw
            case rel => exact ⟨t + 1, rfl, by omega, by omega, HU2, B3⟩
            case measure => simp [intOf]; omega
          · have HE := hid (HBAD.out t t0 hle hpt (Int.lt_of_not_ge hh))
            obtain ⟨z, hz⟩ : ∃ z, hasN t f n = z := ⟨_, rfl⟩
            rw [hz] at HA hh
            clear hpt HU hz
            have d2 : decide (t < z) = true := by simpa using hh
            go_wp2_with fail
            refine HP.out.mono ?_
            rintro e w2 ⟨rfl, hb2⟩
            have B2 := B1.trans (hb2.mono B1.size)
            go_wp2_with fail
            refine (HA.out _ B2).mono ?_
            rintro e w3 ⟨rfl, hb3⟩
            have B3 := B2.trans (hb3.mono B2.size)
            go_wp2
            go_ret
            exact ⟨by rw [HE.out]; rfl, B3⟩
      · have d1 : decide (t ≤ x) = false := by simpa using hle
        have HE := hid (HGOOD.out (by trivial) fun u h1 h2 h3 => HU.out u h1 (by have h2' : u ≤ x := h2; omega) h3)
        go_wp2
        go_ret
        exact ⟨by rw [HE.out]; rfl, B1⟩
/-- A task's numbers are within the law's bounds, or where they are not. -/
theorem okK_cases (x : Nat → Int) : OkK (tkOf x) ∨ (¬ OkK (tkOf x) ∧ (x 0 < 1 ∨ (1 ≤ x 0 ∧ 4096 < x 0) ∨ (1 ≤ x 0 ∧ x 0 ≤ 4096 ∧ x 1 < 1) ∨ (1 ≤ x 0 ∧ x 0 ≤ 4096 ∧ 1 ≤ x 1 ∧ decide (x 0 < x 1) = true) ∨
    (1 ≤ x 0 ∧ x 0 ≤ 4096 ∧ 1 ≤ x 1 ∧ decide (x 0 < x 1) = false ∧ x 2 < 1) ∨ (1 ≤ x 0 ∧ x 0 ≤ 4096 ∧ 1 ≤ x 1 ∧ decide (x 0 < x 1) = false ∧ 1 ≤ x 2 ∧ decide (x 1 < x 2) = true))) := by
  by_cases h : 1 ≤ x 0 ∧ x 0 ≤ 4096 ∧ 1 ≤ x 1 ∧ x 1 ≤ x 0 ∧ 1 ≤ x 2 ∧ x 2 ≤ x 1
  · exact .inl ⟨h.1, h.2.1, h.2.2.1, h.2.2.2.1, h.2.2.2.2.1, h.2.2.2.2.2⟩
  · refine .inr ⟨fun g => h ⟨g.p1, g.p2, g.d1, g.d2, g.c1, g.c2⟩, ?_⟩
    simp only [decide_eq_true_iff, decide_eq_false_iff_not]
    omega
set_option maxHeartbeats 1000000 in
theorem right46_any (ao : Option Addr) (n cap : Nat) (g : Nat → Nat → Int) (most : Nat) (w : World) (hm : n ≤ maxLen) (hs : most ≤ 100) (hT : Tasks w ao n g) :
    Calls Try.prog 10 #[.slice ao n cap, .int .i64 most] w fun e w' => ∃ r : Bool, e = .returned (.bool r) ∧ (r = true ↔ n ≤ most ∧ ∀ i, i < n → OkK (tkOf (g i))) ∧ Below w.heap.size w w' := by
  unfold maxLen at hm
  by_cases h : most < n
  · have hd : decide ((most : Int) < n) = true := by simp; omega
    go_enter Try.func10, Try.ntmps10
    go_wp2
    go_ret
    exact ⟨false, rfl, by simp; intros; omega, Below.refl _ _⟩
  · have hd : decide ((most : Int) < n) = false := by simp; omega
    go_enter Try.func10, Try.ntmps10
    go_wp2
    go_loopw [5, 6] (fun i _ wr => ∃ k : Nat, k ≤ n ∧ i = .int .i64 k ∧ Hid (∀ j, j < k → OkK (tkOf (g j))) ∧ Below w.heap.size w wr) (fun i _ _ => n - (intOf i).toNat)
    case atStart => exact ⟨0, by omega, rfl, (fun j hj => by omega), Below.refl _ _⟩
    case round =>
      obtain ⟨k, hk, rfl, HF, hb⟩ := hrel
      by_cases hlt : k < n
      · obtain ⟨b, o, rfl, hbl⟩ := hT.form hlt
        obtain ⟨⟨c0, c1, c2, c3⟩, ⟨c4, c5, c6, c7⟩, c8, c9, c10⟩ := (hT.below hb).at_ hlt
        rcases okK_cases (g k) with hf | ⟨hno, hf | hf | hf | hf | hf | hf⟩
        · have HF2 : Hid (∀ j, j < k + 1 → OkK (tkOf (g j))) := fun j hj => by
            rcases (show j < k ∨ j = k by omega) with e | rfl
            · exact HF.out j e
            · exact hf
          obtain ⟨p1, p2, p3, p4, p5, p6⟩ := hf
          dsimp only [tkOf] at p1 p2 p3 p4 p5 p6
          have d1 : decide (g k 0 < g k 1) = false := by simp; omega
          have d2 : decide (g k 1 < g k 2) = false := by simp; omega
          go_wp2
          go_roundw
          case rel => exact ⟨k + 1, by omega, by go_num, HF2, hb.alloc hb.size _⟩
          case measure => simp [intOf]; omega
        all_goals
          have hno2 : Hid (¬ ∀ i, i < n → OkK (tkOf (g i))) := fun h => hno (h k hlt)
          clear hno
          go_wp2
          go_ret
          exact ⟨false, rfl, by simp only [Bool.false_eq_true, false_iff]; exact fun h => hno2.out h.2, hb.alloc hb.size _⟩
      · obtain rfl : k = n := by omega
        go_wp2
        go_ret
        exact ⟨true, rfl, by simp only [true_iff]; exact ⟨by omega, HF.out⟩, hb⟩
end Go.Proofs.Ytnpbogamoanbiaa
