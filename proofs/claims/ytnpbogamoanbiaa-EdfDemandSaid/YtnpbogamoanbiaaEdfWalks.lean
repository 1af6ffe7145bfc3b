/-
  The walks of EdfAll, EdfFits, EdfBest and EdfDemand.
-/
import Derived.Test.YtnpbogamoanbiaaEdfAlive
import Derived.Test.YtnpbogamoanbiaaEdfBestLaw
import Derived.Test.YtnpbogamoanbiaaCheckRef
namespace Go.Proofs.Ytnpbogamoanbiaa
open Go.RowKit
set_option maxRecDepth 100000 in
set_option maxHeartbeats 1000000 in
theorem edfAll_walk (ao : Option Addr) (n cap : Nat) (t : Int) (g : Nat → Nat → Int) (w : World) (hm : n ≤ maxLen) (hT : Tasks w ao n g) :
    Calls Try.prog 4 #[.slice ao n cap, .int .i64 t] w fun e w' => e = .returned (.bool true) ∧ Below w.heap.size w w' := by
  have HR := hid (right46_any ao n cap g 10 w hm (by decide) hT)
  go_enter Try.func4, Try.ntmps4
  go_wp2_with fail
  refine HR.out.mono ?_
  rintro e w1 ⟨r, rfl, hr, b1⟩
  cases r with
  | false =>
    clear hr
    go_wp2
    go_ret
    exact ⟨rfl, b1⟩
  | true =>
    obtain ⟨hn, hG⟩ := hr.1 rfl
    by_cases ht : t < 0
    · clear hr hG
      go_wp2
      go_ret
      exact ⟨rfl, b1⟩
    · by_cases ht2 : 5000 < t
      · clear hr hG
        go_wp2
        go_ret
        exact ⟨rfl, b1⟩
      · have HA := hid (edfAll_any ao n cap g t w1 (by omega) (hT.below b1))
        rw [allK_ok hG (by omega) (by omega) (by omega)] at HA
        have HB := hid (fun W (hW : Below w.heap.size w W) => refAll_any ao n cap g t W (by omega) (hT.below hW) hG (by omega) (by omega))
        obtain ⟨z, hz⟩ : ∃ z, hasN t (fun i => tkOf (g i)) n = z := ⟨_, rfl⟩
        rw [hz] at HA HB
        clear hr hG hz
        go_wp2_with fail
        refine HA.out.mono ?_
        rintro e w2 ⟨rfl, hb2⟩
        have b2 := b1.trans (hb2.mono b1.size)
        go_wp2_with fail
        refine (HB.out _ b2).mono ?_
        rintro e w3 ⟨rfl, hb3⟩
        have b3 := b2.trans (hb3.mono b2.size)
        go_wp2_with fail
        refine (edfAlive_any _).mono ?_
        rintro e w4 ⟨rfl, hb4⟩
        go_wp2_with fail
        go_ret
        exact ⟨rfl, b3.trans (hb4.mono b3.size)⟩
set_option maxRecDepth 100000 in
set_option maxHeartbeats 1000000 in
theorem edfFits_walk (ao : Option Addr) (n cap : Nat) (g : Nat → Nat → Int) (w : World) (hm : n ≤ maxLen) (hT : Tasks w ao n g) :
    Calls Try.prog 5 #[.slice ao n cap] w fun e w' => e = .returned (.bool true) ∧ Below w.heap.size w w' := by
  have HR := hid (right46_any ao n cap g 6 w hm (by decide) hT)
  go_enter Try.func5, Try.ntmps5
  go_wp2_with fail
  refine HR.out.mono ?_
  rintro e w1 ⟨r, rfl, hr, b1⟩
  cases r with
  | false =>
    clear hr
    go_wp2
    go_ret
    exact ⟨rfl, b1⟩
  | true =>
    obtain ⟨hn, hG⟩ := hr.1 rfl
    have HBU := hid (refBusy_any ao n cap g 65536 w1 (by omega) (hT.below b1) hG (Int.le_refl _))
    have HRF := hid (fun W (hW : Below w.heap.size w W) => refFits46_any ao n cap g W (by omega) (hT.below hW) hG)
    have HFI := hid (fun W (hW : Below w.heap.size w W) => edfFits_any ao n cap g W (by omega) (hT.below hW) hG)
    have HQU := hid (fun W (hW : Below w.heap.size w W) => edfQuick_any ao n cap g W (by omega) (hT.below hW) hG)
    rw [fitsB_K hG (by omega)] at HFI
    rw [quickB_K hG] at HQU
    obtain ⟨z, hz⟩ : ∃ z, fitsK (fun i => tkOf (g i)) n = z := ⟨_, rfl⟩
    rw [hz] at HRF HFI HQU
    obtain ⟨⟨x, ok⟩, hx⟩ : ∃ y, busyR 65536 (fun i => tkOf (g i)) n = y := ⟨_, rfl⟩
    rw [hx] at HBU
    clear hr hG hz hx hn
    go_wp2_with fail
    refine HBU.out.mono ?_
    rintro e w' ⟨rfl, rfl⟩
    clear HBU
    cases ok
    · cases z
      all_goals
        go_wp2_with fail
        refine (HRF.out _ b1).mono ?_
        rintro e w2 ⟨rfl, hb2⟩
        have b2 := b1.trans (hb2.mono b1.size)
        go_wp2_with fail
        refine (HFI.out _ b2).mono ?_
        rintro e w3 ⟨rfl, hb3⟩
        have b3 := b2.trans (hb3.mono b2.size)
        go_wp2_with fail
        refine (HQU.out _ b3).mono ?_
        rintro e w4 ⟨rfl, hb4⟩
        have b4 := b3.trans (hb4.mono b3.size)
        go_wp2_with fail
        refine (edfAlive_any _).mono ?_
        rintro e w5 ⟨rfl, hb5⟩
        go_wp2_with fail
        go_ret
        exact ⟨rfl, b4.trans (hb5.mono b4.size)⟩
    · by_cases hx2 : 2000 < x
      · go_wp2
        go_ret
        exact ⟨rfl, b1⟩
      · cases z
        all_goals
          go_wp2_with fail
          refine (HRF.out _ b1).mono ?_
          rintro e w2 ⟨rfl, hb2⟩
          have b2 := b1.trans (hb2.mono b1.size)
          go_wp2_with fail
          refine (HFI.out _ b2).mono ?_
          rintro e w3 ⟨rfl, hb3⟩
          have b3 := b2.trans (hb3.mono b2.size)
          go_wp2_with fail
          refine (HQU.out _ b3).mono ?_
          rintro e w4 ⟨rfl, hb4⟩
          have b4 := b3.trans (hb4.mono b3.size)
          go_wp2_with fail
          refine (edfAlive_any _).mono ?_
          rintro e w5 ⟨rfl, hb5⟩
          go_wp2_with fail
          go_ret
          exact ⟨rfl, b4.trans (hb5.mono b4.size)⟩
/-! ### EdfBest -/
theorem brings_term {x : Nat → Int} (h : OkT x) {t : Int} (h0 : 0 ≤ t) : brings t (termOf x) = (t + x 0 - 1) / x 0 * x 2 := by
  unfold brings jobsOf termOf
  have := h.p1
  simp only [Int.sub_zero, Int.add_zero]
  rw [show max t 0 = t by omega]
theorem total_comes {g : Nat → Nat → Int} {n : Nat} (h : ∀ i, i < n → OkT (g i)) {t : Int} (h0 : 0 ≤ t) : total t (fun i => termOf (g i)) n = comes t (fun i => tkOf (g i)) n := by
  induction n with
  | zero => rfl
  | succ n ih =>
    simp only [total, comes]
    rw [ih fun i hi => h i (by omega), brings_term (h n (by omega)) h0]; rfl
theorem lastR_inTime {g : Nat → Nat → Int} {n : Nat} (hT : ∀ i, i < n → OkT (g i)) {i : Nat} (hi : i < n) (hn : n ≤ 20) (h : lastR (g i) g i = true) : InTime (fun i => tkOf (g i)) i := by
  have hx := hT i hi
  obtain ⟨p1, p2, d1, d2, c1, c2⟩ := hT i hi
  have hl := leastR_isLeast (own := g i 2) (f := fun j => termOf (g j)) (n := i) (most := g i 1) (fun j hj => (hT j (by omega)).fit) (by omega) (by omega) (by omega) (by omega)
  unfold lastR at h
  rcases hl with ⟨x, he, h1, h2, h3, _⟩ | ⟨he, _⟩
  · refine ⟨x, by omega, h2, ?_⟩
    have h4 : due (g i 2) x (fun j => termOf (g j)) i ≤ x := h3
    unfold due at h4
    rw [total_comes (fun j hj => hT j (by omega)) (by omega)] at h4
    exact h4
  · rw [he] at h; cases h
theorem allOk_all {P : Nat → Bool} {n : Nat} (h : allOk P n = true) : ∀ i, i < n → P i = true := by
  induction n with
  | zero => intro i hi; omega
  | succ n ih =>
    intro i hi
    have h2 : (allOk P n && P n) = true := h
    rw [Bool.and_eq_true] at h2
    rcases (show i < n ∨ i = n by omega) with e | rfl
    · exact ih h2.1 i e
    · exact h2.2
theorem best_fits {g : Nat → Nat → Int} {n : Nat} (hO : ∀ i, i < n → OkK (tkOf (g i))) (hT : ∀ i, i < n → OkT (g i)) (hn : n ≤ 20) (hb : (busyR 65536 (fun i => tkOf (g i)) n).2 = true) (h : fits38 g n = true) : fitsK (fun i => tkOf (g i)) n = true :=
  fitsK_good hb fun t h1 _ _ => best_law hO (fun i hi => lastR_inTime hT hi hn (allOk_all h i hi)) t (by omega)
theorem okT_of {x : Nat → Int} (h : OkK (tkOf x)) (hp : x 0 ≤ 400) : OkT x := ⟨h.p1, hp, h.d1, h.d2, h.c1, h.c2⟩
set_option maxRecDepth 100000 in
set_option maxHeartbeats 1000000 in
theorem edfBest_walk (ao : Option Addr) (n cap : Nat) (g : Nat → Nat → Int) (w : World) (hm : n ≤ maxLen) (hcap : n ≤ cap ∧ cap ≤ maxLen) (hT : Tasks w ao n g) :
    Calls Try.prog 6 #[.slice ao n cap] w fun e w' => e = .returned (.bool true) ∧ Below w.heap.size w w' := by
  have HR := hid (right46_any ao n cap g 6 w hm (by decide) hT)
  go_enter Try.func6, Try.ntmps6
  go_wp2_with fail
  refine HR.out.mono ?_
  rintro e w1 ⟨r, rfl, hr, b1⟩
  cases r with
  | false =>
    clear hr
    go_wp2
    go_ret
    exact ⟨rfl, b1⟩
  | true =>
    obtain ⟨hn, hG⟩ := hr.1 rfl
    have HG := hid hG
    clear hr hG
    go_wp2
    go_loop [3] (fun i => ∃ k : Nat, k ≤ n ∧ i = .int .i64 k ∧ Hid (∀ j, j < k → g j 0 ≤ 400)) (fun i => n - (intOf i).toNat)
    case atStart => exact ⟨0, Nat.zero_le _, rfl, fun j hj => by omega⟩
    case round =>
      obtain ⟨k, hk, rfl, HP⟩ := hrel
      by_cases hlt : k < n
      · obtain ⟨b, o, rfl, hbl⟩ := hT.form hlt
        obtain ⟨⟨c0, c1, c2, c3⟩, ⟨c4, c5, c6, c7⟩, c8, c9, c10⟩ := (hT.below b1).at_ hlt
        have t1 : decide ((k : Int) < (n : Int)) = true := by simp; omega
        by_cases hp : 400 < g k 0
        · go_wp2
          go_ret
          exact ⟨rfl, b1⟩
        · have HP2 : Hid (∀ j, j < k + 1 → g j 0 ≤ 400) := fun j hj => by
            rcases (show j < k ∨ j = k by omega) with e | rfl
            · exact HP.out j e
            · omega
          go_wp2
          go_round
          case rel => exact ⟨k + 1, by omega, by go_num, HP2⟩
          case measure => simp [intOf]; omega
      · obtain rfl : k = n := by omega
        have t1 : decide ((k : Int) < (k : Int)) = false := by simp
        have HT := hid (fun i hi => okT_of (HG.out i hi) (HP.out i hi))
        have HBU := hid (refBusy_any ao k cap g 65536 w1 (by omega) (hT.below b1) HG.out (Int.le_refl _))
        have HRF := hid (fun W (hW : Below w.heap.size w W) => refFits38_any ao k cap g W (by omega) hcap (hT.below hW) HT.out)
        have HFI := hid (fun W (hW : Below w.heap.size w W) => edfFits_any ao k cap g W (by omega) (hT.below hW) HG.out)
        have HQU := hid (fun W (hW : Below w.heap.size w W) => edfQuick_any ao k cap g W (by omega) (hT.below hW) HG.out)
        rw [fitsB_K HG.out (by omega)] at HFI
        rw [quickB_K HG.out] at HQU
        have HBE := hid (best_fits (n := k) HG.out HT.out (by omega))
        obtain ⟨z, hz⟩ : ∃ z, fitsK (fun i => tkOf (g i)) k = z := ⟨_, rfl⟩
        rw [hz] at HFI HQU HBE
        obtain ⟨⟨x, ok⟩, hx⟩ : ∃ y, busyR 65536 (fun i => tkOf (g i)) k = y := ⟨_, rfl⟩
        rw [hx] at HBU HBE
        obtain ⟨y, hy⟩ : ∃ y, fits38 g k = y := ⟨_, rfl⟩
        rw [hy] at HRF HBE
        clear hz hx hy HG HT HP
        go_wp2_with fail
        refine HBU.out.mono ?_
        rintro e w' ⟨rfl, rfl⟩
        clear HBU
        cases ok
        · go_wp2_with fail
          refine (edfAlive_any _).mono ?_
          rintro e w5 ⟨rfl, hb5⟩
          go_wp2_with fail
          go_ret
          exact ⟨rfl, b1.trans (hb5.mono b1.size)⟩
        · by_cases hx2 : 20000 < x
          · go_wp2_with fail
            refine (edfAlive_any _).mono ?_
            rintro e w5 ⟨rfl, hb5⟩
            go_wp2_with fail
            go_ret
            exact ⟨rfl, b1.trans (hb5.mono b1.size)⟩
          · cases y
            · clear HBE
              go_wp2_with fail
              refine (HRF.out _ b1).mono ?_
              rintro e w2 ⟨rfl, hb2⟩
              have b2 := b1.trans (hb2.mono b1.size)
              go_wp2_with fail
              refine (edfAlive_any _).mono ?_
              rintro e w5 ⟨rfl, hb5⟩
              go_wp2_with fail
              go_ret
              exact ⟨rfl, b2.trans (hb5.mono b2.size)⟩
            · obtain rfl : z = true := HBE.out rfl rfl
              clear HBE
              go_wp2_with fail
              refine (HRF.out _ b1).mono ?_
              rintro e w2 ⟨rfl, hb2⟩
              have b2 := b1.trans (hb2.mono b1.size)
              go_wp2_with fail
              refine (HFI.out _ b2).mono ?_
              rintro e w3 ⟨rfl, hb3⟩
              have b3 := b2.trans (hb3.mono b2.size)
              go_wp2_with fail
              refine (HQU.out _ b3).mono ?_
              rintro e w4 ⟨rfl, hb4⟩
              have b4 := b3.trans (hb4.mono b3.size)
              go_wp2_with fail
              refine (edfAlive_any _).mono ?_
              rintro e w5 ⟨rfl, hb5⟩
              go_wp2_with fail
              go_ret
              exact ⟨rfl, b4.trans (hb5.mono b4.size)⟩
/-! ### EdfDemand -/
set_option maxRecDepth 100000 in
set_option maxHeartbeats 1000000 in
theorem edfDemand_walk (x : Nat → Int) (t : Int) (w : World) : Calls Try.prog 3 #[tv x, .int .i64 t] w fun e w' => e = .returned (.bool true) ∧ Below w.heap.size w w' := by
  have b0 : Below w.heap.size w (w.alloc (Obj.cells #[Value.int .i64 (x 0), Value.int .i64 (x 1), Value.int .i64 (x 2), Value.int .i64 (x 3), Value.int .i64 (x 4), Value.int .i64 (x 5), Value.int .i64 (x 6), Value.int .i64 (x 7), Value.int .i64 (x 8), Value.int .i64 (x 9), Value.int .i64 (x 10)] 24)) := (Below.refl _ _).alloc (Nat.le_refl _) _
  have hbox := heap_alloc_new w (Obj.cells #[Value.int .i64 (x 0), Value.int .i64 (x 1), Value.int .i64 (x 2), Value.int .i64 (x 3), Value.int .i64 (x 4), Value.int .i64 (x 5), Value.int .i64 (x 6), Value.int .i64 (x 7), Value.int .i64 (x 8), Value.int .i64 (x 9), Value.int .i64 (x 10)] 24)
  have HD := hid (edfDemand_any x t (w.alloc (Obj.cells #[Value.int .i64 (x 0), Value.int .i64 (x 1), Value.int .i64 (x 2), Value.int .i64 (x 3), Value.int .i64 (x 4), Value.int .i64 (x 5), Value.int .i64 (x 6), Value.int .i64 (x 7), Value.int .i64 (x 8), Value.int .i64 (x 9), Value.int .i64 (x 10)] 24)))
  unfold tv
  go_enter Try.func3, Try.ntmps3
  go_wp2_with fail
  refine HD.out.mono ?_
  rintro e w1 ⟨rfl, hb1⟩
  have b1 := b0.trans (hb1.mono b0.size)
  have hbox1 := blk_below hbox hb1
  have c0 : w1.cell? ⟨w.heap.size, 0, none⟩ = some (.int .i64 (x 0)) := blk_cell_at hbox1 0
  have c1 : w1.cell? ⟨w.heap.size, 1, none⟩ = some (.int .i64 (x 1)) := blk_cell_at hbox1 1
  have c2 : w1.cell? ⟨w.heap.size, 2, none⟩ = some (.int .i64 (x 2)) := blk_cell_at hbox1 2
  have hwl : w.heap.size < w1.heap.size := cell_lt c0
  clear hbox hbox1 HD b0 hb1
  by_cases hbad : x 0 < 1 ∨ x 1 < 1 ∨ x 2 < 0 ∨ t < 0 ∨ 1099511627776 < t
  · rw [show dR (x 0) (x 1) (x 2) t = (0, false) from if_pos hbad]
    rcases (show x 0 < 1 ∨ (1 ≤ x 0 ∧ x 1 < 1) ∨ (1 ≤ x 0 ∧ 1 ≤ x 1 ∧ x 2 < 0) ∨ (1 ≤ x 0 ∧ 1 ≤ x 1 ∧ 0 ≤ x 2 ∧ t < 0) ∨ (1 ≤ x 0 ∧ 1 ≤ x 1 ∧ 0 ≤ x 2 ∧ 0 ≤ t ∧ 1099511627776 < t) by omega) with h | h | h | h | h
    all_goals
      clear hbad
      go_wp2_with fail
      refine (edfAlive_any _).mono ?_
      rintro e w5 ⟨rfl, hb5⟩
      go_wp2_with fail
      go_ret
      exact ⟨rfl, b1.trans (hb5.mono b1.size)⟩
  · have h : 1 ≤ x 0 ∧ 1 ≤ x 1 ∧ 0 ≤ x 2 ∧ 0 ≤ t ∧ t ≤ 1099511627776 := by omega
    obtain ⟨h1, h2, h3, h4, h5⟩ := h
    by_cases hd : t < x 1
    · rw [show dR (x 0) (x 1) (x 2) t = (0, true) by unfold dR; rw [if_neg hbad, if_pos hd]]
      have d1 : decide (x 1 ≤ t) = false := by simpa using hd
      clear hbad
      go_wp2_with fail
      refine (edfAlive_any _).mono ?_
      rintro e w5 ⟨rfl, hb5⟩
      go_wp2_with fail
      go_ret
      exact ⟨rfl, b1.trans (hb5.mono b1.size)⟩
    · rw [show dR (x 0) (x 1) (x 2) t = mulR ((t - x 1) / x 0 + 1) (x 2) by unfold dR; rw [if_neg hbad, if_neg hd]]
      have d1 : decide (x 1 ≤ t) = true := by simpa using hd
      have hq0 : 0 ≤ (t - x 1) / x 0 := Int.ediv_nonneg (by omega) (by omega)
      have hq1 : (t - x 1) / x 0 ≤ t - x 1 := Int.ediv_le_self _ (by omega)
      have hq2 : (t - x 1).tdiv (x 0) = (t - x 1) / x 0 := Int.tdiv_eq_ediv_of_nonneg (by omega)
      have HM := hid (mulRef_any ((t - x 1) / x 0 + 1) (x 2))
      obtain ⟨q, hq⟩ : ∃ q, (t - x 1) / x 0 = q := ⟨_, rfl⟩
      rw [hq] at HM hq0 hq1 hq2 ⊢
      obtain ⟨⟨r1, r2⟩, hr⟩ : ∃ y, mulR (q + 1) (x 2) = y := ⟨_, rfl⟩
      rw [hr] at HM ⊢
      have he1 : IntKind.i64.wrap (t - x 1) = t - x 1 := IntWalk.i64_in _ (by omega)
      have he3 : IntKind.i64.wrap q = q := IntWalk.i64_in _ (by omega)
      have he4 : IntKind.i64.wrap (q + 1) = q + 1 := IntWalk.i64_in _ (by omega)
      have hx0 : x 0 ≠ 0 := by omega
      clear hbad hq hr
      go_wp2
      go_quiet ((go_at_call 9; exact Calls.drawn (HM.out _)))
      go_wp2_with fail
      refine (edfAlive_any _).mono ?_
      rintro e w5 ⟨rfl, hb5⟩
      go_wp2_with fail
      go_ret
      have b2 : Below w.heap.size w (w1.drewN nq) := b1.trans ⟨rfl, rfl, rfl, Nat.le_refl _, fun _ _ => rfl⟩
      exact ⟨rfl, b2.trans (hb5.mono b2.size)⟩
end Go.Proofs.Ytnpbogamoanbiaa
