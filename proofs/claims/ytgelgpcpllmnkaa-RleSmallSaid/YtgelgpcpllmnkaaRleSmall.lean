/-
  The walk of RleSmall.
-/
import Derived.Test.YtgelgpcpllmnkaaRleBack
import Derived.ProofKit
namespace Go.Proofs.Ytgelgpcpllmnkaa
open Go.RowKit Go.Shelf
theorem infoU32r : (Try.prog.info? 72).map (fun i => (i.zero, i.size, i.bytes)) = some (some (.int .u32 0), 1, 4) := by kernel_rfl
/-- A made row whose cells below `m` all hold x. -/
theorem row_same {w : World} {m : Nat} {x : Int} {b : Nat} {xs : List Value} (h : w.ownsRow b 72 1 (.slice (some ⟨b, 0, none⟩) m m) m xs) (hx : ∀ j, j < m → xs[j]? = some (.int .u32 x)) : Row w (some ⟨b, 0, none⟩) m (fun _ => .int .u32 x) := fun i hi => by
  have := (h.cellAt i (by omega)).trans (hx i hi)
  exact ⟨b, 0, rfl, by rw [Nat.zero_add]; exact this⟩
set_option maxRecDepth 100000 in
set_option maxHeartbeats 2000000 in
theorem rleSmall_walk (ao : Option Addr) (n ca : Nat) (f : Nat → Int) (x many : Int) (w : World) (ha : Row w ao n (fun i => .int .u32 (f i))) (hn : n ≤ ca) (hnm : ca ≤ maxLen) :
    Calls Try.prog 7 #[.slice ao n ca, .int .u32 x, .int .i64 many] w fun e w' => e = .returned (.bool true) ∧ Below w.heap.size w w' := by
  by_cases h1 : 10000 < n
  · have d1 : decide (10000 < (n : Int)) = true := by simp; omega
    go_enter Try.func7, Try.ntmps7
    go_wp2
    go_ret
    exact ⟨rfl, Below.refl _ _⟩
  · have d1 : decide (10000 < (n : Int)) = false := by simp; omega
    by_cases h2 : many < 3
    · have d2 : decide (many < 3) = true := by simp; omega
      go_enter Try.func7, Try.ntmps7
      go_wp2
      go_ret
      exact ⟨rfl, Below.refl _ _⟩
    · have d2 : decide (many < 3) = false := by simp; omega
      by_cases h3 : 10000 < many
      · have d3 : decide (10000 < many) = true := by simp; omega
        go_enter Try.func7, Try.ntmps7
        go_wp2
        go_ret
        exact ⟨rfl, Below.refl _ _⟩
      · have d3 : decide (10000 < many) = false := by simp; omega
        obtain ⟨m, rfl⟩ : ∃ m : Nat, many = m := ⟨many.toNat, by omega⟩
        have hmod : (m : Int).tmod 4096 = ((m % 4096 : Nat) : Int) := rfl
        obtain ⟨r, hr⟩ : ∃ r, m % 4096 = r := ⟨_, rfl⟩
        rw [hr] at hmod
        by_cases h4 : 0 < r ∧ r < 3
        · have d4 : decide (0 < (r : Int)) = true := by simp; omega
          have d5 : decide ((r : Int) < 3) = true := by simp; omega
          clear hr
          go_enter Try.func7, Try.ntmps7
          go_wp2
          go_ret
          exact ⟨rfl, Below.refl _ _⟩
        · have hms : m % 4096 = 0 ∨ 3 ≤ m % 4096 := by omega
          have hdiv : ((m : Int) + 4095).tdiv 4096 = (((m + 4095) / 4096 : Nat) : Int) := rfl
          obtain ⟨q, hq⟩ : ∃ q, (m + 4095) / 4096 = q := ⟨_, rfl⟩
          have hnd : (n : Int).tdiv 2 = ((n / 2 : Nat) : Int) := rfl
          obtain ⟨u, hu⟩ : ∃ u, n / 2 = u := ⟨_, rfl⟩
          rw [hq] at hdiv
          rw [hu] at hnd
          have HQ := hid hq
          have HU := hid hu
          have HMS := hid hms
          have hqb : q ≤ 4 := by omega
          have hub : u ≤ 5000 := by omega
          clear hq hu hms
          obtain ⟨i0, hi, hz0, hz1, hz2⟩ := info_parts infoU32r
          obtain ⟨W5, hmk, hown0, hgr⟩ := run_make_full (P := Try.prog) w w.heap.size 71 72 i0 (.int .u32 0) 1 Try.underlying71 hi hz0 hz1 .i64 .i64 m (by rw [hz2]; omega) (by unfold maxLen; omega) (Nat.le_refl _)
          have hb0 : Below w.heap.size w W5 := (Below.refl w.heap.size w).grown hgr (Nat.le_refl _) (by simp)
          clear hr
          go_enter Try.func7, Try.ntmps7
          go_wp2
          all_goals
            go_loopw [8] (fun i wr => ∃ (k : Nat) (xs : List Value), i = .int .i64 k ∧ k ≤ m ∧ wr.ownsRow w.heap.size 72 1 (.slice (some ⟨w.heap.size, 0, none⟩) m m) m xs ∧ Hid (∀ j, j < k → xs[j]? = some (.int .u32 x)) ∧ Below w.heap.size w wr) (fun i _ => m - (intOf i).toNat)
            case atStart => exact ⟨0, _, rfl, Nat.zero_le _, hown0, fun j hj => by omega, hb0⟩
            case round =>
              obtain ⟨k, xs, rfl, hk, hown, HX, hbr⟩ := hrel
              rcases Nat.lt_or_ge k m with hkm | hkm
              · have hx : ∃ o, xs[k]? = some o := ⟨xs[k]'(by rw [hown.1]; omega), List.getElem?_eq_getElem _⟩
                obtain ⟨o, hx⟩ := hx
                have hcA := (hown.cellAt k (by omega)).trans hx
                have hfA := hown.frozenAt k
                have t0 : decide ((k : Int) < (m : Int)) = true := by simp; omega
                have hst := hown.stored k (.int .u32 x)
                go_wp2
                go_roundw
                case rel => exact ⟨k + 1, _, by go_num, hkm, hst.1, fun j hj => by
                    have hlen := hown.1
                    rcases Nat.lt_or_ge j k with h | h
                    · rw [List.getElem?_set_ne (by omega)]; exact HX.out j h
                    · obtain rfl : j = k := by omega
                      rw [List.getElem?_set_self (by omega)], hbr.grown hst.2 hbr.size (by rintro j hj; simp at hj; omega)⟩
                case measure => simp [intOf]; omega
              · have t0 : decide ((k : Int) < (m : Int)) = false := by simp; omega
                obtain rfl : k = m := by omega
                have hrow := row_same hown HX.out
                have HP := hid (pack_any _ k k (fun _ => x) wr hrow (by omega) (Nat.le_refl _) (by unfold maxLen; omega))
                rw [packF_same _ x k (fun _ _ => rfl) HMS.out, HQ.out] at HP
                have hb1 := hbr
                go_wp2_with fail
                refine HP.out.mono ?_
                rintro e w1 ⟨v, rfl, hp, hb2⟩
                have b1 := hb1.trans (hb2.mono hb1.size)
                obtain ⟨pa, pc, rfl, hpc, hpm, hpr⟩ := own_view hp
                clear hp hpr hmk hown0 hown hrow HP
                have HP2 := hid (pack_any ao n ca f w1 (ha.below b1) (by omega) hn hnm)
                have HS := packF_short f n
                rw [HU.out] at HS
                obtain ⟨p, hp⟩ : ∃ p, (packF f n).length = p := ⟨_, rfl⟩
                rw [hp] at HP2 HS
                clear hp
                have d6 : decide ((p : Int) ≤ (n : Int) + (u : Int) + 1) = true := by simp; omega
                go_wp2_with fail
                refine HP2.out.mono ?_
                rintro e w2 ⟨v, rfl, hp, hb3⟩
                have b2 := b1.trans (hb3.mono b1.size)
                obtain ⟨qa, qc, rfl, hqc, hqm, hqr⟩ := own_view hp
                clear hp hqr HP2
                go_wp2_with fail
                refine (rleAlive_any _).mono ?_
                rintro e w3 ⟨rfl, hb4⟩
                go_wp2_with fail
                go_ret
                exact ⟨rfl, b2.trans (hb4.mono b2.size)⟩
end Go.Proofs.Ytgelgpcpllmnkaa
