/-
  Contracts of the package rle: how often the first word comes; how many words come until one comes three times in a row.
-/
import Derived.Test.YtgelgpcpllmnkaaRow
namespace Go.Proofs.Ytgelgpcpllmnkaa
open Go.RowKit
/-- From n on, how far a test holds. -/
def lead (p : Nat → Bool) : Nat → Nat → Nat
  | 0, n => n
  | k + 1, n => if p n then lead p k (n + 1) else n
theorem lead_eq {p : Nat → Bool} {r : Nat} (h : ∀ j, j < r → p j = true) (hr : p r = false) : ∀ k n, n ≤ r → r ≤ n + k → lead p k n = r := by
  intro k
  induction k with
  | zero => intro n h1 h2; show n = r; omega
  | succ k ih =>
    intro n h1 h2
    show (if p n then _ else _ : Nat) = r
    rcases Nat.lt_or_ge n r with h3 | h3
    · rw [if_pos (h n h3)]; exact ih (n + 1) h3 (by omega)
    · obtain rfl : n = r := by omega
      rw [if_neg (by rw [hr]; simp)]
/-- How often the first word comes at the beginning, at most 4096 times. -/
def runP (f : Nat → Int) (n j : Nat) : Bool := decide (j < n) && decide (j < 4096) && (f j == f 0)
def runF (f : Nat → Int) (n : Nat) : Nat := lead (runP f n) 4097 0
theorem runF_eq {f : Nat → Int} {n r : Nat} (h : ∀ j, j < r → runP f n j = true) (hr : runP f n r = false) (hm : r ≤ 4096) : runF f n = r := lead_eq h hr 4097 0 (Nat.zero_le _) (by omega)
theorem upto_step {p : Nat → Bool} {m : Nat} (h : ∀ j, j < m → p j = true) (hm : p m = true) : ∀ j, j < m + 1 → p j = true := fun j hj => by
  rcases Nat.lt_or_ge j m with h1 | h1
  · exact h j h1
  · obtain rfl : j = m := by omega
    exact hm
theorem below_drewN {w W : World} {k : Nat} (h : Below w.heap.size w W) : Below w.heap.size w (W.drewN k) := h.trans ⟨rfl, rfl, rfl, Nat.le_refl _, fun _ _ => rfl⟩
set_option maxHeartbeats 1000000 in
theorem run_any (ao : Option Addr) (n c : Nat) (f : Nat → Int) (w : World) (ha : Row w ao n (fun j => .int .u32 (f j))) (hn : n ≤ 100000) :
    Calls Try.prog 63 #[.slice ao n c] w fun e w' => e = .returned (.int .i64 (runF f n : Nat)) ∧ Below w.heap.size w w' := by
  go_enter Try.func63, Try.ntmps63
  go_wp2
  go_loopw [3] (fun i wr => ∃ m : Nat, m ≤ n ∧ m ≤ 4096 ∧ i = .int .i64 m ∧ Hid (∀ j, j < m → runP f n j = true) ∧ Below w.heap.size w wr) (fun i _ => n - (intOf i).toNat)
  case atStart => exact ⟨0, by omega, by omega, rfl, fun j hj => by omega, Below.refl _ _⟩
  case round =>
    obtain ⟨m, hm, hm2, rfl, HS, hbr⟩ := hrel
    by_cases h1 : m < n
    · have d1 : decide ((m : Int) < (n : Int)) = true := by simp; omega
      by_cases h2 : m < 4096
      · have d2 : decide ((m : Int) < 4096) = true := by simp; omega
        obtain ⟨pb, po, rfl, hc0⟩ := (ha.below hbr) m h1
        have hc : wr.cell? ⟨pb, po + m, none⟩ = some (.int .u32 (f m)) := hc0
        have hc1 : wr.cell? ⟨pb, po, none⟩ = some (.int .u32 (f 0)) := (ha.below hbr).cellAt (i := 0) (by omega)
        clear hc0
        cases h3 : (f m == f 0)
        · have HE : Hid (runF f n = m) := runF_eq HS.out (by simp [runP, h3]) hm2
          clear HS
          go_wp2
          go_quiet (fail)
          go_wp2
          go_ret
          exact ⟨by rw [HE.out]; rfl, below_drewN hbr⟩
        · have HE : Hid (∀ j, j < m + 1 → runP f n j = true) := upto_step HS.out (by simp [runP, h3, h1, h2])
          clear HS
          go_wp2
          go_quiet (fail)
          go_wp2
          go_roundw
          case rel => exact ⟨m + 1, by omega, by omega, by go_num, HE, below_drewN hbr⟩
          case measure => simp [intOf]; omega
      · have d2 : decide ((m : Int) < 4096) = false := by simp; omega
        have HE : Hid (runF f n = m) := runF_eq HS.out (by simp [runP, h2]) hm2
        clear HS
        go_wp2
        go_quiet (fail)
        go_wp2
        go_ret
        exact ⟨by rw [HE.out]; rfl, below_drewN hbr⟩
    · have d1 : decide ((m : Int) < (n : Int)) = false := by simp; omega
      have HE : Hid (runF f n = m) := runF_eq HS.out (by simp [runP, h1]) hm2
      clear HS
      go_wp2
      go_quiet (fail)
      go_wp2
      go_ret
      exact ⟨by rw [HE.out]; rfl, below_drewN hbr⟩
theorem Row.from {w : World} {b o n k : Nat} {f : Nat → Value} (h : Row w (some ⟨b, o, none⟩) n f) (hk : k ≤ n) : Row w (some ⟨b, o + k, none⟩) (n - k) (fun j => f (k + j)) := fun i hi => ⟨b, o + k, rfl, by
  rw [Nat.add_assoc]; exact h.cellAt (by omega)⟩
/-- How many words come until one comes three times in a row, at most 4096. -/
def plainP (f : Nat → Int) (n j : Nat) : Bool := decide (j < n) && decide (j < 4096) && decide (runF (fun i => f (j + i)) (n - j) < 3)
def plainF (f : Nat → Int) (n : Nat) : Nat := lead (plainP f n) 4097 0
theorem plainF_eq {f : Nat → Int} {n r : Nat} (h : ∀ j, j < r → plainP f n j = true) (hr : plainP f n r = false) (hm : r ≤ 4096) : plainF f n = r := lead_eq h hr 4097 0 (Nat.zero_le _) (by omega)
set_option maxHeartbeats 1000000 in
theorem plain_any (ao : Option Addr) (n c : Nat) (f : Nat → Int) (w : World) (ha : Row w ao n (fun j => .int .u32 (f j))) (hn : n ≤ 100000) (hc : n ≤ c) (_hcm : c ≤ maxLen) :
    Calls Try.prog 64 #[.slice ao n c] w fun e w' => e = .returned (.int .i64 (plainF f n : Nat)) ∧ Below w.heap.size w w' := by
  go_enter Try.func64, Try.ntmps64
  go_wp2
  go_loopw [3] (fun i wr => ∃ m : Nat, m ≤ n ∧ m ≤ 4096 ∧ i = .int .i64 m ∧ Hid (∀ j, j < m → plainP f n j = true) ∧ Below w.heap.size w wr) (fun i _ => n - (intOf i).toNat)
  case atStart => exact ⟨0, by omega, by omega, rfl, fun j hj => by omega, Below.refl _ _⟩
  case round =>
    obtain ⟨m, hm, hm2, rfl, HS, hbr⟩ := hrel
    by_cases h1 : m < n
    · have d1 : decide ((m : Int) < (n : Int)) = true := by simp; omega
      by_cases h2 : m < 4096
      · have d2 : decide ((m : Int) < 4096) = true := by simp; omega
        obtain ⟨pb, po, rfl, _⟩ := ha m h1
        have hrow := (ha.below hbr).from (k := m) hm
        have HR := hid (run_any (some ⟨pb, po + m, none⟩) (n - m) (c - m) (fun j => f (m + j)) wr hrow (by omega))
        have tm : ((m : Int)).toNat = m := by omega
        have e1 : ((n : Int) - (m : Int)).toNat = n - m := by omega
        by_cases h3 : runF (fun j => f (m + j)) (n - m) < 3
        · have HE : Hid (∀ j, j < m + 1 → plainP f n j = true) := upto_step HS.out (by simp [plainP, h3, h1, h2])
          have d3 : decide (((runF (fun j => f (m + j)) (n - m) : Nat) : Int) < 3) = true := by simp; omega
          clear HS
          generalize runF (fun j => f (m + j)) (n - m) = r at *
          go_wp2_with fail
          refine HR.out.mono ?_
          rintro e w1 ⟨rfl, hb1⟩
          go_wp2_with fail
          go_roundw
          case rel => exact ⟨m + 1, by omega, by omega, by go_num, HE, hbr.trans (hb1.mono hbr.size)⟩
          case measure => simp [intOf]; omega
        · have HE : Hid (plainF f n = m) := plainF_eq HS.out (by simp [plainP]; intro _ _; omega) hm2
          have d3 : decide (((runF (fun j => f (m + j)) (n - m) : Nat) : Int) < 3) = false := by simp; omega
          clear HS
          generalize runF (fun j => f (m + j)) (n - m) = r at *
          go_wp2_with fail
          refine HR.out.mono ?_
          rintro e w1 ⟨rfl, hb1⟩
          go_wp2_with fail
          go_ret
          exact ⟨by rw [HE.out]; rfl, hbr.trans (hb1.mono hbr.size)⟩
      · have d2 : decide ((m : Int) < 4096) = false := by simp; omega
        have HE : Hid (plainF f n = m) := plainF_eq HS.out (by simp [plainP, h2]) hm2
        clear HS
        go_wp2
        go_ret
        exact ⟨by rw [HE.out]; rfl, hbr⟩
    · have d1 : decide ((m : Int) < (n : Int)) = false := by simp; omega
      have HE : Hid (plainF f n = m) := plainF_eq HS.out (by simp [plainP, h1]) hm2
      clear HS
      go_wp2
      go_ret
      exact ⟨by rw [HE.out]; rfl, hbr⟩
end Go.Proofs.Ytgelgpcpllmnkaa
