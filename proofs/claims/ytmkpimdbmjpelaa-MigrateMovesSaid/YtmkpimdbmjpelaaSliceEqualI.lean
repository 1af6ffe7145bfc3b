/-
  Contract of slices.Equal at numbers.
-/
import Derived.Test.YtmkpimdbmjpelaaRow
import Derived.ProofKit
namespace Go.Proofs.Ytmkpimdbmjpelaa
open Go.RowKit
def eqL (f g : Nat → Int) (n m : Nat) : Bool := (List.range n).map f == (List.range m).map g
theorem eqL_len {f g : Nat → Int} {n m : Nat} (h : n ≠ m) : eqL f g n m = false := by
  unfold eqL
  rw [beq_eq_false_iff_ne]
  intro e
  have := congrArg List.length e
  simp at this
  exact h this
theorem eqL_at {f g : Nat → Int} {n i : Nat} (hi : i < n) (h : f i ≠ g i) : eqL f g n n = false := by
  unfold eqL
  rw [beq_eq_false_iff_ne]
  intro e
  have := congrArg (fun l => l[i]?) e
  simp [hi] at this
  exact h this
theorem eqL_all {f g : Nat → Int} {n : Nat} (h : ∀ j, j < n → f j = g j) : eqL f g n n = true := by
  unfold eqL
  rw [beq_iff_eq]
  exact List.map_congr_left fun j hj => h j (by simpa using hj)
theorem below_dr {w W : World} {k : Nat} (h : Below w.heap.size w W) : Below w.heap.size w (W.drewN k) := h.trans ⟨rfl, rfl, rfl, Nat.le_refl _, fun _ _ => rfl⟩
set_option maxHeartbeats 1000000 in
theorem equalI_any (ao bo : Option Addr) (n m ca cb : Nat) (f g : Nat → Int) (w : World) (ha : Row w ao n (fun j => .int .i64 (f j))) (hb : Row w bo m (fun j => .int .i64 (g j))) (hn : n ≤ 100000) :
    Calls Try.prog 25 #[.slice ao n ca, .slice bo m cb] w fun e w' => e = .returned (.bool (eqL f g n m)) ∧ Below w.heap.size w w' := by
  by_cases hnm : n = m
  · subst hnm
    have t1 : ((n : Int) == (n : Int)) = true := by simp
    go_enter Try.func25, Try.ntmps25
    go_wp2
    go_loopw [13] (fun i_ wr => ∃ i : Nat, i_ = .int .i64 i ∧ i ≤ n ∧ Hid (∀ j, j < i → f j = g j) ∧ Below w.heap.size w wr) (fun i_ _ => n - (intOf i_).toNat)
    case atStart => exact ⟨0, rfl, Nat.zero_le _, fun j hj => by omega, Below.refl _ _⟩
    case round =>
      obtain ⟨i, rfl, hik, HS, hbr⟩ := hrel
      rcases Nat.lt_or_ge i n with hi1 | hi1
      · have t2 : decide ((i : Int) < (n : Int)) = true := by simp; omega
        obtain ⟨b, o, rfl, hc10⟩ := (ha.below hbr) i hi1
        have hc1 : wr.cell? ⟨b, o + i, none⟩ = some (.int .i64 (f i)) := hc10
        clear hc10
        obtain ⟨b2, o2, rfl, hc20⟩ := (hb.below hbr) i hi1
        have hc2 : wr.cell? ⟨b2, o2 + i, none⟩ = some (.int .i64 (g i)) := hc20
        clear hc20
        cases h3 : (f i == g i)
        · have HB := hid (eqL_at hi1 (by simpa using h3) : eqL f g n n = false)
          clear HS
          have h4 : (f i != g i) = true := by simp [bne, h3]
          go_wp2
          go_quiet (fail)
          go_wp2
          go_ret
          exact ⟨by rw [HB.out]; rfl, below_dr hbr⟩
        · have HT : Hid (∀ j, j < i + 1 → f j = g j) := fun j hj => by
            rcases Nat.lt_or_ge j i with h5 | h5
            · exact HS.out j h5
            · obtain rfl : j = i := by omega
              simpa using h3
          clear HS
          have h4 : (f i != g i) = false := by simp [bne, h3]
          go_wp2
          go_quiet (fail)
          go_wp2
          go_roundw
          case rel => exact ⟨i + 1, by go_num, by omega, HT, below_dr hbr⟩
          case measure => simp [intOf]; omega
      · obtain rfl : i = n := by omega
        have t2 : decide ((i : Int) < (i : Int)) = false := by simp
        have HB := hid (eqL_all HS.out : eqL f g i i = true)
        clear HS
        go_wp2
        go_ret
        exact ⟨by rw [HB.out]; rfl, hbr⟩
  · have t1 : ((n : Int) == (m : Int)) = false := by simp; omega
    have HB := hid (eqL_len hnm : eqL f g n m = false)
    go_enter Try.func25, Try.ntmps25
    go_wp2
    go_ret
    exact ⟨by rw [HB.out]; rfl, Below.refl _ _⟩
end Go.Proofs.Ytmkpimdbmjpelaa
