/-
  Do all periods divide a number: the walk.
-/
import Derived.Test.YtijnpkbijljnlaaDoorLoadSel
namespace Go.Proofs.YtijnpkbijljnlaaDoor
open Go.RowKit Go.Shelf
attribute [local go_sem] stillAt
/-- What the answer tells. -/
def DivP (g : Nat → Nat → Int) (s n : Nat) (m : Int) (d : Bool) : Prop := d = true → ∀ i ∈ selT s n, m % g i 0 = 0
set_option maxRecDepth 100000 in
set_option maxHeartbeats 1000000 in
theorem divided_any (x : Img) (g : Nat → Nat → Int) (s : Nat) (m : Int) (w : World) (hm0 : 0 ≤ m) (hm : m ≤ 1099511627776) (hn : x.n ≤ 16) (hT : Tasks w x.ao x.n g) (hP : ∀ i, i < x.n → 1 ≤ g i 0 ∧ g i 0 ≤ 4096) :
    Calls Tryd.prog 16 #[iv x, .int .u32 s, .int .i64 m] w fun e W' => ∃ d : Bool, e = .returned (.bool d) ∧ DivP g s x.n m d ∧ Below w.heap.size w W' := by
  obtain ⟨r, ao, n, cap, mo, mn, mc, eo, en, ec⟩ := x
  unfold iv
  dsimp only at hT hP hn ⊢
  have hb1 : Below w.heap.size w (w.alloc (Obj.cells #[.int .i64 r, .slice ao n cap, .slice mo mn mc, .slice eo en ec] 26)) := (Below.refl _ _).alloc (Nat.le_refl _) _
  have HI := hid (heap_alloc_new w (Obj.cells #[.int .i64 r, .slice ao n cap, .slice mo mn mc, .slice eo en ec] 26))
  have HTW := hid (hT.below hb1)
  have HB := hid hb1
  have HP := hid hP
  clear hT hb1 hP
  go_enter Tryd.func16, Tryd.ntmps16
  go_wp2
  obtain ⟨W1, hW1⟩ : ∃ X, X = w.alloc (Obj.cells #[.int .i64 r, .slice ao n cap, .slice mo mn mc, .slice eo en ec] 26) := ⟨_, rfl⟩
  rw [← hW1] at HTW HI HB ⊢
  clear hW1
  have HA0 : Hid (∀ j, j < 0 → s.testBit j = true → m % g j 0 = 0) := fun j hj => by omega
  go_loopw [7] (fun i_ wr => ∃ i : Nat, i ≤ n ∧ i_ = .int .i64 i ∧ Hid (∀ j, j < i → s.testBit j = true → m % g j 0 = 0) ∧ W1 = wr) (fun i_ _ => n - (intOf i_).toNat)
  case atStart => exact ⟨0, by omega, rfl, HA0, rfl⟩
  case round =>
    clear HA0
    obtain ⟨i, hi, rfl, HA, rfl⟩ := hrel
    have c1 := blk_cell HI.out 1
    by_cases hlt : i < n
    · have t0 : decide ((i : Int) < (n : Int)) = true := by simp; omega
      have t32 : decide (i < 32) = true := by simp; omega
      have HH : Hid (∀ X, Calls Tryd.prog 11 #[.int .u32 s, .int .i64 i] X fun e w' => e = .returned (.bool (s.testBit i)) ∧ w' = X) := fun X => by
        have := has10_any s i (by unfold maxLen; omega) X
        rw [t32, Bool.true_and] at this
        exact this
      have HA2 : Hid ((s.testBit i = true → m % g i 0 = 0) → ∀ j, j < i + 1 → s.testBit j = true → m % g j 0 = 0) := fun h j hj hb => by
        rcases (show j < i ∨ j = i by omega) with h1 | rfl
        · exact HA.out j h1 hb
        · exact h hb
      obtain ⟨b, o, rfl, hck⟩ := HTW.out i hlt
      have p0 := hck 0 (by decide)
      rw [Nat.add_zero] at p0
      clear hck t32
      have hP1 := HP.out i hlt
      have i0' : (0 : Int) ≤ (i : Int) := by omega
      have i1 : (i : Int) < (n : Int) := by omega
      generalize s.testBit i = bt at HH HA2
      generalize g i 0 = P at p0 HA2 hP1
      have hP0 : (P == 0) = false := by simp; omega
      cases bt
      · have HA3 := hid (HA2.out fun h => by cases h)
        go_wp2_with (go_at_call 11; refine (HH.out _).mono ?_; rintro e w' ⟨rfl, rfl⟩)
        go_roundw
        case rel => exact ⟨i + 1, by omega, by go_num, HA3, trivial⟩
        case measure => simp [intOf]; omega
      · by_cases hmp : m % P = 0
        · have t5 : (m % P != 0) = false := by simp [hmp]
          have HA3 := hid (HA2.out fun _ => hmp)
          clear hmp HA2
          go_wp2_with (go_at_call 11; refine (HH.out _).mono ?_; rintro e w' ⟨rfl, rfl⟩)
          go_roundw
          case rel => exact ⟨i + 1, by omega, by go_num, HA3, trivial⟩
          case measure => simp [intOf]; omega
        · have t5 : (m % P != 0) = true := by simp [hmp]
          go_wp2_with (go_at_call 11; refine (HH.out _).mono ?_; rintro e w' ⟨rfl, rfl⟩)
          go_ret
          exact ⟨false, rfl, (fun hh => nomatch hh), HB.out⟩
    · obtain rfl : i = n := by omega
      have t0 : decide ((i : Int) < (i : Int)) = false := by simp
      have hfin := hid (show DivP g s i m true from fun _ j hj => by
        have := (mem_selT (by omega)).1 hj
        exact HA.out j this.1 this.2)
      go_wp2
      go_ret
      exact ⟨true, rfl, hfin.out, HB.out⟩
end Go.Proofs.YtijnpkbijljnlaaDoor
