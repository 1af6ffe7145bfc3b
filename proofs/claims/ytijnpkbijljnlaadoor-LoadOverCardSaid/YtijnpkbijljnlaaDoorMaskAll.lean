/-
  The maker of a set's iterator; the law's own look into a set; an image as a value; more than is asked of any image.
-/
import Derived.Test.YtijnpkbijljnlaaDoorMask
import Derived.Test.YtijnpkbijljnlaaDoorTask
import Derived.Test.YtijnpkbijljnlaaDoorSave
namespace Go.Proofs.YtijnpkbijljnlaaDoor
open Go.RowKit Go.Shelf
theorem mall_any (s : Nat) (w : World) : Calls Tryd.prog 23 #[.int .u32 s] w fun e w' => e = .returned (.func (.func 34) #[] #[.pointer (some ⟨w.heap.size, 0, none⟩)]) ∧ w' = w.alloc (.cells #[.int .u32 s] 28) := by
  go_enter Tryd.func23, Tryd.ntmps23
  go_wp2
  go_ret
  exact ⟨rfl, rfl⟩
theorem bit_quot (s i : Nat) : ((s / 2 ^ i % 2 : Nat) == 1) = s.testBit i := by
  simp [Nat.testBit, Nat.shiftRight_eq_div_pow]
theorem has10_any (s : Nat) (i : Nat) (hi : i < maxLen) (w : World) : Calls Tryd.prog 11 #[.int .u32 s, .int .i64 i] w fun e w' => e = .returned (.bool (decide (i < 32) && s.testBit i)) ∧ w' = w := by
  unfold maxLen at hi
  by_cases h : i < 32
  · have t1 : decide ((0 : Int) ≤ (i : Int)) = true := by simp
    have t2 : decide ((i : Int) < 32) = true := by simp; omega
    go_enter Tryd.func11, Tryd.ntmps11
    go_wp2
    go_ret
    refine ⟨?_, rfl⟩
    rw [← bit_quot s i]
    have e : (((s : Int) / 2 ^ i).tmod 2 == 1) = (s / 2 ^ i % 2 == 1) := by
      rw [show (s : Int) / 2 ^ i = ((s / 2 ^ i : Nat) : Int) by push_cast; rfl]
      generalize s / 2 ^ i = q
      rw [Int.tmod_eq_emod_of_nonneg (by omega), show (q : Int) % 2 = ((q % 2 : Nat) : Int) by omega]
      generalize q % 2 = y
      by_cases hy : y = 1
      · subst hy; rfl
      · have h1 : (y == 1) = false := by simp [hy]
        rw [h1]; simp; omega
    rw [e]; simp [h]
  · have t2 : decide ((i : Int) < 32) = false := by simp; omega
    go_enter Tryd.func11, Tryd.ntmps11
    go_wp2
    go_ret
    exact ⟨by simp [h], rfl⟩
/-- An image, as it is handed on. -/
structure Img where
  r : Int
  ao : Option Addr
  n : Nat
  cap : Nat
  mo : Option Addr
  mn : Nat
  mc : Nat
  eo : Option Addr
  en : Nat
  ec : Nat
@[go_sem] def iv (x : Img) : Value := .agg #[.int .i64 x.r, .slice x.ao x.n x.cap, .slice x.mo x.mn x.mc, .slice x.eo x.en x.ec]
@[go_sem] def ivBox (x : Img) : Obj := .cells #[.int .i64 x.r, .slice x.ao x.n x.cap, .slice x.mo x.mn x.mc, .slice x.eo x.en x.ec] 26
/-- A mode: its tasks, its queues' slice. -/
structure ModeR where
  t : Nat
  qo : Option Addr
  qn : Nat
  qc : Nat
def ModesAt (w : World) (mo : Option Addr) (mn : Nat) (M : Nat → ModeR) : Prop := ∀ i, i < mn → ∃ b o, mo = some ⟨b, o, none⟩ ∧ w.cell? ⟨b, o + i * 2, none⟩ = some (.int .u32 (M i).t) ∧ w.cell? ⟨b, o + i * 2 + 1, none⟩ = some (.slice (M i).qo (M i).qn (M i).qc)
theorem ModesAt.below {w w' : World} {mo : Option Addr} {mn : Nat} {M : Nat → ModeR} (h : ModesAt w mo mn M) (hb : Below w.heap.size w w') : ModesAt w' mo mn M := fun i hi => by
  obtain ⟨b, o, e, h1, h2⟩ := h i hi
  exact ⟨b, o, e, kept h1 hb, kept h2 hb⟩
set_option maxRecDepth 100000 in
set_option maxHeartbeats 1000000 in
theorem great10_any (x : Img) (M : Nat → ModeR) (w : World) (hmx : x.mn ≤ maxLen) (hM : ModesAt w x.mo x.mn M) :
    Calls Tryd.prog 8 #[iv x] w fun e w' => ∃ r : Bool, e = .returned (.bool r) ∧ (r = false → x.n ≤ 40 ∧ x.mn ≤ 20 ∧ x.en ≤ 60 ∧ ∀ i, i < x.mn → (M i).qn ≤ 20) ∧ Below w.heap.size w w' := by
  obtain ⟨r, ao, n, cap, mo, mn, mc, eo, en, ec⟩ := x
  unfold iv
  dsimp only at hmx hM ⊢
  have hb := (Below.refl w.heap.size w).alloc (Nat.le_refl _) (Obj.cells #[.int .i64 r, .slice ao n cap, .slice mo mn mc, .slice eo en ec] 26)
  have hblk : (w.alloc (Obj.cells #[.int .i64 r, .slice ao n cap, .slice mo mn mc, .slice eo en ec] 26)).heap[w.heap.size]? = some (Obj.cells #[.int .i64 r, .slice ao n cap, .slice mo mn mc, .slice eo en ec] 26) := heap_alloc_new w _
  have c1 := blk_cell hblk 1
  have c2 := blk_cell hblk 2
  have c3 := blk_cell hblk 3
  have HB := hid hb
  have HBLK := hid hblk
  have HM := hid hM
  have HA0 : Hid (∀ i, i < 0 → (M i).qn ≤ 20) := fun i hi => by omega
  clear hb hblk hM
  by_cases h1 : n ≤ 40
  · have t1 : decide ((40 : Int) < (n : Int)) = false := by simp; omega
    by_cases h2 : mn ≤ 20
    · have t2 : decide ((20 : Int) < (mn : Int)) = false := by simp; omega
      by_cases h3 : en ≤ 60
      · have t3 : decide ((60 : Int) < (en : Int)) = false := by simp; omega
        go_enter Tryd.func8, Tryd.ntmps8
        go_wp2
        obtain ⟨W0, hW0⟩ : ∃ W, W = (w.alloc (Obj.cells #[.int .i64 r, .slice ao n cap, .slice mo mn mc, .slice eo en ec] 26)) := ⟨_, rfl⟩
        rw [← hW0] at HB HBLK ⊢
        clear hW0 c1 c2 c3
        go_loopw [3] (fun i_ wr => ∃ i : Nat, i ≤ mn ∧ i_ = .int .i64 i ∧ Hid (∀ j, j < i → (M j).qn ≤ 20) ∧ W0 = wr) (fun i_ _ => mn - (intOf i_).toNat)
        case atStart => exact ⟨0, by omega, rfl, HA0, rfl⟩
        case round =>
          clear HA0
          obtain ⟨i, hi, rfl, HA, rfl⟩ := hrel
          have c2 := blk_cell HBLK.out 2
          by_cases hlt : i < mn
          · have t0 : decide ((i : Int) < (mn : Int)) = true := by simp; omega
            obtain ⟨b, o, rfl, _, h5⟩ := (HM.out.below HB.out) i hlt
            have i0' : (0 : Int) ≤ (i : Int) := by omega
            have i1 : (i : Int) < (mn : Int) := by omega
            have HA2 : Hid ((M i).qn ≤ 20 → ∀ j, j < i + 1 → (M j).qn ≤ 20) := fun h j hj => by
              rcases (show j < i ∨ j = i by omega) with h1 | rfl
              · exact HA.out j h1
              · exact h
            generalize (M i).qn = len at h5 HA2
            by_cases h6 : len ≤ 20
            · have t4 : decide ((20 : Int) < (len : Int)) = false := by simp; omega
              have HA3 := hid (HA2.out h6)
              go_wp2
              go_roundw
              case rel => exact ⟨i + 1, by omega, by go_num, HA3, trivial⟩
              case measure => simp [intOf]; omega
            · have t4 : decide ((20 : Int) < (len : Int)) = true := by simp; omega
              go_wp2
              go_ret
              exact ⟨true, rfl, by simp, HB.out⟩
          · obtain rfl : i = mn := by omega
            have t0 : decide ((i : Int) < (i : Int)) = false := by simp
            go_wp2
            go_ret
            exact ⟨false, rfl, fun _ => ⟨h1, h2, h3, HA.out⟩, HB.out⟩
      · have t3 : decide ((60 : Int) < (en : Int)) = true := by simp; omega
        go_enter Tryd.func8, Tryd.ntmps8
        go_wp2
        go_ret
        exact ⟨true, rfl, by simp, HB.out⟩
    · have t2 : decide ((20 : Int) < (mn : Int)) = true := by simp; omega
      go_enter Tryd.func8, Tryd.ntmps8
      go_wp2
      go_ret
      exact ⟨true, rfl, by simp, HB.out⟩
  · have t1 : decide ((40 : Int) < (n : Int)) = true := by simp; omega
    go_enter Tryd.func8, Tryd.ntmps8
    go_wp2
    go_ret
    exact ⟨true, rfl, by simp, HB.out⟩
end Go.Proofs.YtijnpkbijljnlaaDoor
