/-
  Layer 29: messages that came in, and the law's great.
-/
import Derived.Test.YtmkpimdbmjpelaaMigSmall
namespace Go.Proofs.Ytmkpimdbmjpelaa
open Go.RowKit
/-- A row of rows of numbers that came in. -/
structure MRow where
  ao : Option Addr
  cap : Nat
  xs : List Int
def MOf (w : World) (r : MRow) : Prop := Row w r.ao r.xs.length (fun j => .int .i64 (r.xs.getD j 0)) ∧ r.xs.length ≤ r.cap ∧ r.cap ≤ maxLen ∧ (r.ao = none → r.cap = 0)
def mv (r : MRow) : Value := .slice r.ao r.xs.length r.cap
def Msgs (w : World) (mo : Option Addr) (n : Nat) (M : Nat → MRow) : Prop := ∀ i, i < n → ∃ b o, mo = some ⟨b, o, none⟩ ∧ w.cell? ⟨b, o + i, none⟩ = some (mv (M i)) ∧ MOf w (M i)
theorem MOf.below {w w' : World} {r : MRow} (h : MOf w r) (hb : Below w.heap.size w w') : MOf w' r := ⟨h.1.below hb, h.2⟩
theorem Msgs.below {w w' : World} {mo : Option Addr} {n : Nat} {M : Nat → MRow} (h : Msgs w mo n M) (hb : Below w.heap.size w w') : Msgs w' mo n M := fun i hi => by
  obtain ⟨b, o, e, h1, h2⟩ := h i hi
  exact ⟨b, o, e, (hb.cell (cell_lt h1)).trans h1, h2.below hb⟩
set_option maxRecDepth 100000 in
set_option maxHeartbeats 1000000 in
theorem great29_any (so mo lo : Option Addr) (sn sc mn mc ln lc : Nat) (M : Nat → MRow) (w : World) (hmx : mn ≤ maxLen) (hM : Msgs w mo mn M) :
    Calls Try.prog 19 #[.agg #[.slice so sn sc, .slice mo mn mc], .slice lo ln lc] w fun e w' => ∃ r : Bool, e = .returned (.bool r) ∧ (r = false → sn ≤ 20 ∧ ln ≤ 20 ∧ mn ≤ 20 ∧ ∀ i, i < mn → (M i).xs.length ≤ 100) ∧ Below w.heap.size w w' := by
  have hb := (Below.refl w.heap.size w).alloc (Nat.le_refl _) (Obj.cells #[.slice so sn sc, .slice mo mn mc] 47)
  have hblk : (w.alloc (Obj.cells #[.slice so sn sc, .slice mo mn mc] 47)).heap[w.heap.size]? = some (Obj.cells #[.slice so sn sc, .slice mo mn mc] 47) := heap_alloc_new w _
  have c0 := blk_cell hblk 0
  have c1 := blk_cell hblk 1
  have HB := hid hb
  have HBLK := hid hblk
  have HM := hid hM
  have HA0 : Hid (∀ i, i < 0 → (M i).xs.length ≤ 100) := fun i hi => by omega
  clear hb hblk hM
  by_cases h1 : sn ≤ 20
  · have t1 : decide ((20 : Int) < (sn : Int)) = false := by simp; omega
    by_cases h2 : ln ≤ 20
    · have t2 : decide ((20 : Int) < (ln : Int)) = false := by simp; omega
      by_cases h3 : mn ≤ 20
      · have t3 : decide ((20 : Int) < (mn : Int)) = false := by simp; omega
        go_enter Try.func19, Try.ntmps19
        go_wp2
        obtain ⟨W0, hW0⟩ : ∃ W, W = (w.alloc (Obj.cells #[.slice so sn sc, .slice mo mn mc] 47)) := ⟨_, rfl⟩
        rw [← hW0] at HB HBLK ⊢
        clear hW0 c0 c1
        go_loopw [5] (fun i_ wr => ∃ i : Nat, i ≤ mn ∧ i_ = .int .i64 i ∧ Hid (∀ j, j < i → (M j).xs.length ≤ 100) ∧ W0 = wr) (fun i_ _ => mn - (intOf i_).toNat)
        case atStart => exact ⟨0, by omega, rfl, HA0, rfl⟩
        case round =>
          clear HA0
          obtain ⟨i, hi, rfl, HA, rfl⟩ := hrel
          have c1 := blk_cell HBLK.out 1
          by_cases hlt : i < mn
          · have t0 : decide ((i : Int) < (mn : Int)) = true := by simp; omega
            obtain ⟨b, o, rfl, h5, _⟩ := (HM.out.below HB.out) i hlt
            have i0' : (0 : Int) ≤ (i : Int) := by omega
            have i1 : (i : Int) < (mn : Int) := by omega
            have HA2 : Hid ((M i).xs.length ≤ 100 → ∀ j, j < i + 1 → (M j).xs.length ≤ 100) := fun h j hj => by
              rcases (show j < i ∨ j = i by omega) with h1 | rfl
              · exact HA.out j h1
              · exact h
            unfold mv at h5
            generalize (M i).xs.length = len at h5 HA2
            by_cases h6 : len ≤ 100
            · have t4 : decide ((100 : Int) < (len : Int)) = false := by simp; omega
              have HA3 := hid (HA2.out h6)
              go_wp2
              go_roundw
              case rel => exact ⟨i + 1, by omega, by go_num, HA3, trivial⟩
              case measure => simp [intOf]; omega
            · have t4 : decide ((100 : Int) < (len : Int)) = true := by simp; omega
              go_wp2
              go_ret
              exact ⟨true, rfl, by simp, HB.out⟩
          · obtain rfl : i = mn := by omega
            have t0 : decide ((i : Int) < (i : Int)) = false := by simp
            go_wp2
            go_ret
            exact ⟨false, rfl, fun _ => ⟨h1, h2, h3, HA.out⟩, HB.out⟩
      · have t3 : decide ((20 : Int) < (mn : Int)) = true := by simp; omega
        go_enter Try.func19, Try.ntmps19
        go_wp2
        go_ret
        exact ⟨true, rfl, by simp, HB.out⟩
    · have t2 : decide ((20 : Int) < (ln : Int)) = true := by simp; omega
      go_enter Try.func19, Try.ntmps19
      go_wp2
      go_ret
      exact ⟨true, rfl, by simp, HB.out⟩
  · have t1 : decide ((20 : Int) < (sn : Int)) = true := by simp; omega
    go_enter Try.func19, Try.ntmps19
    go_wp2
    go_ret
    exact ⟨true, rfl, by simp, HB.out⟩
end Go.Proofs.Ytmkpimdbmjpelaa
