/-
  How long a task may be kept waiting, and who goes ahead of it: the walks of layer 18's reference.
-/
import Derived.Test.YtijnpkbijljnlaaDoorLoadSel
import Derived.Test.YtijnpkbijljnlaaDoorTerms
import Derived.Test.YtijnpkbijljnlaaDoorDemandRef
namespace Go.Proofs.YtijnpkbijljnlaaDoor
open Go.RowKit Go.Shelf
attribute [local go_sem] stillAt
theorem has_bit (s i : Nat) (hi : i < 32) (X : World) : Calls Tryd.prog 11 #[.int .u32 s, .int .i64 i] X fun e w' => e = .returned (.bool (s.testBit i)) ∧ w' = X := by
  have t32 : decide (i < 32) = true := by simp; omega
  have := has10_any s i (by unfold maxLen; omega) X
  rw [t32, Bool.true_and] at this
  exact this
set_option maxRecDepth 100000 in
set_option maxHeartbeats 1000000 in
theorem ceiling_any (x : Img) (g : Nat → Nat → Int) (u r : Nat) (w : World) (hr : r < 8) (hn : x.n ≤ 16) (hT : Tasks w x.ao x.n g) :
    Calls Tryd.prog 50 #[iv x, .int .u32 u, .int .i64 r] w fun e W' => ∃ c : Int, e = .returned (.int .i64 c) ∧ Below w.heap.size w W' := by
  obtain ⟨rr, ao, n, cap, mo, mn, mc, eo, en, ec⟩ := x
  unfold iv
  dsimp only at hT hn ⊢
  have hb1 : Below w.heap.size w (w.alloc (Obj.cells #[.int .i64 rr, .slice ao n cap, .slice mo mn mc, .slice eo en ec] 26)) := (Below.refl _ _).alloc (Nat.le_refl _) _
  have HI := hid (heap_alloc_new w (Obj.cells #[.int .i64 rr, .slice ao n cap, .slice mo mn mc, .slice eo en ec] 26))
  have HTW := hid (hT.below hb1)
  have HB := hid hb1
  clear hT hb1
  go_enter Tryd.func50, Tryd.ntmps50
  go_wp2
  obtain ⟨W1, hW1⟩ : ∃ X, X = w.alloc (Obj.cells #[.int .i64 rr, .slice ao n cap, .slice mo mn mc, .slice eo en ec] 26) := ⟨_, rfl⟩
  rw [← hW1] at HTW HI HB ⊢
  clear hW1
  go_loopw [7] (fun i_ wr => ∃ i : Nat, i ≤ n ∧ i_ = .int .i64 i ∧ W1 = wr) (fun i_ _ => n - (intOf i_).toNat)
  case atStart => exact ⟨0, by omega, rfl, rfl⟩
  case round =>
    obtain ⟨i, hi, rfl, rfl⟩ := hrel
    have c1 := blk_cell HI.out 1
    by_cases hlt : i < n
    · have t0 : decide ((i : Int) < (n : Int)) = true := by simp; omega
      have HH := hid fun X => has_bit u i (by omega) X
      obtain ⟨b, o, rfl, hck⟩ := HTW.out i hlt
      have p0 := hck (3 + r) (by omega)
      rw [← Nat.add_assoc] at p0
      clear hck
      have i0' : (0 : Int) ≤ (i : Int) := by omega
      have i1 : (i : Int) < (n : Int) := by omega
      have r0' : (0 : Int) ≤ (r : Int) := by omega
      have r1 : (r : Int) < 8 := by omega
      generalize u.testBit i = bt at HH
      generalize g i (3 + r) = z at p0
      cases bt
      · go_wp2_with (go_at_call 11; refine (HH.out _).mono ?_; rintro e w' ⟨rfl, rfl⟩)
        go_roundw
        case rel => exact ⟨i + 1, by omega, by go_num, trivial⟩
        case measure => simp [intOf]; omega
      · by_cases h0 : 0 < z
        · have t1 : decide (0 < z) = true := by simp [h0]
          go_wp2_with (go_at_call 11; refine (HH.out _).mono ?_; rintro e w' ⟨rfl, rfl⟩)
          go_ret
          exact ⟨_, rfl, HB.out⟩
        · have t1 : decide (0 < z) = false := by simp; omega
          go_wp2_with (go_at_call 11; refine (HH.out _).mono ?_; rintro e w' ⟨rfl, rfl⟩)
          go_roundw
          case rel => exact ⟨i + 1, by omega, by go_num, trivial⟩
          case measure => simp [intOf]; omega
    · obtain rfl : i = n := by omega
      have t0 : decide ((i : Int) < (i : Int)) = false := by simp
      go_wp2
      go_ret
      exact ⟨_, rfl, HB.out⟩
set_option maxRecDepth 100000 in
set_option maxHeartbeats 2000000 in
theorem block_any (x : Img) (g : Nat → Nat → Int) (u t : Nat) (w : World) (ht : t < 16) (hF : RightF x g) (hT : Tasks w x.ao x.n g) :
    Calls Tryd.prog 46 #[iv x, .int .u32 u, .int .u32 u, .int .i64 t] w fun e W' => ∃ B : Int, e = .returned (.int .i64 B) ∧ 0 ≤ B ∧ B ≤ 32768 ∧ Below w.heap.size w W' := by
  have hn := hF.n2
  have HC := hid fun (r : Nat) X (hX : Below w.heap.size w X) (hr : r < 8) => ceiling_any x g u r X hr hn (hT.below hX)
  have HL := hid fun i (hi : i < x.n) r (hr : r < 8) => (show 0 ≤ g i (3 + r) ∧ g i (3 + r) ≤ 4096 from by
    have h := hF.tasks i hi
    have := h.l r hr; have := h.c2; have := h.d2; have := h.p2
    omega)
  clear hF
  obtain ⟨rr, ao, n, cap, mo, mn, mc, eo, en, ec⟩ := x
  unfold iv at HC ⊢
  dsimp only at hT hn HC HL ⊢
  have hb1 : Below w.heap.size w (w.alloc (Obj.cells #[.int .i64 rr, .slice ao n cap, .slice mo mn mc, .slice eo en ec] 26)) := (Below.refl _ _).alloc (Nat.le_refl _) _
  have HI := hid (heap_alloc_new w (Obj.cells #[.int .i64 rr, .slice ao n cap, .slice mo mn mc, .slice eo en ec] 26))
  have HT := hid hT
  have HB := hid hb1
  clear hT hb1
  have ht1 : IntKind.i64.wrap ((t : Int) + 1) = (t : Int) + 1 := IntWalk.i64_in _ (by omega)
  go_enter Tryd.func46, Tryd.ntmps46
  go_wp2
  obtain ⟨W1, hW1⟩ : ∃ X, X = w.alloc (Obj.cells #[.int .i64 rr, .slice ao n cap, .slice mo mn mc, .slice eo en ec] 26) := ⟨_, rfl⟩
  rw [← hW1] at HI HB ⊢
  clear hW1
  go_loopw [9, 10] (fun a_ r_ wr => ∃ (A : Int) (r : Nat), r ≤ 8 ∧ 0 ≤ A ∧ A ≤ 4096 * r ∧ a_ = .int .i64 A ∧ r_ = .int .i64 r ∧ Below W1.heap.size W1 wr) (fun _ r_ _ => 8 - (intOf r_).toNat)
  case atStart => exact ⟨0, 0, by omega, by omega, by omega, rfl, rfl, Below.refl _ _⟩
  case round =>
    obtain ⟨A, r, hr, hA0, hA1, rfl, rfl, hbr⟩ := hrel
    have HBX := hid (HB.out.trans (hbr.mono HB.out.size))
    by_cases hlt : r < 8
    · have t0 : decide ((r : Int) < 8) = true := by simp; omega
      have bI := (hbr.block _ (Array.getElem?_eq_some_iff.1 HI.out).1).trans HI.out
      have c0 := blk_cell bI 0
      have c1 := blk_cell bI 1
      have c2 := blk_cell bI 2
      have c3 := blk_cell bI 3
      have HCr := hid fun X (hX : Below w.heap.size w X) => HC.out r X hX hlt
      go_wp2_with fail
      refine (HCr.out _ HBX.out).mono ?_
      rintro e w2 ⟨c, rfl, hb2⟩
      have hbX := hbr.trans (hb2.mono hbr.size)
      have bI2 := (hb2.block _ (Array.getElem?_eq_some_iff.1 bI).1).trans bI
      clear c0 c1 c2 c3 bI
      have HB2 := hid hbX
      have HI2 := hid bI2
      have HBw := hid (HB.out.trans (hbX.mono HB.out.size))
      clear hb2 hbX bI2 hbr HBX
      by_cases hct : (t : Int) < c
      · have t1 : decide ((t : Int) < c) = true := by simp [hct]
        go_wp2
        go_roundw
        case rel => exact ⟨A, r + 1, by omega, by omega, by omega, rfl, by go_num, HB2.out⟩
        case measure => simp [intOf]; omega
      · have t1 : decide ((t : Int) < c) = false := by simp; omega
        go_wp2
        go_loopw [11, 12] (fun l_ k_ wr => ∃ (l : Int) (k : Nat), 0 ≤ l ∧ l ≤ 4096 ∧ k ≤ 16 ∧ l_ = .int .i64 l ∧ k_ = .int .i64 k ∧ w2 = wr) (fun _ k_ _ => 16 - (intOf k_).toNat)
        case atStart => exact ⟨0, t + 1, by omega, by omega, by omega, rfl, by go_num, rfl⟩
        case round =>
          obtain ⟨l, k, hl0, hl1, hk, rfl, rfl, rfl⟩ := hrel
          have c1 := blk_cell HI2.out 1
          by_cases hltk : k < n
          · have t2 : decide ((k : Int) < (n : Int)) = true := by simp; omega
            have HH := hid fun X => has_bit u k (by omega) X
            obtain ⟨b, o, rfl, hck⟩ := (HT.out.below HBw.out) k hltk
            have p0 := hck (3 + r) (by omega)
            rw [← Nat.add_assoc] at p0
            clear hck
            have i0' : (0 : Int) ≤ (k : Int) := by omega
            have i1 : (k : Int) < (n : Int) := by omega
            have r0' : (0 : Int) ≤ (r : Int) := by omega
            have r1 : (r : Int) < 8 := by omega
            have hz := HL.out k hltk r hlt
            generalize u.testBit k = bt at HH
            generalize g k (3 + r) = z at p0 hz
            cases bt
            · go_wp2_with (go_at_call 11; refine (HH.out _).mono ?_; rintro e w' ⟨rfl, rfl⟩)
              go_roundw
              case rel => exact ⟨l, k + 1, by omega, by omega, by omega, rfl, by go_num, trivial⟩
              case measure => simp [intOf]; omega
            · by_cases h0 : l < z
              · have t3 : decide (l < z) = true := by simp [h0]
                go_wp2_with (go_at_call 11; refine (HH.out _).mono ?_; rintro e w' ⟨rfl, rfl⟩)
                go_roundw
                case rel => exact ⟨z, k + 1, by omega, by omega, by omega, rfl, by go_num, trivial⟩
                case measure => simp [intOf]; omega
              · have t3 : decide (l < z) = false := by simp; omega
                go_wp2_with (go_at_call 11; refine (HH.out _).mono ?_; rintro e w' ⟨rfl, rfl⟩)
                go_roundw
                case rel => exact ⟨l, k + 1, by omega, by omega, by omega, rfl, by go_num, trivial⟩
                case measure => simp [intOf]; omega
          · have t2 : decide ((k : Int) < (n : Int)) = false := by simp; omega
            go_wp2
            go_roundw
            case rel => exact ⟨A + l, r + 1, by omega, by omega, by omega, rfl, by go_num, HB2.out⟩
            case measure => simp [intOf]; omega
    · obtain rfl : r = 8 := by omega
      have t0 : decide (((8 : Nat) : Int) < 8) = false := by simp
      go_wp2
      go_ret
      exact ⟨A, rfl, hA0, by omega, HBX.out⟩
end Go.Proofs.YtijnpkbijljnlaaDoor
