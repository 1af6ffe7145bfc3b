/-
  Layer 29: contracts of the law's small functions: right, becomes, twice, great.
-/
import Derived.Test.YtmkpimdbmjpelaaMigMake
namespace Go.Proofs.Ytmkpimdbmjpelaa
open Go.RowKit
theorem rightB_cases (c p : Int) : rightB c p = true ∧ (1 ≤ c ∧ c ≤ 16 ∧ 1 ≤ p ∧ p ≤ 3) ∨ rightB c p = false ∧ (c < 1 ∨ (1 ≤ c ∧ 16 < c) ∨ (1 ≤ c ∧ c ≤ 16 ∧ p < 1) ∨ (1 ≤ c ∧ c ≤ 16 ∧ 1 ≤ p ∧ 3 < p)) := by
  cases h : rightB c p with
  | true =>
    have := rightB_is.1 h
    exact .inl ⟨rfl, by omega⟩
  | false =>
    have h2 : ¬ ((1 ≤ c ∧ c ≤ 16) ∧ 1 ≤ p ∧ p ≤ 3) := fun h3 => by rw [rightB_is.2 h3] at h; cases h
    exact .inr ⟨rfl, by omega⟩
set_option maxRecDepth 100000 in
set_option maxHeartbeats 1000000 in
theorem right29_any (ao : Option Addr) (n ca : Nat) (g : Nat → Nat → Int) (w : World) (hn : n ≤ 100) (hT : Sets w ao n g) :
    Calls Try.prog 15 #[.slice ao n ca] w fun e w' => ∃ r : Bool, e = .returned (.bool r) ∧ (r = true ↔ RightS n g) ∧ Below w.heap.size w w' := by
  have HT := hid hT
  have HA0 : Hid (∀ j, j < 0 → rightB (g j 0) (g j 1) = true) := fun j hj => by omega
  clear hT
  go_enter Try.func15, Try.ntmps15
  go_wp2
  go_loopw [3] (fun i wr => ∃ k : Nat, k ≤ n ∧ k ≤ 5 ∧ i = .int .i64 k ∧ Hid (∀ j, j < k → rightB (g j 0) (g j 1) = true) ∧ Below w.heap.size w wr) (fun i _ => n - (intOf i).toNat)
  case atStart => exact ⟨0, by omega, by omega, rfl, HA0, Below.refl _ _⟩
  case round =>
    clear HA0
    obtain ⟨k, hk, hk5, rfl, HA, hb⟩ := hrel
    by_cases hlt : k < n
    · have t0 : decide ((k : Int) < (n : Int)) = true := by simp; omega
      by_cases h5 : k < 5
      · have t1 : decide ((k : Int) < 5) = true := by simp; omega
        obtain ⟨b, o, rfl, c0, c1⟩ := (HT.out.below hb) k hlt
        have i0' : (0 : Int) ≤ (k : Int) := by omega
        have i1 : (k : Int) < (n : Int) := by omega
        rcases rightB_cases (g k 0) (g k 1) with ⟨hr, h1, h2, h3, h4⟩ | ⟨hr, hf | hf | hf | hf⟩
        · have HA2 : Hid (∀ j, j < k + 1 → rightB (g j 0) (g j 1) = true) := fun j hj => by
            rcases (show j < k ∨ j = k by omega) with h | rfl
            · exact HA.out j h
            · exact hr
          clear hr
          go_wp2
          go_roundw
          case rel => exact ⟨k + 1, by omega, by omega, by go_num, HA2, hb⟩
          case measure => simp [intOf]; omega
        all_goals
          have hno : Hid (¬ RightS n g) := fun h => by
            have := h.2 k hlt
            rw [hr] at this; cases this
          clear hr
          go_wp2
          go_ret
          exact ⟨false, rfl, by simp only [Bool.false_eq_true, false_iff]; exact hno.out, hb⟩
      · have t1 : decide ((k : Int) < 5) = false := by simp; omega
        have t2 : decide ((n : Int) ≤ 4) = false := by simp; omega
        go_wp2
        go_ret
        exact ⟨false, rfl, by simp only [Bool.false_eq_true, false_iff]; exact fun h => by have := h.1; omega, hb⟩
    · obtain rfl : k = n := by omega
      have t0 : decide ((k : Int) < (k : Int)) = false := by simp
      by_cases h4 : k ≤ 4
      · have t2 : decide ((k : Int) ≤ 4) = true := by simp; omega
        go_wp2
        go_ret
        exact ⟨true, rfl, by simp only [true_iff]; exact ⟨h4, HA.out⟩, hb⟩
      · have t2 : decide ((k : Int) ≤ 4) = false := by simp; omega
        go_wp2
        go_ret
        exact ⟨false, rfl, by simp only [Bool.false_eq_true, false_iff]; exact fun h => h4 h.1, hb⟩
/-! ### which new queue an old one becomes -/
def bec (m : Nat → Int) (to i : Nat) : Option Nat := if i < 4 ∧ 1 ≤ m i ∧ m i ≤ (to : Int) then some (m i - 1).toNat else none
def becI (m : Nat → Int) (to i : Nat) : Int := match bec m to i with | some j => (j : Int) | none => -1
def arr4 (m : Nat → Int) : Value := .agg #[.int .i64 (m 0), .int .i64 (m 1), .int .i64 (m 2), .int .i64 (m 3)]
def box4 (m : Nat → Int) : Obj := .cells #[.int .i64 (m 0), .int .i64 (m 1), .int .i64 (m 2), .int .i64 (m 3)] 48
theorem box4_at (w : World) (m : Nat → Int) {i : Nat} (h : i < 4) : (w.alloc (box4 m)).cell? ⟨w.heap.size, i, none⟩ = some (.int .i64 (m i)) := by
  unfold box4
  rw [World.cell?_alloc_at _ _ _ _ rfl]
  rcases i with _ | _ | _ | _ | i
  all_goals first | rfl | (exfalso; omega)
theorem bec_some {m : Nat → Int} {to i : Nat} (h : i < 4 ∧ 1 ≤ m i ∧ m i ≤ (to : Int)) : bec m to i = some (m i - 1).toNat ∧ becI m to i = m i - 1 := by
  have e : bec m to i = some (m i - 1).toNat := if_pos h
  refine ⟨e, ?_⟩
  unfold becI
  rw [e]
  show (((m i - 1).toNat : Nat) : Int) = _
  omega
theorem bec_none {m : Nat → Int} {to i : Nat} (h : ¬ (i < 4 ∧ 1 ≤ m i ∧ m i ≤ (to : Int))) : bec m to i = none ∧ becI m to i = -1 := by
  have e : bec m to i = none := if_neg h
  refine ⟨e, ?_⟩
  unfold becI
  rw [e]
theorem bec_lt {m : Nat → Int} {to i j : Nat} (h : bec m to i = some j) : j < to := by
  unfold bec at h
  split at h
  · rename_i h1
    cases h
    omega
  · cases h
set_option maxRecDepth 100000 in
set_option maxHeartbeats 1000000 in
theorem becomes_any (m : Nat → Int) (i to : Nat) (w : World) (hi : i ≤ 1000) (_hto : to ≤ 1000) (hm : ∀ i, (Lit.int .i64 (m i)).wf = true) :
    Calls Try.prog 24 #[arr4 m, .int .i64 i, .int .i64 to] w fun e w' => e = .returned (.int .i64 (becI m to i)) ∧ Below w.heap.size w w' := by
  have hb := (Below.refl w.heap.size w).alloc (Nat.le_refl _) (box4 m)
  have HB := hid hb
  have hc := fun h => box4_at w m (i := i) h
  have hs := fun h => (bec_some (m := m) (to := to) (i := i) h).2
  have hno := fun h => (bec_none (m := m) (to := to) (i := i) h).2
  have hwf := hm i
  unfold arr4
  unfold box4 at hc HB
  clear hb
  by_cases h4 : i < 4
  · have t1 : decide ((i : Int) < 4) = true := by simp; omega
    have cM := hc h4
    have i0' : (0 : Int) ≤ (i : Int) := by omega
    have i1 : (i : Int) < 4 := by omega
    by_cases h1 : 1 ≤ m i
    · by_cases h2 : m i ≤ (to : Int)
      · have t3 : decide (m i ≤ (to : Int)) = true := by simp; omega
        have hs2 := hid (hs ⟨h4, h1, h2⟩)
        have hw1 : wrap64 (m i - 1) = m i - 1 := by unfold wrap64; omega
        clear hs hno hc h2
        go_enter Try.func24, Try.ntmps24
        go_wp2
        go_ret
        exact ⟨by rw [hs2.out]; show Ending.returned (Value.int .i64 (wrap64 (m i - 1))) = _; rw [hw1], HB.out⟩
      · have t3 : decide (m i ≤ (to : Int)) = false := by simp; omega
        have hs2 := hid (hno fun h => h2 h.2.2)
        clear hs hno hc h2
        go_enter Try.func24, Try.ntmps24
        go_wp2
        go_ret
        exact ⟨by rw [hs2.out]; rfl, HB.out⟩
    · have h1' : m i < 1 := by omega
      have t3 : decide (1 ≤ m i) = false := by simp; omega
      have hs2 := hid (hno fun h => h1 h.2.1)
      clear hs hno hc h1
      go_enter Try.func24, Try.ntmps24
      go_wp2
      go_ret
      exact ⟨by rw [hs2.out]; rfl, HB.out⟩
  · have t1 : decide ((i : Int) < 4) = false := by simp; omega
    have hs2 := hid (hno fun h => h4 h.1)
    clear hs hno hc
    go_enter Try.func24, Try.ntmps24
    go_wp2
    go_ret
    exact ⟨by rw [hs2.out]; rfl, HB.out⟩
/-- Two old queues become one. -/
def Dup (m : Nat → Int) (n to : Nat) : Prop := ∃ i k j, k < i ∧ i < n ∧ bec m to i = some j ∧ bec m to k = some j
theorem becI_nonneg {m : Nat → Int} {to i : Nat} : 0 ≤ becI m to i ↔ ∃ j, bec m to i = some j ∧ becI m to i = (j : Int) := by
  unfold becI
  cases bec m to i with
  | none => simp
  | some j => simp
theorem becI_neg {m : Nat → Int} {to i : Nat} (h : becI m to i < 0) : bec m to i = none := by
  unfold becI at h
  cases e : bec m to i with
  | none => rfl
  | some j => rw [e] at h; simp at h; omega
theorem becI_eq {m : Nat → Int} {to i k j : Nat} (hi : bec m to i = some j) : becI m to i = becI m to k ↔ bec m to k = some j := by
  unfold becI
  rw [hi]
  cases bec m to k with
  | none => simp
  | some l => simp; omega
set_option maxRecDepth 100000 in
set_option maxHeartbeats 1000000 in
theorem twice_any (m : Nat → Int) (n to : Nat) (w : World) (hn : n ≤ 100) (hto : to ≤ 1000) (hm : ∀ i, (Lit.int .i64 (m i)).wf = true) :
    Calls Try.prog 23 #[arr4 m, .int .i64 n, .int .i64 to] w fun e w' => ∃ r : Bool, e = .returned (.bool r) ∧ (r = true ↔ Dup m n to) ∧ Below w.heap.size w w' := by
  have hb := (Below.refl w.heap.size w).alloc (Nat.le_refl _) (box4 m)
  have hblk : (w.alloc (box4 m)).heap[w.heap.size]? = some (box4 m) := heap_alloc_new w _
  have HB := hid hb
  have HBLK := hid hblk
  have HC := hid (fun i W (h : i ≤ 1000) => becomes_any m i to W h hto hm)
  have HA0 : Hid (∀ i k j, k < i → i < 0 → bec m to i = some j → bec m to k ≠ some j) := fun i k j _ hi => by omega
  unfold arr4 at *
  unfold box4 at HB HBLK
  clear hb hblk hm
  go_enter Try.func23, Try.ntmps23
  go_wp2
  obtain ⟨W0, hW0⟩ : ∃ W, W = (w.alloc (Obj.cells #[Value.int .i64 (m 0), Value.int .i64 (m 1), Value.int .i64 (m 2), Value.int .i64 (m 3)] 48)) := ⟨_, rfl⟩
  rw [← hW0] at HB HBLK ⊢
  clear hW0
  have HC4 : Hid (∀ wr, Below W0.heap.size W0 wr → wr.cell? ⟨w.heap.size, 0, none⟩ = some (.int .i64 (m 0)) ∧ wr.cell? ⟨w.heap.size, 1, none⟩ = some (.int .i64 (m 1)) ∧ wr.cell? ⟨w.heap.size, 2, none⟩ = some (.int .i64 (m 2)) ∧ wr.cell? ⟨w.heap.size, 3, none⟩ = some (.int .i64 (m 3))) := fun wr hb => by
    have h := blk_save HBLK.out (Save.of_below hb fun _ => False) id
    exact ⟨blk_cell h 0, blk_cell h 1, blk_cell h 2, blk_cell h 3⟩
  go_loopw [7, 8, 9] (fun i_ _ _ wr => ∃ i : Nat, i ≤ n ∧ i_ = .int .i64 i ∧ Hid (∀ i' k j, k < i' → i' < i → bec m to i' = some j → bec m to k ≠ some j) ∧ Hid (Below W0.heap.size W0 wr)) (fun i_ _ _ _ => n - (intOf i_).toNat)
  case atStart => exact ⟨0, by omega, rfl, HA0, Below.refl _ _⟩
  case round =>
    clear HA0
    obtain ⟨i, hi, rfl, HA, HW⟩ := hrel
    by_cases hlt : i < n
    · have t0 : decide ((i : Int) < (n : Int)) = true := by simp; omega
      have HN0 : Hid (∀ k j, k < 0 → bec m to i = some j → bec m to k ≠ some j) := fun k j hk => by omega
      go_wp2
      go_loopw [8, 9] (fun k_ _ wq => ∃ k : Nat, k ≤ i ∧ k_ = .int .i64 k ∧ Hid (∀ k' j, k' < k → bec m to i = some j → bec m to k' ≠ some j) ∧ Hid (Below W0.heap.size W0 wq)) (fun k_ _ _ => i - (intOf k_).toNat)
      case atStart => exact ⟨0, by omega, rfl, HN0, HW⟩
      case round =>
        clear HN0 HW
        obtain ⟨k, hk, rfl, HN, HW⟩ := hrel
        by_cases hki : k < i
        · have t1 : decide ((k : Int) < (i : Int)) = true := by simp; omega
          obtain ⟨c0, c1, c2, c3⟩ := HC4.out _ HW.out
          have HI := hid (HC.out i wr (by omega))
          have hsg := becI_nonneg (m := m) (to := to) (i := i)
          have heq := fun j hj => becI_eq (m := m) (to := to) (i := i) (k := k) (j := j) hj
          by_cases hng : 0 ≤ becI m to i
          · obtain ⟨j, hj, hj2⟩ := hsg.1 hng
            rw [hj2] at HI
            have heq2 := heq j hj
            rw [hj2] at heq2
            have t2 : decide ((0 : Int) ≤ (j : Int)) = true := by simp
            have HJ := hid hj
            have HKK := hid (fun W => HC.out k W (by omega))
            by_cases hs : (j : Int) = becI m to k
            · have HD : Hid (Dup m n to) := ⟨i, k, j, hki, hlt, hj, heq2.1 hs⟩
              have t3 : ((j : Int) == becI m to k) = true := by simp [hs]
              have HKK2 : Hid (∀ W : World, Calls Try.prog 24 #[.agg #[.int .i64 (m 0), .int .i64 (m 1), .int .i64 (m 2), .int .i64 (m 3)], .int .i64 k, .int .i64 to] W fun e w' => e = .returned (.int .i64 (j : Int)) ∧ Below W.heap.size W w') := fun W => by
                rw [hs]; exact HKK.out W
              have t4 : ((j : Int) == (j : Int)) = true := by simp
              clear hs hng hsg heq heq2 t3 hj hj2
              go_wp2_with fail
              refine HI.out.mono ?_
              rintro e w1 ⟨rfl, b1⟩
              have HW1 := hid (HW.out.trans (b1.mono HW.out.size))
              obtain ⟨d0, d1, d2, d3⟩ := HC4.out _ HW1.out
              clear b1 HI c0 c1 c2 c3
              go_wp2_with fail
              refine (HKK2.out _).mono ?_
              rintro e w2 ⟨rfl, b2⟩
              go_wp2
              go_ret
              exact ⟨true, rfl, by simp only [true_iff]; exact HD.out, HB.out.trans ((HW1.out.trans (b2.mono HW1.out.size)).mono HB.out.size)⟩
            · have HN2 : Hid (∀ k' j, k' < k + 1 → bec m to i = some j → bec m to k' ≠ some j) := fun k' j' hk' hij => by
                rcases (show k' < k ∨ k' = k by omega) with h | rfl
                · exact HN.out k' j' h hij
                · have : j = j' := by rw [hj] at hij; exact Option.some.inj hij
                  subst this
                  exact fun h => hs (heq2.2 h)
              have t3 : ((j : Int) == becI m to k) = false := by simp [hs]
              generalize becI m to k = bk at t3 HKK hs
              clear hs hng hsg heq heq2 hj hj2
              go_wp2_with fail
              refine HI.out.mono ?_
              rintro e w1 ⟨rfl, b1⟩
              have HW1 := hid (HW.out.trans (b1.mono HW.out.size))
              obtain ⟨d0, d1, d2, d3⟩ := HC4.out _ HW1.out
              clear b1 HI c0 c1 c2 c3
              go_wp2_with fail
              refine (HKK.out _).mono ?_
              rintro e w2 ⟨rfl, b2⟩
              have HW2 := hid (HW1.out.trans (b2.mono HW1.out.size))
              go_wp2
              go_roundw
              case rel => exact ⟨k + 1, by omega, by go_num, HN2, HW2⟩
              case measure => simp [intOf]; omega
          · have hno := becI_neg (m := m) (to := to) (i := i) (by omega)
            have HN2 : Hid (∀ k' j, k' < k + 1 → bec m to i = some j → bec m to k' ≠ some j) := fun k' j' hk' hij => by rw [hno] at hij; cases hij
            have t2 : decide ((0 : Int) ≤ becI m to i) = false := by simp; omega
            generalize becI m to i = bi at t2 HI hng hsg
            clear hsg hno heq
            go_wp2_with fail
            refine HI.out.mono ?_
            rintro e w1 ⟨rfl, b1⟩
            have HW1 := hid (HW.out.trans (b1.mono HW.out.size))
            clear b1 HI c0 c1 c2 c3
            go_wp2
            go_roundw
            case rel => exact ⟨k + 1, by omega, by go_num, HN2, HW1⟩
            case measure => simp [intOf]; omega
        · obtain rfl : k = i := by omega
          have t1 : decide ((k : Int) < (k : Int)) = false := by simp
          have HA2 : Hid (∀ i' k' j, k' < i' → i' < k + 1 → bec m to i' = some j → bec m to k' ≠ some j) := fun i' k' j h1 h2 hij => by
            rcases (show i' < k ∨ i' = k by omega) with h | rfl
            · exact HA.out i' k' j h1 h hij
            · exact HN.out k' j h1 hij
          go_wp2
          go_roundw
          case rel => exact ⟨k + 1, by omega, by go_num, HA2, HW⟩
          case measure => simp [intOf]; omega
    · obtain rfl : i = n := by omega
      have t0 : decide ((i : Int) < (i : Int)) = false := by simp
      go_wp2
      go_ret
      exact ⟨false, rfl, by simp only [Bool.false_eq_true, false_iff]; rintro ⟨i', k, j, h1, h2, h3, h4⟩; exact HA.out i' k j h1 h2 h3 h4, HB.out.trans (HW.out.mono HB.out.size)⟩
end Go.Proofs.Ytmkpimdbmjpelaa
