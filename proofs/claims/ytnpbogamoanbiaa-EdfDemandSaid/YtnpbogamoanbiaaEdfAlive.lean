/-
  The example of layer 46.
-/
import Derived.Test.YtnpbogamoanbiaaEdfRefFits
import Derived.Test.YtnpbogamoanbiaaOpaFits
namespace Go.Proofs.Ytnpbogamoanbiaa
open Go.RowKit
def aN : Nat → Int := fun j => ([4, 4, 2] : List Int).getD j 0
def bN : Nat → Int := fun j => ([6, 6, 3] : List Int).getD j 0
def abG : Nat → Nat → Int := fun i => if i = 1 then bN else aN
def abK : Nat → TK := fun i => tkOf (abG i)
/-! ### what the contracts say there -/
def busyN (most : Int) (f : Nat → TK) (n : Nat) : Nat → Int → Option (Int × Bool)
  | 0, _ => none
  | k + 1, x => if most < x then some (0, false) else if comes x f n ≤ x then some (x, true) else busyN most f n k (comes x f n)
theorem busyN_F {most : Int} {f : Nat → TK} {n : Nat} : ∀ (k : Nat) (x : Int) (r : Int × Bool), busyN most f n k x = some r → busyF most f n x = r := by
  intro k
  induction k with
  | zero => intro x r h; cases h
  | succ k ih =>
    intro x r h
    simp only [busyN] at h
    split at h
    · rename_i h1
      rw [busyF_over h1]; exact Option.some.inj h
    · rename_i h1
      split at h
      · rename_i h2
        rw [busyF_some (by omega) h2]; exact Option.some.inj h
      · rename_i h2
        rw [busyF_on (by omega) (by omega)]; exact ih _ _ h
theorem ab_busy2 : busyR 65536 abK 2 = (12, true) := busyN_F 8 5 (12, true) (by decide +kernel)
theorem ab_busy3 : busyR 65536 abK 3 = (0, false) := busyN_F 40 7 (0, false) (by decide +kernel)
theorem ab_fits2 : fitsB abK 2 = true := by
  unfold fitsB
  rw [ab_busy2]
  decide +kernel
theorem ab_fits3 : fitsB abK 3 = false := by
  unfold fitsB
  rw [ab_busy3]; rfl
theorem ab_quick2 : quickB abK 2 = true := by
  unfold quickB
  rw [ab_busy2]
  decide +kernel
theorem ab_last : lastR (abG 1) abG 1 = false := by
  unfold lastR leastR
  rw [if_neg (by decide +kernel), run_on (by decide +kernel) (by decide +kernel) (by decide +kernel), run_on (by decide +kernel) (by decide +kernel) (by decide +kernel), run_over (by decide +kernel)]
theorem ab_rm : fits38 abG 2 = false := allOk_no (k := 1) (by decide) ab_last
theorem ab_ok {n : Nat} : ∀ i, i < n → OkK (tkOf (abG i)) := fun i _ => by
  unfold abG
  split
  · exact ⟨by decide, by decide, by decide, by decide, by decide, by decide⟩
  · exact ⟨by decide, by decide, by decide, by decide, by decide, by decide⟩
theorem ab_okT {n : Nat} : ∀ i, i < n → OkT (abG i) := fun i _ => by
  unfold abG
  split
  · exact ⟨by decide, by decide, by decide, by decide, by decide, by decide⟩
  · exact ⟨by decide, by decide, by decide, by decide, by decide, by decide⟩
/-! ### memory -/
theorem alloc_at (W : World) (o : Obj) {n : Nat} (h : W.heap.size = n) : (W.alloc o).heap[n]? = some o := by subst h; exact heap_alloc_new W o
theorem blk_alloc {W : World} {b : Nat} {o : Obj} (h : W.heap[b]? = some o) (o' : Obj) : (W.alloc o').heap[b]? = some o :=
  (Below.heap_alloc W o' b (Array.getElem?_eq_some_iff.1 h).1).trans h
theorem blk_below {W W' : World} {b : Nat} {o : Obj} (h : W.heap[b]? = some o) (hb : Below W.heap.size W W') : W'.heap[b]? = some o :=
  (hb.block b (Array.getElem?_eq_some_iff.1 h).1).trans h
theorem blk_cell_at {W : World} {b : Nat} {cs : Array Value} {t : TypeId} (h : W.heap[b]? = some (.cells cs t (0, 0))) (i : Nat) : W.cell? ⟨b, i, none⟩ = cs[i]? := by simp [World.cell?, h]
@[reducible] def aO : Obj := Obj.cells #[Value.int .i64 4, Value.int .i64 4, Value.int .i64 2, Value.int .i64 0, Value.int .i64 0, Value.int .i64 0, Value.int .i64 0, Value.int .i64 0, Value.int .i64 0, Value.int .i64 0, Value.int .i64 0] 24
@[reducible] def bO : Obj := Obj.cells #[Value.int .i64 6, Value.int .i64 6, Value.int .i64 3, Value.int .i64 0, Value.int .i64 0, Value.int .i64 0, Value.int .i64 0, Value.int .i64 0, Value.int .i64 0, Value.int .i64 0, Value.int .i64 0] 24
@[reducible] def abO : Obj := Obj.cells #[Value.int .i64 4, Value.int .i64 4, Value.int .i64 2, Value.int .i64 0, Value.int .i64 0, Value.int .i64 0, Value.int .i64 0, Value.int .i64 0, Value.int .i64 0, Value.int .i64 0, Value.int .i64 0, Value.int .i64 6, Value.int .i64 6, Value.int .i64 3, Value.int .i64 0, Value.int .i64 0, Value.int .i64 0, Value.int .i64 0, Value.int .i64 0, Value.int .i64 0, Value.int .i64 0, Value.int .i64 0] 24
@[reducible] def abaO : Obj := Obj.cells #[Value.int .i64 4, Value.int .i64 4, Value.int .i64 2, Value.int .i64 0, Value.int .i64 0, Value.int .i64 0, Value.int .i64 0, Value.int .i64 0, Value.int .i64 0, Value.int .i64 0, Value.int .i64 0, Value.int .i64 6, Value.int .i64 6, Value.int .i64 3, Value.int .i64 0, Value.int .i64 0, Value.int .i64 0, Value.int .i64 0, Value.int .i64 0, Value.int .i64 0, Value.int .i64 0, Value.int .i64 0, Value.int .i64 4, Value.int .i64 4, Value.int .i64 2, Value.int .i64 0, Value.int .i64 0, Value.int .i64 0, Value.int .i64 0, Value.int .i64 0, Value.int .i64 0, Value.int .i64 0, Value.int .i64 0] 24
theorem tasks_ab {W : World} {B : Nat} (h : W.heap[B]? = some abO) : Tasks W (some ⟨B, 0, none⟩) 2 abG := fun i hi => ⟨B, 0, rfl, fun j hj => by
  rw [blk_cell_at h]
  match i, hi, j, hj with
  | 0, _, 0, _ => rfl
  | 0, _, 1, _ => rfl
  | 0, _, 2, _ => rfl
  | 0, _, 3, _ => rfl
  | 0, _, 4, _ => rfl
  | 0, _, 5, _ => rfl
  | 0, _, 6, _ => rfl
  | 0, _, 7, _ => rfl
  | 0, _, 8, _ => rfl
  | 0, _, 9, _ => rfl
  | 0, _, 10, _ => rfl
  | 1, _, 0, _ => rfl
  | 1, _, 1, _ => rfl
  | 1, _, 2, _ => rfl
  | 1, _, 3, _ => rfl
  | 1, _, 4, _ => rfl
  | 1, _, 5, _ => rfl
  | 1, _, 6, _ => rfl
  | 1, _, 7, _ => rfl
  | 1, _, 8, _ => rfl
  | 1, _, 9, _ => rfl
  | 1, _, 10, _ => rfl⟩
theorem tasks_aba {W : World} {B : Nat} (h : W.heap[B]? = some abaO) : Tasks W (some ⟨B, 0, none⟩) 3 abG := fun i hi => ⟨B, 0, rfl, fun j hj => by
  rw [blk_cell_at h]
  match i, hi, j, hj with
  | 0, _, 0, _ => rfl
  | 0, _, 1, _ => rfl
  | 0, _, 2, _ => rfl
  | 0, _, 3, _ => rfl
  | 0, _, 4, _ => rfl
  | 0, _, 5, _ => rfl
  | 0, _, 6, _ => rfl
  | 0, _, 7, _ => rfl
  | 0, _, 8, _ => rfl
  | 0, _, 9, _ => rfl
  | 0, _, 10, _ => rfl
  | 1, _, 0, _ => rfl
  | 1, _, 1, _ => rfl
  | 1, _, 2, _ => rfl
  | 1, _, 3, _ => rfl
  | 1, _, 4, _ => rfl
  | 1, _, 5, _ => rfl
  | 1, _, 6, _ => rfl
  | 1, _, 7, _ => rfl
  | 1, _, 8, _ => rfl
  | 1, _, 9, _ => rfl
  | 1, _, 10, _ => rfl
  | 2, _, 0, _ => rfl
  | 2, _, 1, _ => rfl
  | 2, _, 2, _ => rfl
  | 2, _, 3, _ => rfl
  | 2, _, 4, _ => rfl
  | 2, _, 5, _ => rfl
  | 2, _, 6, _ => rfl
  | 2, _, 7, _ => rfl
  | 2, _, 8, _ => rfl
  | 2, _, 9, _ => rfl
  | 2, _, 10, _ => rfl⟩
theorem a_cells {W : World} {b : Nat} (h : W.heap[b]? = some aO) : W.cell? ⟨b, 0, none⟩ = some (.int .i64 4) ∧ W.cell? ⟨b, 1, none⟩ = some (.int .i64 4) ∧ W.cell? ⟨b, 2, none⟩ = some (.int .i64 2) ∧ W.cell? ⟨b, 3, none⟩ = some (.int .i64 0) ∧ W.cell? ⟨b, 4, none⟩ = some (.int .i64 0) ∧ W.cell? ⟨b, 5, none⟩ = some (.int .i64 0) ∧ W.cell? ⟨b, 6, none⟩ = some (.int .i64 0) ∧ W.cell? ⟨b, 7, none⟩ = some (.int .i64 0) ∧ W.cell? ⟨b, 8, none⟩ = some (.int .i64 0) ∧ W.cell? ⟨b, 9, none⟩ = some (.int .i64 0) ∧ W.cell? ⟨b, 10, none⟩ = some (.int .i64 0) := ⟨blk_cell_at h 0, blk_cell_at h 1, blk_cell_at h 2, blk_cell_at h 3, blk_cell_at h 4, blk_cell_at h 5, blk_cell_at h 6, blk_cell_at h 7, blk_cell_at h 8, blk_cell_at h 9, blk_cell_at h 10⟩
theorem b_cells {W : World} {b : Nat} (h : W.heap[b]? = some bO) : W.cell? ⟨b, 0, none⟩ = some (.int .i64 6) ∧ W.cell? ⟨b, 1, none⟩ = some (.int .i64 6) ∧ W.cell? ⟨b, 2, none⟩ = some (.int .i64 3) ∧ W.cell? ⟨b, 3, none⟩ = some (.int .i64 0) ∧ W.cell? ⟨b, 4, none⟩ = some (.int .i64 0) ∧ W.cell? ⟨b, 5, none⟩ = some (.int .i64 0) ∧ W.cell? ⟨b, 6, none⟩ = some (.int .i64 0) ∧ W.cell? ⟨b, 7, none⟩ = some (.int .i64 0) ∧ W.cell? ⟨b, 8, none⟩ = some (.int .i64 0) ∧ W.cell? ⟨b, 9, none⟩ = some (.int .i64 0) ∧ W.cell? ⟨b, 10, none⟩ = some (.int .i64 0) := ⟨blk_cell_at h 0, blk_cell_at h 1, blk_cell_at h 2, blk_cell_at h 3, blk_cell_at h 4, blk_cell_at h 5, blk_cell_at h 6, blk_cell_at h 7, blk_cell_at h 8, blk_cell_at h 9, blk_cell_at h 10⟩
set_option maxRecDepth 100000 in
set_option maxHeartbeats 2000000 in
theorem edfAlive_any (w : World) : Calls Try.prog 8 #[] w fun e w' => e = .returned (.bool true) ∧ Below w.heap.size w w' := by
  go_enter Try.func8, Try.ntmps8
  go_wp2_with fail
  refine (edfFits_any _ 2 2 abG _ (by decide) (tasks_ab (alloc_at _ _ (by simp))) ab_ok).mono ?_
  rintro e w1 ⟨rfl, hb1⟩
  have HA1 := hid (blk_below (blk_alloc (blk_alloc (alloc_at w aO rfl) bO) abO) hb1)
  have HB1 := hid (blk_below (blk_alloc (alloc_at (w.alloc aO) bO (n := w.heap.size + 1) (by simp)) abO) hb1)
  have B1 := ((((Below.refl w.heap.size w).alloc (Nat.le_refl _) aO).alloc (by simp) bO).alloc (by simp; omega) abO).trans (hb1.mono (by simp; omega))
  have HZ1 := hid (show w.heap.size + 2 ≤ w1.heap.size by have := hb1.size; simp at this; omega)
  clear hb1
  rw [show fitsB (fun i => tkOf (abG i)) 2 = true from ab_fits2]
  obtain ⟨a0, a1, a2, a3, a4, a5, a6, a7, a8, a9, a10⟩ := a_cells HA1.out
  obtain ⟨b0, b1, b2, b3, b4, b5, b6, b7, b8, b9, b10⟩ := b_cells HB1.out
  go_wp2_with fail
  refine (edfQuick_any _ 2 2 abG _ (by decide) (tasks_ab (alloc_at _ _ rfl)) ab_ok).mono ?_
  rintro e w2 ⟨rfl, hb2⟩
  have HA2 := hid (blk_below (blk_alloc HA1.out abO) hb2)
  have HB2 := hid (blk_below (blk_alloc HB1.out abO) hb2)
  have B2 := (B1.alloc B1.size abO).trans (hb2.mono (by have := B1.size; simp; omega))
  clear a0 a1 a2 a3 a4 a5 a6 a7 a8 a9 a10 b0 b1 b2 b3 b4 b5 b6 b7 b8 b9 b10
  clear hb2
  rw [show quickB (fun i => tkOf (abG i)) 2 = true from ab_quick2]
  obtain ⟨a0, a1, a2, a3, a4, a5, a6, a7, a8, a9, a10⟩ := a_cells HA2.out
  obtain ⟨b0, b1, b2, b3, b4, b5, b6, b7, b8, b9, b10⟩ := b_cells HB2.out
  go_wp2_with fail
  refine (refFits38_any _ 2 2 abG _ (by decide) (by unfold maxLen; omega) (tasks_ab (alloc_at _ _ rfl)) ab_okT).mono ?_
  rintro e w3 ⟨rfl, hb3⟩
  have HA3 := hid (blk_below (blk_alloc HA2.out abO) hb3)
  have HB3 := hid (blk_below (blk_alloc HB2.out abO) hb3)
  have B3 := (B2.alloc B2.size abO).trans (hb3.mono (by have := B2.size; simp; omega))
  clear a0 a1 a2 a3 a4 a5 a6 a7 a8 a9 a10 b0 b1 b2 b3 b4 b5 b6 b7 b8 b9 b10
  clear hb3
  rw [ab_rm]
  obtain ⟨a0, a1, a2, a3, a4, a5, a6, a7, a8, a9, a10⟩ := a_cells HA3.out
  obtain ⟨b0, b1, b2, b3, b4, b5, b6, b7, b8, b9, b10⟩ := b_cells HB3.out
  go_wp2_with fail
  refine (edfFits_any _ 3 3 abG _ (by decide) (tasks_aba (alloc_at _ _ rfl)) ab_ok).mono ?_
  rintro e w4 ⟨rfl, hb4⟩
  have B4 := (B3.alloc B3.size abaO).trans (hb4.mono (by have := B3.size; simp; omega))
  rw [show fitsB (fun i => tkOf (abG i)) 3 = false from ab_fits3]
  clear a0 a1 a2 a3 a4 a5 a6 a7 a8 a9 a10 b0 b1 b2 b3 b4 b5 b6 b7 b8 b9 b10
  go_wp2_with fail
  go_ret
  exact ⟨rfl, B4⟩
end Go.Proofs.Ytnpbogamoanbiaa
