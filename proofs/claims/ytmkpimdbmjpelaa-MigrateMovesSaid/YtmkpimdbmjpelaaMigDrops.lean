/-
  Layer 29: two rows of drops that are the same.
-/
import Derived.Test.YtmkpimdbmjpelaaMigMakes
namespace Go.Proofs.Ytmkpimdbmjpelaa
open Go.RowKit Go.Shelf
def DRow (w : World) (ao : Option Addr) (L : List (Nat × Nat)) : Prop := ∀ i, i < L.length → ∃ b o, ao = some ⟨b, o, none⟩ ∧ w.cell? ⟨b, o + i * 2, none⟩ = some (.int .i64 ((L.getD i (0, 0)).1 : Int)) ∧ w.cell? ⟨b, o + i * 2 + 1, none⟩ = some (.int .i64 ((L.getD i (0, 0)).2 : Int))
theorem DRow.below {w w' : World} {ao : Option Addr} {L : List (Nat × Nat)} (h : DRow w ao L) (hb : Below w.heap.size w w') : DRow w' ao L := fun i hi => by
  obtain ⟨b, o, e, h1, h2⟩ := h i hi
  exact ⟨b, o, e, (hb.cell (cell_lt h1)).trans h1, (hb.cell (cell_lt h2)).trans h2⟩
theorem dcells_at (L : List (Nat × Nat)) {i : Nat} (h : i < L.length) : (dcells L)[i * 2]? = some (.int .i64 ((L.getD i (0, 0)).1 : Int)) ∧ (dcells L)[i * 2 + 1]? = some (.int .i64 ((L.getD i (0, 0)).2 : Int)) := by
  induction L generalizing i with
  | nil => simp at h
  | cons a L ih =>
    rw [show dcells (a :: L) = [.int .i64 (a.1 : Int), .int .i64 (a.2 : Int)] ++ dcells L from rfl]
    cases i with
    | zero => exact ⟨rfl, rfl⟩
    | succ i =>
      have := ih (i := i) (by simpa using h)
      rw [List.getElem?_append_right (by simp; omega), List.getElem?_append_right (by simp; omega)]
      rw [show (i + 1) * 2 - [Value.int .i64 (a.1 : Int), Value.int .i64 (a.2 : Int)].length = i * 2 by simp; omega, show (i + 1) * 2 + 1 - [Value.int .i64 (a.1 : Int), Value.int .i64 (a.2 : Int)].length = i * 2 + 1 by simp; omega]
      exact this
theorem drow_own {w : World} {base : Nat} {v : Value} {L : List (Nat × Nat)} (h : w.ownsRow base 58 2 v L.length (dcells L)) : ∃ ao c, v = .slice ao L.length c ∧ Hid (DRow w ao L) := by
  rcases h.2 with ⟨e, h2⟩ | ⟨g, c, cur, e, _⟩
  · have h2 : L.length = 0 := h2
    exact ⟨none, 0, by rw [h2]; exact e, fun i hi => by omega⟩
  · refine ⟨_, c, e, fun i hi => ⟨g, 0, rfl, ?_, ?_⟩⟩
    · rw [e] at h
      rw [Nat.zero_add]
      exact (h.cellAt (i * 2) (by omega)).trans (dcells_at L hi).1
    · rw [e] at h
      rw [Nat.zero_add]
      exact (h.cellAt (i * 2 + 1) (by omega)).trans (dcells_at L hi).2
set_option maxRecDepth 100000 in
set_option maxHeartbeats 1000000 in
theorem equalD_any (ao bo : Option Addr) (n ca cb : Nat) (L : List (Nat × Nat)) (w : World) (hl : L.length = n) (hn : n ≤ 1000) (ha : DRow w ao L) (hb : DRow w bo L) :
    Calls Try.prog 26 #[.slice ao n ca, .slice bo n cb] w fun e w' => e = .returned (.bool true) ∧ Below w.heap.size w w' := by
  have t1 : ((n : Int) != (n : Int)) = false := by simp
  have HL := hid hl
  have HA := hid ha
  have HB := hid hb
  clear hl ha hb
  go_enter Try.func26, Try.ntmps26
  go_wp2
  go_loopw [13] (fun i_ wr => ∃ i : Nat, i_ = .int .i64 i ∧ i ≤ n ∧ Hid (Below w.heap.size w wr)) (fun i_ _ => n - (intOf i_).toNat)
  case atStart => exact ⟨0, rfl, Nat.zero_le _, Below.refl _ _⟩
  case round =>
    obtain ⟨i, rfl, hik, HW⟩ := hrel
    by_cases hlt : i < n
    · have t2 : decide ((i : Int) < (n : Int)) = true := by simp; omega
      obtain ⟨b, o, rfl, c0, c1⟩ := (HA.out.below HW.out) i (by rw [HL.out]; exact hlt)
      obtain ⟨b2, o2, rfl, d0, d1⟩ := (HB.out.below HW.out) i (by rw [HL.out]; exact hlt)
      have j0 : (0 : Int) ≤ (i : Int) := by omega
      have j1 : (i : Int) < (n : Int) := by omega
      generalize (L.getD i (0, 0)).1 = x at c0 d0
      generalize (L.getD i (0, 0)).2 = y at c1 d1
      go_wp2
      go_quiet (fail)
      have HW2 := hid (below_dr (k := nq) (HW.out))
      go_wp2
      go_roundw
      case rel => exact ⟨i + 1, by go_num, by omega, HW2⟩
      case measure => simp [intOf]; omega
    · obtain rfl : i = n := by omega
      have t2 : decide ((i : Int) < (i : Int)) = false := by simp
      go_wp2
      go_ret
      exact ⟨rfl, HW.out⟩
end Go.Proofs.Ytmkpimdbmjpelaa
