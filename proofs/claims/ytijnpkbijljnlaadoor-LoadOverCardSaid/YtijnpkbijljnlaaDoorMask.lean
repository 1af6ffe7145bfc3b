/-
  Sets of numbers as bits: the library's count of trailing zeros; the numbers of a set, rising, as an iterator hands them on.
-/
import Derived.Shelf.Spec.TrailingZeros
import Derived.Test.YtijnpkbijljnlaaDoorYield
namespace Go.Proofs.YtijnpkbijljnlaaDoor
open Go.RowKit Go.Shelf
attribute [local go_sem] Oper.semAt_some
/-- The library's table lies there. -/
def Tab (w : World) : Prop := TabAt 0 Lib.deBruijn32tab w
theorem Tab.below {n : Nat} {w w' : World} (h : Tab w) (hb : Below n w w') (hn : 0 < n) : Tab w' := fun j hj => (hb.cell (p := ⟨0, j, none⟩) hn).trans (h j hj)
theorem Tab.grown {w w' : World} {row : Option Nat} (h : Tab w) (hg : w.grownBy w' row) (hr : row ≠ some 0) : Tab w' := fun j hj => by
  have h0 := h j hj
  have hb : 0 < w.heap.size := cell_lt h0
  have : w'.heap[0]? = w.heap[0]? := hg.block 0 hb (fun e => hr e.symm)
  simpa [World.cell?, this] using h0
theorem Tab.pos {w : World} (h : Tab w) : 0 < w.heap.size := cell_lt (h 0 (by decide))
/-- The numbers of a set, rising. -/
def bitsOf (s : Nat) : List Nat := (List.range 32).filter fun i => s.testBit i
theorem bitsOf_zero : bitsOf 0 = [] := by simp [bitsOf]
theorem bitsOf_length (s : Nat) : (bitsOf s).length ≤ 32 := by
  unfold bitsOf
  exact Nat.le_trans (List.length_filter_le _ _) (by simp)
theorem filter_first (p : Nat → Bool) (k n : Nat) (hk : k < n) (hp : p k = true) (hl : ∀ i, i < k → p i = false) : (List.range n).filter p = k :: (List.range n).filter (fun i => p i && decide (i ≠ k)) := by
  have e : List.range n = List.range k ++ (k :: List.range' (k + 1) (n - k - 1)) := by
    have h1 := List.range'_append_1 (s := 0) (m := k) (n := n - k)
    rw [show k + (n - k) = n by omega, Nat.zero_add, show n - k = (n - k - 1) + 1 by omega, List.range'_succ] at h1
    rw [List.range_eq_range', List.range_eq_range', ← h1]
  rw [e, List.filter_append, List.filter_append, List.filter_cons, List.filter_cons]
  have h1 : (List.range k).filter p = [] := by
    rw [List.filter_eq_nil_iff]; intro i hi; rw [hl i (by simpa using hi)]; simp
  have h2 : (List.range k).filter (fun i => p i && decide (i ≠ k)) = [] := by
    rw [List.filter_eq_nil_iff]; intro i hi; rw [hl i (by simpa using hi)]; simp
  rw [h1, h2, if_pos hp]
  simp only [List.nil_append, ne_eq, not_true_eq_false, decide_false, Bool.and_false, Bool.false_eq_true, if_false, List.cons.injEq, true_and]
  apply List.filter_congr
  intro i hi
  have := List.mem_range'_1.1 hi
  simp; intro _; omega
theorem bit_parts (k m j : Nat) : (2 ^ k * (2 * m + 1)).testBit j = if j < k + 1 then decide (k = j) else m.testBit (j - (k + 1)) := by
  have e : 2 ^ k * (2 * m + 1) = 2 ^ (k + 1) * m + 2 ^ k := by rw [Nat.pow_succ, Nat.mul_add]; simp [Nat.mul_assoc]
  rw [e, Nat.testBit_two_pow_mul_add _ (Nat.pow_lt_pow_right (by decide) (by omega)), Nat.testBit_two_pow]
theorem bit_parts_pred (k m j : Nat) : (2 ^ k * (2 * m + 1) - 1).testBit j = if j < k + 1 then decide (j < k) else m.testBit (j - (k + 1)) := by
  have hp : 0 < 2 ^ k := Nat.pow_pos (by decide)
  have e : 2 ^ k * (2 * m + 1) - 1 = 2 ^ (k + 1) * m + (2 ^ k - 1) := by
    rw [Nat.pow_succ, Nat.mul_add]
    have : 2 ^ k * (2 * m) = 2 ^ k * 2 * m := by rw [Nat.mul_assoc]
    omega
  rw [e, Nat.testBit_two_pow_mul_add _ (by have := Nat.pow_lt_pow_right (a := 2) (by decide) (show k < k + 1 by omega); omega), Nat.testBit_two_pow_sub_one]
/-- The least number of a set, and what is left. -/
theorem bitsOf_step {s : Nat} (h0 : s ≠ 0) (hs : s < 4294967296) : bitsOf s = Lib.ctz 32 s :: bitsOf (s &&& (s - 1)) := by
  obtain ⟨m, hm, hk⟩ := Lib.ctzFrom_spec 32 s (by omega) hs
  have e : Lib.ctz 32 s = Lib.ctzFrom 32 s := by simp [Lib.ctz, h0]
  rw [e]
  generalize Lib.ctzFrom 32 s = k at hm hk
  subst hm
  unfold bitsOf
  rw [filter_first _ k 32 hk (by rw [bit_parts]; simp) (fun i hi => by rw [bit_parts, if_pos (by omega)]; simp; omega)]
  congr 1
  apply List.filter_congr
  intro i _
  rw [Nat.testBit_and, bit_parts, bit_parts_pred]
  by_cases h : i < k + 1
  · simp only [if_pos h]
    by_cases hi : k = i
    · subst hi; simp
    · simp [hi]
  · simp only [if_neg h]
    have : i ≠ k := by omega
    simp [this]
theorem left_lt {s : Nat} (h0 : s ≠ 0) : s &&& (s - 1) < s := Nat.lt_of_le_of_lt Nat.and_le_right (by omega)
theorem tz32_core (x k idx : Nat) (w : World) (hx0 : ((x : Int) == 0) = false)
    (key : bits BinOp.and IntKind.u32 (x : Int) (-(x : Int) % 4294967296) * 125613361 % 4294967296 / 134217728 = (idx : Int))
    (hi : idx < 32) (hk : k < 32) (hcell : w.cell? ⟨0, idx, none⟩ = some (.int .u8 k)) :
    Calls Tryd.prog 35 #[.int .u32 x] w fun e w' => e = .returned (.int .i64 k) ∧ w' = w := by
  go_enter Tryd.func35, Tryd.ntmps35
  go_wp2_with (simp only [key])
  go_ret
  exact ⟨rfl, rfl⟩
theorem tz32_any (x : Nat) (hx : x < 4294967296) (hx0 : x ≠ 0) (w : World) (hT : Tab w) :
    Calls Tryd.prog 35 #[.int .u32 x] w fun e w' => e = .returned (.int .i64 (Lib.ctz 32 x)) ∧ w' = w := by
  obtain ⟨hlow, hk⟩ := Lib.lowest_bit 32 x hx0 hx
  obtain ⟨hi, htab⟩ := Lib.deBruijn32_at _ hk
  have hcell := hT _ hi
  rw [htab] at hcell
  exact tz32_core x _ _ w (by simp; omega) (tz32_key x _ hx hx0 hlow) hi hk hcell
set_option maxRecDepth 100000 in
set_option maxHeartbeats 2000000 in
/-- The numbers of a set, rising, handed on one by one. -/
theorem all1_stops (n : Nat) (hn : 1 ≤ n) (Bn n₀ : Nat) (s : Nat) (w : World) (hs : s < 4294967296) (hn0 : 0 < n₀) (hc : w.cell? ⟨Bn, 0, none⟩ = some (.int .u32 s)) (hT : Tab w) :
    SeqStopsK Fence.wide n Tryd.prog 34 #[.pointer (some ⟨Bn, 0, none⟩)] (fun x : Nat => #[.int .i64 x]) (Below n₀) (fun ys => ys = bitsOf s) (fun pre => pre <+: bitsOf s) 32 w := by
  intro l J Jx W hW hJ hJx hY h0
  have hc1 : W.cell? ⟨Bn, 0, none⟩ = some (.int .u32 s) := (hW.cell (p := ⟨Bn, 0, none⟩) (cell_lt hc)).trans hc
  have hT1 : Tab W := hT.below hW hT.pos
  have hlen := bitsOf_length s
  refine callsIn_of_wp Tryd.func34 rfl trivial ?_ rfl
  simp only [Tryd.ntmps34, List.size_toArray, List.length_cons, List.length_nil, Nat.reduceAdd, Nat.reduceSub, Array.replicate_succ, Array.replicate_zero, List.push_toArray, List.append_toArray, List.nil_append, List.cons_append]
  gi_wp2
  gi_loopw [3] (fun p wr => ∃ (pre : List Nat) (x : Nat), p = .int .u32 x ∧ x < 4294967296 ∧ bitsOf s = pre ++ bitsOf x ∧ Tab wr ∧ J pre wr)
    (fun p _ => (intOf p).toNat)
  case atStart => exact ⟨[], s, rfl, hs, rfl, hT1, h0⟩
  case round =>
    obtain ⟨pre, x, rfl, hx, hb, hTr, hJr⟩ := hrel
    by_cases hx0 : x = 0
    · subst hx0
      gi_wp2
      go_end0
      exact ⟨⟨_, rfl⟩, .inl ⟨pre, by rw [hb, bitsOf_zero]; simp, hJr⟩⟩
    · have hst := bitsOf_step hx0 hx
      have hlt := left_lt hx0
      have t1 : ((x : Int) != 0) = true := by simp; omega
      have t2 : ((x : Int) == 0) = false := by simp; omega
      obtain ⟨fn, tmps, assign, body, hy, hR⟩ := hY pre (Lib.ctz 32 x) wr hJr (by rw [hst] at hb; have := congrArg List.length hb; simp at this; omega)
      have e1 : IntKind.u32.wrap ((x : Int) - 1) = ((x - 1 : Nat) : Int) := by rw [IntKind.wrap_u32]; omega
      have e2 : bits BinOp.and IntKind.u32 (x : Int) ((x - 1 : Nat) : Int) = ((x &&& (x - 1) : Nat) : Int) := bits_and_u32_nat x (x - 1) hx (by omega)
      gi_wp2_with (first
        | (refine ⟨trivial, ?_⟩; gi_at_call 35; refine (callsIn_wide.2 (tz32_any x hx hx0 _ hTr)).mono ?_; rintro e w' ⟨rfl, rfl⟩)
        | (refine hR.mono ?_; clear hR; rintro e W3 (⟨rfl, hJ3, hk3⟩ | ⟨rfl, hJx3⟩)))
      · go_roundw
        case rel => exact ⟨pre ++ [Lib.ctz 32 x], x &&& (x - 1), rfl, by omega, by rw [hb, hst]; simp, hTr.below hk3 hn0, hJ3⟩
        case measure => simp only [intOf]; omega
      · refine bodyPost_ret (results_none rfl _ _ _) rfl ?_
        exact ⟨⟨_, rfl⟩, .inr ⟨pre ++ [Lib.ctz 32 x], ⟨bitsOf (x &&& (x - 1)), by rw [hb, hst]; simp⟩, hJx3⟩⟩
end Go.Proofs.YtijnpkbijljnlaaDoor
