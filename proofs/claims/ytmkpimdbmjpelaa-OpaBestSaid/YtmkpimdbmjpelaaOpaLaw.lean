/-
  Layer 38, plain law: the order that is found: the greatest place that can be last, and so on ahead of it.
-/
import Derived.Test.YtmkpimdbmjpelaaOpaFits
namespace Go.Proofs.Ytmkpimdbmjpelaa
open Go.RowKit
/-- The tasks at places. -/
def othG (g : Nat → Nat → Int) (P : List Nat) : Nat → Nat → Int := fun i => g (P.getD i 0)
/-- May the one at this place be last? -/
def fitK (g : Nat → Nat → Int) (L : List Nat) (k : Nat) : Bool := lastR (g (L.getD k 0)) (othG g (L.eraseIdx k)) (L.length - 1)
/-- The greatest place below so many that may be last. -/
def pickK (g : Nat → Nat → Int) (L : List Nat) : Nat → Option Nat
  | 0 => none
  | m + 1 => if fitK g L m then some m else pickK g L m
theorem pickK_lt {g : Nat → Nat → Int} {L : List Nat} {m k : Nat} (h : pickK g L m = some k) : k < m ∧ fitK g L k = true := by
  induction m with
  | zero => cases h
  | succ m ih =>
    unfold pickK at h
    split at h
    · rename_i hf
      cases h
      exact ⟨Nat.lt_succ_self _, hf⟩
    · have := ih h
      exact ⟨by omega, this.2⟩
/-- So far down no place may be last. -/
theorem pickK_down {g : Nat → Nat → Int} {L : List Nat} {m n : Nat} (hm : m ≤ n) (h : ∀ j, m ≤ j → j < n → fitK g L j = false) : pickK g L n = pickK g L m := by
  induction n with
  | zero => obtain rfl : m = 0 := by omega
            rfl
  | succ n ih =>
    rcases Nat.lt_or_ge n m with h1 | h1
    · obtain rfl : m = n + 1 := by omega
      rfl
    · rw [show pickK g L (n + 1) = if fitK g L n then some n else pickK g L n from rfl, h n h1 (Nat.lt_succ_self _)]
      exact ih h1 fun j a b => h j a (by omega)
theorem pickK_at {g : Nat → Nat → Int} {L : List Nat} {m n : Nat} (hm : m < n) (hf : fitK g L m = true) (h : ∀ j, m < j → j < n → fitK g L j = false) : pickK g L n = some m := by
  rw [pickK_down (show m + 1 ≤ n from hm) fun j a b => h j a b]
  show (if fitK g L m then some m else pickK g L m) = some m
  rw [if_pos hf]
theorem pickK_none {g : Nat → Nat → Int} {L : List Nat} {n : Nat} (h : ∀ j, j < n → fitK g L j = false) : pickK g L n = none := by
  rw [pickK_down (Nat.zero_le n) fun j _ b => h j b]; rfl
/-- Going up: the last one that was met. -/
theorem pickK_up (g : Nat → Nat → Int) (L : List Nat) (m : Nat) : pickK g L (m + 1) = if fitK g L m then some m else pickK g L m := rfl
/-- The order, from what is left on, ahead of what is found. -/
def orderF (g : Nat → Nat → Int) : Nat → List Nat → List Nat → Option (List Nat)
  | 0, _, out => some out
  | f + 1, L, out => match pickK g L L.length with
    | none => none
    | some k => orderF g f (L.eraseIdx k) (L.getD k 0 :: out)
def orderR (g : Nat → Nat → Int) (n : Nat) : Option (List Nat) := orderF g n (List.range n) []
theorem order_none {g : Nat → Nat → Int} {L out : List Nat} {f : Nat} (h : pickK g L L.length = none) : orderF g (f + 1) L out = none := by
  unfold orderF; rw [h]
theorem order_some {g : Nat → Nat → Int} {L out : List Nat} {f k : Nat} (h : pickK g L L.length = some k) : orderF g (f + 1) L out = orderF g f (L.eraseIdx k) (L.getD k 0 :: out) := by
  rw [orderF, h]
/-- Places below so many. -/
def Bel (n : Nat) (L : List Nat) : Prop := ∀ i ∈ L, i < n
theorem Bel.range (n : Nat) : Bel n (List.range n) := fun _ hi => List.mem_range.1 hi
theorem Bel.erase {n : Nat} {L : List Nat} (h : Bel n L) (k : Nat) : Bel n (L.eraseIdx k) := fun i hi => h i (List.mem_of_mem_eraseIdx hi)
theorem Bel.at_ {n : Nat} {L : List Nat} (h : Bel n L) {k : Nat} (hk : k < L.length) : L.getD k 0 < n := by
  rw [List.getD_eq_getElem?_getD, List.getElem?_eq_getElem hk]
  exact h _ (List.getElem_mem hk)
theorem erase_at {L : List Nat} {k i : Nat} (hk : k < L.length) (hi : i < L.length - 1) : (L.eraseIdx k).getD i 0 = L.getD (if i < k then i else i + 1) 0 := by
  rw [List.getD_eq_getElem?_getD, List.getD_eq_getElem?_getD, List.getElem?_eraseIdx]
  split <;> rfl
/-! ### tasks in a row of one's own -/
def c11 (x : Nat → Int) : List Value := [.int .i64 (x 0), .int .i64 (x 1), .int .i64 (x 2), .int .i64 (x 3), .int .i64 (x 4), .int .i64 (x 5), .int .i64 (x 6), .int .i64 (x 7), .int .i64 (x 8), .int .i64 (x 9), .int .i64 (x 10)]
def cells11 (g : Nat → Nat → Int) : Nat → List Value
  | 0 => []
  | n + 1 => cells11 g n ++ c11 (g n)
theorem cells11_length (g : Nat → Nat → Int) (n : Nat) : (cells11 g n).length = n * 11 := by
  induction n with
  | zero => rfl
  | succ n ih => rw [cells11, List.length_append, ih]; simp [c11]; omega
theorem c11_at (x : Nat → Int) {j : Nat} (h : j < 11) : (c11 x)[j]? = some (.int .i64 (x j)) := by
  rcases j with _ | _ | _ | _ | _ | _ | _ | _ | _ | _ | _ | j
  all_goals first | rfl | (exfalso; omega)
theorem cells11_at (g : Nat → Nat → Int) {n i j : Nat} (hi : i < n) (hj : j < 11) : (cells11 g n)[i * 11 + j]? = some (.int .i64 (g i j)) := by
  induction n with
  | zero => omega
  | succ n ih =>
    rw [cells11]
    rcases Nat.lt_or_ge i n with h | h
    · rw [List.getElem?_append_left (by rw [cells11_length]; omega)]
      exact ih h
    · obtain rfl : i = n := by omega
      rw [List.getElem?_append_right (by rw [cells11_length]; omega), cells11_length, show i * 11 + j - i * 11 = j by omega]
      exact c11_at _ hj
theorem cells11_congr {g h : Nat → Nat → Int} {n : Nat} (e : ∀ i, i < n → g i = h i) : cells11 g n = cells11 h n := by
  induction n with
  | zero => rfl
  | succ n ih => rw [cells11, cells11, ih fun i hi => e i (by omega), e n (Nat.lt_succ_self _)]
theorem tasks_of_own {w : World} {base n : Nat} {e : TypeId} {v : Value} {g : Nat → Nat → Int} (h : w.ownsRow base e 11 v n (cells11 g n)) : ∃ ao cap, v = .slice ao n cap ∧ Tasks w ao n g := by
  rcases h.2 with ⟨rfl, h2⟩ | ⟨gb, cap, cur, rfl, _⟩
  · have h2 : n = 0 := h2
    exact ⟨none, 0, by rw [h2], fun i hi => by omega⟩
  · refine ⟨_, cap, rfl, fun i hi => ⟨gb, 0, rfl, fun j hj => ?_⟩⟩
    rw [Nat.zero_add]
    exact (h.cellAt (i * 11 + j) (by omega)).trans (cells11_at g hi hj)
theorem infoTask : (Try.prog.info? 64).map (fun i => (i.zero.map fun z => z.cells.size, i.size, i.bytes)) = some (some 11, 11, 88) := by kernel_rfl
end Go.Proofs.Ytmkpimdbmjpelaa
