/-
  Layer 29: settings of queues that came in, and many queues side by side.
-/
import Derived.Test.YtmkpimdbmjpelaaQueueFill
import Derived.Test.YtmkpimdbmjpelaaQueueLen
import Derived.Test.YtmkpimdbmjpelaaSliceEqualI
namespace Go.Proofs.Ytmkpimdbmjpelaa
open Go.RowKit
/-- Settings lie there: two cells each. -/
def Sets (w : World) (ao : Option Addr) (n : Nat) (g : Nat → Nat → Int) : Prop := ∀ i, i < n → ∃ b o, ao = some ⟨b, o, none⟩ ∧ w.cell? ⟨b, o + i * 2, none⟩ = some (.int .i64 (g i 0)) ∧ w.cell? ⟨b, o + i * 2 + 1, none⟩ = some (.int .i64 (g i 1))
theorem Sets.below {w w' : World} {ao : Option Addr} {n : Nat} {g : Nat → Nat → Int} (h : Sets w ao n g) (hb : Below w.heap.size w w') : Sets w' ao n g := fun i hi => by
  obtain ⟨b, o, e, h1, h2⟩ := h i hi
  exact ⟨b, o, e, (hb.cell (cell_lt h1)).trans h1, (hb.cell (cell_lt h2)).trans h2⟩
theorem Sets.less {w : World} {ao : Option Addr} {n m : Nat} {g : Nat → Nat → Int} (h : Sets w ao n g) (hm : m ≤ n) : Sets w ao m g := fun i hi => h i (by omega)
/-- Such queues may be. -/
def RightS (n : Nat) (g : Nat → Nat → Int) : Prop := n ≤ 4 ∧ ∀ i, i < n → rightB (g i 0) (g i 1) = true
theorem rightB_is {cap pol : Int} : rightB cap pol = true ↔ (1 ≤ cap ∧ cap ≤ 16) ∧ 1 ≤ pol ∧ pol ≤ 3 := by
  unfold rightB
  simp only [Bool.and_eq_true, decide_eq_true_eq]
  omega
/-- A queue: its settings, its messages' slice, they, and how many were dropped. -/
structure QSt where
  cap : Nat
  pol : Int
  v : Value
  xs : List Int
  d : Int
def QOf (W : World) (base p : Nat) (s : QSt) : Prop := QAt W base p (s.cap : Int) s.pol s.v s.xs s.d
/-- Queues side by side, none of which shares memory with another one. -/
structure Qs (W : World) (base n : Nat) (P : Nat → Nat) (q : Nat → QSt) : Prop where
  at_ : ∀ i, i < n → QOf W base (P i) (q i)
  apart : ∀ i j, i < n → j < n → i ≠ j → P i ≠ P j
  rows : ∀ i j, i < n → j < n → i ≠ j → ∀ g, (q i).v.ownBlock = some g → (q j).v.ownBlock ≠ some g
/-- The type of a block of one's own. -/
theorem own_typ {w : World} {b n s : Nat} {e : TypeId} {u : Value} {ys : List Value} (h : w.ownsRow b e s u n ys) {g : Nat} (hg : u.ownBlock = some g) : ∃ cur, w.heap[g]? = some (.cells cur e (0, 0)) := by
  rcases h.2 with ⟨rfl, _⟩ | ⟨g', cap, cur, rfl, _, h3, _⟩
  · cases hg
  · cases hg
    exact ⟨cur, h3⟩
theorem Qs.keep {W W' : World} {base n : Nat} {P : Nat → Nat} {q : Nat → QSt} {S : Nat → Prop} (h : Qs W base n P q) (hs : Save S W W') (hS : ∀ k cur t, S k → W.heap[k]? = some (.cells cur t (0, 0)) → t ≠ 75 ∧ t ≠ 3) : Qs W' base n P q :=
  ⟨fun i hi => (h.at_ i hi).save hs (fun hk => (hS _ _ _ hk (h.at_ i hi).blk).1 rfl) (fun g hg hk => by
    obtain ⟨cur, hc⟩ := own_typ (h.at_ i hi).row hg
    exact (hS _ _ _ hk hc).2 rfl), h.apart, h.rows⟩
theorem Qs.below {W W' : World} {base n : Nat} {P : Nat → Nat} {q : Nat → QSt} (h : Qs W base n P q) (hb : Below W.heap.size W W') : Qs W' base n P q := h.keep (Save.of_below hb fun _ => False) fun _ _ _ hk => hk.elim
theorem Qs.grown {W W' : World} {base n : Nat} {P : Nat → Nat} {q : Nat → QSt} (h : Qs W base n P q) {b k s : Nat} {e : TypeId} {u : Value} {ys : List Value} (hu : W.ownsRow b e s u k ys) (he : e ≠ 75 ∧ e ≠ 3) (hg : W.grownBy W' u.ownBlock) : Qs W' base n P q :=
  h.keep (Save.of_grown hg) fun j cur t hj hc => by
    obtain ⟨cur', hc'⟩ := own_typ hu hj
    rw [hc'] at hc
    cases hc
    exact he
/-- One more. -/
def putN {α : Type} (f : Nat → α) (k : Nat) (x : α) : Nat → α := fun i => if i = k then x else f i
theorem putN_same {α : Type} (f : Nat → α) (k : Nat) (x : α) : putN f k x k = x := if_pos rfl
theorem putN_other {α : Type} (f : Nat → α) {k i : Nat} (x : α) (h : i ≠ k) : putN f k x i = f i := if_neg h
theorem Qs.snoc {W : World} {base n p : Nat} {P : Nat → Nat} {q : Nat → QSt} {s : QSt} (h : Qs W base n P q) (hs : QOf W base p s) (hp : ∀ i, i < n → P i ≠ p) (hr : ∀ i, i < n → ∀ g, (q i).v.ownBlock = some g → s.v.ownBlock ≠ some g) : Qs W base (n + 1) (putN P n p) (putN q n s) := by
  have e1 : ∀ i, i < n + 1 → i = n ∨ (i < n ∧ putN P n p i = P i ∧ putN q n s i = q i) := fun i hi => by
    rcases (show i = n ∨ i < n by omega) with h | h
    · exact .inl h
    · exact .inr ⟨h, putN_other _ _ (by omega), putN_other _ _ (by omega)⟩
  refine ⟨fun i hi => ?_, fun i j hi hj hij => ?_, fun i j hi hj hij g hg => ?_⟩
  · rcases e1 i hi with rfl | ⟨h1, h2, h3⟩
    · rw [putN_same, putN_same]; exact hs
    · rw [h2, h3]; exact h.at_ i h1
  · rcases e1 i hi with rfl | ⟨h1, h2, h3⟩ <;> rcases e1 j hj with rfl | ⟨k1, k2, k3⟩
    · exact absurd rfl hij
    · rw [putN_same, k2]; exact fun e => hp j k1 e.symm
    · rw [putN_same, h2]; exact hp i h1
    · rw [h2, k2]; exact h.apart i j h1 k1 hij
  · rcases e1 i hi with rfl | ⟨h1, h2, h3⟩ <;> rcases e1 j hj with rfl | ⟨k1, k2, k3⟩
    · exact absurd rfl hij
    · rw [putN_same] at hg
      rw [k3]
      exact fun e => hr j k1 g e hg
    · rw [h3] at hg
      rw [putN_same]
      exact hr i h1 g hg
    · rw [h3] at hg; rw [k3]; exact h.rows i j h1 k1 hij g hg
theorem Qs.congr {W : World} {base n : Nat} {P P' : Nat → Nat} {q q' : Nat → QSt} (h : Qs W base n P q) (hP : ∀ i, i < n → P' i = P i) (hq : ∀ i, i < n → q' i = q i) : Qs W base n P' q' :=
  ⟨fun i hi => by rw [hP i hi, hq i hi]; exact h.at_ i hi, fun i j hi hj hij => by rw [hP i hi, hP j hj]; exact h.apart i j hi hj hij, fun i j hi hj hij => by rw [hq i hi, hq j hj]; exact h.rows i j hi hj hij⟩
/-- One of them has turned. -/
theorem Qs.turn {W W' : World} {base n k : Nat} {P : Nat → Nat} {q : Nat → QSt} {s : QSt} (h : Qs W base n P q) (hk : k < n) (hs : Save (fun j => j = P k ∨ (q k).v.ownBlock = some j) W W') (hq : QOf W' base (P k) s) (hh : Heir W (q k).v s.v) : Qs W' base n P (putN q k s) := by
  have hl : ∀ i, i < n → ∀ g, (q i).v.ownBlock = some g → g < W.heap.size := fun i hi g hg => ((h.at_ i hi).row.lt g hg).2
  have hold : ∀ i, i < n → i ≠ k → QOf W' base (P i) (q i) := fun i hi hik => (h.at_ i hi).save hs (fun e => by
    rcases e with e | e
    · exact h.apart i k hi hk hik e
    · obtain ⟨cur, hc⟩ := own_typ (h.at_ k hk).row e
      have := (h.at_ i hi).blk
      rw [hc] at this
      exact absurd this (by simp)) (fun g hg e => by
    rcases e with e | e
    · obtain ⟨cur, hc⟩ := own_typ (h.at_ i hi).row hg
      have := (h.at_ k hk).blk
      rw [← e, hc] at this
      exact absurd this (by simp)
    · exact h.rows i k hi hk hik g hg e)
  have hrow : ∀ i, i < n → i ≠ k → ∀ g, (q i).v.ownBlock = some g → s.v.ownBlock ≠ some g := fun i hi hik g hg e => by
    rcases hh g e with e2 | e2
    · exact h.rows i k hi hk hik g hg e2
    · have := hl i hi g hg; omega
  refine ⟨fun i hi => ?_, h.apart, fun i j hi hj hij g hg => ?_⟩
  · by_cases hik : i = k
    · subst hik; rw [putN_same]; exact hq
    · rw [putN_other _ _ hik]; exact hold i hi hik
  · by_cases hik : i = k
    · subst hik
      rw [putN_same] at hg
      rw [putN_other _ _ (Ne.symm hij)]
      exact fun e => hrow j hj (Ne.symm hij) g e hg
    · rw [putN_other _ _ hik] at hg
      by_cases hjk : j = k
      · subst hjk; rw [putN_same]; exact hrow i hi hik g hg
      · rw [putN_other _ _ hjk]; exact h.rows i j hi hj hij g hg
/-- Pointers to queues, as cells. -/
def ptrs (P : Nat → Nat) (n : Nat) : List Value := (List.range n).map fun i => .pointer (some ⟨P i, 0, none⟩)
theorem ptrs_length (P : Nat → Nat) (n : Nat) : (ptrs P n).length = n := by simp [ptrs]
theorem ptrs_at (P : Nat → Nat) {n i : Nat} (h : i < n) : (ptrs P n)[i]? = some (.pointer (some ⟨P i, 0, none⟩)) := by simp [ptrs, h]
theorem ptrs_snoc (P : Nat → Nat) (n p : Nat) : ptrs (putN P n p) (n + 1) = ptrs P n ++ [.pointer (some ⟨p, 0, none⟩)] := by
  unfold ptrs
  rw [List.range_succ, List.map_append]
  congr 1
  · refine List.map_congr_left fun i hi => ?_
    rw [putN_other _ _ (by have := List.mem_range.1 hi; omega)]
  · simp [putN_same]
/-- A row of pointers that is read. -/
def PRow (w : World) (ao : Option Addr) (n : Nat) (P : Nat → Nat) : Prop := Row w ao n fun i => .pointer (some ⟨P i, 0, none⟩)
theorem prow_of_own {w : World} {base n : Nat} {v : Value} {P : Nat → Nat} (h : w.ownsRow base 39 1 v n (ptrs P n)) : ∃ ao cap, v = .slice ao n cap ∧ (n ≤ cap ∧ cap ≤ maxLen) ∧ Hid (PRow w ao n P) := by
  rcases h.2 with ⟨e, h2⟩ | ⟨g, cap, cur, e, _, _, h3, h4, _⟩
  · have h2 : n = 0 := h2
    exact ⟨none, 0, by rw [h2]; exact e, ⟨by omega, Nat.zero_le _⟩, fun i hi => by omega⟩
  · refine ⟨_, cap, e, ⟨h3, h4⟩, ?_⟩
    rw [e] at h
    exact (row_of_own h).congr fun i hi => by
      rw [List.getD_eq_getElem?_getD, ptrs_at P hi]; rfl
theorem infoQp : (Try.prog.info? 39).map (fun i => (i.zero, i.size, i.bytes)) = some (some (.pointer none), 1, 8) := by kernel_rfl
end Go.Proofs.Ytmkpimdbmjpelaa
