/-
  Contracts of the document's layer 23 for rows of the walk's own, and small laws.
-/
import Derived.Test.YtdccpbnknfffaaaDeltaRefRow
import Derived.Test.YtdccpbnknfffaaaDeltaDueW
namespace Go.Proofs.Ytdccpbnknfffaaa
open Go.RowKit
theorem kind5 (kd : Int) : ∃ r : Nat, r < 5 ∧ (kd.tmod 5 + 5).tmod 5 = (r : Int) := by
  refine ⟨(kd % 5).toNat, by omega, ?_⟩
  have h1 : -5 < kd.tmod 5 ∧ kd.tmod 5 < 5 := by
    have := Int.tmod_lt_of_pos kd (show (0 : Int) < 5 by decide)
    have h2 := Int.tmod_lt_of_pos (-kd) (show (0 : Int) < 5 by decide)
    rw [Int.neg_tmod] at h2
    omega
  have h3 : kd = 5 * kd.tdiv 5 + kd.tmod 5 := (Int.mul_tdiv_add_tmod kd 5).symm
  rw [Int.tmod_eq_emod_of_nonneg (by omega)]
  omega
theorem rrow_own (B : Nat) (v : Value) (r : TL) (w : World) (h : w.ownsRow B 43 2 v r.length (cells2 r)) (hn : r.length ≤ 64) : Calls Try.prog 18 #[v] w fun e w' => ∃ u, e = .returned u ∧ w'.ownsRow w.heap.size 3 1 u (flatI (srt r)).length (iv (flatI (srt r))) ∧ Below w.heap.size w w' := by
  obtain ⟨ao, cap, rfl, hT⟩ := tat_of_own h rfl
  refine rrow_any ao cap r.length r rfl w hT hn (fun e => ?_) fun p e => ?_
  · subst e
    rcases h.2 with ⟨h, _⟩ | ⟨g, c, cur, h, _⟩
    · simp only [Value.slice.injEq] at h; exact h.2.2
    · simp at h
  · subst e
    rcases h.2 with ⟨h, _⟩ | ⟨g, c, cur, h, _⟩
    · simp at h
    · simp only [Value.slice.injEq, Option.some.injEq] at h; rw [h.1]
theorem rdrop_own (B : Nat) (v : Value) (r : TL) (id : Int) (w : World) (h : w.ownsRow B 43 2 v r.length (cells2 r)) (hn : r.length ≤ 64) (hB : B ≤ w.heap.size) : Calls Try.prog 9 #[v, .int .i64 id] w fun e w' => ∃ v', e = .returned (.tuple #[v', .bool (look id r).isSome]) ∧ w'.ownsRow B 43 2 v' (dropR id r).length (cells2 (dropR id r)) ∧ Below w.heap.size w w' := by
  obtain ⟨ao, cap, rfl, hT⟩ := tat_of_own h rfl
  refine (rdrop_any ao cap r.length r rfl id w hT hn).mono ?_
  rintro e w' ⟨v', h1, h2, h3⟩
  exact ⟨v', h1, own_base h2 hB, h3⟩
theorem rtick_own (B : Nat) (v : Value) (r : TL) (w : World) (h : w.ownsRow B 43 2 v r.length (cells2 r)) (hn : r.length ≤ 64) (hb : ∀ x ∈ r, 1 ≤ x.2 ∧ x.2 ≤ 65536) (hB : B ≤ w.heap.size) : Calls Try.prog 11 #[v] w fun e w' => ∃ v' u, e = .returned (.tuple #[v', u]) ∧ w'.ownsRow B 43 2 v' (leftR r).length (cells2 (leftR r)) ∧ w'.ownsRow w.heap.size 3 1 u (dueR r).length (iv (dueR r)) ∧ Below w.heap.size w w' := by
  obtain ⟨ao, cap, rfl, hT⟩ := tat_of_own h rfl
  refine (rtick_any ao cap r.length r rfl w hT hn hb).mono ?_
  rintro e w' ⟨v', u, h1, h2, h3, h4⟩
  exact ⟨v', u, h1, own_base h2 hB, h3, h4⟩
theorem QS.tk {W : World} {base qb : Nat} {r : TL} (h : QS W base qb r) : ∀ x ∈ r, 1 ≤ x.2 ∧ x.2 ≤ 65536 := h.choose_spec.2.tk
theorem look_hit {r : TL} {id t : Int} {k : Nat} (h : Dist r) (hk : k < r.length) (hx : r.getD k (0, 0) = (id, t)) : look id (r.take (k + 1)) = some t := by
  have hd : Dist (r.take (k + 1)) := List.Pairwise.sublist (List.take_sublist _ _) h
  refine (look_some hd).2 ?_
  rw [take_snoc hk, hx]; simp
theorem look_miss {r : TL} {id i t : Int} {k : Nat} (hk : k < r.length) (hx : r.getD k (0, 0) = (i, t)) (hi : i ≠ id) : look id (r.take (k + 1)) = look id (r.take k) := by
  rw [take_snoc hk, hx]
  unfold look
  rw [List.find?_append]
  have : List.find? (fun x : Int × Int => decide (x.1 = id)) [(i, t)] = none := by simp [hi]
  rw [this, Option.or_none]
end Go.Proofs.Ytdccpbnknfffaaa
