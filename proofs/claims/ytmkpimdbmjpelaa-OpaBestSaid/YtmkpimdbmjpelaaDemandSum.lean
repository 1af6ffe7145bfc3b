/-
  Contracts of the package demand: the iterator over the terms' work, and the work of all terms.
-/
import Derived.Test.YtmkpimdbmjpelaaCheckSum
import Derived.Test.YtmkpimdbmjpelaaDemand
namespace Go.Proofs.Ytmkpimdbmjpelaa
open Go.RowKit Go.Shelf
attribute [local go_sem] Oper.semAt_some
/-- A term. -/
structure TT where
  p : Int
  c : Int
  o : Int
  k : Int
/-- A slice of terms lies there. -/
def Terms (w : World) (ao : Option Addr) (n : Nat) (f : Nat → TT) : Prop := ∀ i, i < n → ∃ b o, ao = some ⟨b, o, none⟩ ∧ w.cell? ⟨b, o + i * 4, none⟩ = some (.int .i64 (f i).p) ∧ w.cell? ⟨b, o + i * 4 + 1, none⟩ = some (.int .i64 (f i).c) ∧ w.cell? ⟨b, o + i * 4 + 2, none⟩ = some (.int .i64 (f i).o) ∧ w.cell? ⟨b, o + i * 4 + 3, none⟩ = some (.int .i64 (f i).k)
theorem Terms.below {w w' : World} {ao : Option Addr} {n : Nat} {f : Nat → TT} (h : Terms w ao n f) (hb : Below w.heap.size w w') : Terms w' ao n f := fun i hi => by
  obtain ⟨b, o, e, h0, h1, h2, h3⟩ := h i hi
  exact ⟨b, o, e, kept h0 hb, kept h1 hb, kept h2 hb, kept h3 hb⟩
/-- What a term brings; one below 0 where that is too great, or none. -/
def wkOf (t : Int) (x : TT) : Int := if (workR x.p x.c x.o x.k t).2 then (workR x.p x.c x.o x.k t).1 else -1
def upto (t : Int) (f : Nat → TT) (k : Nat) : List Int := (List.range k).map fun i => wkOf t (f i)
theorem upto_succ (t : Int) (f : Nat → TT) (k : Nat) : upto t f (k + 1) = upto t f k ++ [wkOf t (f k)] := by simp [upto, List.range_succ]
theorem upto_length (t : Int) (f : Nat → TT) (k : Nat) : (upto t f k).length = k := by simp [upto]
theorem upto_prefix (t : Int) (f : Nat → TT) {k n : Nat} (h : k ≤ n) : upto t f k <+: upto t f n := by
  induction n with
  | zero => obtain rfl : k = 0 := by omega
            exact List.prefix_refl _
  | succ n ih =>
    by_cases hk : k = n + 1
    · subst hk; exact List.prefix_refl _
    · exact (ih (by omega)).trans (by rw [upto_succ]; exact List.prefix_append _ _)
theorem below_grownBy {w w' : World} (h : Below w.heap.size w w') : w.grownBy w' none := ⟨h.os, h.tape, h.output, h.size, fun k hk _ => h.block k hk⟩
set_option maxRecDepth 100000 in
set_option maxHeartbeats 2000000 in
theorem works1_in (m : Nat) (hm : 3 ≤ m) (ao : Option Addr) (n cap : Nat) (f : Nat → TT) (t : Int) (w : World) (hn : n ≤ 100) (Bl Bt : Nat) (hl : w.cell? ⟨Bl, 0, none⟩ = some (.slice ao n cap)) (ht : w.cell? ⟨Bt, 0, none⟩ = some (.int .i64 t)) (hT : Terms w ao n f) :
    SeqStopsK Fence.wide m Try.prog 59 #[.pointer (some ⟨Bl, 0, none⟩), .pointer (some ⟨Bt, 0, none⟩)] (fun x : Int => #[.int .i64 x]) (Below w.heap.size) (fun ys => ys = upto t f n) (fun pre => pre <+: upto t f n) n w := by
  intro l J Jx W hW hJ hJx hY h0
  refine callsIn_of_wp Try.func59 rfl trivial ?_ rfl
  simp only [Try.ntmps59, List.size_toArray, List.length_cons, List.length_nil, Nat.reduceAdd, Nat.reduceSub, Array.replicate_succ, Array.replicate_zero, List.push_toArray, List.append_toArray, List.nil_append, List.cons_append]
  have h1 : 1 ≤ m := by omega
  have hl' := kept hl hW
  have ht' := kept ht hW
  gi_wp2
  gi_loopw [6, 7, 10] (fun _ _ i wr => ∃ k : Nat, k ≤ n ∧ i = .int .i64 k ∧ J (upto t f k) wr ∧ Below w.heap.size w wr ∧ W.heap.size ≤ wr.heap.size) (fun _ _ i _ => n - (intOf i).toNat)
  case atStart => exact ⟨0, Nat.zero_le _, rfl, h0, hW, Nat.le_refl _⟩
  case round =>
    obtain ⟨k, hk, rfl, hJs, hnx, hsz⟩ := hrel
    by_cases hlt : k < n
    · obtain ⟨b, o, rfl, c0, c1, c2, c3⟩ := hT.below hnx k hlt
      have ht2 := kept ht hnx
      have hbl : b < w.heap.size := by
        obtain ⟨b', o', e, x, _⟩ := hT k hlt
        cases e
        exact cell_lt x
      have ht3 : ∀ o, (wr.alloc o).cell? ⟨Bt, 0, none⟩ = some (.int .i64 t) := fun o => cell_alloc_l o ht2
      have hW2 := hid (work_any (f k).p (f k).c (f k).o (f k).k t)
      have hwk := hid (show wkOf t (f k) = if (workR (f k).p (f k).c (f k).o (f k).k t).2 then (workR (f k).p (f k).c (f k).o (f k).k t).1 else -1 from rfl)
      obtain ⟨⟨v, ok⟩, hx⟩ : ∃ y, workR (f k).p (f k).c (f k).o (f k).k t = y := ⟨_, rfl⟩
      rw [hx] at hW2 hwk
      cases ok
      all_goals
        gi_wp2_with (refine ⟨trivial, ?_⟩; gi_at_call 60; refine (callsIn_wide.2 (hW2.out _)).mono ?_; rintro e w2 ⟨rfl, hb2⟩; have hb3 := ((Below.refl wr.heap.size wr).alloc (Nat.le_refl _) (Obj.cells #[.int .i64 (f k).p, .int .i64 (f k).c, .int .i64 (f k).o, .int .i64 (f k).k] 84)).trans (hb2.mono (by simp)); obtain ⟨fn, tmps, assign, body, hy, hR⟩ := hY _ (wkOf t (f k)) w2 (hJ _ _ _ none hJs (below_grownBy hb3) (fun r e => by cases e)) (by rw [upto_length]; exact hlt); rw [hwk.out] at hy hR; simp only [if_true, Bool.false_eq_true, if_false] at hy hR)
        refine hR.mono ?_
        have hs := upto_succ t f k
        rw [hwk.out] at hs
        simp only [if_true, Bool.false_eq_true, if_false] at hs
        have HS := hid hs
        have HP := hid (upto_prefix t f (show k + 1 ≤ n by omega))
        clear hs
        rintro e W3 (⟨rfl, hJ3, hk3⟩ | ⟨rfl, hJx3⟩)
        · gi_wp2
          go_roundw
          case rel => exact ⟨k + 1, by omega, by simp, by rw [HS.out]; exact hJ3, (hnx.trans (hb3.mono hnx.size)).trans hk3, Nat.le_trans hsz (Nat.le_trans hb3.size hk3.size)⟩
          case measure => simp [intOf]; omega
        · gi_wp2
          refine bodyPost_ret (results_none rfl _ _ _) rfl ?_
          exact ⟨⟨_, rfl⟩, .inr ⟨_, by rw [← HS.out]; exact HP.out, hJx3⟩⟩
    · obtain rfl : k = n := by omega
      gi_wp2
      go_end0
      exact ⟨⟨_, rfl⟩, .inl ⟨_, rfl, hJs⟩⟩
theorem works_any (ao : Option Addr) (n cap : Nat) (t : Int) (w : World) : Calls Try.prog 54 #[.int .i64 t, .slice ao n cap] w fun e w' => e = .returned (.func (.func 59) #[] #[.pointer (some ⟨w.heap.size + 1, 0, none⟩), .pointer (some ⟨w.heap.size, 0, none⟩)]) ∧ (w.alloc (.cells #[.int .i64 t] 3)).alloc (.cells #[.slice ao n cap] 82) = w' := by
  go_enter Try.func54, Try.ntmps54
  go_wp2
  go_ret
  exact ⟨rfl, rfl⟩
/-- The work of all terms. -/
def allR (t : Int) (f : Nat → TT) (n : Nat) : Int × Bool := rSum (upto t f n)
theorem demandWork_any (ao : Option Addr) (n cap : Nat) (f : Nat → TT) (t : Int) (w : World) (hn : n ≤ 100) (hT : Terms w ao n f) :
    Calls Try.prog 48 #[.int .i64 t, .slice ao n cap] w fun e w' => e = .returned (rv (allR t f n)) ∧ Below w.heap.size w w' := by
  have hb : Below w.heap.size w ((w.alloc (.cells #[.int .i64 t] 3)).alloc (.cells #[.slice ao n cap] 82)) := ((Below.refl _ _).alloc (Nat.le_refl _) _).alloc (by simp) _
  have c0 := cell_new_l w (.int .i64 t) 3
  have c1 := cell_new_l (w.alloc (.cells #[.int .i64 t] 3)) (.slice ao n cap) 82
  simp only [World.size_alloc] at c1
  have hseq := works1_in 9 (by omega) ao n cap f t ((w.alloc (.cells #[.int .i64 t] 3)).alloc (.cells #[.slice ao n cap] 82)) hn (w.heap.size + 1) w.heap.size c1.1 (cell_alloc_l _ c0.1) (hT.below hb)
  have hsum := sum_in 10 (by omega) 59 _ (upto t f n) n _ (enters_of Try.func59 (by kernel_rfl) rfl) hseq
  have HS := hid hsum
  clear hseq hsum c0 c1
  unfold allR
  generalize rSum (upto t f n) = r at HS
  obtain ⟨r1, r2⟩ := r
  go_enter Try.func48, Try.ntmps48
  go_wp2_with (first | (go_at_call 54; refine (works_any _ _ _ _ _).mono ?_; rintro e w1 ⟨rfl, rfl⟩) | (go_at_call 53; refine HS.out.mono ?_; rintro e w2 ⟨rfl, hb2⟩))
  go_ret2
  exact ⟨rfl, hb.trans (hb2.mono hb.size)⟩
end Go.Proofs.Ytmkpimdbmjpelaa
