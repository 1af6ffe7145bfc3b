/-
  QueuePlays' own step: what is there behind a call.
-/
import Derived.Test.YtmkpimdbmjpelaaQueueTake
import Derived.Test.YtmkpimdbmjpelaaFree
import Derived.Laws.AppendOwnNone
namespace Go.Proofs.Ytmkpimdbmjpelaa
open Go.RowKit
def lastF (xs : List Int) (m : Nat) : List Int := if m < xs.length then xs.drop (xs.length - m) else xs
/-- What is there behind a call, its error, what it answers, how many were dropped. -/
def stepF (cap : Nat) (pol : Int) (xs : List Int) (r : Nat) (n : Int) (L : List Int) : List Int × Int × Int × Int :=
  if r = 3 then (match xs with | [] => ([], 270, 0, 0) | x :: rest => (rest, 0, x, 0))
  else if r = 4 then (lastF (xs ++ L) cap, 0, ((xs ++ L).length - (lastF (xs ++ L) cap).length : Nat), ((xs ++ L).length - (lastF (xs ++ L) cap).length : Nat))
  else if xs.length = cap ∧ pol = 1 then (xs, 271, 0, 0) else if xs.length = cap ∧ pol = 3 then (xs, 0, 0, 1)
  else (lastF (xs ++ [n]) cap, 0, 0, ((xs ++ [n]).length - (lastF (xs ++ [n]) cap).length : Nat))
theorem kind_mod (kd : Int) : ∃ r : Nat, r < 5 ∧ (kd.tmod 5 + 5).tmod 5 = (r : Int) ∧ kd % 5 = (r : Int) := by
  refine ⟨(kd % 5).toNat, by omega, ?_, by omega⟩
  have h1 : -5 < kd.tmod 5 ∧ kd.tmod 5 < 5 := by
    have := Int.tmod_lt_of_pos kd (show (0 : Int) < 5 by decide)
    have h2 := Int.tmod_lt_of_pos (-kd) (show (0 : Int) < 5 by decide)
    rw [Int.neg_tmod] at h2
    omega
  have h3 : kd = 5 * kd.tdiv 5 + kd.tmod 5 := (Int.mul_tdiv_add_tmod kd 5).symm
  rw [Int.tmod_eq_emod_of_nonneg (by omega)]
  omega
/-- A row that is read: a value of a slice, whoever owns it. -/
def Reads (W : World) (v : Value) (xs : List Int) : Prop := ∃ ao c, v = .slice ao xs.length c ∧ xs.length ≤ c ∧ c ≤ maxLen ∧ Row W ao xs.length (fun i => .int .i64 (xs.getD i 0)) ∧ (ao = none → c = 0) ∧ (∀ g, v.ownBlock = some g → g < W.heap.size)
/-- One's own block is the elder's or a new one. -/
def StepP (v0 : Value) (r : List Int × Int × Int × Int) (w : World) (e : Ending) (w' : World) : Prop :=
  ∃ v, e = .returned (.tuple #[v, .int .i64 r.2.1, .int .i64 r.2.2.1, .int .i64 r.2.2.2]) ∧ Reads w' v r.1 ∧ Heir w v0 v ∧ Below w.heap.size w w'
theorem reads_own {W : World} {B : Nat} {v : Value} {xs : List Int} (h : W.ownsRow B 3 1 v xs.length (vi xs)) : Reads W v xs := by
  obtain ⟨ao, c, e, h1, h2, h3, _⟩ := vi_view h
  refine ⟨ao, c, e, h1, h2, h3, fun hn => ?_, fun g hg => (h.lt g hg).2⟩
  rcases h.2 with ⟨h4, _⟩ | ⟨g, cap, _, h4, _⟩
  · rw [e] at h4; simp only [Value.slice.injEq] at h4; exact h4.2.2
  · rw [e, hn] at h4; cases h4
/-- An append of a row that is read, nil or not. -/
theorem wpList_append_row {w : World} {ops : Array Oper} {rest : List Oper} {o : Oper} {a : Act} {Q : Exit → Act → World → Prop} (hgd : o.guard = none) (s x : Operand) (ho : o.op = .call { callee := .builtin .append, args := #[s, x], argTypes := #[24, 24] })
    (base : Nat) (v : Value) (n : Nat) (ys : List Int) (hn : ys.length = n) (hs : a.eval s = v) (hown : w.ownsRow base 3 1 v n (vi ys)) (xo : Option Addr) (xc : Nat) (zs : List Int) (hx : a.eval x = .slice xo zs.length xc)
    (hrow : Row w xo zs.length (fun i => .int .i64 (zs.getD i 0))) (hnil : xo = none → xc = 0) (hl : n + zs.length ≤ 100000) (hB : base ≤ w.heap.size)
    (h : ∀ v' w', w'.ownsRow base 3 1 v' (ys ++ zs).length (vi (ys ++ zs)) → w.grownBy w' v.ownBlock → wpList Try.prog ops Q rest (a.put o.dst v') w') : wpList Try.prog ops Q (o :: rest) a w := by
  obtain ⟨i0, hi, hz0, hz1, hz2⟩ := info_parts infoInt
  subst hn
  cases xo with
  | none =>
    have hz : zs = [] := by
      cases zs with
      | nil => rfl
      | cons z zs => obtain ⟨b, o, e, _⟩ := hrow 0 (by simp); cases e
    subst hz
    obtain rfl := hnil rfl
    refine wpList_append_own_none hgd s x 24 ho base 3 i0 1 Try.underlying24 hi v _ _ hs hown hx ?_
    exact h v w (by rw [List.append_nil]; exact hown) ⟨rfl, rfl, rfl, Nat.le_refl _, fun _ _ _ => rfl⟩
  | some ad =>
    refine wpList_append_own _ hgd s x 24 ho base 3 i0 (.int .i64 0) 1 8 Try.underlying24 hi hz0 hz1 hz2 rfl (by decide) v _ _ hs hown ad zs.length xc (vi zs) hx (by rw [vi_length]; omega) (fun j u hj => ?_) (vi_one _) (by unfold maxLen; omega) (by omega) hB ?_
    · have hjl : j < zs.length := by
        have := (List.getElem?_eq_some_iff.1 hj).1
        rwa [vi_length] at this
      obtain ⟨b, o, e, hc⟩ := hrow j hjl
      cases e
      rw [add_off, hc, ← hj]
      simp [vi, List.getD, hjl]
    · intro v' w' h1 h2 _
      exact h v' w' (by rw [List.length_append, vi_append]; exact h1) h2
theorem heir_own {w W : World} {v0 v : Value} {n : Nat} {xs : List Value} {e : TypeId} (h : W.ownsRow w.heap.size e 1 v n xs) : Heir w v0 v := fun g hg => .inr (h.lt g hg).1
attribute [local go_sem] stillAt
end Go.Proofs.Ytmkpimdbmjpelaa
