/-
  Contracts: Take, Dropped, Len; the law's right, last, and its example.
-/
import Derived.Test.YtmkpimdbmjpelaaQueue
namespace Go.Proofs.Ytmkpimdbmjpelaa
open Go.RowKit
def TakePost (base p : Nat) (cap pol d : Int) (v : Value) (xs : List Int) (w : World) (e : Ending) (w' : World) : Prop :=
  match xs with
  | [] => e = .returned (.tuple #[.int .i64 0, .int .i64 270]) ∧ QAt w' base p cap pol v [] d ∧ Save (fun k => k = p) w w'
  | x :: rest => e = .returned (.tuple #[.int .i64 x, .int .i64 0]) ∧ ∃ v', QAt w' base p cap pol v' rest d ∧ (∀ g, v'.ownBlock = some g → w.heap.size ≤ g) ∧ Save (fun k => k = p) w w'
theorem own_base {w : World} {base base' : Nat} {e : TypeId} {size : Nat} {v : Value} {n : Nat} {xs : List Value} (h : w.ownsRow base e size v n xs) (hb : base' ≤ base) : w.ownsRow base' e size v n xs :=
  ⟨h.1, h.2.elim .inl fun ⟨g, cap, cur, h1, h2, h3⟩ => .inr ⟨g, cap, cur, h1, Nat.le_trans hb h2, h3⟩⟩
/-- The law's own guard. -/
def rightL (cap pol : Int) : Bool := decide (1 ≤ cap) && decide (cap ≤ 16) && ((pol == 1) || (pol == 2) || (pol == 3))
theorem rightL_is (cap pol : Int) : rightL cap pol = rightB cap pol := by
  unfold rightL rightB
  rw [Bool.eq_iff_iff]
  simp
  omega
end Go.Proofs.Ytmkpimdbmjpelaa
