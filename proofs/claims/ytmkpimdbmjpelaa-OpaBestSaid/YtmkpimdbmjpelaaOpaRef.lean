/-
  Layer 38: contract of the document's Order.
-/
import Derived.Test.YtmkpimdbmjpelaaOpaWithout
import Derived.Test.YtmkpimdbmjpelaaFree
namespace Go.Proofs.Ytmkpimdbmjpelaa
open Go.RowKit
def lenS : Value → Nat
  | .slice _ n _ => n
  | _ => 0
def foundI : Option Nat → Int
  | none => -1
  | some j => (j : Int)
theorem range_snoc (k : Nat) : ints (List.range (k + 1)) = ints (List.range k) ++ [.int .i64 (k : Int)] := by rw [List.range_succ, ints_append]; rfl
theorem one_int (W : World) (u : Value) (t : TypeId) : ∀ (j : Nat) (x : Value), [u][j]? = some x → (W.alloc (Obj.cells #[u] t)).cell? ((⟨W.heap.size, 0, none⟩ : Addr).add j) = some x := fun j x hj => by
  rw [add_off, Nat.zero_add, World.cell?_alloc_at _ _ _ _ rfl]; simpa using hj
theorem own_slice {w : World} {base n : Nat} {v : Value} {L : List Nat} (h : w.ownsRow base 3 1 v n (ints L)) (hn : 0 < n) : ∃ b cap, v = .slice (some ⟨b, 0, none⟩) n cap ∧ n ≤ cap ∧ cap ≤ maxLen ∧ base ≤ b := by
  rcases h.2 with ⟨_, h2⟩ | ⟨g, cap, cur, rfl, h1, _, h2, h3, _⟩
  · omega
  · exact ⟨g, cap, rfl, h2, h3, h1⟩
theorem own_places {w : World} {base : Nat} {v : Value} {L : List Nat} (h : w.ownsRow base 3 1 v L.length (ints L)) : ∃ ao cap, v = .slice ao L.length cap ∧ Hid (Places w ao L) := by
  rcases h.2 with ⟨e, h2⟩ | ⟨g, cap, cur, e, _⟩
  · have h2 : L.length = 0 := h2
    exact ⟨none, 0, by rw [h2]; exact e, fun i hi => by omega⟩
  · exact ⟨_, cap, e, Places.of_own rfl (by rw [← e]; exact h)⟩
theorem own_saveP {w w' : World} {b n s : Nat} {e : TypeId} {v : Value} {xs : List Value} (h : w.ownsRow b e s v n xs) (hb : Below w.heap.size w w') : w'.ownsRow b e s v n xs := by
  obtain ⟨h1, h2 | ⟨g, cap, cur, rfl, h3, hg, hr⟩⟩ := h
  · exact ⟨h1, .inl h2⟩
  · exact ⟨h1, .inr ⟨g, cap, cur, rfl, h3, (hb.block g (Array.getElem?_eq_some_iff.1 hg).1).trans hg, hr⟩⟩
theorem own_baseP {w : World} {b b' n s : Nat} {e : TypeId} {v : Value} {xs : List Value} (h : w.ownsRow b e s v n xs) (hb : b' ≤ b) : w.ownsRow b' e s v n xs := by
  obtain ⟨h1, h2 | ⟨g, cap, cur, rfl, h3, h4⟩⟩ := h
  · exact ⟨h1, .inl h2⟩
  · exact ⟨h1, .inr ⟨g, cap, cur, rfl, Nat.le_trans hb h3, h4⟩⟩
theorem news_all {w : World} {b o : Nat} {l : List Nat} (h : Places w (some ⟨b, o, none⟩) l) : ∀ (j : Nat) (u : Value), (ints l)[j]? = some u → w.cell? ((⟨b, o, none⟩ : Addr).add j) = some u := fun j u hj => by
  have := news_take h (Nat.le_refl l.length) j u (by rw [List.take_length]; exact hj)
  exact this
theorem Places.below' {w w' : World} {ao : Option Addr} {l : List Nat} (h : Places w ao l) (hb : Below w.heap.size w w') : Places w' ao l := Row.below h hb
theorem othG_ok {g : Nat → Nat → Int} {n : Nat} {P : List Nat} (hG : ∀ i, i < n → OkT (g i)) (hB : Bel n P) : ∀ i, i < P.length → OkT (othG g P i) := fun i hi => hG _ (hB.at_ hi)
def OrdPost (g : Nat → Nat → Int) (n : Nat) (w : World) (e : Ending) (w' : World) : Prop :=
  (orderR g n = none ∧ e = .returned (.tuple #[.slice none 0 0, .bool false]) ∧ Below w.heap.size w w') ∨
  (∃ o v, orderR g n = some o ∧ e = .returned (.tuple #[v, .bool true]) ∧ w'.ownsRow w.heap.size 3 1 v o.length (ints o) ∧ Below w.heap.size w w')
attribute [local go_sem] stillAt
end Go.Proofs.Ytmkpimdbmjpelaa
