/-
  Slices that are read: a row of cells behind a slice's address.
-/
import Derived.Test.YtijnpkbijljnlaaDoorKit
import Derived.ProofKit
namespace Go.Proofs.YtijnpkbijljnlaaDoor
open Go.RowKit Go.ChangeShapes Go.WideShapes Go.ChangeAt
/-- The n first cells behind a slice's address hold f. -/
def Row (w : World) (ao : Option Addr) (n : Nat) (f : Nat → Value) : Prop := ∀ i, i < n → ∃ b o, ao = some ⟨b, o, none⟩ ∧ w.cell? ⟨b, o + i, none⟩ = some (f i)
theorem Row.below {w w' : World} {ao : Option Addr} {n : Nat} {f : Nat → Value} (h : Row w ao n f) (hb : Below w.heap.size w w') : Row w' ao n f := fun i hi => by
  obtain ⟨b, o, e, hc⟩ := h i hi
  exact ⟨b, o, e, (hb.cell (cell_lt hc)).trans hc⟩
theorem Row.lt {w : World} {ao : Option Addr} {n : Nat} {f : Nat → Value} (h : Row w ao n f) {i b o : Nat} (hi : i < n) (e : ao = some ⟨b, o, none⟩) : b < w.heap.size := by
  obtain ⟨b', o', e', hc⟩ := h i hi
  rw [e] at e'
  cases e'
  exact cell_lt hc
theorem Row.grown {w w' : World} {ao : Option Addr} {n : Nat} {f : Nat → Value} {r : Option Nat} (h : Row w ao n f) (hg : w.grownBy w' r) (hne : ∀ b o, ao = some ⟨b, o, none⟩ → some b ≠ r) : Row w' ao n f := fun i hi => by
  obtain ⟨b, o, e, hc⟩ := h i hi
  exact ⟨b, o, e, hg.cell hc (hne b o e)⟩
theorem Row.cellAt {w : World} {b o n i : Nat} {f : Nat → Value} (h : Row w (some ⟨b, o, none⟩) n f) (hi : i < n) : w.cell? ⟨b, o + i, none⟩ = some (f i) := by
  obtain ⟨b', o', e, hc⟩ := h i hi
  cases e; exact hc
theorem Row.congr {w : World} {ao : Option Addr} {n : Nat} {f g : Nat → Value} (h : Row w ao n f) (hfg : ∀ i, i < n → f i = g i) : Row w ao n g := fun i hi => by
  obtain ⟨b, o, e, hc⟩ := h i hi
  exact ⟨b, o, e, by rw [hc, hfg i hi]⟩
theorem Row.less {w : World} {ao : Option Addr} {n m : Nat} {f : Nat → Value} (h : Row w ao n f) (hm : m ≤ n) : Row w ao m f := fun i hi => h i (by omega)
/-- What a call's own slice holds. -/
theorem row_of_own {w : World} {base : Nat} {e : TypeId} {ao : Option Addr} {n cap : Nat} {xs : List Value} (h : w.ownsRow base e 1 (.slice ao n cap) n xs) : Row w ao n (fun i => xs.getD i undef) := fun i hi => by
  have hl := h.1
  rcases h.2 with ⟨h1, h2⟩ | ⟨g, cap', cur, h1, _⟩
  · omega
  · simp only [Value.slice.injEq] at h1
    obtain ⟨rfl, _, rfl⟩ := h1
    refine ⟨g, 0, rfl, ?_⟩
    rw [Nat.zero_add, h.cellAt i (by omega)]
    simp [List.getD, List.getElem?_eq_getElem (show i < xs.length by omega)]
theorem add_off (b o j : Nat) : (⟨b, o, none⟩ : Addr).add j = ⟨b, o + j, none⟩ := by
  unfold Addr.add
  split
  · rename_i h; subst h; rfl
  · rfl
/-- The cells that an append takes. -/
theorem news_row {W : World} {b o n : Nat} {f : Nat → Value} (hr : Row W (some ⟨b, o, none⟩) n f) : ∀ (j : Nat) (u : Value), ((List.range n).map f)[j]? = some u → W.cell? ((⟨b, o, none⟩ : Addr).add j) = some u := fun j u hj => by
  have hjn : j < n := by
    rcases Nat.lt_or_ge j n with h | h
    · exact h
    · rw [List.getElem?_eq_none (by simpa using h)] at hj; cases hj
  simp [hjn] at hj
  subst hj
  obtain ⟨b', o', e, hc⟩ := hr j hjn
  cases e
  rw [add_off]; exact hc
theorem news_one {n : Nat} {f : Nat → Value} (h : ∀ i, (f i).oneCell' = true) : ∀ u ∈ (List.range n).map f, u.oneCell' = true := fun u hu => by
  obtain ⟨i, _, rfl⟩ := List.mem_map.1 hu
  exact h i
theorem Row.alloc {w : World} {ao : Option Addr} {n : Nat} {f : Nat → Value} (h : Row w ao n f) (o : Obj) : Row (w.alloc o) ao n f := h.below ((Below.refl _ _).alloc (Nat.le_refl _) o)
theorem own_form {w : World} {base : Nat} {e : TypeId} {v : Value} {n : Nat} {xs : List Value} (h : w.ownsRow base e 1 v n xs) (hn : 0 < n) :
    ∃ g cap, v = .slice (some ⟨g, 0, none⟩) n cap ∧ base ≤ g ∧ g < w.heap.size ∧ n ≤ cap ∧ (∀ j, j < n → w.cell? ⟨g, j, none⟩ = xs[j]?) ∧ (∀ j, w.frozen? ⟨g, j, none⟩ = false) := by
  rcases h.2 with ⟨_, h2⟩ | ⟨g, cap, cur, rfl, hb, hh, hc, _⟩
  · omega
  · exact ⟨g, cap, rfl, hb, (h.lt g rfl).2, hc, fun j hj => h.cellAt j (by omega), fun j => h.frozenAt j⟩
section
variable {H : Type} {enc : TypeId × Value → H} {P : Program} {w : World}
/-- A slice of integers that came in. -/
theorem row_of_trod {t e : TypeId} {k : IntKind} {ao : Option Addr} {n cap : Nat} {d : DataW H} {p : List MemPlace} (ht : P.underlying t = some (.slice e)) (he : P.underlying e = some (.int k)) (hc : P.cellsOf e = 1)
    (h : DataW.Trod enc P w 0 (fun _ => true) true t (.slice ao n cap) d p) (_hlt : ∀ x ∈ p, x.block < w.heap.size) :
    ∃ zs : List Int, zs.length = n ∧ Row w ao n (fun i => .int k (zs.getD i 0)) ∧ (∀ z ∈ zs, (Lit.int k z).wf = true) ∧ n ≤ maxLen ∧ (n ≤ cap ∧ cap ≤ maxLen) := by
  obtain ⟨fuel, hf⟩ := h
  rcases open_ints ht he hc hf with ⟨hcs, _⟩ | ⟨a, len, cap', zs, hcs, _, hl, hm, hz, _, hcell, hw⟩
  · simp [Value.cells] at hcs
    obtain ⟨rfl, rfl, rfl⟩ := hcs
    exact ⟨[], rfl, fun i hi => by omega, by simp, by unfold maxLen; omega, by omega, by unfold maxLen; omega⟩
  · simp [Value.cells] at hcs
    obtain ⟨rfl, rfl, rfl⟩ := hcs
    simp only [if_true] at hz
    have hrow : Row w (some a) n (fun i => .int k ((zs.take n).getD i 0)) := fun i hi => by
      have h0 := hcell 0 (by omega)
      have h1 := hcell i (by omega)
      rw [Addr.add_zero'] at h0
      obtain ⟨b, o, s⟩ := a
      have hsp : s = none := by
        cases s with
        | none => rfl
        | some s =>
          exfalso
          unfold World.cell? at h0
          split at h0
          · simp at h0
          · cases h0
      subst hsp
      refine ⟨b, o, rfl, ?_⟩
      have ea : (⟨b, o, none⟩ : Addr).add i = ⟨b, o + i, none⟩ := by
        unfold Addr.add
        split
        · rename_i h; subst h; rfl
        · rfl
      rw [← ea, h1]
      congr 2
      simp [List.getD, hi]
    refine ⟨zs.take n, by simp; omega, hrow, fun z hz' => hw z (List.mem_of_mem_take hz'), by omega, hl, hm⟩
end
end Go.Proofs.YtijnpkbijljnlaaDoor
