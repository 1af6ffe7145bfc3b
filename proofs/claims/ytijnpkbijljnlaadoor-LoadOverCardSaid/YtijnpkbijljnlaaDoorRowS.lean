/-
  Slices of structs of integers that came in.
-/
import Derived.Test.YtijnpkbijljnlaaDoorRow
import Derived.Deep.Slices
import Derived.Deep.Fields
import Derived.ChangeSame
namespace Go.Proofs.YtijnpkbijljnlaaDoor
open Go.RowKit Go.ChangeShapes Go.WideShapes Go.Deep
section
variable {H : Type} {enc : TypeId × Value → H} {P : Program} {w : World}
theorem addr_plain {a : Addr} {v : Value} (h : w.cell? a = some v) : a = ⟨a.block, a.off, none⟩ := by
  obtain ⟨b, o, s⟩ := a
  cases s with
  | none => rfl
  | some s =>
    exfalso
    unfold World.cell? at h
    split at h
    · simp at h
    · cases h
/-- A slice of structs whose fields are integers. -/
theorem structs_of_trod {t e : TypeId} {fs : Array Field} {ao : Option Addr} {n cap : Nat} {d : DataW H} {p : List MemPlace} (ht : P.underlying t = some (.slice e)) (he : P.underlying e = some (.struct fs))
    (hone : oneCellFields P fs = true) (hC : P.cellsOf e = fs.size) (hint : ∀ (j : Nat) (f : Field), fs[j]? = some f → P.underlying f.type = some (.int .i64)) (hpos : 0 < fs.size)
    (h : DataW.Trod enc P w 0 (fun _ => true) true t (.slice ao n cap) d p) :
    (∃ g : Nat → Nat → Int, (∀ i, i < n → ∃ b o, ao = some ⟨b, o, none⟩ ∧ ∀ j, j < fs.size → w.cell? ⟨b, o + i * fs.size + j, none⟩ = some (.int .i64 (g i j))) ∧ (∀ i j, (Lit.int .i64 (g i j)).wf = true)) ∧ n ≤ maxLen ∧ (n ≤ cap ∧ cap ≤ maxLen) := by
  obtain ⟨fuel, hf⟩ := h
  rcases open_slice ht hf with ⟨hcs, _⟩ | ⟨a, len, cap', m, k, D, Pl, hcs, _, hl, hm, hmm, _, hi⟩
  · simp [Value.cells] at hcs
    obtain ⟨rfl, rfl, rfl⟩ := hcs
    exact ⟨⟨fun _ _ => 0, fun i hi => by omega, fun _ _ => by show (Lit.int .i64 0).wf = true; decide⟩, by unfold maxLen; omega, by omega, by unfold maxLen; omega⟩
  · simp [Value.cells] at hcs
    obtain ⟨rfl, rfl, rfl⟩ := hcs
    simp only [if_true] at hmm
    refine ⟨?_, by omega, hl, hm⟩
    have key : ∀ i, i < n → ∀ j, j < fs.size → ∃ z, w.cell? ((a.add (i * fs.size)).add j) = some (.int .i64 z) ∧ (Lit.int .i64 z).wf = true := fun i him j hj => by
      obtain ⟨cs', hc, ht'⟩ := hi i (by omega)
      rw [hC] at hc
      obtain ⟨ys, n', _, _, hlen, hyl, hg⟩ := DataW.trod_struct he ht'
      obtain ⟨_, hcl, hat⟩ := World.cells?_some hc
      have hfj : fs[j]? = some (fs[j]'hj) := Array.getElem?_eq_getElem hj
      obtain ⟨ho, hk⟩ := hone_of hone j _ hfj
      have h1 := hg j _ hfj
      rw [ho, hk] at h1
      have hone' : (cs'.drop j).take 1 = [cs'[j]'(by omega)] := by
        rw [List.drop_eq_getElem_cons (by omega)]; rfl
      rw [hone', List.getElem?_eq_getElem (by omega)] at h1
      obtain ⟨z, hz, _, hw⟩ := DataW.trod_int (hint j _ hfj) h1
      refine ⟨z, ?_, hw⟩
      rw [hat j (by omega), List.getElem?_eq_getElem (by omega)]
      simp only [List.cons.injEq, and_true] at hz
      rw [hz]
    refine ⟨fun i j => if h : i < n ∧ j < fs.size then (key i h.1 j h.2).choose else 0, fun i him => ?_, fun i j => ?_⟩
    · have hp : a = ⟨a.block, a.off, none⟩ := by
        obtain ⟨z, hz, _⟩ := key 0 (by omega) 0 hpos
        rw [Nat.zero_mul, Addr.add_zero', Addr.add_zero'] at hz
        exact addr_plain hz
      refine ⟨a.block, a.off, by rw [← hp], fun j hj => ?_⟩
      have h1 := (key i him j hj).choose_spec.1
      show _ = some (Value.int .i64 (if h : i < n ∧ j < fs.size then (key i h.1 j h.2).choose else 0))
      rw [dif_pos ⟨him, hj⟩]
      generalize (key i him j hj).choose = z at h1 ⊢
      rw [hp, add_off, add_off] at h1
      exact h1
    · by_cases h : i < n ∧ j < fs.size
      · simp only [h, and_self, dif_pos]
        exact (key i h.1 j h.2).choose_spec.2
      · simp only [h, dif_neg, not_false_eq_true]
        decide
end
end Go.Proofs.YtijnpkbijljnlaaDoor
