/-
  Slices of structs all of whose cells are integers (array fields among them) that came in.
-/
import Derived.Test.YtijnpkbijljnlaaDoorRowS
import Derived.OpenShut
namespace Go.Proofs.YtijnpkbijljnlaaDoor
open Go.RowKit Go.ChangeShapes Go.WideShapes Go.Deep
section
/-- Whatever is read at such a type are integers, cell by cell. -/
def Flat (P : Program) (t : TypeId) : Prop := ∀ (H : Type) (enc : TypeId × Value → H) (w : World) (base : Nat) (spare : Nat → Bool) (held : Bool) (fuel : Nat) (cs : List Value) (x : DataW H × List MemPlace),
  DataW.trod enc P w base spare held fuel t cs = some x → cs.length = P.cellsOf t ∧ ∀ (j : Nat), j < P.cellsOf t → ∃ z, cs[j]? = some (.int .i64 z) ∧ (Lit.int .i64 z).wf = true
theorem flat_int {P : Program} {t : TypeId} (ht : P.underlying t = some (.int .i64)) (hc : P.cellsOf t = 1) : Flat P t := fun H enc w base spare held fuel cs x h => by
  obtain ⟨n, rfl, _, hw⟩ := DataW.trod_int ht h
  refine ⟨by rw [hc]; rfl, fun j hj => ?_⟩
  obtain rfl : j = 0 := by omega
  exact ⟨n, rfl, hw⟩
theorem take_drop_at {l : List Value} {a m j : Nat} (h1 : a ≤ j) (h2 : j < a + m) : ((l.drop a).take m)[j - a]? = l[j]? := by
  rw [List.getElem?_take, if_pos (by omega), List.getElem?_drop, show a + (j - a) = j by omega]
theorem flat_array {P : Program} {t e : TypeId} {n : Nat} (ht : P.underlying t = some (.array n e)) (he : Flat P e) (hc : P.cellsOf e = 1) (hn : P.cellsOf t = n) : Flat P t := fun H enc w base spare held fuel cs x h => by
  obtain ⟨xs, m, _, _, hl, hxl, hg⟩ := DataW.trod_array ht h
  refine ⟨hl, fun j hj => ?_⟩
  have h1 := hg j (by omega)
  rw [List.getElem?_eq_getElem (by omega), hc] at h1
  obtain ⟨_, h2⟩ := he _ _ _ _ _ _ _ _ _ h1
  obtain ⟨z, hz, hw⟩ := h2 0 (by omega)
  have h3 := take_drop_at (l := cs) (a := j * 1) (m := 1) (j := j) (by omega) (by omega)
  rw [show j - j * 1 = 0 by omega] at h3
  exact ⟨z, h3.symm.trans hz, hw⟩
theorem flat_struct {P : Program} {t : TypeId} {fs : Array Field} (ht : P.underlying t = some (.struct fs)) (hf : ∀ (i : Nat) (f : Field), fs[i]? = some f → Flat P f.type)
    (hcov : ∀ j, j < P.cellsOf t → ∃ (i : Nat) (f : Field), fs[i]? = some f ∧ f.offset ≤ j ∧ j < f.offset + P.cellsOf f.type) : Flat P t := fun H enc w base spare held fuel cs x h => by
  obtain ⟨xs, m, _, _, hl, hxl, hg⟩ := DataW.trod_struct ht h
  refine ⟨hl, fun j hj => ?_⟩
  obtain ⟨i, f, hi, h1, h2⟩ := hcov j hj
  have hlt : i < fs.size := (Array.getElem?_eq_some_iff.1 hi).1
  have h3 := hg i f hi
  rw [List.getElem?_eq_getElem (by omega)] at h3
  obtain ⟨_, h4⟩ := hf i f hi _ _ _ _ _ _ _ _ _ h3
  obtain ⟨z, hz, hw⟩ := h4 (j - f.offset) (by omega)
  exact ⟨z, (take_drop_at h1 h2).symm.trans hz, hw⟩
end
section
variable {H : Type} {enc : TypeId × Value → H} {P : Program} {w : World}
/-- A slice of such structs. -/
theorem flats_of_trod {t e : TypeId} {K : Nat} {ao : Option Addr} {n cap : Nat} {d : DataW H} {p : List MemPlace} (ht : P.underlying t = some (.slice e)) (he : Flat P e)
    (hC : P.cellsOf e = K) (hpos : 0 < K)
    (h : DataW.Trod enc P w 0 (fun _ => true) true t (.slice ao n cap) d p) :
    (∃ g : Nat → Nat → Int, (∀ i, i < n → ∃ b o, ao = some ⟨b, o, none⟩ ∧ ∀ j, j < K → w.cell? ⟨b, o + i * K + j, none⟩ = some (.int .i64 (g i j))) ∧ (∀ i j, (Lit.int .i64 (g i j)).wf = true)) ∧ n ≤ maxLen ∧ (n ≤ cap ∧ cap ≤ maxLen) := by
  obtain ⟨fuel, hf⟩ := h
  rcases open_slice ht hf with ⟨hcs, _⟩ | ⟨a, len, cap', m, k, D, Pl, hcs, _, hl, hm, hmm, _, hi⟩
  · simp [Value.cells] at hcs
    obtain ⟨rfl, rfl, rfl⟩ := hcs
    exact ⟨⟨fun _ _ => 0, fun i hi => by omega, fun _ _ => by show (Lit.int .i64 0).wf = true; decide⟩, by unfold maxLen; omega, by omega, by unfold maxLen; omega⟩
  · simp [Value.cells] at hcs
    obtain ⟨rfl, rfl, rfl⟩ := hcs
    simp only [if_true] at hmm
    refine ⟨?_, by omega, hl, hm⟩
    have key : ∀ i, i < n → ∀ j, j < K → ∃ z, w.cell? ((a.add (i * K)).add j) = some (.int .i64 z) ∧ (Lit.int .i64 z).wf = true := fun i him j hj => by
      obtain ⟨cs', hc, ht'⟩ := hi i (by omega)
      rw [hC] at hc
      obtain ⟨hlen, hg⟩ := he _ _ _ _ _ _ _ _ _ ht'
      obtain ⟨_, hcl, hat⟩ := World.cells?_some hc
      obtain ⟨z, hz, hw⟩ := hg j (by omega)
      exact ⟨z, (hat j (by omega)).trans hz, hw⟩
    refine ⟨fun i j => if h : i < n ∧ j < K then (key i h.1 j h.2).choose else 0, fun i him => ?_, fun i j => ?_⟩
    · have hp : a = ⟨a.block, a.off, none⟩ := by
        obtain ⟨z, hz, _⟩ := key 0 (by omega) 0 hpos
        rw [Nat.zero_mul, Addr.add_zero', Addr.add_zero'] at hz
        exact addr_plain hz
      refine ⟨a.block, a.off, by rw [← hp], fun j hj => ?_⟩
      have h1 := (key i him j hj).choose_spec.1
      show _ = some (Value.int .i64 (if h : i < n ∧ j < K then (key i h.1 j h.2).choose else 0))
      rw [dif_pos ⟨him, hj⟩]
      generalize (key i him j hj).choose = z at h1 ⊢
      rw [hp, add_off, add_off] at h1
      exact h1
    · by_cases h : i < n ∧ j < K
      · simp only [h, and_self, dif_pos]
        exact (key i h.1 j h.2).choose_spec.2
      · simp only [h, dif_neg, not_false_eq_true]
        decide
end
set_option maxRecDepth 100000 in
/-- A task: three numbers and eight. -/
theorem flat_task : Flat Tryd.prog 37 := flat_struct Tryd.underlying37 (by
    intro i f hi
    rcases i with _ | _ | _ | _ | i
    all_goals first | (simp at hi; done) | (simp at hi; subst hi; first | exact flat_int Tryd.underlying3 (by kernel_rfl) | exact flat_array Tryd.underlying35 (flat_int Tryd.underlying3 (by kernel_rfl)) (by kernel_rfl) (by kernel_rfl))) (by
    intro j hj
    rw [show Tryd.prog.cellsOf 37 = 11 by kernel_rfl] at hj
    have c1 : Tryd.prog.cellsOf 3 = 1 := by kernel_rfl
    have c8 : Tryd.prog.cellsOf 35 = 8 := by kernel_rfl
    rcases j with _ | _ | _ | j
    · exact ⟨0, _, rfl, by show 0 ≤ 0; omega, by show 0 < 0 + Tryd.prog.cellsOf 3; omega⟩
    · exact ⟨1, _, rfl, by show 1 ≤ 1; omega, by show 1 < 1 + Tryd.prog.cellsOf 3; omega⟩
    · exact ⟨2, _, rfl, by show 2 ≤ 2; omega, by show 2 < 2 + Tryd.prog.cellsOf 3; omega⟩
    · exact ⟨3, _, rfl, by show 3 ≤ j + 3; omega, by show j + 3 < 3 + Tryd.prog.cellsOf 35; omega⟩)
end Go.Proofs.YtijnpkbijljnlaaDoor
