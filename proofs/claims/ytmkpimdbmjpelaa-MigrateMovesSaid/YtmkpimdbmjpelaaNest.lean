/-
  Slices that came in, of structs of two integers and a slice of integers.
-/
import Derived.Test.YtmkpimdbmjpelaaRowS
namespace Go.Proofs.Ytmkpimdbmjpelaa
open Go.RowKit Go.ChangeShapes Go.WideShapes Go.Deep
section
variable {H : Type} {enc : TypeId × Value → H} {P : Program} {w : World}
/-- A slice of integers, as it is trodden. -/
theorem row_of_fuel {t e : TypeId} {k : IntKind} {fuel : Nat} {cs : List Value} {x : DataW H × List MemPlace} (ht : P.underlying t = some (.slice e)) (he : P.underlying e = some (.int k)) (hc : P.cellsOf e = 1)
    (hf : DataW.trod enc P w 0 (fun _ => true) true fuel t cs = some x) :
    ∃ ao cap, ∃ zs : List Int, cs = [.slice ao zs.length cap] ∧ Row w ao zs.length (fun i => .int k (zs.getD i 0)) ∧ (∀ z ∈ zs, (Lit.int k z).wf = true) ∧ zs.length ≤ cap ∧ cap ≤ maxLen ∧ (ao = none → cap = 0) := by
  rcases open_ints ht he hc hf with ⟨hcs, _⟩ | ⟨a, len, cap', zs, hcs, _, hl, hm, hz, _, hcell, hw⟩
  · exact ⟨none, 0, [], hcs, fun i hi => (by cases hi), by simp, Nat.le_refl _, Nat.zero_le _, fun _ => rfl⟩
  · simp only [if_true] at hz
    have hlen : (zs.take len).length = len := by simp; omega
    refine ⟨some a, cap', zs.take len, by rw [hlen]; exact hcs, fun i hi => ?_, fun z hz' => hw z (List.mem_of_mem_take hz'), by omega, hm, fun e => by cases e⟩
    rw [hlen] at hi
    have h0 := hcell 0 (by omega)
    have h1 := hcell i (by omega)
    rw [Addr.add_zero'] at h0
    have ep := addr_plain h0
    refine ⟨a.block, a.off, by rw [← ep], ?_⟩
    rw [ep, add_off] at h1
    rw [h1]
    congr 2
    simp [List.getD, hi]
/-- A slice of structs of two integers and a slice of integers. -/
theorem nest_of_trod_nil {t e te ti : TypeId} {k : IntKind} {fs : Array Field} {ao : Option Addr} {n cap : Nat} {d : DataW H} {p : List MemPlace} (ht : P.underlying t = some (.slice e)) (he : P.underlying e = some (.struct fs))
    (hone : oneCellFields P fs = true) (hC : P.cellsOf e = fs.size) (hsz : fs.size = 3) (h01 : ∀ (j : Nat) (f : Field), j < 2 → fs[j]? = some f → P.underlying f.type = some (.int .i64)) (h2 : ∀ f : Field, fs[2]? = some f → f.type = te)
    (hte : P.underlying te = some (.slice ti)) (hti : P.underlying ti = some (.int k)) (hci : P.cellsOf ti = 1)
    (h : DataW.Trod enc P w 0 (fun _ => true) true t (.slice ao n cap) d p) :
    (∃ (ps : List (Int × Int × List Int)) (va : Nat → Option Addr) (vc : Nat → Nat), ps.length = n ∧ ∀ i (hi : i < ps.length), ∃ b o, ao = some ⟨b, o, none⟩ ∧
      (w.cell? ⟨b, o + i * 3, none⟩ = some (.int .i64 (ps[i]'hi).1) ∧ w.cell? ⟨b, o + i * 3 + 1, none⟩ = some (.int .i64 (ps[i]'hi).2.1) ∧ w.cell? ⟨b, o + i * 3 + 2, none⟩ = some (.slice (va i) (ps[i]'hi).2.2.length (vc i))) ∧
      Row w (va i) (ps[i]'hi).2.2.length (fun j => .int k ((ps[i]'hi).2.2.getD j 0)) ∧ (ps[i]'hi).2.2.length ≤ vc i ∧ vc i ≤ maxLen ∧ (va i = none → vc i = 0)) ∧ n ≤ maxLen ∧ (n ≤ cap ∧ cap ≤ maxLen) := by
  obtain ⟨fuel, hf⟩ := h
  rcases open_slice ht hf with ⟨hcs, _⟩ | ⟨a, len, cap', m, kk, D, Pl, hcs, _, hl, hm, hmm, _, hi⟩
  · simp [Value.cells] at hcs
    obtain ⟨rfl, rfl, rfl⟩ := hcs
    exact ⟨⟨[], fun _ => none, fun _ => 0, rfl, fun i hi => (by cases hi)⟩, by unfold maxLen; omega, by omega, by unfold maxLen; omega⟩
  · simp [Value.cells] at hcs
    obtain ⟨rfl, rfl, rfl⟩ := hcs
    simp only [if_true] at hmm
    refine ⟨?_, by omega, hl, hm⟩
    have key : ∀ i, i < n → ∃ (x y : Int) (so : Option Addr) (zs : List Int) (sc : Nat), (w.cell? ((a.add (i * 3)).add 0) = some (.int .i64 x) ∧ w.cell? ((a.add (i * 3)).add 1) = some (.int .i64 y) ∧ w.cell? ((a.add (i * 3)).add 2) = some (.slice so zs.length sc)) ∧
        Row w so zs.length (fun j => .int k (zs.getD j 0)) ∧ zs.length ≤ sc ∧ sc ≤ maxLen ∧ (so = none → sc = 0) := fun i him => by
      obtain ⟨cs', hc, ht'⟩ := hi i (by omega)
      rw [hC, hsz] at hc
      obtain ⟨ys, n', _, _, hlen, hyl, hg⟩ := DataW.trod_struct he ht'
      obtain ⟨_, hcl, hat⟩ := World.cells?_some hc
      have each : ∀ j (hj : j < 3), ∃ f, fs[j]? = some f ∧ ∃ x, DataW.trod enc P w 0 (fun _ => true) true n' f.type [cs'[j]'(by omega)] = some x := fun j hj => by
        have hfj : fs[j]? = some (fs[j]'(by omega)) := Array.getElem?_eq_getElem (by omega)
        obtain ⟨ho, hk⟩ := hone_of hone j _ hfj
        have h1 := hg j _ hfj
        rw [ho, hk] at h1
        have hone' : (cs'.drop j).take 1 = [cs'[j]'(by omega)] := by
          rw [List.drop_eq_getElem_cons (by omega)]; rfl
        rw [hone', List.getElem?_eq_getElem (by omega)] at h1
        exact ⟨_, hfj, _, h1⟩
      obtain ⟨f0, e0, x0, t0⟩ := each 0 (by omega)
      obtain ⟨f1, e1, x1, t1⟩ := each 1 (by omega)
      obtain ⟨f2, e2, x2, t2⟩ := each 2 (by omega)
      obtain ⟨z0, hz0, _, _⟩ := DataW.trod_int (h01 0 f0 (by omega) e0) t0
      obtain ⟨z1, hz1, _, _⟩ := DataW.trod_int (h01 1 f1 (by omega) e1) t1
      rw [h2 f2 e2] at t2
      obtain ⟨so, sc, zs, hz2, hrow, _, hb1, hb2, hb3⟩ := row_of_fuel hte hti hci t2
      simp only [List.cons.injEq, and_true] at hz0 hz1 hz2
      refine ⟨z0, z1, so, zs, sc, ⟨?_, ?_, ?_⟩, hrow, hb1, hb2, hb3⟩
      · rw [hat 0 (by omega), List.getElem?_eq_getElem (by omega), hz0]
      · rw [hat 1 (by omega), List.getElem?_eq_getElem (by omega), hz1]
      · rw [hat 2 (by omega), List.getElem?_eq_getElem (by omega), hz2]
    refine ⟨(List.range n).map fun i => if h : i < n then ((key i h).choose, (key i h).choose_spec.choose, (key i h).choose_spec.choose_spec.choose_spec.choose) else (0, 0, []),
      fun i => if h : i < n then (key i h).choose_spec.choose_spec.choose else none, fun i => if h : i < n then (key i h).choose_spec.choose_spec.choose_spec.choose_spec.choose else 0, by simp, fun i hi => ?_⟩
    have him : i < n := by simpa using hi
    have hp : a = ⟨a.block, a.off, none⟩ := by
      obtain ⟨x, y, so, zs, sc, ⟨hz, _⟩, _⟩ := key 0 (by omega)
      rw [Nat.zero_mul, Addr.add_zero', Addr.add_zero'] at hz
      exact addr_plain hz
    have eg : ((List.range n).map fun i => if h : i < n then ((key i h).choose, (key i h).choose_spec.choose, (key i h).choose_spec.choose_spec.choose_spec.choose) else ((0, 0, []) : Int × Int × List Int))[i]'hi = ((key i him).choose, (key i him).choose_spec.choose, (key i him).choose_spec.choose_spec.choose_spec.choose) := by
      rw [List.getElem_map]
      simp only [List.getElem_range]
      rw [dif_pos him]
    rw [eg]
    simp only [dif_pos him]
    have hs := (key i him).choose_spec.choose_spec.choose_spec.choose_spec.choose_spec
    generalize (key i him).choose_spec.choose_spec.choose_spec.choose_spec.choose = sc at hs ⊢
    generalize (key i him).choose_spec.choose_spec.choose_spec.choose = zs at hs ⊢
    generalize (key i him).choose_spec.choose_spec.choose = so at hs ⊢
    generalize (key i him).choose_spec.choose = y at hs ⊢
    generalize (key i him).choose = x at hs ⊢
    obtain ⟨⟨c0, c1, c2⟩, hr, hb⟩ := hs
    rw [hp, add_off, add_off] at c0 c1 c2
    exact ⟨a.block, a.off, by rw [← hp], ⟨c0, c1, c2⟩, hr, hb⟩
theorem nest_of_trod {t e te ti : TypeId} {k : IntKind} {fs : Array Field} {ao : Option Addr} {n cap : Nat} {d : DataW H} {p : List MemPlace} (ht : P.underlying t = some (.slice e)) (he : P.underlying e = some (.struct fs))
    (hone : oneCellFields P fs = true) (hC : P.cellsOf e = fs.size) (hsz : fs.size = 3) (h01 : ∀ (j : Nat) (f : Field), j < 2 → fs[j]? = some f → P.underlying f.type = some (.int .i64)) (h2 : ∀ f : Field, fs[2]? = some f → f.type = te)
    (hte : P.underlying te = some (.slice ti)) (hti : P.underlying ti = some (.int k)) (hci : P.cellsOf ti = 1)
    (h : DataW.Trod enc P w 0 (fun _ => true) true t (.slice ao n cap) d p) :
    (∃ (ps : List (Int × Int × List Int)) (va : Nat → Option Addr) (vc : Nat → Nat), ps.length = n ∧ ∀ i (hi : i < ps.length), ∃ b o, ao = some ⟨b, o, none⟩ ∧
      (w.cell? ⟨b, o + i * 3, none⟩ = some (.int .i64 (ps[i]'hi).1) ∧ w.cell? ⟨b, o + i * 3 + 1, none⟩ = some (.int .i64 (ps[i]'hi).2.1) ∧ w.cell? ⟨b, o + i * 3 + 2, none⟩ = some (.slice (va i) (ps[i]'hi).2.2.length (vc i))) ∧
      Row w (va i) (ps[i]'hi).2.2.length (fun j => .int k ((ps[i]'hi).2.2.getD j 0)) ∧ (ps[i]'hi).2.2.length ≤ vc i ∧ vc i ≤ maxLen) ∧ n ≤ maxLen ∧ (n ≤ cap ∧ cap ≤ maxLen) := by
  obtain ⟨⟨ps, va, vc, hl, hP⟩, h3, h4⟩ := nest_of_trod_nil ht he hone hC hsz h01 h2 hte hti hci h
  refine ⟨⟨ps, va, vc, hl, fun i hi => ?_⟩, h3, h4⟩
  obtain ⟨b, o, e, c, r, l1, l2, _⟩ := hP i hi
  exact ⟨b, o, e, c, r, l1, l2⟩
end
end Go.Proofs.Ytmkpimdbmjpelaa
