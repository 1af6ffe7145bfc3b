/-
  An image that came in: what its cells hold.
-/
import Derived.Test.YtijnpkbijljnlaaDoorMaskAll
import Derived.Test.YtijnpkbijljnlaaDoorRowT
import Derived.Lib.SmallJoins
namespace Go.Proofs.YtijnpkbijljnlaaDoor
open Go.RowKit Go.ChangeShapes Go.WideShapes Go.ChangeAt Go.Deep Go.Joins
/-- A slice of structs of integers: K cells each. -/
def FlatAt (w : World) (ao : Option Addr) (n K : Nat) (g : Nat → Nat → Int) : Prop := ∀ i, i < n → ∃ b o, ao = some ⟨b, o, none⟩ ∧ ∀ j, j < K → w.cell? ⟨b, o + i * K + j, none⟩ = some (.int .i64 (g i j))
theorem FlatAt.below {w w' : World} {ao : Option Addr} {n K : Nat} {g : Nat → Nat → Int} (h : FlatAt w ao n K g) (hb : Below w.heap.size w w') : FlatAt w' ao n K g := fun i hi => by
  obtain ⟨b, o, e, hc⟩ := h i hi
  exact ⟨b, o, e, fun j hj => kept (hc j hj) hb⟩
structure ImgAt (w : World) (x : Img) (g : Nat → Nat → Int) (M : Nat → ModeR) (q : Nat → Nat → Nat → Int) (h : Nat → Nat → Int) : Prop where
  r : (Lit.int .i64 x.r).wf = true
  tasks : Tasks w x.ao x.n g
  gwf : ∀ i j, (Lit.int .i64 (g i j)).wf = true
  n : x.n ≤ maxLen
  modes : ModesAt w x.mo x.mn M
  mn : x.mn ≤ maxLen
  tb : ∀ i, i < x.mn → (M i).t < 4294967296
  queues : ∀ i, i < x.mn → FlatAt w (M i).qo (M i).qn 2 (q i)
  qn : ∀ i, i < x.mn → (M i).qn ≤ maxLen
  edges : FlatAt w x.eo x.en 23 h
  hwf : ∀ i j, (Lit.int .i64 (h i j)).wf = true
  en : x.en ≤ maxLen
theorem ImgAt.below {w w' : World} {x : Img} {g : Nat → Nat → Int} {M : Nat → ModeR} {q : Nat → Nat → Nat → Int} {h : Nat → Nat → Int} (hx : ImgAt w x g M q h) (hb : Below w.heap.size w w') : ImgAt w' x g M q h :=
  { hx with tasks := hx.tasks.below hb, modes := hx.modes.below hb, queues := fun i hi => (hx.queues i hi).below hb, edges := hx.edges.below hb }
theorem flat_queue : Flat Tryd.prog 81 := flat_struct Tryd.underlying81 (by
    intro i f hi
    rcases i with _ | _ | i
    all_goals first | (simp at hi; done) | (simp at hi; subst hi; first | exact flat_int Tryd.underlying3 (by kernel_rfl) | exact flat_int Tryd.underlying79 (by kernel_rfl))) (by
    intro j hj
    rw [show Tryd.prog.cellsOf 81 = 2 by kernel_rfl] at hj
    have c1 : Tryd.prog.cellsOf 3 = 1 := by kernel_rfl
    have c8 : Tryd.prog.cellsOf 79 = 1 := by kernel_rfl
    rcases j with _ | j
    · exact ⟨0, _, rfl, by show 0 ≤ 0; omega, by show 0 < 0 + Tryd.prog.cellsOf 3; omega⟩
    · exact ⟨1, _, rfl, by show 1 ≤ j + 1; omega, by show j + 1 < 1 + Tryd.prog.cellsOf 79; omega⟩)
set_option maxRecDepth 100000 in
theorem flat_edge : Flat Tryd.prog 86 := flat_struct Tryd.underlying86 (by
    intro i f hi
    rcases i with _ | _ | _ | _ | _ | i
    all_goals first | (simp at hi; done) | (simp at hi; subst hi; first | exact flat_int Tryd.underlying3 (by kernel_rfl) | exact flat_int Tryd.underlying82 (by kernel_rfl) | exact flat_array Tryd.underlying83 (flat_int Tryd.underlying3 (by kernel_rfl)) (by kernel_rfl) (by kernel_rfl) | exact flat_array Tryd.underlying84 (flat_int Tryd.underlying3 (by kernel_rfl)) (by kernel_rfl) (by kernel_rfl))) (by
    intro j hj
    rw [show Tryd.prog.cellsOf 86 = 23 by kernel_rfl] at hj
    have c1 : Tryd.prog.cellsOf 3 = 1 := by kernel_rfl
    have c2 : Tryd.prog.cellsOf 82 = 1 := by kernel_rfl
    have c3 : Tryd.prog.cellsOf 83 = 16 := by kernel_rfl
    have c4 : Tryd.prog.cellsOf 84 = 4 := by kernel_rfl
    by_cases h0 : j = 0
    · exact ⟨0, _, rfl, by show 0 ≤ j; omega, by show j < 0 + Tryd.prog.cellsOf 3; omega⟩
    · by_cases h1 : j = 1
      · exact ⟨1, _, rfl, by show 1 ≤ j; omega, by show j < 1 + Tryd.prog.cellsOf 3; omega⟩
      · by_cases h2 : j = 2
        · exact ⟨2, _, rfl, by show 2 ≤ j; omega, by show j < 2 + Tryd.prog.cellsOf 82; omega⟩
        · by_cases h3 : j < 19
          · exact ⟨3, _, rfl, by show 3 ≤ j; omega, by show j < 3 + Tryd.prog.cellsOf 83; omega⟩
          · exact ⟨4, _, rfl, by show 19 ≤ j; omega, by show j < 19 + Tryd.prog.cellsOf 84; omega⟩)
section
variable {H : Type} {enc : TypeId × Value → H} {P : Program} {w : World}
theorem slice_form {t e : TypeId} {fuel : Nat} {c : Value} {x : DataW H × List MemPlace} (ht : P.underlying t = some (.slice e)) (h : DataW.trod enc P w 0 (fun _ => true) true fuel t [c] = some x) :
    ∃ ao n cap, c = .slice ao n cap ∧ DataW.Trod enc P w 0 (fun _ => true) true t (.slice ao n cap) x.1 x.2 := by
  rcases open_slice ht h with ⟨hcs, _⟩ | ⟨a, len, cap', m, k, D, Pl, hcs, _⟩
  · simp only [List.cons.injEq, and_true] at hcs
    subst hcs
    exact ⟨_, _, _, rfl, fuel, by simpa [Value.cells] using h⟩
  · simp only [List.cons.injEq, and_true] at hcs
    subst hcs
    exact ⟨_, _, _, rfl, fuel, by simpa [Value.cells] using h⟩
/-- A slice of structs of a number and a slice of structs of integers. -/
theorem modes_of_trod {t e t0 te ti : TypeId} {k : IntKind} {K : Nat} {f0 f1 : Field} {ao : Option Addr} {n cap : Nat} {d : DataW H} {p : List MemPlace} (ht : P.underlying t = some (.slice e)) (he : P.underlying e = some (.struct #[f0, f1]))
    (hone : oneCellFields P #[f0, f1] = true) (hC : P.cellsOf e = 2) (e0 : f0.type = t0) (h0 : P.underlying t0 = some (.int k)) (e1 : f1.type = te) (hte : P.underlying te = some (.slice ti)) (hF : Flat P ti) (hK : P.cellsOf ti = K) (hpos : 0 < K)
    (h : DataW.Trod enc P w 0 (fun _ => true) true t (.slice ao n cap) d p) :
    (∃ (Z : Nat → Int) (qo : Nat → Option Addr) (qn qc : Nat → Nat) (q : Nat → Nat → Nat → Int), ∀ i, i < n → (∃ b o, ao = some ⟨b, o, none⟩ ∧ w.cell? ⟨b, o + i * 2, none⟩ = some (.int k (Z i)) ∧ w.cell? ⟨b, o + i * 2 + 1, none⟩ = some (.slice (qo i) (qn i) (qc i))) ∧ (Lit.int k (Z i)).wf = true ∧
      (∀ l, l < qn i → ∃ b o, qo i = some ⟨b, o, none⟩ ∧ ∀ j, j < K → w.cell? ⟨b, o + l * K + j, none⟩ = some (.int .i64 (q i l j))) ∧ qn i ≤ maxLen) ∧ n ≤ maxLen := by
  obtain ⟨fuel, hf⟩ := h
  rcases open_slice ht hf with ⟨hcs, _⟩ | ⟨a, len, cap', m, kk, D, Pl, hcs, _, hl, hm, hmm, _, hi⟩
  · simp [Value.cells] at hcs
    obtain ⟨rfl, rfl, rfl⟩ := hcs
    exact ⟨⟨fun _ => 0, fun _ => none, fun _ => 0, fun _ => 0, fun _ _ _ => 0, fun i hi => by omega⟩, by unfold maxLen; omega⟩
  · simp [Value.cells] at hcs
    obtain ⟨rfl, rfl, rfl⟩ := hcs
    simp only [if_true] at hmm
    refine ⟨?_, by omega⟩
    have key : ∀ i, ∃ (z : Int) (qo : Option Addr) (qn qc : Nat) (q : Nat → Nat → Int), i < n → (∃ b o, some a = some ⟨b, o, none⟩ ∧ w.cell? ⟨b, o + i * 2, none⟩ = some (.int k z) ∧ w.cell? ⟨b, o + i * 2 + 1, none⟩ = some (.slice qo qn qc)) ∧ (Lit.int k z).wf = true ∧
      (∀ l, l < qn → ∃ b o, qo = some ⟨b, o, none⟩ ∧ ∀ j, j < K → w.cell? ⟨b, o + l * K + j, none⟩ = some (.int .i64 (q l j))) ∧ qn ≤ maxLen := fun i => by
      by_cases him : i < n
      · obtain ⟨cs', hc, ht'⟩ := hi i (by omega)
        rw [hC] at hc
        obtain ⟨ys, n', _, _, hlen, hyl, hg⟩ := DataW.trod_struct he ht'
        obtain ⟨_, hcl, hat⟩ := World.cells?_some hc
        obtain ⟨o0, k0⟩ := hone_of hone 0 f0 rfl
        obtain ⟨o1, k1⟩ := hone_of hone 1 f1 rfl
        have g0 := hg 0 f0 rfl
        have g1 := hg 1 f1 rfl
        rw [o0, k0, e0] at g0
        rw [o1, k1, e1] at g1
        have w0 : (cs'.drop 0).take 1 = [cs'[0]'(by omega)] := by rw [List.drop_eq_getElem_cons (by omega)]; rfl
        have w1 : (cs'.drop 1).take 1 = [cs'[1]'(by omega)] := by rw [List.drop_eq_getElem_cons (by omega)]; rfl
        rw [w0, List.getElem?_eq_getElem (by simp at hyl; omega)] at g0
        rw [w1, List.getElem?_eq_getElem (by simp at hyl; omega)] at g1
        obtain ⟨z, hz, _, hw⟩ := DataW.trod_int h0 g0
        obtain ⟨qo, qn, qc, hq, hT⟩ := slice_form hte g1
        obtain ⟨⟨q, hqc, _⟩, hqn, _⟩ := flats_of_trod (K := K) hte hF hK hpos hT
        simp only [List.cons.injEq, and_true] at hz
        have c0 := hat 0 (by omega)
        have c1 := hat 1 (by omega)
        rw [List.getElem?_eq_getElem (by omega), hz, Addr.add_zero'] at c0
        rw [List.getElem?_eq_getElem (by omega), hq] at c1
        have hp : a = ⟨a.block, a.off, none⟩ := by
          obtain ⟨cs0, hc0, _⟩ := hi 0 (by omega)
          rw [hC] at hc0
          obtain ⟨_, hcl0, hat0⟩ := World.cells?_some hc0
          have := hat0 0 (by omega)
          rw [Nat.zero_mul, Addr.add_zero', Addr.add_zero', List.getElem?_eq_getElem (by omega)] at this
          exact addr_plain this
        rw [hp, add_off] at c0
        rw [hp, add_off, add_off] at c1
        exact ⟨z, qo, qn, qc, q, fun _ => ⟨⟨a.block, a.off, by rw [← hp], c0, c1⟩, hw, hqc, hqn⟩⟩
      · exact ⟨0, none, 0, 0, fun _ _ => 0, fun h => absurd h him⟩
    refine ⟨fun i => (key i).choose, fun i => (key i).choose_spec.choose, fun i => (key i).choose_spec.choose_spec.choose, fun i => (key i).choose_spec.choose_spec.choose_spec.choose, fun i => (key i).choose_spec.choose_spec.choose_spec.choose_spec.choose, fun i hi => ?_⟩
    exact (key i).choose_spec.choose_spec.choose_spec.choose_spec.choose_spec hi
end
/-- An image that came in. -/
theorem img_of_trod {H : Type} {enc : TypeId × Value → H} {w : World} {b0 : Nat} {v : Value} {d : DataW H} {p : List MemPlace} (hv : Value.okWide Tryd.prog w .any b0 26 v)
    (h : DataW.Trod enc Tryd.prog w 0 (fun _ => true) true 26 v d p) : ∃ x g M q hh, v = iv x ∧ ImgAt w x g M q hh := by
  obtain ⟨c0, c1, c2, c3, y0, y1, y2, y3, m, rfl, rfl, rfl, h0, h1, h2, h3⟩ := open_agg4 Tryd.underlying26 (by kernel_rfl) (by kernel_rfl) hv h
  obtain ⟨r, hr, _, hw⟩ := DataW.trod_int Tryd.underlying3 h0
  simp only [List.cons.injEq, and_true] at hr
  subst hr
  obtain ⟨ao, n, cap, rfl, T1⟩ := slice_form Tryd.underlying22 h1
  obtain ⟨mo, mn, mc, rfl, T2⟩ := slice_form Tryd.underlying23 h2
  obtain ⟨eo, en, ec, rfl, T3⟩ := slice_form Tryd.underlying24 h3
  obtain ⟨⟨g, hg, hgw⟩, hn, _⟩ := flats_of_trod (K := 11) Tryd.underlying22 flat_task (by kernel_rfl) (by decide) T1
  obtain ⟨⟨e, he, hew⟩, hen, _⟩ := flats_of_trod (K := 23) Tryd.underlying24 flat_edge (by kernel_rfl) (by decide) T3
  obtain ⟨⟨Z, qo, qn, qc, q, hm⟩, hmn⟩ := modes_of_trod (K := 2) Tryd.underlying23 Tryd.underlying55 (by kernel_rfl) (by kernel_rfl) rfl Tryd.underlying27 rfl Tryd.underlying53 flat_queue (by kernel_rfl) (by decide) T2
  have hZ : ∀ i, i < mn → (0 : Int) ≤ Z i ∧ Z i < 4294967296 := fun i hi => by
    have := (hm i hi).2.1
    have h2 : IntKind.u32.min ≤ Z i ∧ Z i ≤ IntKind.u32.max := by simpa [Lit.wf] using this
    have e1 : IntKind.u32.min = 0 := by decide
    have e2 : IntKind.u32.max = 4294967295 := by decide
    omega
  refine ⟨⟨r, ao, n, cap, mo, mn, mc, eo, en, ec⟩, g, fun i => ⟨(Z i).toNat, qo i, qn i, qc i⟩, q, e, rfl, ?_⟩
  refine ⟨hw, hg, hgw, hn, fun i hi => ?_, hmn, fun i hi => ?_, fun i hi => (hm i hi).2.2.1, fun i hi => (hm i hi).2.2.2, he, hew, hen⟩
  · obtain ⟨b, o, e1, e2, e3⟩ := (hm i hi).1
    have := hZ i hi
    exact ⟨b, o, e1, by rw [e2]; simp; omega, e3⟩
  · have := hZ i hi
    show (Z i).toNat < _
    omega
end Go.Proofs.YtijnpkbijljnlaaDoor
