/-
  Layer 29: nothing is lost untold: MigrateMoves answers true, whatever the queues, their messages, the settings and the map (at most 20 queues of 100 messages are looked at).
-/
import Derived.Test.YtmkpimdbmjpelaaLaw
import Derived.Test.YtmkpimdbmjpelaaRowT
import Derived.Test.YtmkpimdbmjpelaaNest
import Derived.Test.YtmkpimdbmjpelaaMigMoves
namespace Go.Proofs.Ytmkpimdbmjpelaa
open Go.ChangeShapes Go.WideShapes Go.ChangeAt Go.RowKit Go.Joins Go.Deep
section
variable {H : Type} {enc : TypeId × Value → H} {w : World}
/-- Rows of numbers that came in. -/
theorem msgs_of_fuel {fuel : Nat} {cs : List Value} {x : DataW H × List MemPlace} (hf : DataW.trod enc Try.prog w 0 (fun _ => true) true fuel 45 cs = some x) :
    ∃ ao n cap M, cs = [.slice ao n cap] ∧ Msgs w ao n M ∧ n ≤ maxLen := by
  rcases open_slice Try.underlying45 hf with ⟨hcs, _⟩ | ⟨a, len, cap', m, kk, D, Pl, hcs, _, hl, hm, hmm, _, hi⟩
  · exact ⟨none, 0, 0, fun _ => ⟨none, 0, []⟩, hcs, fun i hi => by omega, by unfold maxLen; omega⟩
  · simp only [if_true] at hmm
    have key : ∀ i, i < len → ∃ r : MRow, w.cell? (a.add (i * 1)) = some (mv r) ∧ MOf w r := fun i him => by
      obtain ⟨cs', hc, ht'⟩ := hi i (by omega)
      rw [show Try.prog.cellsOf 24 = 1 by kernel_rfl] at hc
      obtain ⟨so, sc, zs, hz, hrow, _, hb1, hb2, hb3⟩ := row_of_fuel Try.underlying24 Try.underlying3 (by kernel_rfl) ht'
      obtain ⟨_, hcl, hat⟩ := World.cells?_some hc
      refine ⟨⟨so, sc, zs⟩, ?_, hrow, hb1, hb2, hb3⟩
      have h := hat 0 (by omega)
      rw [Addr.add_zero'] at h
      rw [h, hz]; rfl
    refine ⟨some a, len, cap', fun i => if h : i < len then (key i h).choose else ⟨none, 0, []⟩, hcs, fun i hi2 => ?_, by omega⟩
    have hp : a = ⟨a.block, a.off, none⟩ := by
      obtain ⟨r, hz, _⟩ := key 0 (by omega)
      rw [Nat.zero_mul, Addr.add_zero'] at hz
      exact addr_plain hz
    simp only [dif_pos hi2]
    have hs := (key i hi2).choose_spec
    generalize (key i hi2).choose = r at hs ⊢
    obtain ⟨c0, h2⟩ := hs
    rw [hp, add_off, Nat.mul_one] at c0
    exact ⟨a.block, a.off, by rw [← hp], c0, h2⟩
theorem slice_of_fuel {t e : TypeId} {fuel : Nat} {v : Value} {x : DataW H × List MemPlace} (ht : Try.prog.underlying t = some (.slice e)) (hf : DataW.trod enc Try.prog w 0 (fun _ => true) true fuel t [v] = some x) : ∃ ao n cap, v = .slice ao n cap := by
  rcases open_slice ht hf with ⟨hcs, _⟩ | ⟨a, len, cap', m, kk, D, Pl, hcs, _⟩
  · exact ⟨none, 0, 0, by injection hcs⟩
  · exact ⟨_, _, _, by injection hcs⟩
set_option maxRecDepth 100000 in
theorem sets_of_fuel {fuel : Nat} {ao : Option Addr} {n cap : Nat} {x : DataW H × List MemPlace} (hf : DataW.trod enc Try.prog w 0 (fun _ => true) true fuel 33 [.slice ao n cap] = some x) : ∃ g, Sets w ao n g := by
  obtain ⟨⟨g0, hg0, _⟩, _, _⟩ := structs_of_trod (d := x.1) (p := x.2) Try.underlying33 Try.underlying43 (by kernel_rfl) (by kernel_rfl) (by
    intro j f hj
    rcases j with _ | _ | j
    all_goals first | (simp at hj; done) | (simp at hj; subst hj; first | exact Try.underlying3 | exact Try.underlying41)) (by decide) ⟨fuel, hf⟩
  exact ⟨g0, fun i hi => by
    obtain ⟨b, o, e, h⟩ := hg0 i hi
    exact ⟨b, o, e, h 0 (by decide), h 1 (by decide)⟩⟩
end
theorem arr4_of {H : Type} {enc : TypeId × Value → H} {W : World} {base : Nat} {v : Value} {d : DataW H} {p : List MemPlace} (hv : Value.okWide Try.prog W .any base 48 v) (h : DataW.Trod enc Try.prog W 0 (fun _ => true) true 48 v d p) :
    ∃ m : Nat → Int, v = arr4 m ∧ ∀ i, (Lit.int .i64 (m i)).wf = true := by
  simp only [Value.okWide, Try.underlying48] at hv
  obtain ⟨cs, rfl, hsz, _⟩ := hv
  obtain ⟨fuel, hf⟩ := h
  obtain ⟨hl, hc⟩ := flat_array Try.underlying48 (flat_int Try.underlying3 (by kernel_rfl)) (by kernel_rfl) (by kernel_rfl) _ _ _ _ _ _ _ _ _ hf
  rw [show Try.prog.cellsOf 48 = 4 by kernel_rfl] at hl hc
  have key : ∀ j, j < 4 → ∃ z, cs[j]? = some (.int .i64 z) ∧ (Lit.int .i64 z).wf = true := fun j hj => by
    obtain ⟨z, hz, hw⟩ := hc j hj
    exact ⟨z, by simpa [Value.cells] using hz, hw⟩
  obtain ⟨z0, h0, w0⟩ := key 0 (by omega)
  obtain ⟨z1, h1, w1⟩ := key 1 (by omega)
  obtain ⟨z2, h2, w2⟩ := key 2 (by omega)
  obtain ⟨z3, h3, w3⟩ := key 3 (by omega)
  have hlen : cs.size = 4 := by simpa [Value.cells] using hl
  refine ⟨fun i => if i = 0 then z0 else if i = 1 then z1 else if i = 2 then z2 else if i = 3 then z3 else 0, ?_, fun i => ?_⟩
  · have e : cs = #[.int .i64 z0, .int .i64 z1, .int .i64 z2, .int .i64 z3] := by
      apply Array.ext_getElem?
      intro i
      rcases i with _ | _ | _ | _ | i
      · exact h0
      · exact h1
      · exact h2
      · exact h3
      · rw [Array.getElem?_eq_none (by omega), Array.getElem?_eq_none (by simp)]
    rw [e]; rfl
  · show (Lit.int .i64 (if i = 0 then z0 else if i = 1 then z1 else if i = 2 then z2 else if i = 3 then z3 else 0)).wf = true
    split
    · exact w0
    · split
      · exact w1
      · split
        · exact w2
        · split
          · exact w3
          · decide
set_option maxRecDepth 100000 in
theorem migrateMoves_lifted (os : Os) (started : os.Started) (H : Type) (enc : TypeId × Value → H) :
    ReturnsInHanded {} Try.checked os 5 .any (Rows.migrateMovesSpec.pre6 enc Try.prog Try.f5 Rows.migrateMovesRow.domain false) (Rows.migrateMovesSpec.post enc Try.prog Try.f5 false true false false) :=
  law_lifted (C := Try.checked) rfl started own laid rfl (by kernel_rfl) Try.func5 (by kernel_rfl) rfl boolType
    (ChangeSpec.witness6 (enc := enc) (C := Try.checked) false ⟨#[], #[.agg #[.slice none 0 0, .slice none 0 0], .slice none 0 0, .agg #[.int .i64 0, .int .i64 0, .int .i64 0, .int .i64 0]], []⟩ 8 (by kernel_rfl) (by kernel_rfl) (by kernel_rfl) (by kernel_rfl))
    (fun ds h => by match ds, h with | [_, _, _], _ => rfl)
    (fun W base args ds p hval hA hlt hsz => by
      rw [Try.params5] at hA hval hsz
      obtain ⟨v0, vs0, d0, ds0, p0, q0, hargs, rfl, rfl, h0, r0⟩ := trodAll_cons hA
      obtain ⟨v1, vs1, d1, ds1, p1, q1, rfl, rfl, rfl, h1, r1⟩ := trodAll_cons r0
      obtain ⟨v2, vs2, d2, ds2, p2, q2, rfl, rfl, rfl, h2, r2⟩ := trodAll_cons r1
      obtain ⟨rfl, rfl, rfl⟩ := trodAll_nil r2
      obtain rfl : args = #[v0, v1, v2] := by cases args; simp_all
      obtain ⟨c0, c1, y0, y1, mf, rfl, rfl, rfl, g0, g1⟩ := open_agg2 Try.underlying47 (by kernel_rfl) (by kernel_rfl) (hval 0 47 v0 rfl rfl) h0
      obtain ⟨so, sn, sc, rfl⟩ := slice_of_fuel Try.underlying33 g0
      obtain ⟨gs, hgs⟩ := sets_of_fuel g0
      obtain ⟨mo, mn, mc, M, hcs, hM, hmx⟩ := msgs_of_fuel g1
      obtain rfl : c1 = .slice mo mn mc := by injection hcs
      obtain ⟨f1, hf1⟩ := h1
      obtain ⟨lo, ln, lc, rfl⟩ := okWide_slice Try.underlying33 (hval 1 33 v1 rfl rfl)
      obtain ⟨gl, hgl⟩ := sets_of_fuel hf1
      obtain ⟨m, rfl, hm⟩ := arr4_of (hval 2 48 v2 rfl rfl) h2
      exact migMoves_walk so mo lo sn sc mn mc ln lc gs gl M m W hgs hgl hM hmx hm)
theorem migrateMoves_holds : Rows.MigrateMovesSaid :=
  OpenClaim.holds_of_wide 5 Try.f5 rfl rfl rfl rfl rfl rfl rfl ⟨rfl, rfl, rfl, rfl, rfl⟩ rfl rfl rfl rfl rfl (by kernel_rfl) Try.func5 (by kernel_rfl)
    (of_decide_eq_true (by kernel_rfl)) (by unfold Func.isWrapper; rw [if_neg (by decide +kernel)]; exact ⟨rfl, rfl⟩)
    (fun os started H enc _ => migrateMoves_lifted os started H enc)
end Go.Proofs.Ytmkpimdbmjpelaa
