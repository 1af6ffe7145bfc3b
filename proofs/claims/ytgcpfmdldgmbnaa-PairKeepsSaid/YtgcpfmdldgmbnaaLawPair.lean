/-
  Layer 5: whatever the input, the three laws of pairs answer true, and each argument reads behind the call as it read before.
-/
import Derived.Test.YtgcpfmdldgmbnaaLaw
import Derived.Test.YtgcpfmdldgmbnaaPairMasksLaw
namespace Go.Proofs.Ytgcpfmdldgmbnaa
open Go.ChangeShapes Go.WideShapes Go.ChangeAt Go.RowKit Go.Joins
theorem cells_pair : Try.prog.cellsOf 24 = 2 := by kernel_rfl
theorem cells_words : Try.prog.cellsOf 32 = 3 := by kernel_rfl
set_option maxRecDepth 100000 in
theorem pairTells_lifted (os : Os) (started : os.Started) (H : Type) (enc : TypeId × Value → H) :
    ReturnsInHanded {} Try.checked os 4 .any (Rows.pairTellsSpec.pre6 enc Try.prog Try.f4 Rows.pairTellsRow.domain false) (Rows.pairTellsSpec.post enc Try.prog Try.f4 false true false false) :=
  law_lifted (C := Try.checked) rfl started own laid rfl (by kernel_rfl) Try.func4 (by kernel_rfl) rfl boolType
    (ChangeSpec.witness6 (enc := enc) (C := Try.checked) false ⟨#[], #[.agg #[.int .u32 0, .int .u32 0], .agg #[.int .u32 0, .int .u32 0, .int .u32 0]], []⟩ 8 (by kernel_rfl) (by kernel_rfl) (by kernel_rfl) (by kernel_rfl))
    (fun ds h => by match ds, h with | [_, _], _ => rfl)
    (fun W base args ds p hval hA _ _ => by
      rw [Try.params4] at hA hval
      obtain ⟨v0, vs0, d0, ds0, p0, q0, hargs, rfl, rfl, h0, r0⟩ := trodAll_cons hA
      obtain ⟨v1, vs1, d1, ds1, p1, q1, rfl, rfl, rfl, h1, r1⟩ := trodAll_cons r0
      obtain ⟨rfl, rfl, rfl⟩ := trodAll_nil r1
      obtain rfl : args = #[v0, v1] := by cases args; simp_all
      obtain ⟨c0, c1, y0, y1, m, rfl, rfl, rfl, hy0, hy1⟩ := open_agg2 Try.underlying24 (by kernel_rfl) cells_pair (hval 0 24 v0 rfl rfl) h0
      obtain ⟨e0, e1, e2, z0, z1, z2, m', rfl, rfl, rfl, hz0, hz1, hz2⟩ := open_agg3 Try.underlying32 (by kernel_rfl) cells_words (hval 1 32 v1 rfl rfl) h1
      obtain ⟨a0, f0, _, wa0⟩ := DataW.trod_int Try.underlying22 hy0
      obtain ⟨a1, f1, _, wa1⟩ := DataW.trod_int Try.underlying22 hy1
      obtain ⟨b0, g0, _, wb0⟩ := DataW.trod_int Try.underlying22 hz0
      obtain ⟨b1, g1, _, wb1⟩ := DataW.trod_int Try.underlying22 hz1
      obtain ⟨b2, g2, _, wb2⟩ := DataW.trod_int Try.underlying22 hz2
      simp only [List.cons.injEq, and_true] at f0 f1 g0 g1 g2
      subst f0 f1 g0 g1 g2
      obtain ⟨a0, rfl⟩ := wf_B wa0
      obtain ⟨a1, rfl⟩ := wf_B wa1
      obtain ⟨b0, rfl⟩ := wf_B wb0
      obtain ⟨b1, rfl⟩ := wf_B wb1
      obtain ⟨b2, rfl⟩ := wf_B wb2
      exact tells_walk a0 a1 b0 b1 b2 W)
theorem pairTells_holds : Rows.PairTellsSaid :=
  OpenClaim.holds_of_wide 4 Try.f4 rfl rfl rfl rfl rfl rfl rfl ⟨rfl, rfl, rfl, rfl, rfl⟩ rfl rfl rfl rfl rfl (by kernel_rfl) Try.func4 (by kernel_rfl)
    (of_decide_eq_true (by kernel_rfl)) (by unfold Func.isWrapper; rw [if_neg (by decide +kernel)]; exact ⟨rfl, rfl⟩)
    (fun os started H enc _ => pairTells_lifted os started H enc)
set_option maxRecDepth 100000 in
theorem pairKeeps_lifted (os : Os) (started : os.Started) (H : Type) (enc : TypeId × Value → H) :
    ReturnsInHanded {} Try.checked os 3 .any (Rows.pairKeepsSpec.pre6 enc Try.prog Try.f3 Rows.pairKeepsRow.domain false) (Rows.pairKeepsSpec.post enc Try.prog Try.f3 false true false false) :=
  law_lifted (C := Try.checked) rfl started own laid rfl (by kernel_rfl) Try.func3 (by kernel_rfl) rfl boolType
    (ChangeSpec.witness6 (enc := enc) (C := Try.checked) false ⟨#[], #[.int .u32 0, .int .u32 0, .int .u32 0], []⟩ 8 (by kernel_rfl) (by kernel_rfl) (by kernel_rfl) (by kernel_rfl))
    (fun ds h => by match ds, h with | [_, _, _], _ => rfl)
    (fun W base args ds p hval hA _ _ => by
      rw [Try.params3] at hA hval
      obtain ⟨v0, vs0, d0, ds0, p0, q0, hargs, rfl, rfl, h0, r0⟩ := trodAll_cons hA
      obtain ⟨v1, vs1, d1, ds1, p1, q1, rfl, rfl, rfl, h1, r1⟩ := trodAll_cons r0
      obtain ⟨v2, vs2, d2, ds2, p2, q2, rfl, rfl, rfl, h2, r2⟩ := trodAll_cons r1
      obtain ⟨rfl, rfl, rfl⟩ := trodAll_nil r2
      obtain rfl : args = #[v0, v1, v2] := by cases args; simp_all
      obtain ⟨a0, rfl, rfl, rfl, w0⟩ := open_int Try.underlying22 (hval 0 22 v0 rfl rfl) h0
      obtain ⟨a1, rfl, rfl, rfl, w1⟩ := open_int Try.underlying22 (hval 1 22 v1 rfl rfl) h1
      obtain ⟨a2, rfl, rfl, rfl, w2⟩ := open_int Try.underlying22 (hval 2 22 v2 rfl rfl) h2
      obtain ⟨a0, rfl⟩ := wf_B w0
      obtain ⟨a1, rfl⟩ := wf_B w1
      obtain ⟨a2, rfl⟩ := wf_B w2
      exact keeps_walk a0 a1 a2 W)
theorem pairKeeps_holds : Rows.PairKeepsSaid :=
  OpenClaim.holds_of_wide 3 Try.f3 rfl rfl rfl rfl rfl rfl rfl ⟨rfl, rfl, rfl, rfl, rfl⟩ rfl rfl rfl rfl rfl (by kernel_rfl) Try.func3 (by kernel_rfl)
    (of_decide_eq_true (by kernel_rfl)) (by unfold Func.isWrapper; rw [if_neg (by decide +kernel)]; exact ⟨rfl, rfl⟩)
    (fun os started H enc _ => pairKeeps_lifted os started H enc)
set_option maxRecDepth 100000 in
theorem pairMasks_lifted (os : Os) (started : os.Started) (H : Type) (enc : TypeId × Value → H) :
    ReturnsInHanded {} Try.checked os 5 .any (Rows.pairMasksSpec.pre6 enc Try.prog Try.f5 Rows.pairMasksRow.domain false) (Rows.pairMasksSpec.post enc Try.prog Try.f5 false true false false) :=
  law_lifted (C := Try.checked) rfl started own laid rfl (by kernel_rfl) Try.func5 (by kernel_rfl) rfl boolType
    (ChangeSpec.witness6 (enc := enc) (C := Try.checked) false ⟨#[], #[.int .u32 0, .int .i64 0], []⟩ 8 (by kernel_rfl) (by kernel_rfl) (by kernel_rfl) (by kernel_rfl))
    (fun ds h => by match ds, h with | [_, _], _ => rfl)
    (fun W base args ds p hval hA _ _ => by
      rw [Try.params5] at hA hval
      obtain ⟨v0, vs0, d0, ds0, p0, q0, hargs, rfl, rfl, h0, r0⟩ := trodAll_cons hA
      obtain ⟨v1, vs1, d1, ds1, p1, q1, rfl, rfl, rfl, h1, r1⟩ := trodAll_cons r0
      obtain ⟨rfl, rfl, rfl⟩ := trodAll_nil r1
      obtain rfl : args = #[v0, v1] := by cases args; simp_all
      obtain ⟨a0, rfl, rfl, rfl, w0⟩ := open_int Try.underlying22 (hval 0 22 v0 rfl rfl) h0
      obtain ⟨a1, rfl, rfl, rfl, w1⟩ := open_int Try.underlying3 (hval 1 3 v1 rfl rfl) h1
      exact masks_walk a0 a1 (wf_bd w0).1 W)
theorem pairMasks_holds : Rows.PairMasksSaid :=
  OpenClaim.holds_of_wide 5 Try.f5 rfl rfl rfl rfl rfl rfl rfl ⟨rfl, rfl, rfl, rfl, rfl⟩ rfl rfl rfl rfl rfl (by kernel_rfl) Try.func5 (by kernel_rfl)
    (of_decide_eq_true (by kernel_rfl)) (by unfold Func.isWrapper; rw [if_neg (by decide +kernel)]; exact ⟨rfl, rfl⟩)
    (fun os started H enc _ => pairMasks_lifted os started H enc)
end Go.Proofs.Ytgcpfmdldgmbnaa
