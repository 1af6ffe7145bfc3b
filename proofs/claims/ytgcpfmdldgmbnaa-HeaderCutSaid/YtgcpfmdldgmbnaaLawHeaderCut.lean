/-
  Layer 7: whatever the input, HeaderCut answers true: no other head, whichever word the power goes in.
-/
import Derived.Test.YtgcpfmdldgmbnaaLaw
import Derived.Test.YtgcpfmdldgmbnaaHeaderCut
namespace Go.Proofs.Ytgcpfmdldgmbnaa
open Go.ChangeShapes Go.WideShapes Go.ChangeAt Go.RowKit Go.Joins
set_option maxRecDepth 100000 in
theorem headerCut_lifted (os : Os) (started : os.Started) (H : Type) (enc : TypeId × Value → H) :
    ReturnsInHanded {} Try.checked os 14 .any (Rows.headerCutSpec.pre6 enc Try.prog Try.f14 Rows.headerCutRow.domain false) (Rows.headerCutSpec.post enc Try.prog Try.f14 false true false false) :=
  law_lifted (C := Try.checked) rfl started own laid rfl (by kernel_rfl) Try.func14 (by kernel_rfl) rfl boolType
    (ChangeSpec.witness6 (enc := enc) (C := Try.checked) false ⟨#[], #[.agg #[.int .u32 0, .int .u32 0, .int .u32 0], .int .i64 0, .int .u32 0], []⟩ 8 (by kernel_rfl) (by kernel_rfl) (by kernel_rfl) (by kernel_rfl))
    (fun ds h => by match ds, h with | [_, _, _], _ => rfl)
    (fun W base args ds p hval hA hlt hsz => by
      rw [Try.params14] at hA hval hsz
      obtain ⟨v0, vs0, d0, ds0, p0, q0, hargs, rfl, rfl, h0, r0⟩ := trodAll_cons hA
      obtain ⟨v1, vs1, d1, ds1, p1, q1, rfl, rfl, rfl, h1, r1⟩ := trodAll_cons r0
      obtain ⟨v2, vs2, d2, ds2, p2, q2, rfl, rfl, rfl, h2, r2⟩ := trodAll_cons r1
      obtain ⟨rfl, rfl, rfl⟩ := trodAll_nil r2
      obtain rfl : args = #[v0, v1, v2] := by cases args; simp_all
      obtain ⟨c0_0, c0_1, c0_2, y0_0, y0_1, y0_2, m0, rfl, rfl, rfl, g0_0, g0_1, g0_2⟩ := open_agg3 Try.underlying73 (by kernel_rfl) (by kernel_rfl) (hval 0 73 v0 rfl rfl) h0
      obtain ⟨a0_0, f0_0, _, w0_0⟩ := DataW.trod_int Try.underlying22 g0_0
      obtain ⟨a0_1, f0_1, _, w0_1⟩ := DataW.trod_int Try.underlying22 g0_1
      obtain ⟨a0_2, f0_2, _, w0_2⟩ := DataW.trod_int Try.underlying22 g0_2
      simp only [List.cons.injEq, and_true] at f0_0 f0_1 f0_2
      subst f0_0 f0_1 f0_2
      obtain ⟨a0_0, rfl⟩ := wf_B w0_0
      obtain ⟨a0_1, rfl⟩ := wf_B w0_1
      obtain ⟨a0_2, rfl⟩ := wf_B w0_2
      obtain ⟨a1, rfl, rfl, rfl, w1⟩ := open_int Try.underlying3 (hval 1 3 v1 rfl rfl) h1
      obtain ⟨a2, rfl, rfl, rfl, w2⟩ := open_int Try.underlying22 (hval 2 22 v2 rfl rfl) h2
      obtain ⟨a2, rfl⟩ := wf_B w2
      exact headerCut_walk a0_0 a0_1 a0_2 a2 a1 (by have := w1; simp [Lit.wf, IntKind.min, IntKind.max, IntKind.signed, IntKind.bits] at this; omega) W)
theorem headerCut_holds : Rows.HeaderCutSaid :=
  OpenClaim.holds_of_wide 14 Try.f14 rfl rfl rfl rfl rfl rfl rfl ⟨rfl, rfl, rfl, rfl, rfl⟩ rfl rfl rfl rfl rfl (by kernel_rfl) Try.func14 (by kernel_rfl)
    (of_decide_eq_true (by kernel_rfl)) (by unfold Func.isWrapper; rw [if_neg (by decide +kernel)]; exact ⟨rfl, rfl⟩)
    (fun os started H enc _ => headerCut_lifted os started H enc)
end Go.Proofs.Ytgcpfmdldgmbnaa
