/-
  Layer 16: whatever the input, DemandComes answers true: of jobs that come a period apart, from the offset on, just so many come ahead of the end.
-/
import Derived.Test.YtcjdfgfnpmmcnaaLaw
import Derived.Test.YtcjdfgfnpmmcnaaDemandComes
namespace Go.Proofs.Ytcjdfgfnpmmcnaa
open Go.ChangeShapes Go.WideShapes Go.ChangeAt Go.RowKit Go.Joins
set_option maxRecDepth 100000 in
theorem demandComes_lifted (os : Os) (started : os.Started) (H : Type) (enc : TypeId × Value → H) :
    ReturnsInHanded {} Try.checked os 5 .any (Rows.demandComesSpec.pre6 enc Try.prog Try.f5 Rows.demandComesRow.domain false) (Rows.demandComesSpec.post enc Try.prog Try.f5 false true false false) :=
  law_lifted (C := Try.checked) rfl started own laid rfl (by kernel_rfl) Try.func5 (by kernel_rfl) rfl boolType
    (ChangeSpec.witness6 (enc := enc) (C := Try.checked) false ⟨#[], #[.agg #[.int .i64 0, .int .i64 0, .int .i64 0, .int .i64 0], .int .i64 0], []⟩ 8 (by kernel_rfl) (by kernel_rfl) (by kernel_rfl) (by kernel_rfl))
    (fun ds h => by match ds, h with | [_, _], _ => rfl)
    (fun W base args ds p hval hA hlt hsz => by
      rw [Try.params5] at hA hval hsz
      obtain ⟨v0, vs0, d0, ds0, p0, q0, hargs, rfl, rfl, h0, r0⟩ := trodAll_cons hA
      obtain ⟨v1, vs1, d1, ds1, p1, q1, rfl, rfl, rfl, h1, r1⟩ := trodAll_cons r0
      obtain ⟨rfl, rfl, rfl⟩ := trodAll_nil r1
      obtain rfl : args = #[v0, v1] := by cases args; simp_all
      obtain ⟨c0_0, c0_1, c0_2, c0_3, y0_0, y0_1, y0_2, y0_3, m0, rfl, rfl, rfl, g0_0, g0_1, g0_2, g0_3⟩ := open_agg4 Try.underlying38 (by kernel_rfl) (by kernel_rfl) (hval 0 38 v0 rfl rfl) h0
      obtain ⟨a0_0, f0_0, _, w0_0⟩ := DataW.trod_int Try.underlying3 g0_0
      obtain ⟨a0_1, f0_1, _, w0_1⟩ := DataW.trod_int Try.underlying3 g0_1
      obtain ⟨a0_2, f0_2, _, w0_2⟩ := DataW.trod_int Try.underlying3 g0_2
      obtain ⟨a0_3, f0_3, _, w0_3⟩ := DataW.trod_int Try.underlying3 g0_3
      simp only [List.cons.injEq, and_true] at f0_0 f0_1 f0_2 f0_3
      subst f0_0 f0_1 f0_2 f0_3
      obtain ⟨a1, rfl, rfl, rfl, w1⟩ := open_int Try.underlying3 (hval 1 3 v1 rfl rfl) h1
      exact comes_walk a0_0 a0_1 a0_2 a0_3 a1 W)
theorem demandComes_holds : Rows.DemandComesSaid :=
  OpenClaim.holds_of_wide 5 Try.f5 rfl rfl rfl rfl rfl rfl rfl ⟨rfl, rfl, rfl, rfl, rfl⟩ rfl rfl rfl rfl rfl (by kernel_rfl) Try.func5 (by kernel_rfl)
    (of_decide_eq_true (by kernel_rfl)) (by unfold Func.isWrapper; rw [if_neg (by decide +kernel)]; exact ⟨rfl, rfl⟩)
    (fun os started H enc _ => demandComes_lifted os started H enc)
end Go.Proofs.Ytcjdfgfnpmmcnaa
