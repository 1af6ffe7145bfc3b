/-
  Layer 56: whatever the input, ServerBudget answers true: the least budget with which none of a list is late.
-/
import Derived.Test.YtcjdfgfnpmmcnaaLaw
import Derived.Test.YtcjdfgfnpmmcnaaRowT
import Derived.Test.YtcjdfgfnpmmcnaaServerBudget
namespace Go.Proofs.Ytcjdfgfnpmmcnaa
open Go.ChangeShapes Go.WideShapes Go.ChangeAt Go.RowKit Go.Joins
set_option maxRecDepth 100000 in
theorem serverBudget_lifted (os : Os) (started : os.Started) (H : Type) (enc : TypeId × Value → H) :
    ReturnsInHanded {} Try.checked os 11 .any (Rows.serverBudgetSpec.pre6 enc Try.prog Try.f11 Rows.serverBudgetRow.domain false) (Rows.serverBudgetSpec.post enc Try.prog Try.f11 false true false false) :=
  law_lifted (C := Try.checked) rfl started own laid rfl (by kernel_rfl) Try.func11 (by kernel_rfl) rfl boolType
    (ChangeSpec.witness6 (enc := enc) (C := Try.checked) false ⟨#[], #[.int .i64 0, .slice none 0 0], []⟩ 8 (by kernel_rfl) (by kernel_rfl) (by kernel_rfl) (by kernel_rfl))
    (fun ds h => by match ds, h with | [_, _], _ => rfl)
    (fun W base args ds p hval hA hlt hsz => by
      rw [Try.params11] at hA hval hsz
      obtain ⟨v0, vs0, d0, ds0, p0, q0, hargs, rfl, rfl, h0, r0⟩ := trodAll_cons hA
      obtain ⟨v1, vs1, d1, ds1, p1, q1, rfl, rfl, rfl, h1, r1⟩ := trodAll_cons r0
      obtain ⟨rfl, rfl, rfl⟩ := trodAll_nil r1
      obtain rfl : args = #[v0, v1] := by cases args; simp_all
      obtain ⟨a0, rfl, rfl, rfl, w0⟩ := open_int Try.underlying3 (hval 0 3 v0 rfl rfl) h0
      obtain ⟨ao1, n1, cap1, rfl⟩ := okWide_slice Try.underlying52 (hval 1 52 v1 rfl rfl)
      obtain ⟨⟨g1, hg1, hw1⟩, hc1, hq1⟩ := flats_of_trod (K := 11) Try.underlying52 flat_task (by kernel_rfl) (by decide) h1
      exact serverBudget_walk ao1 n1 cap1 a0 g1 W hc1 hq1 hg1)
theorem serverBudget_holds : Rows.ServerBudgetSaid :=
  OpenClaim.holds_of_wide 11 Try.f11 rfl rfl rfl rfl rfl rfl rfl ⟨rfl, rfl, rfl, rfl, rfl⟩ rfl rfl rfl rfl rfl (by kernel_rfl) Try.func11 (by kernel_rfl)
    (of_decide_eq_true (by kernel_rfl)) (by unfold Func.isWrapper; rw [if_neg (by decide +kernel)]; exact ⟨rfl, rfl⟩)
    (fun os started H enc _ => serverBudget_lifted os started H enc)
end Go.Proofs.Ytcjdfgfnpmmcnaa
