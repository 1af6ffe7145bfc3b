/-
  Layer 46: whatever the tasks, EdfFits answers true: whether none is ever late, and that with fewer looks the same is told.
-/
import Derived.Test.YtnpbogamoanbiaaLaw
import Derived.Test.YtnpbogamoanbiaaRowT
import Derived.Test.YtnpbogamoanbiaaEdfWalks
namespace Go.Proofs.Ytnpbogamoanbiaa
open Go.ChangeShapes Go.WideShapes Go.ChangeAt Go.RowKit Go.Joins
set_option maxRecDepth 100000 in
theorem edfFits_lifted (os : Os) (started : os.Started) (H : Type) (enc : TypeId × Value → H) :
    ReturnsInHanded {} Try.checked os 5 .any (Rows.edfFitsSpec.pre6 enc Try.prog Try.f5 Rows.edfFitsRow.domain false) (Rows.edfFitsSpec.post enc Try.prog Try.f5 false true false false) :=
  law_lifted (C := Try.checked) rfl started own laid rfl (by kernel_rfl) Try.func5 (by kernel_rfl) rfl boolType
    (ChangeSpec.witness6 (enc := enc) (C := Try.checked) false ⟨#[], #[.slice none 0 0], []⟩ 8 (by kernel_rfl) (by kernel_rfl) (by kernel_rfl) (by kernel_rfl))
    (fun ds h => by match ds, h with | [_], _ => rfl)
    (fun W base args ds p hval hA hlt hsz => by
      rw [Try.params5] at hA hval hsz
      obtain ⟨v0, vs0, d0, ds0, p0, q0, hargs, rfl, rfl, h0, r0⟩ := trodAll_cons hA
      obtain ⟨rfl, rfl, rfl⟩ := trodAll_nil r0
      obtain rfl : args = #[v0] := by cases args; simp_all
      obtain ⟨ao0, n0, cap0, rfl⟩ := okWide_slice Try.underlying30 (hval 0 30 v0 rfl rfl)
      obtain ⟨⟨g0, hg0, hw0⟩, hc0, hq0⟩ := flats_of_trod (K := 11) Try.underlying30 flat_task (by kernel_rfl) (by decide) h0
      exact edfFits_walk ao0 n0 cap0 g0 W hc0 hg0)
theorem edfFits_holds : Rows.EdfFitsSaid :=
  OpenClaim.holds_of_wide 5 Try.f5 rfl rfl rfl rfl rfl rfl rfl ⟨rfl, rfl, rfl, rfl, rfl⟩ rfl rfl rfl rfl rfl (by kernel_rfl) Try.func5 (by kernel_rfl)
    (of_decide_eq_true (by kernel_rfl)) (by unfold Func.isWrapper; rw [if_neg (by decide +kernel)]; exact ⟨rfl, rfl⟩)
    (fun os started H enc _ => edfFits_lifted os started H enc)
end Go.Proofs.Ytnpbogamoanbiaa
