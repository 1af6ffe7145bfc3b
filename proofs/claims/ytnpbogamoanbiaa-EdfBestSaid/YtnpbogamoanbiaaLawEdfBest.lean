/-
  Layer 46: whatever the tasks, EdfBest answers true: what fits by fixed priorities, in the order in which it stands, fits by deadlines.
-/
import Derived.Test.YtnpbogamoanbiaaLaw
import Derived.Test.YtnpbogamoanbiaaRowT
import Derived.Test.YtnpbogamoanbiaaEdfWalks
namespace Go.Proofs.Ytnpbogamoanbiaa
open Go.ChangeShapes Go.WideShapes Go.ChangeAt Go.RowKit Go.Joins
set_option maxRecDepth 100000 in
theorem edfBest_lifted (os : Os) (started : os.Started) (H : Type) (enc : TypeId × Value → H) :
    ReturnsInHanded {} Try.checked os 6 .any (Rows.edfBestSpec.pre6 enc Try.prog Try.f6 Rows.edfBestRow.domain false) (Rows.edfBestSpec.post enc Try.prog Try.f6 false true false false) :=
  law_lifted (C := Try.checked) rfl started own laid rfl (by kernel_rfl) Try.func6 (by kernel_rfl) rfl boolType
    (ChangeSpec.witness6 (enc := enc) (C := Try.checked) false ⟨#[], #[.slice none 0 0], []⟩ 8 (by kernel_rfl) (by kernel_rfl) (by kernel_rfl) (by kernel_rfl))
    (fun ds h => by match ds, h with | [_], _ => rfl)
    (fun W base args ds p hval hA hlt hsz => by
      rw [Try.params6] at hA hval hsz
      obtain ⟨v0, vs0, d0, ds0, p0, q0, hargs, rfl, rfl, h0, r0⟩ := trodAll_cons hA
      obtain ⟨rfl, rfl, rfl⟩ := trodAll_nil r0
      obtain rfl : args = #[v0] := by cases args; simp_all
      obtain ⟨ao0, n0, cap0, rfl⟩ := okWide_slice Try.underlying30 (hval 0 30 v0 rfl rfl)
      obtain ⟨⟨g0, hg0, hw0⟩, hc0, hq0⟩ := flats_of_trod (K := 11) Try.underlying30 flat_task (by kernel_rfl) (by decide) h0
      exact edfBest_walk ao0 n0 cap0 g0 W hc0 hq0 hg0)
theorem edfBest_holds : Rows.EdfBestSaid :=
  OpenClaim.holds_of_wide 6 Try.f6 rfl rfl rfl rfl rfl rfl rfl ⟨rfl, rfl, rfl, rfl, rfl⟩ rfl rfl rfl rfl rfl (by kernel_rfl) Try.func6 (by kernel_rfl)
    (of_decide_eq_true (by kernel_rfl)) (by unfold Func.isWrapper; rw [if_neg (by decide +kernel)]; exact ⟨rfl, rfl⟩)
    (fun os started H enc _ => edfBest_lifted os started H enc)
end Go.Proofs.Ytnpbogamoanbiaa
