/-
  Layer 38: an order is found just if any order fits, and it fits; by the shortest deadlines it fits just then, too: OpaBest answers true, whatever the tasks (at most 6 that may be, of periods up to 400, are looked at).
-/
import Derived.Test.YtmkpimdbmjpelaaLaw
import Derived.Test.YtmkpimdbmjpelaaRowT
import Derived.Test.YtmkpimdbmjpelaaOpaBest
namespace Go.Proofs.Ytmkpimdbmjpelaa
open Go.ChangeShapes Go.WideShapes Go.ChangeAt Go.RowKit Go.Joins
set_option maxRecDepth 100000 in
theorem opaBest_lifted (os : Os) (started : os.Started) (H : Type) (enc : TypeId × Value → H) :
    ReturnsInHanded {} Try.checked os 3 .any (Rows.opaBestSpec.pre6 enc Try.prog Try.f3 Rows.opaBestRow.domain false) (Rows.opaBestSpec.post enc Try.prog Try.f3 false true false false) :=
  law_lifted (C := Try.checked) rfl started own laid rfl (by kernel_rfl) Try.func3 (by kernel_rfl) rfl boolType
    (ChangeSpec.witness6 (enc := enc) (C := Try.checked) false ⟨#[], #[.slice none 0 0], []⟩ 8 (by kernel_rfl) (by kernel_rfl) (by kernel_rfl) (by kernel_rfl))
    (fun ds h => by match ds, h with | [_], _ => rfl)
    (fun W base args ds p hval hA hlt hsz => by
      rw [Try.params3] at hA hval hsz
      obtain ⟨v0, vs0, d0, ds0, p0, q0, hargs, rfl, rfl, h0, r0⟩ := trodAll_cons hA
      obtain ⟨rfl, rfl, rfl⟩ := trodAll_nil r0
      obtain rfl : args = #[v0] := by cases args; simp_all
      obtain ⟨ao0, n0, cap0, rfl⟩ := okWide_slice Try.underlying22 (hval 0 22 v0 rfl rfl)
      obtain ⟨⟨g0, hg0, hw0⟩, hc0, hq0⟩ := flats_of_trod (K := 11) Try.underlying22 flat_task (by kernel_rfl) (by decide) h0
      exact opaBest_walk ao0 n0 cap0 g0 W hg0 hc0 hq0)
theorem opaBest_holds : Rows.OpaBestSaid :=
  OpenClaim.holds_of_wide 3 Try.f3 rfl rfl rfl rfl rfl rfl rfl ⟨rfl, rfl, rfl, rfl, rfl⟩ rfl rfl rfl rfl rfl (by kernel_rfl) Try.func3 (by kernel_rfl)
    (of_decide_eq_true (by kernel_rfl)) (by unfold Func.isWrapper; rw [if_neg (by decide +kernel)]; exact ⟨rfl, rfl⟩)
    (fun os started H enc _ => opaBest_lifted os started H enc)
end Go.Proofs.Ytmkpimdbmjpelaa
