/-
  Layer 38: the order that is found, or that there is none, and whether a list fits as it stands: OpaOrders answers true, whatever the tasks (at most 10 that may be, of periods up to 400, are looked at).
-/
import Derived.Test.YtmjfodaoeeepcaaLaw
import Derived.Test.YtmjfodaoeeepcaaRowT
import Derived.Test.YtmjfodaoeeepcaaOpaOrders
namespace Go.Proofs.Ytmjfodaoeeepcaa
open Go.ChangeShapes Go.WideShapes Go.ChangeAt Go.RowKit Go.Joins
set_option maxRecDepth 100000 in
theorem opaOrders_lifted (os : Os) (started : os.Started) (H : Type) (enc : TypeId × Value → H) :
    ReturnsInHanded {} Try.checked os 4 .any (Rows.opaOrdersSpec.pre6 enc Try.prog Try.f4 Rows.opaOrdersRow.domain false) (Rows.opaOrdersSpec.post enc Try.prog Try.f4 false true false false) :=
  law_lifted (C := Try.checked) rfl started own laid rfl (by kernel_rfl) Try.func4 (by kernel_rfl) rfl boolType
    (ChangeSpec.witness6 (enc := enc) (C := Try.checked) false ⟨#[], #[.slice none 0 0], []⟩ 8 (by kernel_rfl) (by kernel_rfl) (by kernel_rfl) (by kernel_rfl))
    (fun ds h => by match ds, h with | [_], _ => rfl)
    (fun W base args ds p hval hA hlt hsz => by
      rw [Try.params4] at hA hval hsz
      obtain ⟨v0, vs0, d0, ds0, p0, q0, hargs, rfl, rfl, h0, r0⟩ := trodAll_cons hA
      obtain ⟨rfl, rfl, rfl⟩ := trodAll_nil r0
      obtain rfl : args = #[v0] := by cases args; simp_all
      obtain ⟨ao0, n0, cap0, rfl⟩ := okWide_slice Try.underlying32 (hval 0 32 v0 rfl rfl)
      obtain ⟨⟨g0, hg0, hw0⟩, hc0, hq0⟩ := flats_of_trod (K := 11) Try.underlying32 flat_task (by kernel_rfl) (by decide) h0
      exact opaOrders_walk ao0 n0 cap0 g0 W hg0 hc0 hq0)
theorem opaOrders_holds : Rows.OpaOrdersSaid :=
  OpenClaim.holds_of_wide 4 Try.f4 rfl rfl rfl rfl rfl rfl rfl ⟨rfl, rfl, rfl, rfl, rfl⟩ rfl rfl rfl rfl rfl (by kernel_rfl) Try.func4 (by kernel_rfl)
    (of_decide_eq_true (by kernel_rfl)) (by unfold Func.isWrapper; rw [if_neg (by decide +kernel)]; exact ⟨rfl, rfl⟩)
    (fun os started H enc _ => opaOrders_lifted os started H enc)
end Go.Proofs.Ytmjfodaoeeepcaa
