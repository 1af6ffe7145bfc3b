/-
  Layer 2: the sum of all numbers, or that it is none, and numbers behind the one where it fails aren't asked for: CheckSums answers true, whatever the numbers (at most 1,000 are looked at).
-/
import Derived.Test.YtmjfodaoeeepcaaLaw
import Derived.Test.YtmjfodaoeeepcaaCheckSums
namespace Go.Proofs.Ytmjfodaoeeepcaa
open Go.ChangeShapes Go.WideShapes Go.ChangeAt Go.RowKit Go.Joins
set_option maxRecDepth 100000 in
theorem checkSums_lifted (os : Os) (started : os.Started) (H : Type) (enc : TypeId × Value → H) :
    ReturnsInHanded {} Try.checked os 3 .any (Rows.checkSumsSpec.pre6 enc Try.prog Try.f3 Rows.checkSumsRow.domain false) (Rows.checkSumsSpec.post enc Try.prog Try.f3 false true false false) :=
  law_lifted (C := Try.checked) rfl started own laid rfl (by kernel_rfl) Try.func3 (by kernel_rfl) rfl boolType
    (ChangeSpec.witness6 (enc := enc) (C := Try.checked) false ⟨#[], #[.slice none 0 0], []⟩ 8 (by kernel_rfl) (by kernel_rfl) (by kernel_rfl) (by kernel_rfl))
    (fun ds h => by match ds, h with | [_], _ => rfl)
    (fun W base args ds p hval hA hlt hsz => by
      rw [Try.params3] at hA hval hsz
      obtain ⟨v0, vs0, d0, ds0, p0, q0, hargs, rfl, rfl, h0, r0⟩ := trodAll_cons hA
      obtain ⟨rfl, rfl, rfl⟩ := trodAll_nil r0
      obtain rfl : args = #[v0] := by cases args; simp_all
      obtain ⟨ao0, n0, cap0, rfl⟩ := okWide_slice Try.underlying22 (hval 0 22 v0 rfl rfl)
      obtain ⟨zs0, hz0, hr0, hw0, hc0, hq0⟩ := row_of_trod Try.underlying22 Try.underlying3 (by kernel_rfl) h0 (fun x hx => hlt x (by simp [hx]))
      exact checkSums_walk ao0 n0 cap0 zs0 W hz0 hc0 hr0)
theorem checkSums_holds : Rows.CheckSumsSaid :=
  OpenClaim.holds_of_wide 3 Try.f3 rfl rfl rfl rfl rfl rfl rfl ⟨rfl, rfl, rfl, rfl, rfl⟩ rfl rfl rfl rfl rfl (by kernel_rfl) Try.func3 (by kernel_rfl)
    (of_decide_eq_true (by kernel_rfl)) (by unfold Func.isWrapper; rw [if_neg (by decide +kernel)]; exact ⟨rfl, rfl⟩)
    (fun os started H enc _ => checkSums_lifted os started H enc)
end Go.Proofs.Ytmjfodaoeeepcaa
