/-
  Layer 16: whatever the input, DemandWorks answers true: how much work may come of any terms in any number of ticks, or that it is none.
-/
import Derived.Test.YtcjdfgfnpmmcnaaLaw
import Derived.Test.YtcjdfgfnpmmcnaaRowS
import Derived.Test.YtcjdfgfnpmmcnaaDemandWorks
namespace Go.Proofs.Ytcjdfgfnpmmcnaa
open Go.ChangeShapes Go.WideShapes Go.ChangeAt Go.RowKit Go.Joins
set_option maxRecDepth 100000 in
theorem demandWorks_lifted (os : Os) (started : os.Started) (H : Type) (enc : TypeId × Value → H) :
    ReturnsInHanded {} Try.checked os 6 .any (Rows.demandWorksSpec.pre6 enc Try.prog Try.f6 Rows.demandWorksRow.domain false) (Rows.demandWorksSpec.post enc Try.prog Try.f6 false true false false) :=
  law_lifted (C := Try.checked) rfl started own laid rfl (by kernel_rfl) Try.func6 (by kernel_rfl) rfl boolType
    (ChangeSpec.witness6 (enc := enc) (C := Try.checked) false ⟨#[], #[.int .i64 0, .slice none 0 0], []⟩ 8 (by kernel_rfl) (by kernel_rfl) (by kernel_rfl) (by kernel_rfl))
    (fun ds h => by match ds, h with | [_, _], _ => rfl)
    (fun W base args ds p hval hA hlt hsz => by
      rw [Try.params6] at hA hval hsz
      obtain ⟨v0, vs0, d0, ds0, p0, q0, hargs, rfl, rfl, h0, r0⟩ := trodAll_cons hA
      obtain ⟨v1, vs1, d1, ds1, p1, q1, rfl, rfl, rfl, h1, r1⟩ := trodAll_cons r0
      obtain ⟨rfl, rfl, rfl⟩ := trodAll_nil r1
      obtain rfl : args = #[v0, v1] := by cases args; simp_all
      obtain ⟨a0, rfl, rfl, rfl, w0⟩ := open_int Try.underlying3 (hval 0 3 v0 rfl rfl) h0
      obtain ⟨ao1, n1, cap1, rfl⟩ := okWide_slice Try.underlying40 (hval 1 40 v1 rfl rfl)
      obtain ⟨⟨g1, hg1, hw1⟩, hc1, hq1⟩ := structs_of_trod Try.underlying40 Try.underlying38 (by kernel_rfl) (by kernel_rfl) (by
        intro j f hj
        rcases j with _ | _ | _ | _ | j
        all_goals first | (simp at hj; done) | (simp at hj; subst hj; exact Try.underlying3)) (by decide) h1
      have hT : Terms W ao1 n1 (fun i => ⟨g1 i 0, g1 i 1, g1 i 2, g1 i 3⟩) := fun i hi => by
        obtain ⟨b, o, e, h⟩ := hg1 i hi
        exact ⟨b, o, e, h 0 (by decide), h 1 (by decide), h 2 (by decide), h 3 (by decide)⟩
      exact works_walk ao1 n1 cap1 _ a0 W hT hc1)
theorem demandWorks_holds : Rows.DemandWorksSaid :=
  OpenClaim.holds_of_wide 6 Try.f6 rfl rfl rfl rfl rfl rfl rfl ⟨rfl, rfl, rfl, rfl, rfl⟩ rfl rfl rfl rfl rfl (by kernel_rfl) Try.func6 (by kernel_rfl)
    (of_decide_eq_true (by kernel_rfl)) (by unfold Func.isWrapper; rw [if_neg (by decide +kernel)]; exact ⟨rfl, rfl⟩)
    (fun os started H enc _ => demandWorks_lifted os started H enc)
end Go.Proofs.Ytcjdfgfnpmmcnaa
