/-
  Layer 17: whatever the input, FixGrows answers true: with more first work, or a term more, the time is no less.
-/
import Derived.Test.YtcjdfgfnpmmcnaaLaw
import Derived.Test.YtcjdfgfnpmmcnaaRowS
import Derived.Test.YtcjdfgfnpmmcnaaFixGrows
namespace Go.Proofs.Ytcjdfgfnpmmcnaa
open Go.ChangeShapes Go.WideShapes Go.ChangeAt Go.RowKit Go.Joins
set_option maxRecDepth 100000 in
theorem fixGrows_lifted (os : Os) (started : os.Started) (H : Type) (enc : TypeId × Value → H) :
    ReturnsInHanded {} Try.checked os 9 .any (Rows.fixGrowsSpec.pre6 enc Try.prog Try.f9 Rows.fixGrowsRow.domain false) (Rows.fixGrowsSpec.post enc Try.prog Try.f9 false true false false) :=
  law_lifted (C := Try.checked) rfl started own laid rfl (by kernel_rfl) Try.func9 (by kernel_rfl) rfl boolType
    (ChangeSpec.witness6 (enc := enc) (C := Try.checked) false ⟨#[], #[.int .i64 0, .int .i64 0, .slice none 0 0], []⟩ 8 (by kernel_rfl) (by kernel_rfl) (by kernel_rfl) (by kernel_rfl))
    (fun ds h => by match ds, h with | [_, _, _], _ => rfl)
    (fun W base args ds p hval hA hlt hsz => by
      rw [Try.params9] at hA hval hsz
      obtain ⟨v0, vs0, d0, ds0, p0, q0, hargs, rfl, rfl, h0, r0⟩ := trodAll_cons hA
      obtain ⟨v1, vs1, d1, ds1, p1, q1, rfl, rfl, rfl, h1, r1⟩ := trodAll_cons r0
      obtain ⟨v2, vs2, d2, ds2, p2, q2, rfl, rfl, rfl, h2, r2⟩ := trodAll_cons r1
      obtain ⟨rfl, rfl, rfl⟩ := trodAll_nil r2
      obtain rfl : args = #[v0, v1, v2] := by cases args; simp_all
      obtain ⟨a0, rfl, rfl, rfl, w0⟩ := open_int Try.underlying3 (hval 0 3 v0 rfl rfl) h0
      obtain ⟨a1, rfl, rfl, rfl, w1⟩ := open_int Try.underlying3 (hval 1 3 v1 rfl rfl) h1
      obtain ⟨ao2, n2, cap2, rfl⟩ := okWide_slice Try.underlying40 (hval 2 40 v2 rfl rfl)
      obtain ⟨⟨g2, hg2, hw2⟩, hc2, hq2⟩ := structs_of_trod Try.underlying40 Try.underlying38 (by kernel_rfl) (by kernel_rfl) (by
        intro j f hj
        rcases j with _ | _ | _ | _ | j
        all_goals first | (simp at hj; done) | (simp at hj; subst hj; exact Try.underlying3)) (by decide) h2
      have hT : Terms W ao2 n2 (fun i => ⟨g2 i 0, g2 i 1, g2 i 2, g2 i 3⟩) := fun i hi => by
        obtain ⟨b, o, e, h⟩ := hg2 i hi
        exact ⟨b, o, e, h 0 (by decide), h 1 (by decide), h 2 (by decide), h 3 (by decide)⟩
      exact fixGrows_walk ao2 n2 cap2 _ a0 a1 W hT hc2 hq2)
theorem fixGrows_holds : Rows.FixGrowsSaid :=
  OpenClaim.holds_of_wide 9 Try.f9 rfl rfl rfl rfl rfl rfl rfl ⟨rfl, rfl, rfl, rfl, rfl⟩ rfl rfl rfl rfl rfl (by kernel_rfl) Try.func9 (by kernel_rfl)
    (of_decide_eq_true (by kernel_rfl)) (by unfold Func.isWrapper; rw [if_neg (by decide +kernel)]; exact ⟨rfl, rfl⟩)
    (fun os started H enc _ => fixGrows_lifted os started H enc)
end Go.Proofs.Ytcjdfgfnpmmcnaa
