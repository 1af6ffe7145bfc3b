/-
  Layer 23: whatever is added, cancelled, and however many ticks go by, DeltaPlays answers true: which timers are due when, and in which order.
-/
import Derived.Test.YtdccpbnknfffaaaLaw
import Derived.Test.YtdccpbnknfffaaaRowS
import Derived.Test.YtdccpbnknfffaaaDeltaPlays
namespace Go.Proofs.Ytdccpbnknfffaaa
open Go.ChangeShapes Go.WideShapes Go.ChangeAt Go.RowKit Go.Joins
set_option maxRecDepth 100000 in
theorem deltaPlays_lifted (os : Os) (started : os.Started) (H : Type) (enc : TypeId × Value → H) :
    ReturnsInHanded {} Try.checked os 3 .any (Rows.deltaPlaysSpec.pre6 enc Try.prog Try.f3 Rows.deltaPlaysRow.domain false) (Rows.deltaPlaysSpec.post enc Try.prog Try.f3 false true false false) :=
  law_lifted (C := Try.checked) rfl started own laid rfl (by kernel_rfl) Try.func3 (by kernel_rfl) rfl boolType
    (ChangeSpec.witness6 (enc := enc) (C := Try.checked) false ⟨#[], #[.slice none 0 0], []⟩ 8 (by kernel_rfl) (by kernel_rfl) (by kernel_rfl) (by kernel_rfl))
    (fun ds h => by match ds, h with | [_], _ => rfl)
    (fun W base args ds p hval hA hlt hsz => by
      rw [Try.params3] at hA hval hsz
      obtain ⟨v0, vs0, d0, ds0, p0, q0, hargs, rfl, rfl, h0, r0⟩ := trodAll_cons hA
      obtain ⟨rfl, rfl, rfl⟩ := trodAll_nil r0
      obtain rfl : args = #[v0] := by cases args; simp_all
      obtain ⟨ao0, n0, cap0, rfl⟩ := okWide_slice Try.underlying22 (hval 0 22 v0 rfl rfl)
      obtain ⟨⟨g0, hg0, hw0⟩, hc0, hq0⟩ := structs_of_trod Try.underlying22 Try.underlying29 (by kernel_rfl) (by kernel_rfl) (by
        intro j f hj
        rcases j with _ | _ | _ | j
        all_goals first | (simp at hj; done) | (simp at hj; subst hj; exact Try.underlying3)) (by decide) h0
      exact deltaPlays_walk ao0 n0 cap0 g0 W (fun i hi => by obtain ⟨b, o, e, h⟩ := hg0 i hi; exact ⟨b, o, e, h 0 (by decide), h 1 (by decide), h 2 (by decide)⟩) hc0 hq0)
theorem deltaPlays_holds : Rows.DeltaPlaysSaid :=
  OpenClaim.holds_of_wide 3 Try.f3 rfl rfl rfl rfl rfl rfl rfl ⟨rfl, rfl, rfl, rfl, rfl⟩ rfl rfl rfl rfl rfl (by kernel_rfl) Try.func3 (by kernel_rfl)
    (of_decide_eq_true (by kernel_rfl)) (by unfold Func.isWrapper; rw [if_neg (by decide +kernel)]; exact ⟨rfl, rfl⟩)
    (fun os started H enc _ => deltaPlays_lifted os started H enc)
end Go.Proofs.Ytdccpbnknfffaaa
