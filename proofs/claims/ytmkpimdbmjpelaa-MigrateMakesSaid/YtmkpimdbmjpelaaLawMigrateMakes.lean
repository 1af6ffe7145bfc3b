/-
  Layer 29: which queues there may be, and that they are empty: MigrateMakes answers true, whatever the settings (at most 20 are looked at).
-/
import Derived.Test.YtmkpimdbmjpelaaLaw
import Derived.Test.YtmkpimdbmjpelaaRowS
import Derived.Test.YtmkpimdbmjpelaaMigMakes
namespace Go.Proofs.Ytmkpimdbmjpelaa
open Go.ChangeShapes Go.WideShapes Go.ChangeAt Go.RowKit Go.Joins
set_option maxRecDepth 100000 in
theorem migrateMakes_lifted (os : Os) (started : os.Started) (H : Type) (enc : TypeId × Value → H) :
    ReturnsInHanded {} Try.checked os 4 .any (Rows.migrateMakesSpec.pre6 enc Try.prog Try.f4 Rows.migrateMakesRow.domain false) (Rows.migrateMakesSpec.post enc Try.prog Try.f4 false true false false) :=
  law_lifted (C := Try.checked) rfl started own laid rfl (by kernel_rfl) Try.func4 (by kernel_rfl) rfl boolType
    (ChangeSpec.witness6 (enc := enc) (C := Try.checked) false ⟨#[], #[.slice none 0 0], []⟩ 8 (by kernel_rfl) (by kernel_rfl) (by kernel_rfl) (by kernel_rfl))
    (fun ds h => by match ds, h with | [_], _ => rfl)
    (fun W base args ds p hval hA hlt hsz => by
      rw [Try.params4] at hA hval hsz
      obtain ⟨v0, vs0, d0, ds0, p0, q0, hargs, rfl, rfl, h0, r0⟩ := trodAll_cons hA
      obtain ⟨rfl, rfl, rfl⟩ := trodAll_nil r0
      obtain rfl : args = #[v0] := by cases args; simp_all
      obtain ⟨ao0, n0, cap0, rfl⟩ := okWide_slice Try.underlying33 (hval 0 33 v0 rfl rfl)
      obtain ⟨⟨g0, hg0, hw0⟩, hc0, hq0⟩ := structs_of_trod Try.underlying33 Try.underlying43 (by kernel_rfl) (by kernel_rfl) (by
        intro j f hj
        rcases j with _ | _ | j
        all_goals first | (simp at hj; done) | (simp at hj; subst hj; first | exact Try.underlying3 | exact Try.underlying41)) (by decide) h0
      exact migMakes_walk ao0 n0 cap0 g0 W (fun i hi => by
        obtain ⟨b, o, e, h⟩ := hg0 i hi
        exact ⟨b, o, e, h 0 (by decide), h 1 (by decide)⟩))
theorem migrateMakes_holds : Rows.MigrateMakesSaid :=
  OpenClaim.holds_of_wide 4 Try.f4 rfl rfl rfl rfl rfl rfl rfl ⟨rfl, rfl, rfl, rfl, rfl⟩ rfl rfl rfl rfl rfl (by kernel_rfl) Try.func4 (by kernel_rfl)
    (of_decide_eq_true (by kernel_rfl)) (by unfold Func.isWrapper; rw [if_neg (by decide +kernel)]; exact ⟨rfl, rfl⟩)
    (fun os started H enc _ => migrateMakes_lifted os started H enc)
end Go.Proofs.Ytmkpimdbmjpelaa
