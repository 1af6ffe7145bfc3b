/-
  Layer 55: whatever the old words and the new ones, PatchMakes answers true: the pieces that the program makes are those of the document.
-/
import Derived.Test.YtgelgpcpllmnkaaLaw
import Derived.Test.YtgelgpcpllmnkaaPatchMakes
namespace Go.Proofs.Ytgelgpcpllmnkaa
open Go.ChangeShapes Go.WideShapes Go.ChangeAt Go.RowKit Go.Joins
set_option maxRecDepth 100000 in
theorem patchMakes_lifted (os : Os) (started : os.Started) (H : Type) (enc : TypeId × Value → H) :
    ReturnsInHanded {} Try.checked os 11 .any (Rows.patchMakesSpec.pre6 enc Try.prog Try.f11 Rows.patchMakesRow.domain false) (Rows.patchMakesSpec.post enc Try.prog Try.f11 false true false false) :=
  law_lifted (C := Try.checked) rfl started own laid rfl (by kernel_rfl) Try.func11 (by kernel_rfl) rfl boolType
    (ChangeSpec.witness6 (enc := enc) (C := Try.checked) false ⟨#[], #[.slice none 0 0, .slice none 0 0], []⟩ 8 (by kernel_rfl) (by kernel_rfl) (by kernel_rfl) (by kernel_rfl))
    (fun ds h => by match ds, h with | [_, _], _ => rfl)
    (fun W base args ds p hval hA hlt hsz => by
      rw [Try.params11] at hA hval hsz
      obtain ⟨v0, vs0, d0, ds0, p0, q0, hargs, rfl, rfl, h0, r0⟩ := trodAll_cons hA
      obtain ⟨v1, vs1, d1, ds1, p1, q1, rfl, rfl, rfl, h1, r1⟩ := trodAll_cons r0
      obtain ⟨rfl, rfl, rfl⟩ := trodAll_nil r1
      obtain rfl : args = #[v0, v1] := by cases args; simp_all
      obtain ⟨ao0, n0, cap0, rfl⟩ := okWide_slice Try.underlying71 (hval 0 71 v0 rfl rfl)
      obtain ⟨zs0, hz0, hr0, hw0, hc0, hq0⟩ := row_of_trod Try.underlying71 Try.underlying72 (by kernel_rfl) h0 (fun x hx => hlt x (by simp [hx]))
      obtain ⟨ao1, n1, cap1, rfl⟩ := okWide_slice Try.underlying71 (hval 1 71 v1 rfl rfl)
      obtain ⟨zs1, hz1, hr1, hw1, hc1, hq1⟩ := row_of_trod Try.underlying71 Try.underlying72 (by kernel_rfl) h1 (fun x hx => hlt x (by simp [hx]))
      exact patchMakes_walk ao0 ao1 n0 n1 cap0 cap1 (fun i => zs0.getD i 0) (fun i => zs1.getD i 0) W hr0 hr1)
theorem patchMakes_holds : Rows.PatchMakesSaid :=
  OpenClaim.holds_of_wide 11 Try.f11 rfl rfl rfl rfl rfl rfl rfl ⟨rfl, rfl, rfl, rfl, rfl⟩ rfl rfl rfl rfl rfl (by kernel_rfl) Try.func11 (by kernel_rfl)
    (of_decide_eq_true (by kernel_rfl)) (by unfold Func.isWrapper; rw [if_neg (by decide +kernel)]; exact ⟨rfl, rfl⟩)
    (fun os started H enc _ => patchMakes_lifted os started H enc)
end Go.Proofs.Ytgelgpcpllmnkaa
