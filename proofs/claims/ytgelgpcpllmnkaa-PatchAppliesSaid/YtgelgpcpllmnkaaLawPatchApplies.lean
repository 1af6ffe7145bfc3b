/-
  Layer 55: whatever the old words and the pieces, PatchApplies answers true: what pieces come to, or why to nothing, and how many words they take, as the document says.
-/
import Derived.Test.YtgelgpcpllmnkaaLaw
import Derived.Test.YtgelgpcpllmnkaaPatchApplies
namespace Go.Proofs.Ytgelgpcpllmnkaa
open Go.ChangeShapes Go.WideShapes Go.ChangeAt Go.RowKit Go.Joins
set_option maxRecDepth 100000 in
theorem patchApplies_lifted (os : Os) (started : os.Started) (H : Type) (enc : TypeId × Value → H) :
    ReturnsInHanded {} Try.checked os 12 .any (Rows.patchAppliesSpec.pre6 enc Try.prog Try.f12 Rows.patchAppliesRow.domain false) (Rows.patchAppliesSpec.post enc Try.prog Try.f12 false true false false) :=
  law_lifted (C := Try.checked) rfl started own laid rfl (by kernel_rfl) Try.func12 (by kernel_rfl) rfl boolType
    (ChangeSpec.witness6 (enc := enc) (C := Try.checked) false ⟨#[], #[.slice none 0 0, .slice none 0 0], []⟩ 8 (by kernel_rfl) (by kernel_rfl) (by kernel_rfl) (by kernel_rfl))
    (fun ds h => by match ds, h with | [_, _], _ => rfl)
    (fun W base args ds p hval hA hlt hsz => by
      rw [Try.params12] at hA hval hsz
      obtain ⟨v0, vs0, d0, ds0, p0, q0, hargs, rfl, rfl, h0, r0⟩ := trodAll_cons hA
      obtain ⟨v1, vs1, d1, ds1, p1, q1, rfl, rfl, rfl, h1, r1⟩ := trodAll_cons r0
      obtain ⟨rfl, rfl, rfl⟩ := trodAll_nil r1
      obtain rfl : args = #[v0, v1] := by cases args; simp_all
      obtain ⟨ao0, n0, cap0, rfl⟩ := okWide_slice Try.underlying71 (hval 0 71 v0 rfl rfl)
      obtain ⟨zs0, hz0, hr0, hw0, hc0, hq0⟩ := row_of_trod Try.underlying71 Try.underlying72 (by kernel_rfl) h0 (fun x hx => hlt x (by simp [hx]))
      obtain ⟨ao1, n1, cap1, rfl⟩ := okWide_slice Try.underlying81 (hval 1 81 v1 rfl rfl)
      obtain ⟨⟨ps1, va1, vc1, rfl, hP1⟩, hc1, hq1⟩ := nest_of_trod Try.underlying81 Try.underlying88 (by kernel_rfl) (by kernel_rfl) rfl (by
        intro j f hj2 hj
        rcases j with _ | _ | j
        all_goals first | (exfalso; omega) | (simp at hj; subst hj; exact Try.underlying3)) (by
        intro f hf
        simp at hf; subst hf; rfl) Try.underlying71 Try.underlying72 (by kernel_rfl) h1
      exact patchApplies_walk ao0 ao1 n0 cap0 cap1 (fun i => zs0.getD i 0) ps1 va1 vc1 W hr0 hP1 hq0.1 hq0.2 hq1.1 hq1.2)
theorem patchApplies_holds : Rows.PatchAppliesSaid :=
  OpenClaim.holds_of_wide 12 Try.f12 rfl rfl rfl rfl rfl rfl rfl ⟨rfl, rfl, rfl, rfl, rfl⟩ rfl rfl rfl rfl rfl (by kernel_rfl) Try.func12 (by kernel_rfl)
    (of_decide_eq_true (by kernel_rfl)) (by unfold Func.isWrapper; rw [if_neg (by decide +kernel)]; exact ⟨rfl, rfl⟩)
    (fun os started H enc _ => patchApplies_lifted os started H enc)
end Go.Proofs.Ytgelgpcpllmnkaa
