/-
  Layer 55: whatever the word and the number, PatchGreat answers true: of more than 4,096 words nothing is made.
-/
import Derived.Test.YtgelgpcpllmnkaaLaw
import Derived.Test.YtgelgpcpllmnkaaPatchGreat
namespace Go.Proofs.Ytgelgpcpllmnkaa
open Go.ChangeShapes Go.WideShapes Go.ChangeAt Go.RowKit Go.Joins
set_option maxRecDepth 100000 in
theorem patchGreat_lifted (os : Os) (started : os.Started) (H : Type) (enc : TypeId × Value → H) :
    ReturnsInHanded {} Try.checked os 10 .any (Rows.patchGreatSpec.pre6 enc Try.prog Try.f10 Rows.patchGreatRow.domain false) (Rows.patchGreatSpec.post enc Try.prog Try.f10 false true false false) :=
  law_lifted (C := Try.checked) rfl started own laid rfl (by kernel_rfl) Try.func10 (by kernel_rfl) rfl boolType
    (ChangeSpec.witness6 (enc := enc) (C := Try.checked) false ⟨#[], #[.int .u32 0, .int .i64 0], []⟩ 8 (by kernel_rfl) (by kernel_rfl) (by kernel_rfl) (by kernel_rfl))
    (fun ds h => by match ds, h with | [_, _], _ => rfl)
    (fun W base args ds p hval hA hlt hsz => by
      rw [Try.params10] at hA hval hsz
      obtain ⟨v0, vs0, d0, ds0, p0, q0, hargs, rfl, rfl, h0, r0⟩ := trodAll_cons hA
      obtain ⟨v1, vs1, d1, ds1, p1, q1, rfl, rfl, rfl, h1, r1⟩ := trodAll_cons r0
      obtain ⟨rfl, rfl, rfl⟩ := trodAll_nil r1
      obtain rfl : args = #[v0, v1] := by cases args; simp_all
      obtain ⟨a0, rfl, rfl, rfl, w0⟩ := open_int Try.underlying72 (hval 0 72 v0 rfl rfl) h0
      obtain ⟨a1, rfl, rfl, rfl, w1⟩ := open_int Try.underlying3 (hval 1 3 v1 rfl rfl) h1
      exact patchGreat_walk a0 a1 W)
theorem patchGreat_holds : Rows.PatchGreatSaid :=
  OpenClaim.holds_of_wide 10 Try.f10 rfl rfl rfl rfl rfl rfl rfl ⟨rfl, rfl, rfl, rfl, rfl⟩ rfl rfl rfl rfl rfl (by kernel_rfl) Try.func10 (by kernel_rfl)
    (of_decide_eq_true (by kernel_rfl)) (by unfold Func.isWrapper; rw [if_neg (by decide +kernel)]; exact ⟨rfl, rfl⟩)
    (fun os started H enc _ => patchGreat_lifted os started H enc)
end Go.Proofs.Ytgelgpcpllmnkaa
