/-
  Layer 54: whatever the words, the word and the number, RleSmall answers true: same words take two words for each 4,096, packed words are never more than half as many again, and one.
-/
import Derived.Test.YtgelgpcpllmnkaaLaw
import Derived.Test.YtgelgpcpllmnkaaRleSmall
namespace Go.Proofs.Ytgelgpcpllmnkaa
open Go.ChangeShapes Go.WideShapes Go.ChangeAt Go.RowKit Go.Joins
set_option maxRecDepth 100000 in
theorem rleSmall_lifted (os : Os) (started : os.Started) (H : Type) (enc : TypeId × Value → H) :
    ReturnsInHanded {} Try.checked os 7 .any (Rows.rleSmallSpec.pre6 enc Try.prog Try.f7 Rows.rleSmallRow.domain false) (Rows.rleSmallSpec.post enc Try.prog Try.f7 false true false false) :=
  law_lifted (C := Try.checked) rfl started own laid rfl (by kernel_rfl) Try.func7 (by kernel_rfl) rfl boolType
    (ChangeSpec.witness6 (enc := enc) (C := Try.checked) false ⟨#[], #[.slice none 0 0, .int .u32 0, .int .i64 0], []⟩ 8 (by kernel_rfl) (by kernel_rfl) (by kernel_rfl) (by kernel_rfl))
    (fun ds h => by match ds, h with | [_, _, _], _ => rfl)
    (fun W base args ds p hval hA hlt hsz => by
      rw [Try.params7] at hA hval hsz
      obtain ⟨v0, vs0, d0, ds0, p0, q0, hargs, rfl, rfl, h0, r0⟩ := trodAll_cons hA
      obtain ⟨v1, vs1, d1, ds1, p1, q1, rfl, rfl, rfl, h1, r1⟩ := trodAll_cons r0
      obtain ⟨v2, vs2, d2, ds2, p2, q2, rfl, rfl, rfl, h2, r2⟩ := trodAll_cons r1
      obtain ⟨rfl, rfl, rfl⟩ := trodAll_nil r2
      obtain rfl : args = #[v0, v1, v2] := by cases args; simp_all
      obtain ⟨ao0, n0, cap0, rfl⟩ := okWide_slice Try.underlying71 (hval 0 71 v0 rfl rfl)
      obtain ⟨zs0, hz0, hr0, hw0, hc0, hq0⟩ := row_of_trod Try.underlying71 Try.underlying72 (by kernel_rfl) h0 (fun x hx => hlt x (by simp [hx]))
      obtain ⟨a1, rfl, rfl, rfl, w1⟩ := open_int Try.underlying72 (hval 1 72 v1 rfl rfl) h1
      obtain ⟨a2, rfl, rfl, rfl, w2⟩ := open_int Try.underlying3 (hval 2 3 v2 rfl rfl) h2
      exact rleSmall_walk ao0 n0 cap0 (fun i => zs0.getD i 0) a1 a2 W hr0 hq0.1 hq0.2)
theorem rleSmall_holds : Rows.RleSmallSaid :=
  OpenClaim.holds_of_wide 7 Try.f7 rfl rfl rfl rfl rfl rfl rfl ⟨rfl, rfl, rfl, rfl, rfl⟩ rfl rfl rfl rfl rfl (by kernel_rfl) Try.func7 (by kernel_rfl)
    (of_decide_eq_true (by kernel_rfl)) (by unfold Func.isWrapper; rw [if_neg (by decide +kernel)]; exact ⟨rfl, rfl⟩)
    (fun os started H enc _ => rleSmall_lifted os started H enc)
end Go.Proofs.Ytgelgpcpllmnkaa
