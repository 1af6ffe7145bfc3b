/-
  Layer 46: whatever the tasks and the time, EdfAll answers true: how much work of all tasks has to be done in a time is that of their jobs, one by one.
-/
import Derived.Test.YtnpbogamoanbiaaLaw
import Derived.Test.YtnpbogamoanbiaaRowT
import Derived.Test.YtnpbogamoanbiaaEdfWalks
namespace Go.Proofs.Ytnpbogamoanbiaa
open Go.ChangeShapes Go.WideShapes Go.ChangeAt Go.RowKit Go.Joins
set_option maxRecDepth 100000 in
theorem edfAll_lifted (os : Os) (started : os.Started) (H : Type) (enc : TypeId × Value → H) :
    ReturnsInHanded {} Try.checked os 4 .any (Rows.edfAllSpec.pre6 enc Try.prog Try.f4 Rows.edfAllRow.domain false) (Rows.edfAllSpec.post enc Try.prog Try.f4 false true false false) :=
  law_lifted (C := Try.checked) rfl started own laid rfl (by kernel_rfl) Try.func4 (by kernel_rfl) rfl boolType
    (ChangeSpec.witness6 (enc := enc) (C := Try.checked) false ⟨#[], #[.slice none 0 0, .int .i64 0], []⟩ 8 (by kernel_rfl) (by kernel_rfl) (by kernel_rfl) (by kernel_rfl))
    (fun ds h => by match ds, h with | [_, _], _ => rfl)
    (fun W base args ds p hval hA hlt hsz => by
      rw [Try.params4] at hA hval hsz
      obtain ⟨v0, vs0, d0, ds0, p0, q0, hargs, rfl, rfl, h0, r0⟩ := trodAll_cons hA
      obtain ⟨v1, vs1, d1, ds1, p1, q1, rfl, rfl, rfl, h1, r1⟩ := trodAll_cons r0
      obtain ⟨rfl, rfl, rfl⟩ := trodAll_nil r1
      obtain rfl : args = #[v0, v1] := by cases args; simp_all
      obtain ⟨ao0, n0, cap0, rfl⟩ := okWide_slice Try.underlying30 (hval 0 30 v0 rfl rfl)
      obtain ⟨⟨g0, hg0, hw0⟩, hc0, hq0⟩ := flats_of_trod (K := 11) Try.underlying30 flat_task (by kernel_rfl) (by decide) h0
      obtain ⟨a1, rfl, rfl, rfl, w1⟩ := open_int Try.underlying3 (hval 1 3 v1 rfl rfl) h1
      exact edfAll_walk ao0 n0 cap0 a1 g0 W hc0 hg0)
theorem edfAll_holds : Rows.EdfAllSaid :=
  OpenClaim.holds_of_wide 4 Try.f4 rfl rfl rfl rfl rfl rfl rfl ⟨rfl, rfl, rfl, rfl, rfl⟩ rfl rfl rfl rfl rfl (by kernel_rfl) Try.func4 (by kernel_rfl)
    (of_decide_eq_true (by kernel_rfl)) (by unfold Func.isWrapper; rw [if_neg (by decide +kernel)]; exact ⟨rfl, rfl⟩)
    (fun os started H enc _ => edfAll_lifted os started H enc)
end Go.Proofs.Ytnpbogamoanbiaa
