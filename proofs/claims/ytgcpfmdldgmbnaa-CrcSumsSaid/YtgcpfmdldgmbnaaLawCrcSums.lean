/-
  Layer 4: whatever the input, CrcSums answers true: the sum of any bytes and of any words is the document's; each argument reads behind the call as it read before.
-/
import Derived.Test.YtgcpfmdldgmbnaaLaw
import Derived.Test.YtgcpfmdldgmbnaaCrcSums
namespace Go.Proofs.Ytgcpfmdldgmbnaa
open Go.ChangeShapes Go.WideShapes Go.ChangeAt Go.RowKit Go.Joins
set_option maxRecDepth 100000 in
theorem crcSums_lifted (os : Os) (started : os.Started) (H : Type) (enc : TypeId × Value → H) :
    ReturnsInHanded {} Try.checked os 8 .any (Rows.crcSumsSpec.pre6 enc Try.prog Try.f8 Rows.crcSumsRow.domain false) (Rows.crcSumsSpec.post enc Try.prog Try.f8 false true false false) :=
  law_lifted (C := Try.checked) rfl started own laid rfl (by kernel_rfl) Try.func8 (by kernel_rfl) rfl boolType
    (ChangeSpec.witness6 (enc := enc) (C := Try.checked) false ⟨#[], #[.slice none 0 0, .slice none 0 0], []⟩ 8 (by kernel_rfl) (by kernel_rfl) (by kernel_rfl) (by kernel_rfl))
    (fun ds h => by match ds, h with | [_, _], _ => rfl)
    (fun W base args ds p hval hA hlt hsz => by
      rw [Try.params8] at hA hval hsz
      obtain ⟨v0, vs0, d0, ds0, p0, q0, hargs, rfl, rfl, h0, r0⟩ := trodAll_cons hA
      obtain ⟨v1, vs1, d1, ds1, p1, q1, rfl, rfl, rfl, h1, r1⟩ := trodAll_cons r0
      obtain ⟨rfl, rfl, rfl⟩ := trodAll_nil r1
      obtain rfl : args = #[v0, v1] := by cases args; simp_all
      obtain ⟨ao0, n0, cap0, rfl⟩ := okWide_slice Try.underlying47 (hval 0 47 v0 rfl rfl)
      obtain ⟨zs0, hz0, hr0, hw0, hc0, hq0⟩ := row_of_trod Try.underlying47 Try.underlying5 (by kernel_rfl) h0 (fun x hx => hlt x (by simp [hx]))
      obtain ⟨ao1, n1, cap1, rfl⟩ := okWide_slice Try.underlying39 (hval 1 39 v1 rfl rfl)
      obtain ⟨zs1, hz1, hr1, hw1, hc1, hq1⟩ := row_of_trod Try.underlying39 Try.underlying22 (by kernel_rfl) h1 (fun x hx => hlt x (by simp [hx]))
      obtain ⟨fa, hfa⟩ := bytes_of hr0 hz0 hw0
      obtain ⟨fb, hfb⟩ := words_of hr1 hz1 hw1
      exact sums_walk ao0 ao1 n0 n1 cap0 cap1 fa fb W hc0 hc1 hfa hfb)
theorem crcSums_holds : Rows.CrcSumsSaid :=
  OpenClaim.holds_of_wide 8 Try.f8 rfl rfl rfl rfl rfl rfl rfl ⟨rfl, rfl, rfl, rfl, rfl⟩ rfl rfl rfl rfl rfl (by kernel_rfl) Try.func8 (by kernel_rfl)
    (of_decide_eq_true (by kernel_rfl)) (by unfold Func.isWrapper; rw [if_neg (by decide +kernel)]; exact ⟨rfl, rfl⟩)
    (fun os started H enc _ => crcSums_lifted os started H enc)
end Go.Proofs.Ytgcpfmdldgmbnaa
