/-
  Layer 7: whatever the input, HeaderReads answers true: how far a bank is, by any words of its sector, and where the next trial's word is.
-/
import Derived.Test.YtgcpfmdldgmbnaaLaw
import Derived.Test.YtgcpfmdldgmbnaaHeaderReads
namespace Go.Proofs.Ytgcpfmdldgmbnaa
open Go.ChangeShapes Go.WideShapes Go.ChangeAt Go.RowKit Go.Joins
set_option maxRecDepth 100000 in
theorem headerReads_lifted (os : Os) (started : os.Started) (H : Type) (enc : TypeId × Value → H) :
    ReturnsInHanded {} Try.checked os 12 .any (Rows.headerReadsSpec.pre6 enc Try.prog Try.f12 Rows.headerReadsRow.domain false) (Rows.headerReadsSpec.post enc Try.prog Try.f12 false true false false) :=
  law_lifted (C := Try.checked) rfl started own laid rfl (by kernel_rfl) Try.func12 (by kernel_rfl) rfl boolType
    (ChangeSpec.witness6 (enc := enc) (C := Try.checked) false ⟨#[], #[.slice none 0 0], []⟩ 8 (by kernel_rfl) (by kernel_rfl) (by kernel_rfl) (by kernel_rfl))
    (fun ds h => by match ds, h with | [_], _ => rfl)
    (fun W base args ds p hval hA hlt hsz => by
      rw [Try.params12] at hA hval hsz
      obtain ⟨v0, vs0, d0, ds0, p0, q0, hargs, rfl, rfl, h0, r0⟩ := trodAll_cons hA
      obtain ⟨rfl, rfl, rfl⟩ := trodAll_nil r0
      obtain rfl : args = #[v0] := by cases args; simp_all
      obtain ⟨ao0, n0, cap0, rfl⟩ := okWide_slice Try.underlying39 (hval 0 39 v0 rfl rfl)
      obtain ⟨zs0, hz0, hr0, hw0, hc0, hq0⟩ := row_of_trod Try.underlying39 Try.underlying22 (by kernel_rfl) h0 (fun x hx => hlt x (by simp [hx]))
      obtain ⟨h, hh⟩ := wds_of_row hz0 hr0 hw0
      exact headerReads_walk ao0 n0 cap0 h W hh hc0)
theorem headerReads_holds : Rows.HeaderReadsSaid :=
  OpenClaim.holds_of_wide 12 Try.f12 rfl rfl rfl rfl rfl rfl rfl ⟨rfl, rfl, rfl, rfl, rfl⟩ rfl rfl rfl rfl rfl (by kernel_rfl) Try.func12 (by kernel_rfl)
    (of_decide_eq_true (by kernel_rfl)) (by unfold Func.isWrapper; rw [if_neg (by decide +kernel)]; exact ⟨rfl, rfl⟩)
    (fun os started H enc _ => headerReads_lifted os started H enc)
end Go.Proofs.Ytgcpfmdldgmbnaa
