/-
  A set that came in.
-/
import Derived.Test.YtijnpkbijljnlaaDoorImgIn
namespace Go.Proofs.YtijnpkbijljnlaaDoor
open Go.ChangeShapes Go.WideShapes Go.ChangeAt Go.RowKit Go.Joins
/-- A set that came in. -/
theorem set_of_wf {z : Int} (h : (Lit.int .u32 z).wf = true) : ∃ s : Nat, z = (s : Int) ∧ s < 4294967296 := by
  have h2 : IntKind.u32.min ≤ z ∧ z ≤ IntKind.u32.max := by simpa [Lit.wf] using h
  have e1 : IntKind.u32.min = 0 := by decide
  have e2 : IntKind.u32.max = 4294967295 := by decide
  exact ⟨z.toNat, by omega, by omega⟩
end Go.Proofs.YtijnpkbijljnlaaDoor
