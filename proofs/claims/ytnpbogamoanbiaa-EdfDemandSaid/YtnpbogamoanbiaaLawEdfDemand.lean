/-
  Layer 46: whatever the task and the time, EdfDemand answers true: how much work of a task has to be done in any time, or that a number is none.
-/
import Derived.Test.YtnpbogamoanbiaaLaw
import Derived.Test.YtnpbogamoanbiaaRowT
import Derived.Test.YtnpbogamoanbiaaEdfWalks
namespace Go.Proofs.Ytnpbogamoanbiaa
open Go.ChangeShapes Go.WideShapes Go.ChangeAt Go.RowKit Go.Joins
/-- A task by value. -/
theorem task_arg {H : Type} {enc : TypeId × Value → H} {w : World} {base : Nat} {spare : Nat → Bool} {held : Bool} {r : Reach} {b0 : Nat} {v : Value} {d : DataW H} {p : List MemPlace} (hv : Value.okWide Try.prog w r b0 24 v) (h : DataW.Trod enc Try.prog w base spare held 24 v d p) : ∃ x : Nat → Int, v = tv x := by
  obtain ⟨cs, rfl, hsz⟩ := okWide_struct Try.underlying24 hv
  rw [show Try.prog.cellsOf 24 = 11 by kernel_rfl] at hsz
  obtain ⟨fuel, hf⟩ := h
  obtain ⟨_, hg⟩ := flat_task _ _ _ _ _ _ _ _ _ hf
  rw [show Try.prog.cellsOf 24 = 11 by kernel_rfl] at hg
  have hg2 : ∀ j, j < 11 → ∃ z, cs[j]? = some (.int .i64 z) := fun j hj => by
    obtain ⟨z, hz, _⟩ := hg j hj
    exact ⟨z, by simpa [Value.cells] using hz⟩
  obtain ⟨x, hx⟩ : ∃ x : Nat → Int, ∀ j, j < 11 → cs[j]? = some (.int .i64 (x j)) := ⟨fun j => if h : j < 11 then (hg2 j h).choose else 0, fun j hj => by
    have h1 := (hg2 j hj).choose_spec
    show cs[j]? = some (Value.int .i64 (if h : j < 11 then (hg2 j h).choose else 0))
    rw [dif_pos hj]; exact h1⟩
  clear hg2 hg
  refine ⟨x, ?_⟩
  unfold tv
  congr 1
  apply Array.ext
  · rw [hsz]; rfl
  · intro i hi _
    have hi11 : i < 11 := by omega
    have h1 := hx i hi11
    rw [Array.getElem?_eq_getElem hi, Option.some.injEq] at h1
    rw [h1]
    match i, hi11 with
    | 0, _ => rfl
    | 1, _ => rfl
    | 2, _ => rfl
    | 3, _ => rfl
    | 4, _ => rfl
    | 5, _ => rfl
    | 6, _ => rfl
    | 7, _ => rfl
    | 8, _ => rfl
    | 9, _ => rfl
    | 10, _ => rfl
set_option maxRecDepth 100000 in
theorem edfDemand_lifted (os : Os) (started : os.Started) (H : Type) (enc : TypeId × Value → H) :
    ReturnsInHanded {} Try.checked os 3 .any (Rows.edfDemandSpec.pre6 enc Try.prog Try.f3 Rows.edfDemandRow.domain false) (Rows.edfDemandSpec.post enc Try.prog Try.f3 false true false false) :=
  law_lifted (C := Try.checked) rfl started own laid rfl (by kernel_rfl) Try.func3 (by kernel_rfl) rfl boolType
    (ChangeSpec.witness6 (enc := enc) (C := Try.checked) false ⟨#[], #[.agg #[.int .i64 0, .int .i64 0, .int .i64 0, .int .i64 0, .int .i64 0, .int .i64 0, .int .i64 0, .int .i64 0, .int .i64 0, .int .i64 0, .int .i64 0], .int .i64 0], []⟩ 8 (by kernel_rfl) (by kernel_rfl) (by kernel_rfl) (by kernel_rfl))
    (fun ds h => by match ds, h with | [_, _], _ => rfl)
    (fun W base args ds p hval hA hlt hsz => by
      rw [Try.params3] at hA hval hsz
      obtain ⟨v0, vs0, d0, ds0, p0, q0, hargs, rfl, rfl, h0, r0⟩ := trodAll_cons hA
      obtain ⟨v1, vs1, d1, ds1, p1, q1, rfl, rfl, rfl, h1, r1⟩ := trodAll_cons r0
      obtain ⟨rfl, rfl, rfl⟩ := trodAll_nil r1
      obtain rfl : args = #[v0, v1] := by cases args; simp_all
      obtain ⟨x0, rfl⟩ := task_arg (hval 0 24 v0 rfl rfl) h0
      obtain ⟨a1, rfl, rfl, rfl, w1⟩ := open_int Try.underlying3 (hval 1 3 v1 rfl rfl) h1
      exact edfDemand_walk x0 a1 W)
theorem edfDemand_holds : Rows.EdfDemandSaid :=
  OpenClaim.holds_of_wide 3 Try.f3 rfl rfl rfl rfl rfl rfl rfl ⟨rfl, rfl, rfl, rfl, rfl⟩ rfl rfl rfl rfl rfl (by kernel_rfl) Try.func3 (by kernel_rfl)
    (of_decide_eq_true (by kernel_rfl)) (by unfold Func.isWrapper; rw [if_neg (by decide +kernel)]; exact ⟨rfl, rfl⟩)
    (fun os started H enc _ => edfDemand_lifted os started H enc)
end Go.Proofs.Ytnpbogamoanbiaa
