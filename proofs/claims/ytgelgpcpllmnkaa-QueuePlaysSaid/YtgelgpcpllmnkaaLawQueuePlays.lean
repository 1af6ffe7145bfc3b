/-
  Layer 27: whatever the queue and the calls, QueuePlays answers true: what is there behind each call, in its order, what is answered, and how many were dropped.
-/
import Derived.Test.YtgelgpcpllmnkaaLaw
import Derived.Test.YtgelgpcpllmnkaaQueuePlays
import Derived.Test.YtgelgpcpllmnkaaNest
namespace Go.Proofs.Ytgelgpcpllmnkaa
open Go.ChangeShapes Go.WideShapes Go.ChangeAt Go.RowKit Go.Joins
set_option maxRecDepth 100000 in
theorem queuePlays_lifted (os : Os) (started : os.Started) (H : Type) (enc : TypeId × Value → H) :
    ReturnsInHanded {} Try.checked os 4 .any (Rows.queuePlaysSpec.pre6 enc Try.prog Try.f4 Rows.queuePlaysRow.domain false) (Rows.queuePlaysSpec.post enc Try.prog Try.f4 false true false false) :=
  law_lifted (C := Try.checked) rfl started own laid rfl (by kernel_rfl) Try.func4 (by kernel_rfl) rfl boolType
    (ChangeSpec.witness6 (enc := enc) (C := Try.checked) false ⟨#[], #[.agg #[.int .i64 0, .int .i64 0], .slice none 0 0], []⟩ 8 (by kernel_rfl) (by kernel_rfl) (by kernel_rfl) (by kernel_rfl))
    (fun ds h => by match ds, h with | [_, _], _ => rfl)
    (fun W base args ds p hval hA hlt hsz => by
      rw [Try.params4] at hA hval hsz
      obtain ⟨v0, vs0, d0, ds0, p0, q0, hargs, rfl, rfl, h0, r0⟩ := trodAll_cons hA
      obtain ⟨v1, vs1, d1, ds1, p1, q1, rfl, rfl, rfl, h1, r1⟩ := trodAll_cons r0
      obtain ⟨rfl, rfl, rfl⟩ := trodAll_nil r1
      obtain rfl : args = #[v0, v1] := by cases args; simp_all
      obtain ⟨c0_0, c0_1, y0_0, y0_1, m0, rfl, rfl, rfl, g0_0, g0_1⟩ := open_agg2 Try.underlying24 (by kernel_rfl) (by kernel_rfl) (hval 0 24 v0 rfl rfl) h0
      obtain ⟨a0_0, f0_0, _, w0_0⟩ := DataW.trod_int Try.underlying3 g0_0
      obtain ⟨a0_1, f0_1, _, w0_1⟩ := DataW.trod_int Try.underlying22 g0_1
      simp only [List.cons.injEq, and_true] at f0_0 f0_1
      subst f0_0 f0_1
      obtain ⟨ao1, n1, cap1, rfl⟩ := okWide_slice Try.underlying38 (hval 1 38 v1 rfl rfl)
      obtain ⟨⟨ps1, va1, vc1, rfl, hP1⟩, hc1, hq1⟩ := nest_of_trod_nil Try.underlying38 Try.underlying41 (by kernel_rfl) (by kernel_rfl) rfl (by
        intro j f hj2 hj
        rcases j with _ | _ | j
        all_goals first | (exfalso; omega) | (simp at hj; subst hj; exact Try.underlying3)) (by
        intro f hf
        simp at hf; subst hf; rfl) Try.underlying25 Try.underlying3 (by kernel_rfl) h1
      exact queuePlays_walk a0_0 a0_1 ao1 cap1 ps1 va1 vc1 W hP1 hq1.1 hq1.2)
theorem queuePlays_holds : Rows.QueuePlaysSaid :=
  OpenClaim.holds_of_wide 4 Try.f4 rfl rfl rfl rfl rfl rfl rfl ⟨rfl, rfl, rfl, rfl, rfl⟩ rfl rfl rfl rfl rfl (by kernel_rfl) Try.func4 (by kernel_rfl)
    (of_decide_eq_true (by kernel_rfl)) (by unfold Func.isWrapper; rw [if_neg (by decide +kernel)]; exact ⟨rfl, rfl⟩)
    (fun os started H enc _ => queuePlays_lifted os started H enc)
end Go.Proofs.Ytgelgpcpllmnkaa
