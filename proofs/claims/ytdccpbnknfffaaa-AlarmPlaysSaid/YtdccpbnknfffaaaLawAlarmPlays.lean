/-
  Layer 48: whatever is set and stopped, and however many ticks go by, AlarmPlays answers true: which alarms go off when, in which order, how often, and what is due (at most 200 calls).
-/
import Derived.Test.YtdccpbnknfffaaaLaw
import Derived.Test.YtdccpbnknfffaaaRowS
import Derived.Test.YtdccpbnknfffaaaAlarmPlays
namespace Go.Proofs.Ytdccpbnknfffaaa
open Go.ChangeShapes Go.WideShapes Go.ChangeAt Go.RowKit Go.Joins
set_option maxRecDepth 100000 in
theorem alarmPlays_lifted (os : Os) (started : os.Started) (H : Type) (enc : TypeId × Value → H) :
    ReturnsInHanded {} Try.checked os 7 .any (Rows.alarmPlaysSpec.pre6 enc Try.prog Try.f7 Rows.alarmPlaysRow.domain false) (Rows.alarmPlaysSpec.post enc Try.prog Try.f7 false true false false) :=
  law_lifted (C := Try.checked) rfl started own laid rfl (by kernel_rfl) Try.func7 (by kernel_rfl) rfl boolType
    (ChangeSpec.witness6 (enc := enc) (C := Try.checked) false ⟨#[], #[.slice none 0 0], []⟩ 8 (by kernel_rfl) (by kernel_rfl) (by kernel_rfl) (by kernel_rfl))
    (fun ds h => by match ds, h with | [_], _ => rfl)
    (fun W base args ds p hval hA hlt hsz => by
      rw [Try.params7] at hA hval hsz
      obtain ⟨v0, vs0, d0, ds0, p0, q0, hargs, rfl, rfl, h0, r0⟩ := trodAll_cons hA
      obtain ⟨rfl, rfl, rfl⟩ := trodAll_nil r0
      obtain rfl : args = #[v0] := by cases args; simp_all
      obtain ⟨ao0, n0, cap0, rfl⟩ := okWide_slice Try.underlying50 (hval 0 50 v0 rfl rfl)
      obtain ⟨⟨g0, hg0, hw0⟩, hc0, hq0⟩ := structs_of_trod Try.underlying50 Try.underlying55 (by kernel_rfl) (by kernel_rfl) (by
        intro j f hj
        rcases j with _ | _ | _ | _ | j
        all_goals first | (simp at hj; done) | (simp at hj; subst hj; exact Try.underlying3)) (by decide) h0
      exact alarmPlays_walk ao0 n0 cap0 g0 W (fun i hi => by obtain ⟨b, o, e, h⟩ := hg0 i hi; exact ⟨b, o, e, h 0 (by decide), h 1 (by decide), h 2 (by decide), h 3 (by decide)⟩) (fun i j => hw0 i j) hc0 hq0)
theorem alarmPlays_holds : Rows.AlarmPlaysSaid :=
  OpenClaim.holds_of_wide 7 Try.f7 rfl rfl rfl rfl rfl rfl rfl ⟨rfl, rfl, rfl, rfl, rfl⟩ rfl rfl rfl rfl rfl (by kernel_rfl) Try.func7 (by kernel_rfl)
    (of_decide_eq_true (by kernel_rfl)) (by unfold Func.isWrapper; rw [if_neg (by decide +kernel)]; exact ⟨rfl, rfl⟩)
    (fun os started H enc _ => alarmPlays_lifted os started H enc)
end Go.Proofs.Ytdccpbnknfffaaa
