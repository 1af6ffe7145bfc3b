/-
  Layer 48: ticks gone through one by one are ticks that go by, and where one leaves, no more do: AlarmGoes answers true, whatever the alarms (at most 60) and the ticks (at most 500).
-/
import Derived.Test.YtdccpbnknfffaaaLaw
import Derived.Test.YtdccpbnknfffaaaRowS
import Derived.Test.YtdccpbnknfffaaaAlarmGoes
namespace Go.Proofs.Ytdccpbnknfffaaa
open Go.ChangeShapes Go.WideShapes Go.ChangeAt Go.RowKit Go.Joins
set_option maxRecDepth 100000 in
theorem alarmGoes_lifted (os : Os) (started : os.Started) (H : Type) (enc : TypeId × Value → H) :
    ReturnsInHanded {} Try.checked os 6 .any (Rows.alarmGoesSpec.pre6 enc Try.prog Try.f6 Rows.alarmGoesRow.domain false) (Rows.alarmGoesSpec.post enc Try.prog Try.f6 false true false false) :=
  law_lifted (C := Try.checked) rfl started own laid rfl (by kernel_rfl) Try.func6 (by kernel_rfl) rfl boolType
    (ChangeSpec.witness6 (enc := enc) (C := Try.checked) false ⟨#[], #[.slice none 0 0, .int .i64 0, .int .i64 0], []⟩ 8 (by kernel_rfl) (by kernel_rfl) (by kernel_rfl) (by kernel_rfl))
    (fun ds h => by match ds, h with | [_, _, _], _ => rfl)
    (fun W base args ds p hval hA hlt hsz => by
      rw [Try.params6] at hA hval hsz
      obtain ⟨v0, vs0, d0, ds0, p0, q0, hargs, rfl, rfl, h0, r0⟩ := trodAll_cons hA
      obtain ⟨v1, vs1, d1, ds1, p1, q1, rfl, rfl, rfl, h1, r1⟩ := trodAll_cons r0
      obtain ⟨v2, vs2, d2, ds2, p2, q2, rfl, rfl, rfl, h2, r2⟩ := trodAll_cons r1
      obtain ⟨rfl, rfl, rfl⟩ := trodAll_nil r2
      obtain rfl : args = #[v0, v1, v2] := by cases args; simp_all
      obtain ⟨ao0, n0, cap0, rfl⟩ := okWide_slice Try.underlying50 (hval 0 50 v0 rfl rfl)
      obtain ⟨⟨g0, hg0, hw0⟩, hc0, hq0⟩ := structs_of_trod Try.underlying50 Try.underlying55 (by kernel_rfl) (by kernel_rfl) (by
        intro j f hj
        rcases j with _ | _ | _ | _ | j
        all_goals first | (simp at hj; done) | (simp at hj; subst hj; exact Try.underlying3)) (by decide) h0
      obtain ⟨a1, rfl, rfl, rfl, w1⟩ := open_int Try.underlying3 (hval 1 3 v1 rfl rfl) h1
      obtain ⟨a2, rfl, rfl, rfl, w2⟩ := open_int Try.underlying3 (hval 2 3 v2 rfl rfl) h2
      exact alarmGoes_walk ao0 n0 cap0 g0 a1 a2 W (fun i hi => by obtain ⟨b, o, e, h⟩ := hg0 i hi; exact ⟨b, o, e, h 0 (by decide), h 1 (by decide), h 2 (by decide), h 3 (by decide)⟩) (fun i j => hw0 i j) hc0 hq0)
theorem alarmGoes_holds : Rows.AlarmGoesSaid :=
  OpenClaim.holds_of_wide 6 Try.f6 rfl rfl rfl rfl rfl rfl rfl ⟨rfl, rfl, rfl, rfl, rfl⟩ rfl rfl rfl rfl rfl (by kernel_rfl) Try.func6 (by kernel_rfl)
    (of_decide_eq_true (by kernel_rfl)) (by unfold Func.isWrapper; rw [if_neg (by decide +kernel)]; exact ⟨rfl, rfl⟩)
    (fun os started H enc _ => alarmGoes_lifted os started H enc)
end Go.Proofs.Ytdccpbnknfffaaa
