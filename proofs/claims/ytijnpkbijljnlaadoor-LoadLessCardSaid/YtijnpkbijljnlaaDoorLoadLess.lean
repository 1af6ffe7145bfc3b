/-
  The law on which part is less: the walk.
-/
import Derived.Test.YtijnpkbijljnlaaDoorLoadAlive
import Derived.Test.YtijnpkbijljnlaaDoorCheckRef
namespace Go.Proofs.YtijnpkbijljnlaaDoor
open Go.RowKit Go.Shelf
set_option maxRecDepth 100000 in
set_option maxHeartbeats 1000000 in
theorem loadLess_walk (an ad bn bd : Int) (w : World) (hTab : Tab w) : Calls Tryd.prog 7 #[.agg #[.int .i64 an, .int .i64 ad], .agg #[.int .i64 bn, .int .i64 bd]] w fun e w' => e = .returned (.bool true) ∧ Below w.heap.size w w' := by
  have hb2 : Below w.heap.size w ((w.alloc (Obj.cells #[.int .i64 an, .int .i64 ad] 46)).alloc (Obj.cells #[.int .i64 bn, .int .i64 bd] 46)) := ((Below.refl _ _).alloc (Nat.le_refl _) _).alloc (by simp) _
  have HL := hid fun X => less37_any an ad bn bd X
  have HA := hid fun X (h : Tab X) => alive37_any X h
  cases h1 : (mulR an bd).2 <;> cases h2 : (mulR bn ad).2
  all_goals
    unfold lessP at HL
    rw [h1, h2] at HL
    simp only [Bool.true_and, Bool.false_and, Bool.and_false] at HL
    go_enter Tryd.func7, Tryd.ntmps7
    go_wp2_with (first
      | (go_at_call 21; refine (mulRef_any _ _ _).mono ?_; rintro e w' ⟨rfl, rfl⟩)
      | (go_at_call 22; refine (HL.out _).mono ?_; rintro e w3 ⟨rfl, hb3⟩; have hbn := hb2.trans (hb3.mono hb2.size))
      | (go_at_call 17; refine (HA.out _ (hTab.below hbn hTab.pos)).mono ?_; rintro e w4 ⟨rfl, hb4⟩; have hbn4 := hbn.trans (hb4.mono hbn.size)))
    go_ret
    exact ⟨rfl, hbn4⟩
end Go.Proofs.YtijnpkbijljnlaaDoor
