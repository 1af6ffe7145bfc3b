/-
  Layer 37: which part of all time is less: LoadLess answers true, whatever the parts; and its tied card.
-/
import Derived.Test.YtijnpkbijljnlaaDoorLawLaid
import Derived.Test.YtijnpkbijljnlaaDoorLoadLess
namespace Go.Proofs.YtijnpkbijljnlaaDoor
open Go.ChangeShapes Go.WideShapes Go.ChangeAt Go.RowKit Go.Joins
set_option maxRecDepth 100000 in
theorem loadLess_lifted (os : Os) (started : os.Started) (H : Type) (enc : TypeId × Value → H) :
    ReturnsInHanded {} Tryd.checked os 7 .any (fun w args => (Rows.loadLessSpec.pre enc Tryd.prog Tryd.f7 [] false w args ∧ laidMetH Tryd.prog laidL w) ∧ sizedMet enc Tryd.prog Tryd.f7 (OpenSpec.ofChange Rows.loadLessSpec) false w args)
      (Rows.loadLessSpec.post enc Tryd.prog Tryd.f7 false true false false) :=
  law_laid started rfl (by kernel_rfl) Tryd.func7 (by kernel_rfl) rfl boolType
    (ChangeSpec.witness_shaped (enc := enc) (C := Tryd.checked) (os := os) (X := fun w _ => laidMetH Tryd.prog laidL w) false (World.doorLaid Tryd.prog 14 os) #[.agg #[.int .i64 0, .int .i64 0], .agg #[.int .i64 0, .int .i64 0]] 8 rfl (World.shaped_of_RefB (by kernel_rfl) (by kernel_rfl)) (by kernel_rfl) (by kernel_rfl) (by kernel_rfl) (door_met os _))
    (fun ds h => by match ds, h with | [_, _], _ => rfl)
    (fun W base args ds p hval hA hTab => by
      rw [Tryd.params7] at hA hval
      obtain ⟨v0, vs0, d0, ds0, p0, q0, hargs, rfl, rfl, h0, r0⟩ := trodAll_cons hA
      obtain ⟨v1, vs1, d1, ds1, p1, q1, rfl, rfl, rfl, h1, r1⟩ := trodAll_cons r0
      obtain ⟨rfl, rfl, rfl⟩ := trodAll_nil r1
      obtain rfl : args = #[v0, v1] := by cases args; simp_all
      obtain ⟨c0_0, c0_1, y0_0, y0_1, m0, rfl, rfl, rfl, g0_0, g0_1⟩ := open_agg2 Tryd.underlying46 (by kernel_rfl) (by kernel_rfl) (hval 0 46 v0 rfl rfl) h0
      obtain ⟨a0, f0, _, w0⟩ := DataW.trod_int Tryd.underlying3 g0_0
      obtain ⟨a1, f1, _, w1⟩ := DataW.trod_int Tryd.underlying3 g0_1
      simp only [List.cons.injEq, and_true] at f0 f1
      subst f0 f1
      obtain ⟨c1_0, c1_1, y1_0, y1_1, m1, rfl, rfl, rfl, g1_0, g1_1⟩ := open_agg2 Tryd.underlying46 (by kernel_rfl) (by kernel_rfl) (hval 1 46 v1 rfl rfl) h1
      obtain ⟨b0, f2, _, w2⟩ := DataW.trod_int Tryd.underlying3 g1_0
      obtain ⟨b1, f3, _, w3⟩ := DataW.trod_int Tryd.underlying3 g1_1
      simp only [List.cons.injEq, and_true] at f2 f3
      subst f2 f3
      exact loadLess_walk a0 a1 b0 b1 W hTab)
theorem loadLess_row : Rows.LoadLessSaid :=
  OpenClaim.holds_of_wide 7 Tryd.f7 rfl rfl rfl rfl rfl rfl rfl ⟨rfl, rfl, rfl, rfl, rfl⟩ rfl rfl rfl rfl rfl (by kernel_rfl) Tryd.func7 (by kernel_rfl)
    (of_decide_eq_true (by kernel_rfl)) (by unfold Func.isWrapper; first | (rw [if_pos (by decide +kernel)]; kernel_rfl) | (rw [if_neg (by decide +kernel)]; exact ⟨rfl, rfl⟩))
    (fun os started H enc _ => loadLess_lifted os started H enc)
theorem loadLessCard_holds : Rows.LoadLessCardSaid :=
  Claim7.holds_tied_plain_at .later [] [.data] true (true, "d1ab8e8d5fd7b1e6e2e4a0a4078eecb789b9993c97c18a3e029ffba3a5f20210") false
    loadLess_row (fun _ h => by cases h) (by kernel_rfl) (fun _ h => by cases h) loadLess_row_tie rfl ⟨rfl, rfl⟩ (by kernel_rfl) rfl
    (fun f fn hf hfn => by
      obtain rfl : f = 7 := Option.some.inj ((show Tryd.prog.funcNamed "remontoir/remontoirlaw37.LoadLess" = some 7 by kernel_rfl).symm.trans hf) |>.symm
      obtain rfl : fn = Tryd.f7 := (Option.some.inj (Tryd.func7.symm.trans hfn)).symm
      exact ⟨by kernel_rfl, fun j t ht => by
        rw [Tryd.params7] at ht
        have hm : t ∈ [46, 46] := by simpa using Array.mem_of_getElem? ht
        have hall : ([46, 46].all fun u => !Tryd.prog.wantsStandIn u) = true := by kernel_rfl
        exact (show Tryd.prog.wantsStandIn t = false by simpa using List.all_eq_true.1 hall t hm)⟩)
    (by kernel_rfl)
end Go.Proofs.YtijnpkbijljnlaaDoor
