/-
  Layer 37: a set that asks for more than all time is never one in which nobody is late: LoadOver answers true, whatever the image and the set; and its tied card.
-/
import Derived.Test.YtijnpkbijljnlaaDoorLawLaid
import Derived.Test.YtijnpkbijljnlaaDoorImgIn
import Derived.Test.YtijnpkbijljnlaaDoorSetIn
import Derived.Test.YtijnpkbijljnlaaDoorLoadOverW
namespace Go.Proofs.YtijnpkbijljnlaaDoor
open Go.ChangeShapes Go.WideShapes Go.ChangeAt Go.RowKit Go.Joins
set_option maxRecDepth 100000 in
theorem loadOver_lifted (os : Os) (started : os.Started) (H : Type) (enc : TypeId × Value → H) :
    ReturnsInHanded {} Tryd.checked os 6 .any (fun w args => (Rows.loadOverSpec.pre enc Tryd.prog Tryd.f6 [] false w args ∧ laidMetH Tryd.prog laidL w) ∧ sizedMet enc Tryd.prog Tryd.f6 (OpenSpec.ofChange Rows.loadOverSpec) false w args)
      (Rows.loadOverSpec.post enc Tryd.prog Tryd.f6 false true false false) :=
  law_laid started rfl (by kernel_rfl) Tryd.func6 (by kernel_rfl) rfl boolType
    (ChangeSpec.witness_shaped (enc := enc) (C := Tryd.checked) (os := os) (X := fun w _ => laidMetH Tryd.prog laidL w) false (World.doorLaid Tryd.prog 14 os) #[.agg #[.int .i64 0, .slice none 0 0, .slice none 0 0, .slice none 0 0], .int .u32 0] 8 rfl (World.shaped_of_RefB (by kernel_rfl) (by kernel_rfl)) (by kernel_rfl) (by kernel_rfl) (by kernel_rfl) (door_met os _))
    (fun ds h => by match ds, h with | [_, _], _ => rfl)
    (fun W base args ds p hval hA hTab => by
      rw [Tryd.params6] at hA hval
      obtain ⟨v0, vs0, d0, ds0, p0, q0, hargs, rfl, rfl, h0, r0⟩ := trodAll_cons hA
      obtain ⟨v1, vs1, d1, ds1, p1, q1, rfl, rfl, rfl, h1, r1⟩ := trodAll_cons r0
      obtain ⟨rfl, rfl, rfl⟩ := trodAll_nil r1
      obtain rfl : args = #[v0, v1] := by cases args; simp_all
      obtain ⟨x, g, M, q, hh, rfl, HX⟩ := img_of_trod (hval 0 26 v0 rfl rfl) h0
      obtain ⟨a1, rfl, rfl, rfl, w1⟩ := open_int Tryd.underlying28 (hval 1 28 v1 rfl rfl) h1
      obtain ⟨s, rfl, hs⟩ := set_of_wf w1
      exact loadOver_walk x g M q hh s W hs HX hTab)
theorem loadOver_row : Rows.LoadOverSaid :=
  OpenClaim.holds_of_wide 6 Tryd.f6 rfl rfl rfl rfl rfl rfl rfl ⟨rfl, rfl, rfl, rfl, rfl⟩ rfl rfl rfl rfl rfl (by kernel_rfl) Tryd.func6 (by kernel_rfl)
    (of_decide_eq_true (by kernel_rfl)) (by unfold Func.isWrapper; first | (rw [if_pos (by decide +kernel)]; kernel_rfl) | (rw [if_neg (by decide +kernel)]; exact ⟨rfl, rfl⟩))
    (fun os started H enc _ => loadOver_lifted os started H enc)
theorem loadOverCard_holds : Rows.LoadOverCardSaid :=
  Claim7.holds_tied_plain_at .later [] [.data] true (true, "d1ab8e8d5fd7b1e6e2e4a0a4078eecb789b9993c97c18a3e029ffba3a5f20210") false
    loadOver_row (fun _ h => by cases h) (by kernel_rfl) (fun _ h => by cases h) loadOver_row_tie rfl ⟨rfl, rfl⟩ (by kernel_rfl) rfl
    (fun f fn hf hfn => by
      obtain rfl : f = 6 := Option.some.inj ((show Tryd.prog.funcNamed "remontoir/remontoirlaw37.LoadOver" = some 6 by kernel_rfl).symm.trans hf) |>.symm
      obtain rfl : fn = Tryd.f6 := (Option.some.inj (Tryd.func6.symm.trans hfn)).symm
      exact ⟨by kernel_rfl, fun j t ht => by
        rw [Tryd.params6] at ht
        have hm : t ∈ [26, 28] := by simpa using Array.mem_of_getElem? ht
        have hall : ([26, 28].all fun u => !Tryd.prog.wantsStandIn u) = true := by kernel_rfl
        exact (show Tryd.prog.wantsStandIn t = false by simpa using List.all_eq_true.1 hall t hm)⟩)
    (by kernel_rfl)
end Go.Proofs.YtijnpkbijljnlaaDoor
