/-
  One image, four forms: WholeForms answers true, whatever the image; and its tied card.
-/
import Derived.Test.YtpbmmoneeoijaaaGreatDoorP51
import Derived.Test.YtpbmmoneeoijaaaGreatDoorP52
namespace Go.Proofs.YtpbmmoneeoijaaaGreatDoor
open Go.ChangeShapes Go.WideShapes Go.ChangeAt Go.RowKit Go.Joins
set_option maxRecDepth 100000 in
theorem wholeForms_lifted (os:Os) (started:os.Started) (H:Type) (enc:TypeId×Value→H):
  ReturnsInHanded {} Tryz.checked os 5 .any (fun w args=>(Rows.wholeFormsSpec.pre enc Tryz.prog Tryz.f5 [] false w args∧laidMetH Tryz.prog zwj w)∧sizedMet enc Tryz.prog Tryz.f5 (OpenSpec.ofChange Rows.wholeFormsSpec) false w args)
   (Rows.wholeFormsSpec.post enc Tryz.prog Tryz.f5 false true false false):=
 law_laid started rfl (by kernel_rfl) Tryz.func5 (by kernel_rfl) rfl boolType
  (ChangeSpec.witness_shaped (enc:=enc) (C:=Tryz.checked) (os:=os) (X:=fun w _=>laidMetH Tryz.prog zwj w) false (World.doorLaid Tryz.prog 14 os) #[.agg #[qI 0,.slice none 0 0,.slice none 0 0,.slice none 0 0]] 8 rfl (World.shaped_of_RefB (by kernel_rfl) (by kernel_rfl)) (by kernel_rfl) (by kernel_rfl) (by kernel_rfl) (door_met os _))
  (fun ds h=>by match ds,h with| [_],_=>rfl)
  (fun W base args ds p hval hA hTab=>by
   rw [Tryz.params5] at hA hval;obtain⟨v0,vs0,d0,ds0,p0,q0,hargs,rfl,rfl,h0,r0⟩:=trodAll_cons hA;obtain⟨rfl,rfl,rfl⟩:=trodAll_nil r0;obtain rfl:args=#[v0]:=by cases args;simp_all
   obtain⟨x,g,M,q,hh,rfl,HX⟩:=zwk (hval 0 26 v0 rfl rfl) h0;exact znf x g M q hh W HX hTab)
set_option maxRecDepth 100000 in
theorem wholeForms_row:Rows.WholeFormsSaid:=
 OpenClaim.holds_of_wide 5 Tryz.f5 rfl rfl rfl rfl rfl rfl rfl ⟨rfl,rfl,rfl,rfl,rfl⟩ rfl rfl rfl rfl rfl (by as_aux_lemma=>kernel_rfl) Tryz.func5 wholeForms_joined
  (of_decide_eq_true (by as_aux_lemma=>kernel_rfl)) (by unfold Func.isWrapper;first|(rw [if_pos (by as_aux_lemma=>decide+kernel)];kernel_rfl)|(rw [if_neg (by as_aux_lemma=>decide+kernel)];exact⟨rfl,rfl⟩))
  (fun os started H enc _=>wholeForms_lifted os started H enc)
set_option maxRecDepth 100000 in
set_option maxHeartbeats 2000000 in
theorem wholeFormsCard_holds:Rows.WholeFormsCardSaid:=
 Claim7.holds_tied_plain_at .later [] [.data] true (true,"f397a386fbf72124166e8012605fc4fca7cb2e9e0a464bf10a14f85c017616d2") false
  wholeForms_row (fun _ h=>by cases h) (by as_aux_lemma=>kernel_rfl) (fun _ h=>by cases h) wholeForms_row_tie rfl ⟨rfl,rfl⟩ (by as_aux_lemma=>kernel_rfl) rfl
  (fun f fn hf hfn=>by
   obtain rfl:f=5:=Option.some.inj ((show Tryz.prog.funcNamed "remontoir/remontoirtop.WholeForms" =some 5 by as_aux_lemma=>kernel_rfl).symm.trans hf) |>.symm
   obtain rfl:fn=Tryz.f5:=(Option.some.inj (Tryz.func5.symm.trans hfn)).symm;exact⟨by as_aux_lemma=>kernel_rfl,fun j t ht=>by
    rw [Tryz.params5] at ht;have hm:t∈[26]:=by simpa using Array.mem_of_getElem? ht
    have hall:([26].all fun u=>!Tryz.prog.wantsStandIn u)=true:=by as_aux_lemma=>kernel_rfl
    exact (show Tryz.prog.wantsStandIn t=false by simpa using List.all_eq_true.1 hall t hm)⟩)
  (by as_aux_lemma=>kernel_rfl)
end Go.Proofs.YtpbmmoneeoijaaaGreatDoor
