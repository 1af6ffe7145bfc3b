/-
  No message is lost untold: WholeMessages answers true, whatever the image and the calls; and its tied card.
-/
import Derived.Test.YtpbmmoneeoijaaaGreatDoorP50
import Derived.Test.YtpbmmoneeoijaaaGreatDoorP51
namespace Go.Proofs.YtpbmmoneeoijaaaGreatDoor
open Go.ChangeShapes Go.WideShapes Go.ChangeAt Go.RowKit Go.Joins
set_option maxRecDepth 100000 in
theorem wholeMessages_lifted (os:Os) (started:os.Started) (H:Type) (enc:TypeId×Value→H):
  ReturnsInHanded {} Tryz.checked os 4 .any (fun w args=>(Rows.wholeMessagesSpec.pre enc Tryz.prog Tryz.f4 [] false w args∧laidMetH Tryz.prog zs3 w)∧sizedMet enc Tryz.prog Tryz.f4 (OpenSpec.ofChange Rows.wholeMessagesSpec) false w args)
   (Rows.wholeMessagesSpec.post enc Tryz.prog Tryz.f4 false true false false):=
 law_laid started rfl (by kernel_rfl) Tryz.func4 (by kernel_rfl) rfl boolType
  (ChangeSpec.witness_shaped (enc:=enc) (C:=Tryz.checked) (os:=os) (X:=fun w _=>laidMetH Tryz.prog zs3 w) false (World.doorLaid Tryz.prog 14 os) #[.agg #[.int .i64 0,.slice none 0 0,.slice none 0 0,.slice none 0 0],.slice none 0 0] 8 rfl (World.shaped_of_RefB (by kernel_rfl) (by kernel_rfl)) (by kernel_rfl) (by kernel_rfl) (by kernel_rfl) (door_met os _))
  (fun ds h=>by match ds,h with| [_,_],_=>rfl)
  (fun W base args ds p hval hA hTab=>by
   rw [Tryz.params4] at hA hval;obtain⟨v0,vs0,d0,ds0,p0,q0,hargs,rfl,rfl,h0,r0⟩:=trodAll_cons hA;obtain⟨v1,vs1,d1,ds1,p1,q1,rfl,rfl,rfl,h1,r1⟩:=trodAll_cons r0;obtain⟨rfl,rfl,rfl⟩:=trodAll_nil r1;obtain rfl:args=#[v0,v1]:=by cases args;simp_all
   obtain⟨x,g,M,q,hh,rfl,HX⟩:=zs7 (hval 0 26 v0 rfl rfl) h0;obtain⟨lo,ln,lc,f,rfl,hln,HO⟩:=zsm (hval 1 51 v1 rfl rfl) h1;exact zie x g M q hh lo ln lc f W HX hln HO hTab)
set_option maxRecDepth 100000 in
theorem wholeMessages_row:Rows.WholeMessagesSaid:=
 OpenClaim.holds_of_wide 4 Tryz.f4 rfl rfl rfl rfl rfl rfl rfl ⟨rfl,rfl,rfl,rfl,rfl⟩ rfl rfl rfl rfl rfl (by as_aux_lemma=>kernel_rfl) Tryz.func4 wholeMessages_joined
  (of_decide_eq_true (by as_aux_lemma=>kernel_rfl)) (by unfold Func.isWrapper;first|(rw [if_pos (by as_aux_lemma=>decide+kernel)];kernel_rfl)|(rw [if_neg (by as_aux_lemma=>decide+kernel)];exact⟨rfl,rfl⟩))
  (fun os started H enc _=>wholeMessages_lifted os started H enc)
set_option maxRecDepth 100000 in
set_option maxHeartbeats 2000000 in
theorem wholeMessagesCard_holds:Rows.WholeMessagesCardSaid:=
 Claim7.holds_tied_plain_at .later [] [.data] true (true,"f397a386fbf72124166e8012605fc4fca7cb2e9e0a464bf10a14f85c017616d2") false
  wholeMessages_row (fun _ h=>by cases h) (by as_aux_lemma=>kernel_rfl) (fun _ h=>by cases h) wholeMessages_row_tie rfl ⟨rfl,rfl⟩ (by as_aux_lemma=>kernel_rfl) rfl
  (fun f fn hf hfn=>by
   obtain rfl:f=4:=Option.some.inj ((show Tryz.prog.funcNamed "remontoir/remontoirtop.WholeMessages" =some 4 by as_aux_lemma=>kernel_rfl).symm.trans hf) |>.symm
   obtain rfl:fn=Tryz.f4:=(Option.some.inj (Tryz.func4.symm.trans hfn)).symm;exact⟨by as_aux_lemma=>kernel_rfl,fun j t ht=>by
    rw [Tryz.params4] at ht;have hm:t∈[26,51]:=by simpa using Array.mem_of_getElem? ht
    have hall:([26,51].all fun u=>!Tryz.prog.wantsStandIn u)=true:=by as_aux_lemma=>kernel_rfl
    exact (show Tryz.prog.wantsStandIn t=false by simpa using List.all_eq_true.1 hall t hm)⟩)
  (by as_aux_lemma=>kernel_rfl)
end Go.Proofs.YtpbmmoneeoijaaaGreatDoor
