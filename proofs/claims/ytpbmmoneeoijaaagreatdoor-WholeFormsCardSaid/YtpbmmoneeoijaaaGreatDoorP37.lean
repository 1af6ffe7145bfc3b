/-
  A part of the proof: DecEdge DecMode DecKit.
-/
import Derived.Test.YtpbmmoneeoijaaaGreatDoorP36
namespace Go.Proofs.YtpbmmoneeoijaaaGreatDoor
open Go.RowKit Go.Deep Go.Shelf
set_option maxRecDepth 100000
set_option maxHeartbeats 8000000
attribute [local go_sem] Oper.semAt_some zaq
set_option maxRecDepth 100000
theorem zD8 (f:Nat→Int) (s:Nat) {i:Nat} (hi:i < 4):(zfi f s)[3+i]? =some (f (19+i)):=by
 unfold zfi;rw [List.getElem?_append_left (by simp;omega)];obtain rfl|rfl|rfl|rfl:i=0∨i=1∨i=2∨i=3:=by omega
 all_goals rfl
theorem edgeW_at {f:Nat→Int} {s:Nat} {pre rest:List Nat} {i:Nat} (h3:f 2=3) (h:pre ++ [i] ++ rest=zae s):(zfi f s)[7+pre.length]? =some (f (3+i)):=by
 unfold zfi;rw [if_pos h3,List.getElem?_append_right (by simp),←h];simp
theorem zlw (f:Nat→Int) (s:Nat):(zfi f s).length=7+if f 2=3 then (zae s).length else 0:=by
 unfold zfi
 split<;>simp
 omega
theorem zu7.part {f:Nat→Int} {s:Nat} (h:zu7 f s) (_h3:f 2=3):zhd 19 f (zae s)=f:=zon fun j h1 h2 hn=>by
 have:=h.of (j - 3) (by omega);rw [show 3+(j - 3)=j by omega] at this;rcases this with ⟨_,_,h4⟩
 by_cases h0:f j=0
 ·exact h0
 ·have:=(h4 h0).2
  rw [zyu _ _ (by omega),←zBt (by omega)] at this;exact absurd this hn
theorem zu7.none {f:Nat→Int} {s:Nat} (h:zu7 f s) (h3:f 2≠3):zhd 19 f []=f:=zon fun j h1 h2 hn=>by
 have:=h.of (j - 3) (by omega);rw [show 3+(j - 3)=j by omega] at this;rcases this with ⟨_,_,h4⟩
 by_cases h0:f j=0
 ·exact h0
 ·exact absurd (h4 h0).1 h3
theorem zoe (f:Nat→Int):(Tryz.prog.info? 176).map (·.size)=some ((List.range 23).map fun j=>qI (f j)).length:=by rw [List.length_map,List.length_range];kernel_rfl
theorem zh7 (f:Nat→Int):(Tryz.prog.info? 176).map (·.size)=some (rowA 23 f).size:=by rw [show (rowA 23 f).size=23 by simp [rowA]];kernel_rfl
theorem zw6 {b gB c:Nat} {ws:List Int} {k:Nat} {w:World} (h:WdAt b gB c ws k w) (y:Img) (K:Nat→zas) (f:Nat→Int) (hM:zcu w y.mo y.mn K) (htb:∀ j,j < y.mn→(K j).t < 4294967296) (s:Nat) (hs:zcl (zai y K (f 1)) (zai y K (f 0))=s) (hs16:s < 65536) (hf:zu7 f s)
  (hws:∀ i x,(zfi f s)[i]? =some x→ws[k+i]? =some x) (hT:Tab w) (hb1:0 < b):
  Calls Tryz.prog 82 #[qP b,iv y] w fun e w'=>e=.returned (.agg (rowA 23 f))∧WdAt b gB c ws (k+(zfi f s).length) w'∧Save (fun k=>k=b) w w':=by
 have e0:=hws 0 (f 0) rfl;have e1:=hws 1 (f 1) rfl;have e2:=hws 2 (f 2) rfl;have HFR:=hid fun (X:World) (hX:Save (fun i=>i=b) w X) (f':Nat→Int) (h0:f' 0=f 0) (h1:f' 1=f 1)=>(show Calls Tryz.prog 160 #[iv y,.agg (rowA 23 f')] X fun e w'=>e=.returned (qU (s:Nat))∧Below X.heap.size X w' from by
  have hMX:zcu X y.mo y.mn K:=fun i hi=>by
   obtain⟨b',o',e,m1,m2⟩:=hM i hi;have hne:b'≠b:=by
    rintro rfl;have:=zaa h.blk (o'+i * 2);rw [m1] at this;have hlt:o'+i * 2 < 3:=by
     by_cases hlt:o'+i * 2 < 3
     ·exact hlt
     ·rw [Array.getElem?_eq_none (by simp;omega)] at this;cases this
    obtain h3|h3|h3:o'+i * 2=0∨o'+i * 2=1∨o'+i * 2=2:=by omega
    all_goals (rw [h3] at this;simp at this)
   have key:∀ z v,w.cell? ⟨b',z,none⟩=some v→X.cell? ⟨b',z,none⟩=some v:=fun z v hz=>(World.cell?_of_block (w:=w) (w':=X) (a:=⟨b',z,none⟩) (hX.block b' (zcr hz) hne)).trans hz;exact⟨b',o',e,key _ _ m1,key _ _ m2⟩
  have:=zuh y K f' X hMX htb;rw [h0,h1,hs] at this;exact this)
 have HF:=hid hf;have HWS:=hid hws;have hgw:gB < w.heap.size:=zcr (h.wds _ _ e0).1;have hbw:b < w.heap.size:=(qLt h.blk);obtain⟨r,ao,n,cap,mo,mn,mc,eo,en,ec⟩:=y;unfold iv at HFR ⊢;dsimp only at HFR ⊢;clear hM htb hs;refine (callsIn_wide (n:=8)).1 ?_;have h1:1≤8:=by omega
 refine callsIn_of_wp_marks Tryz.func82 rfl trivial ?_ rfl;simp only [Tryz.ntmps82,qPr,Nat.reduceAdd,Nat.reduceSub];obtain⟨p,hp⟩:∃ p,w.heap.size=p:=⟨_,rfl⟩;obtain⟨V0,hV0⟩:∃ X,X=((w.alloc (qC #[qP b] 191)).alloc (qC #[qI r,.slice ao n cap,.slice mo mn mc,.slice eo en ec] 26)).alloc (qC qZ23 176):=⟨_,rfl⟩;obtain⟨W0,hW0⟩:∃ X,X=V0.drew:=⟨_,rfl⟩;have hB0:Below w.heap.size w W0:=by rw [hW0,hV0];exact (((qBr _).alloc (by simp) _).alloc (by simp;omega) _).drew
 have r1:W0.heap[p]? =some (qC #[qP b] 191):=by rw [hW0,hV0,←hp];exact (Below.heap_alloc _ _ _ (by simp;omega)).trans ((Below.heap_alloc _ _ _ (by simp)).trans (heap_alloc_new w _))
 have r2:W0.heap[p+1]? =some (qC #[qI r,.slice ao n cap,.slice mo mn mc,.slice eo en ec] 26):=by
  rw [hW0,hV0,←hp];have:=heap_alloc_new (w.alloc (qC #[qP b] 191)) (qC #[qI r,.slice ao n cap,.slice mo mn mc,.slice eo en ec] 26);rw [World.size_alloc] at this;exact (Below.heap_alloc _ _ _ (by simp)).trans this
 have r3:W0.heap[p+2]? =some (qC qZ23 176):=by
  rw [hW0,hV0,←hp];have:=heap_alloc_new ((w.alloc (qC #[qP b] 191)).alloc (qC #[qI r,.slice ao n cap,.slice mo mn mc,.slice eo en ec] 26)) (qC qZ23 176);rw [World.size_alloc,World.size_alloc] at this;exact this
 have HSZ:=hid (show W0.heap.size=p+3 by rw [hW0];show V0.heap.size=p+3;rw [hV0,←hp];simp);have HD:=hid (show DT b gB c ws W0 k W0 from ⟨h.save (Save.of_below hB0 (fun _=>False)) id id,Save.refl _ _⟩);have hb0:b < W0.heap.size:=by rw [HSZ.out];omega
 have hg0:gB < W0.heap.size:=by rw [HSZ.out];omega
 have R0:=hid fun (k:Nat) (X:World) (hX:DT b gB c ws W0 k X)=>zaa (hX.at r1 (by omega)) 0;have RI:=hid fun (k:Nat) (X:World) (hX:DT b gB c ws W0 k X)=>hX.at r2 (by omega);have RZ:=hid fun (k:Nat) (X:World) (hX:DT b gB c ws W0 k X)=>hX.at r3 (by omega);have HS0:=hid (Save.of_below hB0 (fun i=>i=b));have HTA:=hid fun (k:Nat) (X:World) (hX:DT b gB c ws W0 k X)=>show Tab X from fun j hj=>(World.cell?_of_block (w:=w) (w':=X) (a:=⟨0,j,none⟩) ((HS0.out.trans hX.s fun _ _ e=>e).block 0 (by omega) (fun e=>by omega))).trans (hT j hj);have f0:=HF.out.f0;have f1:=HF.out.f1;have f2:=HF.out.f2;have HN0:=hid fun (X:World) (hX:DT b gB c ws W0 k X)=>zcc hX.rd e0 8 (by omega);have HN1:=hid fun (X:World) (hX:DT b gB c ws W0 (k+1) X)=>zcc hX.rd e1 8 (by omega);have HN2:=hid fun (X:World) (hX:DT b gB c ws W0 (k+1+1) X)=>zcc hX.rd e2 3 (by omega);have HV0:=hid hV0;have HW0:=hid hW0;clear e0 e1 e2 r1 r2 r3 hW0 hV0 hB0 hT h hws hf f0 f1;have HP:=hid hp;refine wpIn_wide.2 ?_
 go_upto_region 1 with fail
 rw [←HV0.out];rw [hp] at hbw hgw;clear hp HV0;refine (wpIn_wide (n:=8)).1 ?_;obtain⟨OZ,hOZ⟩:∃ o,Obj.cells qZ23 176=o:=⟨_,rfl⟩;have HOZ:=hid hOZ;clear hOZ;refine wpIn_mono (Q:=fun e a' X=>e=.normal∧∃ tb ag,a'= { tmps:=#[qP b,.agg #[qI r,.slice ao n cap,.slice mo mn mc,.slice eo en ec],qP p,qP (p+1),qP (p+2),qP tb,undef,undef,qP b,qI (f 0),qP b,qI (f 1),qP b,qI (f 2),ag,undef,undef,undef,undef,undef,undef,undef,undef,undef,undef,undef,undef,undef,undef,undef,undef,undef,undef,undef,undef,undef,undef,undef,undef],defers:=[] }∧DT b gB c ws W0 (k+1+1+1) X∧X.heap[tb]? =some (Obj.cells (rowA 23 (zr6 f 0)) 176)∧p+3≤tb) (wpIn_wide.2 ?_) ?_
 ·refine zan [1,3,5,6,7,8] (fun X=>X.cell? ⟨p,0,none⟩=some (qP b)) (by kernel_rfl) (by kernel_rfl) (by rw [←HW0.out];exact R0.out _ _ HD.out) ?_
  rw [←HW0.out];clear HW0;refine qFs fun K hK=>?_;go_simp;refine⟨qP b,fun X hX=>?_,hK _ ?_⟩
  ·go_simp
  clear hK K;refine qFc ?_;refine qFs fun K hK=>?_;go_simp;refine⟨qP b,fun X hX=>?_,hK _ ?_⟩
  ·go_simp
  clear hK K;refine qFc ?_;refine qFs fun K hK=>?_;go_simp;refine⟨qP b,fun X hX=>?_,hK _ ?_⟩
  ·go_simp
  clear hK K;refine qFc ?_;refine qFc ?_;refine qFc ?_;refine qFc ?_;refine za9 ?_;refine qT2 1 7 [3,5,6,7,8] [1,3,5,6,8] (fun K hK=>?_) fun K hK=>?_
  rotate_left
  go_wp2_with fail
  rw [HOZ.out];obtain⟨tb,X,h1,h2,h3,h4,h5⟩:=HD.out.box0 OZ HSZ.out;rw [h1,h2];have HTB:=hid h3;have HB:=hid h4;have HD:=hid h5;refine hK _ _ (R0.out _ _ HD.out) ?_;clear hK K h1 h2 h3 h4 h5
  all_goals try refine qT1 1 [3,5,6,8] fun K hK=>?_
  all_goals
   go_wp2_with (go_at_call 79;refine (HN0.out _ HD.out).mono ?_;rintro e X ⟨rfl,hr,hs⟩)
   have HD:=hid (HD.out.next hr hs)
   try have HB:=hid (zap HB.out hs (by have:=HTB.out;omega))
   refine hK _ _ (R0.out _ _ HD.out) ?_;clear hK K hr hs
  rotate_right
  refine qT2 3 7 [5,6,7,8] [3,5,6,8] (fun K hK=>?_) fun K hK=>?_
  rotate_left
  go_wp2_with fail
  rw [HOZ.out];obtain⟨tb,X,h1,h2,h3,h4,h5⟩:=HD.out.box0 OZ HSZ.out;rw [h1,h2];have HTB:=hid h3;have HB:=hid h4;have HD:=hid h5;refine hK _ _ (R0.out _ _ HD.out) ?_;clear hK K h1 h2 h3 h4 h5
  all_goals try refine qT1 3 [5,6,8] fun K hK=>?_
  all_goals
   go_wp2_with (go_at_call 79;refine (HN1.out _ HD.out).mono ?_;rintro e X ⟨rfl,hr,hs⟩)
   have HD:=hid (HD.out.next hr hs)
   try have HB:=hid (zap HB.out hs (by have:=HTB.out;omega))
   refine hK _ _ (R0.out _ _ HD.out) ?_;clear hK K hr hs
  rotate_right
  refine qT2 5 7 [6,7,8] [5,6,8] (fun K hK=>?_) fun K hK=>?_
  rotate_left
  go_wp2_with fail
  rw [HOZ.out];obtain⟨tb,X,h1,h2,h3,h4,h5⟩:=HD.out.box0 OZ HSZ.out;rw [h1,h2];have HTB:=hid h3;have HB:=hid h4;have HD:=hid h5;refine hK _ _ (R0.out _ _ HD.out) ?_;clear hK K h1 h2 h3 h4 h5
  all_goals try refine qT1 5 [6,8] fun K hK=>?_
  all_goals
   go_wp2_with (go_at_call 79;refine (HN2.out _ HD.out).mono ?_;rintro e X ⟨rfl,hr,hs⟩)
   have HD:=hid (HD.out.next hr hs)
   try have HB:=hid (zap HB.out hs (by have:=HTB.out;omega))
   refine hK _ _ (R0.out _ _ HD.out) ?_;clear hK K hr hs
  rotate_right
  refine qT2 6 7 [7,8] [6,8] (fun K hK=>?_) fun K hK=>?_
  rotate_left
  go_wp2_with fail
  rw [HOZ.out];obtain⟨tb,X,h1,h2,h3,h4,h5⟩:=HD.out.box0 OZ HSZ.out;rw [h1,h2];have HTB:=hid h3;have HB:=hid h4;have HD:=hid h5;refine hK _ _ (R0.out _ _ HD.out) ?_;clear hK K h1 h2 h3 h4 h5
  all_goals try refine qT1 6 [8] fun K hK=>?_
  all_goals
   go_wp2_with fail
   refine hK _ _ (R0.out _ _ HD.out) ?_;clear hK K
  rotate_right
  refine qT1 7 [8] fun K hK=>?_
  go_wp2_with fail
  rw [HOZ.out];obtain⟨tb,X,h1,h2,h3,h4,h5⟩:=HD.out.box0 OZ HSZ.out;rw [h1,h2];have HTB:=hid h3;have HB:=hid h4;have HD:=hid h5;refine hK _ _ (R0.out _ _ HD.out) ?_;clear hK K h1 h2 h3 h4 h5
  all_goals
    refine zby (m:=0) (i:=8) (rem1:=[]) (by kernel_rfl) (by rfl) (by rfl) (by kernel_rfl) (fun K hK=>?_);have hb:=HB.out;rw [←HOZ.out] at hb;have hth:World.there _ tb 0 23:=fun j hj=>by
     refine⟨?_,zab hb _⟩;rw [zaa hb,Nat.zero_add,Array.getElem?_eq_getElem (by exact hj)];rfl
    refine wpList_store_mid rfl 176 _ _ rfl tb 0 _ rfl rfl hth (by kernel_rfl) (by simp [Value.oneCell']) ?_;refine hK _ _ ?_;refine za2 ?_;exact⟨(by first|exact trivial|rfl),tb,_,rfl,HD.out.other hg0 hb0 (zch tb _ 0 _) (fun i e=>by subst e;rw [HSZ.out];exact HTB.out),zdc tb 176 _ [] _ _ hb rfl,HTB.out⟩
 rintro _ _ X ⟨rfl,tb,ag,rfl,hD3,hbx,htb⟩;have HD3:=hid hD3;have HTB:=hid htb;clear hD3 htb HN0 HN1 HN2 HOZ;have HBX:=hid (show X.heap[tb]? =some (Obj.cells (rowA 23 (zr6 f 0)) 176) from hbx);clear hbx
 go_wp2_with fail
 go_loopw [15] (fun p_ wr=>∃ i:Nat,p_=qI i∧i≤4∧Hid (DT b gB c ws W0 (k+3+i) wr∧wr.heap[tb]? =some (Obj.cells (rowA 23 (zr6 f i)) 176))) (fun p_ _=>4 - (intOf p_).toNat)
 case atStart=>exact⟨0,rfl,by omega,HD3.out,HBX.out⟩
 case round=>
  obtain⟨i,rfl,hi,HM⟩:=hrel;by_cases hlt:i < 4
  ·have t0:decide ((i:Int) < 4)=true:=by simp;omega
   have e:=HWS.out (3+i) _ (zD8 f s hlt);rw [←Nat.add_assoc] at e;have HN3:=hid (zcc HM.out.1.rd e 4 (HF.out.mp i hlt).2);have HPM:=hid (zBc f i);obtain⟨v,hv⟩:∃ v,f (19+i)=v:=⟨_,rfl⟩;rw [hv] at HN3 HPM;clear e hv;have i0:(0:Int)≤(i:Int):=by omega
   have c0:=R0.out _ _ HM.out.1
   go_wp2_with (go_at_call 79;refine HN3.out.mono ?_;rintro e Z5 ⟨rfl,hr,hs⟩;have h5:=zap HM.out.2 hs (by have:=HTB.out;omega);have c5:=(zaa h5 (19+i)).trans (zjy _ (by omega));have f5:=zab h5 (19+i))
   have h5:=zap HM.out.2 hs (by have:=HTB.out;omega);have HD5:=hid ((HM.out.1.next hr hs).other hg0 hb0 (Save.set Z5 tb (19+i) (qI v)) fun i e=>by subst e;rw [HSZ.out];exact HTB.out);have HB5:=hid (show (Z5.setCell ⟨tb,19+i,none⟩ (qI v)).heap[tb]? =some (Obj.cells (rowA 23 (zr6 f (i+1))) 176) by rw [zbh h5,zrw,HPM.out]);clear hr hs h5 HN3 HPM c0;go_roundw
   case rel=>exact⟨i+1,by go_num,by omega,HD5.out,HB5.out⟩
   case measure=>simp [intOf];omega
  ·have t0:decide ((i:Int) < 4)=false:=by simp;omega
   obtain rfl:i=4:=by omega
   have HB4:=hid (show wr.heap[tb]? =some (Obj.cells (rowA 23 (zhd 19 f [])) 176) from zDa f▸HM.out.2);have HD4:=hid (show DT b gB c ws W0 (k+7) wr from HM.out.1);have c2:wr.cell? ⟨tb,2,none⟩=some (qI (f 2)):=(zaa HB4.out 2).trans (zjy _ (by decide));clear HM hlt hi t0;by_cases h3:f 2=3
   ·have t1:((f 2:Int) != 3)=false:=by simp [h3]
    have b0:=zaa (RI.out _ _ HD4.out) 0;have b1:=zaa (RI.out _ _ HD4.out) 1;have b2:=zaa (RI.out _ _ HD4.out) 2;have b3:=zaa (RI.out _ _ HD4.out) 3;have hran:=zh6 HB4.out;have H3:=hid h3;clear h3;have HFX:=hid (HFR.out wr (HS0.out.trans HD4.out.s fun _ _ e=>e) (zhd 19 f []) rfl rfl)
    go_wp2_with (first|(refine wpList_load_mid rfl 176 _ rfl tb 0 rfl _ _ hran Tryz.underlying176 rfl (zoe _) ?_)|(go_at_call 160;refine HFX.out.mono ?_;rintro e X4 ⟨rfl,hbf⟩)|(go_at_call 159;refine (zdk _ _).mono ?_;rintro e Xa ⟨rfl,rfl⟩))
    have HD5:=hid (HD4.out.below hbf);have HB5:=hid (qBa hbf HB4.out);clear hbf HFX hran HD4 HB4 b0 b1 b2 b3 c2;obtain⟨s4,hs4⟩:∃ n,X4.heap.size=n:=⟨_,rfl⟩;have HS4:=hid (show tb < s4 from hs4▸(qLt HB5.out));have hcs:=heap_alloc_new X4 (qC #[qU (s:Nat)] 140);have hab:=qBr (w:=X4) (qC #[qU (s:Nat)] 140);have HDa:=hid (HD5.out.below hab);have HBa:=hid (qBa hab HB5.out);rw [hs4] at hcs ⊢;have HW7:=hid (show (X4.alloc (qC #[qU (s:Nat)] 140)).heap.size=s4+1 by rw [World.size_alloc,hs4]);clear hab hs4 HD5 HB5;generalize X4.alloc (qC #[qU (s:Nat)] 140)=W7 at HDa HBa HW7 hcs ⊢;refine (wpIn_wide (n:=8)).1 ?_;refine zf9 rfl h1 (gf:=221) (lb:=#[qP s4]) rfl trivial (enters_of Tryz.func221 (by kernel_rfl) rfl)
     (zpr (8 - 1) (by omega) s4 1 s W7 (by omega) (by decide) (zaa hcs 0) (HTA.out _ _ HDa.out)) belowK_t (belowK_b (by have:=HW7.out;omega)) (Below.refl _ _) (fun _=>rfl)
     (fun (q:List Nat) Z=>DT b gB c ws W0 (k+7+q.length) Z∧Z.heap[tb]? =some (Obj.cells (rowA 23 (zhd 19 f q)) 176))
     (fun q Y Z row hz hg hr=>⟨hz.1.other hg0 hb0 (Save.of_grown hg) fun i e=>by have:=(hr i e).1;have:=HW7.out;have:=HS4.out;have:=HTB.out;have:=HSZ.out;omega,zap hz.2 (Save.of_grown hg) fun e=>by have:=(hr _ e).1;have:=HW7.out;have:=HS4.out;omega⟩)
     (fun _ _ hh=>hh.elim) (fun _ _ hh=>hh.elim) ⟨HDa.out,HBa.out⟩
     (fun (i:Nat) a' _=>a'= { tmps:=#[qP b,.agg #[qI r,.slice ao n cap,.slice mo mn mc,.slice eo en ec],qP p,qP (p+1),qP (p+2),qP tb,u6,qI i,qP b,qI (f 0),qP b,qI (f 1),qP b,qI (f 2),ag,qI 4,.bool false,u17,u18,u19,u20,u21,u22,u23,.pointer (some ⟨tb,2,none⟩),qI (f 2),.bool false,undef,.agg #[qI r,.slice ao n cap,.slice mo mn mc,.slice eo en ec],.agg (List.map (fun j=>qI (zhd 19 f [] j)) (List.range 23)).toArray,qU (s:Nat),.func (.func 221) #[] #[qP s4],qI i,undef,undef,undef,undef,undef,undef],defers:=[] }) (fun x a' _ X Y row hz hg hr=>hz)
     ?assign ?body ?done
    case assign=>
     rintro l' q i Z K hI hK
     gi_wp2
     exact hK _ _ (KeepsFrom.refl _ _) (Below.refl _ _) hI rfl
    case body=>
     rintro l' q i a' Z hdl hlr ⟨hD,hB⟩ rfl ⟨rest,hfit⟩;have hw:=HWS.out _ _ (edgeW_at H3.out hfit);rw [←Nat.add_assoc] at hw;have hi16:=zhy (k:=i) (by rw [←hfit];simp) hs16;have HN4:=hid (zcc hD.rd hw 16384 (HF.out.of i hi16).2.1);have HPF:=hid (zqp (n:=19) (k:=i) f q);obtain⟨v,hv⟩:∃ v,f (3+i)=v:=⟨_,rfl⟩;rw [hv] at HN4 HPF;clear hfit hw hv;have i0:(0:Int)≤(i:Int):=by omega
     have i1:(i:Int) < 16:=by omega
     have hD:=hid hD;have hB:=hid hB;have c0:=R0.out _ _ hD.out;dsimp only
     gi_wp2_with (refine⟨trivial,?_⟩;gi_at_call 79;refine (callsIn_wide.2 HN4.out).mono ?_;rintro e Z5 ⟨rfl,hr,hs⟩;have h5:=zap hB.out hs (by have:=HTB.out;omega);have c5:=(zaa h5 (3+i)).trans (zjy _ (by omega));have f5:=zab h5 (3+i))
     have h5:=zap hB.out hs (by have:=HTB.out;omega);have hS6:=(hs.mono fun _ e=>.inl e).trans (Save.set Z5 tb (3+i) (qI v)) (S:=fun j=>j=b∨j=tb) fun _ _ e=>.inr e;refine⟨zqw hS6 fun j e=>by have:=HTB.out;have:=HW7.out;have:=HS4.out;omega,hS6.below (Below.refl _ _) (by have:=(qLt hB.out);omega) fun j e=>by have:=HTB.out;omega,?_,by rw [zbh h5,zrw,HPF.out]⟩;rw [List.length_append,List.length_singleton,←Nat.add_assoc];exact (hD.out.next hr hs).other hg0 hb0 (Save.set Z5 tb (3+i) (qI v)) fun i e=>by subst e;rw [HSZ.out];exact HTB.out
    case done=>
     rintro D q X hD rfl ⟨hDT,hB⟩ hK;rw [HF.out.part H3.out] at hB;have HDT:=hid hDT;have hz:=RZ.out _ _ hDT;have hDs:s4+1≤D:=by rw [←HW7.out];exact hD
     obtain⟨hth,hst⟩:=zkw (f:=f) hz (by rfl:_=23);have hS8:=zch (p+2) (rowA 23 f).toList 0 X;have hran:=zh6 hB;clear hDT hB
     gi_wp2
     go_wp2_with (first|(refine wpList_load_mid rfl 176 _ rfl tb 0 rfl _ _ hran Tryz.underlying176 rfl (zoe _) ?_)|(refine wpList_store_mid rfl 176 _ _ rfl (p+2) 0 (rowA 23 f) rfl rfl hth (zh7 f) (zrx 23 f) ?_))
     obtain⟨F,hF⟩:∃ F,F=X.setCells (p+2) 0 (rowA 23 f).toList:=⟨_,rfl⟩;rw [←hF] at hst hS8 ⊢;clear hF hth hran hz;have hpD:p+2 < D:=by have:=HTB.out;have:=HS4.out;omega
     have hK8:=zap hK hS8 (by omega);have hgr:=Save.of_grown (show F.grownBy (F.putObj D (.deferred none)) (some D) from ⟨rfl,rfl,rfl,by simp,fun k _ hne=>World.putObj_heap_other (fun e=>hne (by rw [e]))⟩);have hst2:=zap hst hgr (by intro e;cases e;omega);refine⟨by simp,.inl ⟨_,_,rfl,run_takeDeferred hK8,?_⟩⟩;refine⟨.agg (rowA 23 f),results_cell_row (p:=4) (ty:=176) rfl _ _ (p+2) _ _ _ _ (by rfl) hst2 Tryz.underlying176 rfl (zh7 f),rfl,?_,?_⟩
     ·rw [zlw,if_pos H3.out,←Nat.add_assoc]
      exact (HDT.out.rd.save hS8 (by omega) (by omega)).save hgr (fun e=>by cases e;omega) (fun e=>by cases e;omega)
     ·exact ((HS0.out.trans HDT.out.s fun _ _ e=>e).trans hS8 fun i hi e=>by have:=HP.out;omega).trans hgr fun i hi e=>by cases e;have:=HP.out;omega
   ·have t1:((f 2:Int) != 3)=true:=by simp [h3]
    have HFN:=hid (HF.out.none h3);rw [HFN.out] at HB4;have hz:=RZ.out _ _ HD4.out;obtain⟨hth,hst⟩:=zkw (f:=f) hz (by rfl:_=23);have hS8:=zch (p+2) (rowA 23 f).toList 0 wr;have hran:=zh6 HB4.out
    go_wp2_with (first|(refine wpList_load_mid rfl 176 _ rfl tb 0 rfl _ _ hran Tryz.underlying176 rfl (zoe _) ?_)|(refine wpList_store_mid rfl 176 _ _ rfl (p+2) 0 (rowA 23 f) rfl rfl hth (zh7 f) (zrx 23 f) ?_))
    refine⟨.agg (rowA 23 f),results_cell_row (p:=4) (ty:=176) rfl _ _ (p+2) _ _ _ _ (by rfl) hst Tryz.underlying176 rfl (zh7 f),rfl,?_,?_⟩
    ·rw [zlw,if_neg h3]
     exact HD4.out.rd.save hS8 (by omega) (by omega)
    ·exact (HS0.out.trans HD4.out.s fun _ _ e=>e).trans hS8 fun i hi e=>by have:=HP.out;omega
end Go.Proofs.YtpbmmoneeoijaaaGreatDoor
namespace Go.Proofs.YtpbmmoneeoijaaaGreatDoor
open Go.RowKit Go.Deep Go.Shelf
set_option maxRecDepth 100000
set_option maxHeartbeats 8000000
attribute [local go_sem] Oper.semAt_some zaq
set_option maxRecDepth 100000
structure MD (b g c:Nat) (ws:List Int) (p mb:Nat) (w:World) (k t:Nat) (u:Value) (n:Nat) (xs:List Value) (X:World):Prop where
 rd:WdAt b g c ws k X
 m:X.heap[mb]? =some (qC #[qU (t:Int),u] 71)
 z:X.heap[p]? =some (qC #[qU 0,.slice none 0 0] 71)
 o:X.ownsRow p 74 2 u n xs
 s:Save (fun i=>i=b) w X
theorem zk5 {b:Nat} {X Y:World} (hs:Save (fun i=>i=b) X Y):X.grownBy Y (some b):=⟨hs.os,hs.tape,hs.output,hs.size,fun k hk hne=>hs.block k hk fun e=>hne (by rw [e])⟩
section
variable {b g c p mb k k' t n:Nat} {ws:List Int} {u:Value} {xs:List Value} {w X Y:World}
theorem MD.next (h:MD b g c ws p mb w k t u n xs X) (hb:b < p) (hm:p < mb) (hr:WdAt b g c ws k' Y) (hs:Save (fun i=>i=b) X Y):MD b g c ws p mb w k' t u n xs Y:=
 ⟨hr,zap h.m hs (by omega),zap h.z hs (by omega),zk0 h.o (zk5 hs) fun g e=>by cases e;exact hb,h.s.trans hs fun _ _ e=>e⟩
theorem MD.below (h:MD b g c ws p mb w k t u n xs X) (hb:Below X.heap.size X Y):MD b g c ws p mb w k t u n xs Y:=
 ⟨h.rd.save (Save.of_below hb (fun _=>False)) id id,qBa hb h.m,qBa hb h.z,zk0 (row:=none) h.o ⟨hb.os,hb.tape,hb.output,hb.size,fun k hk _=>hb.block k hk⟩ (fun g e=>by cases e),h.s.trans (Save.of_below hb (fun i=>i=b)) fun _ _ e=>e⟩
theorem MD.box (h:MD b g c ws p mb w k t u n xs X) (hg:X.grownBy Y u.ownBlock):Y.heap[mb]? =some (qC #[qU (t:Int),u] 71)∧Y.heap[p]? =some (qC #[qU 0,.slice none 0 0] 71):=by
 have ne:∀ {i:Nat} {cs:Array Value},X.heap[i]? =some (Obj.cells cs 71)→u.ownBlock≠some i:=fun {i cs} hi e=>by
  obtain⟨_,ds,hc⟩:=zbj h.o e;rw [hi] at hc;injection hc with hc
  injection hc with _ h2 _
  exact absurd h2 (by decide)
 exact⟨zap h.m (Save.of_grown hg) (ne h.m),zap h.z (Save.of_grown hg) (ne h.z)⟩
theorem MD.add (h:MD b g c ws p mb w k t u n xs X) (hp:w.heap.size=p) (hb:b < p) (hg0:g < p) (hm:p < mb) {v':Value} {m:Nat} {ys:List Value} (ho:Y.ownsRow p 74 2 v' m ys) (hg:X.grownBy Y u.ownBlock):
  MD b g c ws p mb w k t v' m ys (Y.setCell ⟨mb,1,none⟩ v'):=by
 have hs:=Save.of_grown hg;have hS:=fun i (e:u.ownBlock=some i)=>zbj h.o e;obtain⟨hmY,hzY⟩:=h.box hg;have h2:=Save.set Y mb 1 v';refine⟨(h.rd.save hs (fun e=>by have:=(hS _ e).1;omega) (fun e=>by have:=(hS _ e).1;omega)).save h2 (by omega) (by omega),(zbh hmY).trans rfl,zap hzY h2 (by omega),zah ho (zbu Y ⟨mb,1,none⟩ v') fun g hg=>by cases hg;exact⟨_,hmY,fun cs f hc=>by injection hc with _ h2 _;exact absurd h2 (by decide)⟩,(h.s.trans hs fun i hi e=>by have:=(hS _ e).1;omega).trans h2 fun i hi e=>by omega⟩
end
theorem zi1 (q:Nat→Nat→Int):∀ n,(zcn q n).length=2 * n
 |0=>rfl
 |n+1=>by rw [zfp,List.length_append,zi1 q n];rfl
theorem zqn (q:Nat→Nat→Int):∀ n i,i < n→(zcn q n)[2 * i]? =some (q i 0)∧(zcn q n)[2 * i+1]? =some (q i 1)
 |0,i,h=>by omega
 |n+1,i,h=>by
  have hl:=zi1 q n;rw [zfp];by_cases hi:i < n
  ·rw [List.getElem?_append_left (by omega),List.getElem?_append_left (by omega)]
   exact zqn q n i hi
  ·obtain rfl:i=n:=by omega
   rw [List.getElem?_append_right (by omega),List.getElem?_append_right (by omega),hl,Nat.sub_self,Nat.add_sub_cancel_left];exact⟨rfl,rfl⟩
theorem zw5 {b g c:Nat} {ws:List Int} {k:Nat} {w:World} (h:WdAt b g c ws k w) (t qn:Nat) (q:Nat→Nat→Int) (ht:t≤65535) (hqn:qn≤4) (hq:∀ j,j < qn→OkQ (q j)) (hws:∀ i x,(zin t qn q)[i]? =some x→ws[k+i]? =some x):
  Calls Tryz.prog 81 #[qP b] w fun e w'=>∃ u,e=.returned (.agg #[qU (t:Int),u])∧w'.ownsRow w.heap.size 74 2 u qn (zc1 ((List.range qn).map q))∧WdAt b g c ws (k+(zin t qn q).length) w'∧Save (fun k=>k=b) w w':=by
 have hbw:b < w.heap.size:=(qLt h.blk);have e0:=hws 0 (t:Int) rfl;have e1:=hws 1 (qn:Int) rfl;have hgw:g < w.heap.size:=zcr (h.wds _ _ e0).1;have HWS:=hid hws;have HN0:=hid fun X (hX:WdAt b g c ws k X)=>zcc hX e0 65535 (by omega);have HN1:=hid fun X (hX:WdAt b g c ws (k+1) X)=>zcc hX e1 4 (by omega);have hb1:=qBr (w:=w) (qC #[qU 0,.slice none 0 0] 71);have HD1:=hid (h.save (Save.of_below hb1 (fun _=>False)) id id);have HS1:=hid (Save.of_below hb1 (fun i=>i=b));have HZ1:=hid (heap_alloc_new w (qC #[qU 0,.slice none 0 0] 71));have tw:IntKind.u32.wrap (t:Int)=(t:Int):=by rw [IntKind.wrap_u32];omega
 clear hws e0 e1 h hb1;go_enter Tryz.func81,Tryz.ntmps81
 go_upto_region 2 with (go_at_call 79;refine (HN0.out _ HD1.out).mono ?_;rintro e X1 ⟨rfl,hr,hs⟩)
 have HM1:=hid (show MD b g c ws w.heap.size X1.heap.size w (k+1) t (.slice none 0 0) 0 [] (X1.alloc (qC #[qU (t:Int),.slice none 0 0] 71)) from
  ⟨hr.save (Save.alloc _ _) id id,heap_alloc_new _ _,(Below.heap_alloc _ _ _ (by have:=hs.size;simp at this;omega)).trans (zap HZ1.out hs (by omega)),World.ownsRow_nil _ _ _ _,(HS1.out.trans hs fun _ _ e=>e).trans (Save.alloc _ _) fun _ _ e=>e.elim⟩)
 have hpm:w.heap.size < X1.heap.size:=by have:=hs.size;simp at this;omega
 clear HD1 HS1 HZ1 hr hs HN0 tw;generalize X1.alloc (qC #[qU (t:Int),.slice none 0 0] 71)=Z1 at HM1 ⊢;obtain⟨p,hp⟩:∃ p,w.heap.size=p:=⟨_,rfl⟩;obtain⟨mb,hmb⟩:∃ p,X1.heap.size=p:=⟨_,rfl⟩;rw [hp,hmb] at HM1 hpm;rw [hmb,hp];rw [hp] at hbw hgw;have HP:=hid hp;clear hp hmb
 go_wp2_with (go_at_call 79;refine (HN1.out _ HM1.out.rd).mono ?_;rintro e X2 ⟨rfl,hr,hs⟩)
 have HM2:=hid (HM1.out.next hbw hpm hr hs);clear HM1 HN1 hr hs
 go_loopw [10] (fun p_ wr=>∃ (i:Nat) (u:Value),p_=qI i∧i≤qn∧Hid (MD b g c ws p mb w (k+1+1+2 * i) t u i (zc1 ((List.range i).map q)) wr)) (fun p_ _=>qn - (intOf p_).toNat)
 case atStart=>exact⟨0,_,rfl,by omega,HM2.out⟩
 case round=>
  obtain⟨i,u,rfl,hi,HM⟩:=hrel;by_cases hlt:i < qn
  ·have t0:decide ((i:Int) < (qn:Int))=true:=by simp;omega
   obtain⟨q1,q2⟩:=zqn q qn i hlt;obtain⟨c1,c2,d1,d2⟩:=hq i hlt;have e1:=HWS.out (2+2 * i) (q i 0) (by unfold zin;rw [List.getElem?_append_right (by simp)];simpa using q1);have e2:=HWS.out (2+2 * i+1) (q i 1) (by unfold zin;rw [List.getElem?_append_right (by simp;omega),show 2+2 * i+1 - [(t:Int),(qn:Int)].length=2 * i+1 by simp;omega];exact q2);rw [show k+(2+2 * i)=k+1+1+2 * i by omega] at e1;rw [show k+(2+2 * i+1)=k+1+1+2 * i+1 by omega] at e2;have HNa:=hid fun X (hX:WdAt b g c ws (k+1+1+2 * i) X)=>zcc hX e1 16 (by omega);have HNb:=hid fun X (hX:WdAt b g c ws (k+1+1+2 * i+1) X)=>zcc hX e2 3 (by omega);clear e1 e2 q1 q2 c1 d1;go_wp2;refine zan [3,5,6,7,8,9,10] (fun X=>X.cell? ⟨mb,1,none⟩=some u) (by kernel_rfl) (by kernel_rfl) (zaa HM.out.m 1) ?_;refine qFs fun K hK=>?_;go_simp;refine⟨.pointer (some ⟨mb,1,none⟩),fun X hX=>?_,hK _ ?_⟩
   ·go_simp
   clear hK K;refine qFs fun K hK=>?_;go_simp;refine⟨u,fun X hX=>?_,hK _ ?_⟩
   ·go_simp
   clear hK K;refine qFs fun K hK=>?_;go_simp;refine⟨qP b,fun X hX=>?_,hK _ ?_⟩
   ·go_simp
   clear hK K;refine qFc ?_;refine qFs fun K hK=>?_;go_simp;refine⟨qP b,fun X hX=>?_,hK _ ?_⟩
   ·go_simp
   clear hK K;refine qFc ?_;refine qFc ?_;refine qFc ?_;refine qFc ?_;refine qFc ?_;refine qFc ?_;refine za9 ?_;have HM3:=hid (HM.out.below (Below.refl wr.heap.size wr).drew);generalize wr.drew=Y0 at HM3 ⊢;refine qT1 3 [5,6,7,8,9,10] fun K hK=>?_
   go_wp2_with (go_at_call 79;refine (HNa.out _ HM3.out.rd).mono ?_;rintro e X3 ⟨rfl,hr,hs⟩)
   have HM4:=hid (HM3.out.next hbw hpm hr hs);refine hK _ _ (zaa HM4.out.m 1) ?_;clear hK K hr hs;refine qT1 5 [6,7,8,9,10] fun K hK=>?_
   go_wp2_with (go_at_call 79;refine (HNb.out _ HM4.out.rd).mono ?_;rintro e X4 ⟨rfl,hr,hs⟩)
   have HM5:=hid (HM4.out.next hbw hpm hr hs);refine hK _ _ (zaa HM5.out.m 1) ?_;clear hK K hr hs HM3 HM4 HNa HNb;refine qT1 6 [7,8,9,10] fun K hK=>?_
   go_wp2_with fail
   refine hK _ _ (zaa HM5.out.m 1) ?_;clear hK K;refine qT1 7 [8,9,10] fun K hK=>?_
   go_wp2_with fail
   have HM6:=hid (HM5.out.below (qBr (qC #[qI (q i 0),qI (q i 1)] 74)));refine hK _ _ (zaa HM6.out.m 1) ?_;clear hK K;clear HM5;obtain⟨i0,hi0,hz0,hz1,hz2⟩:=info_parts infoQu;have HNW:=hid (show ∀ (j:Nat) (u:Value),[qI (q i 0),qI (q i 1)][j]? =some u→(X4.alloc (qC #[qI (q i 0),qI (q i 1)] 74)).cell? ((⟨X4.heap.size,0,none⟩:Addr).add j)=some u from fun j u hj=>by rw [zbn,Nat.zero_add];exact (World.cell?_alloc_new X4 _ _ j).trans (by rw [←hj];simp));have HSZ:=hid (show p≤(X4.alloc (qC #[qI (q i 0),qI (q i 1)] 74)).heap.size from Nat.le_of_lt (qLt HM6.out.z));have hq63:i+1≤maxLen:=by unfold maxLen;omega
   have hap:zc1 ((List.range i).map (q)) ++ [qI (q i 0),qI (q i 1)]=zc1 ((List.range (i+1)).map q):=by rw [List.range_succ,List.map_append,List.map_singleton,zln]
   refine qT1 8 [9,10] fun K hK=>?_;refine wpList_append_own_at _ rfl _ _ 69 rfl p 74 i0 (.agg #[qI 0,qI 0]) 2 16 Tryz.underlying69 hi0 hz0 hz1 hz2 rfl (by decide) u i _ rfl HM6.out.o ⟨X4.heap.size,0,none⟩ 1 1 [qI (q i 0),qI (q i 1)] rfl rfl HNW.out (by simp [Value.oneCell']) hq63 (by omega) HSZ.out ?_;intro v5 w5 h5 g5 _ _;have HMB:=hid (HM6.out.box g5).1;rw [hap] at h5;have HR:=hid (HM6.out.add HP.out hbw hgw hpm h5 g5);obtain⟨va,vc,rfl,_,_⟩:=zar h5;clear h5 g5;go_simp;refine hK _ _ (zaa HMB.out 1) ?_;clear hK K;clear HM6 HNW HSZ hap hi0 hz0 hz1 hz2 hq63;refine qT1 9 [10] fun K hK=>?_
   go_wp2_with fail
   refine hK _ _ (zaa HMB.out 1) ?_;clear hK K;have c1:=zaa HMB.out 1;have f1:=zab HMB.out 1;refine zby (m:=0) (i:=10) (rem1:=[]) (by kernel_rfl) (by rfl) (by rfl) (by kernel_rfl) (fun K hK=>?_)
   go_wp2_with fail
   clear HMB c1 f1;refine za2 ?_;generalize w5.setCell ⟨mb,1,none⟩ (.slice va (i+1) vc)=w6 at HR ⊢;go_wp2;go_roundw
   case rel=>exact⟨i+1,_,by go_num,by omega,HR.out⟩
   case measure=>simp [intOf];omega
  ·have t0:decide ((i:Int) < (qn:Int))=false:=by simp;omega
   obtain rfl:i=qn:=by omega
   have m0:=zaa HM.out.m 0;have m1:=zaa HM.out.m 1;have z0:=zaa HM.out.z 0;have z1:=zaa HM.out.z 1;have y0:=zab HM.out.z 0;have y1:=zab HM.out.z 1;obtain⟨ua,uc,rfl,_,_⟩:=zar HM.out.o;go_wp2;have HF:=hid HM.out;have hw2:=Save.set wr p 0 (qU (t:Int));have hw3:=hw2.trans (Save.set (wr.setCell ⟨p,0,none⟩ (qU (t:Int))) p 1 (.slice ua i uc)) fun _ _ e=>e;have hz:=(zbh (j:=1) (u:=.slice ua i uc) (zbh (j:=0) (u:=qU (t:Int)) HM.out.z));have hk:k+(zin t i q).length=k+1+1+2 * i:=by unfold zin;rw [List.length_append,zi1];simp;omega
   have ho:=zah (zah HM.out.o (zbu wr ⟨p,0,none⟩ (qU (t:Int))) fun g hg=>by cases hg;exact⟨_,HM.out.z,fun cs f hc=>by injection hc with _ h2 _;exact absurd h2 (by decide)⟩) (zbu (wr.setCell ⟨p,0,none⟩ (qU (t:Int))) ⟨p,1,none⟩ (.slice ua i uc)) fun g hg=>by cases hg;exact⟨_,zbh HM.out.z,fun cs f hc=>by injection hc with _ h2 _;exact absurd h2 (by decide)⟩
   generalize (wr.setCell ⟨p,0,none⟩ (qU (t:Int))).setCell ⟨p,1,none⟩ (.slice ua i uc)=wF at hz hw3 ho ⊢;refine bodyPost_ret (v:=.agg #[qU (t:Int),.slice ua i uc]) (results_cell_row (p:=2) (ty:=71) rfl _ _ p _ _ _ _ (by rfl) hz Tryz.underlying71 rfl (by kernel_rfl)) rfl ?_;refine⟨_,rfl,by rw [HP.out];exact ho,?_,HM.out.s.trans hw3 fun i hi e=>by have:=HP.out;omega⟩;rw [hk];exact HM.out.rd.save hw3 (by omega) (by omega)
end Go.Proofs.YtpbmmoneeoijaaaGreatDoor
namespace Go.Proofs.YtpbmmoneeoijaaaGreatDoor
open Go.RowKit Go.Deep Go.Shelf
set_option maxRecDepth 100000
set_option maxHeartbeats 8000000
structure DC (b g c:Nat) (ws:List Int) (p xb:Nat) (w:World) (k:Nat) (s:St) (v:RdV) (X:World):Prop where
 rd:WdAt b g c ws k X
 x:X.heap[xb]? =some (qC #[qI s.r,v.T,v.M,v.E] 26)
 z:X.heap[p]? =some (qC #[qI 0,.slice none 0 0,.slice none 0 0,.slice none 0 0] 26)
 rw:RwAt (xb+1) X s v
 bl:Below p w X
section
variable {b g c p xb k k':Nat} {ws:List Int} {s:St} {v:RdV} {w X Y:World}
theorem DC.next (h:DC b g c ws p xb w k s v X) (hb:p < b) (hm:b < xb) (hr:WdAt b g c ws k' Y) (hs:Save (fun i=>i=b) X Y):DC b g c ws p xb w k' s v Y:=
 ⟨hr,zap h.x hs (by omega),zap h.z hs (by omega),h.rw.low (zk5 hs) (fun g e=>by cases e;omega),hs.below h.bl (by have:=(qLt h.z);omega) fun i e=>by omega⟩
theorem DC.below (h:DC b g c ws p xb w k s v X) (hb:Below X.heap.size X Y):DC b g c ws p xb w k s v Y:=
 ⟨h.rd.save (Save.of_below hb (fun _=>False)) id id,qBa hb h.x,qBa hb h.z,h.rw.low (row:=none) ⟨hb.os,hb.tape,hb.output,hb.size,fun k hk _=>hb.block k hk⟩ (fun g e=>by cases e),h.bl.trans (hb.mono (by have:=(qLt h.z);omega))⟩
theorem DC.box (h:DC b g c ws p xb w k s v X) {e:TypeId} {K n:Nat} {r:Value} {xs:List Value} (ho:X.ownsRow (xb+1) e K r n xs) (hg:X.grownBy Y r.ownBlock):Y.heap[xb]? =some (qC #[qI s.r,v.T,v.M,v.E] 26):=
 zap h.x (Save.of_grown hg) fun e=>by have:=(zbj ho e).1;omega
theorem DC.put (h:DC b g c ws p xb w k s v X) (hb:p < b) (hm:b < xb) (hg0:g < p) {e:TypeId} {K n:Nat} {r:Value} {xs:List Value} (ho:X.ownsRow (xb+1) e K r n xs) (hg:X.grownBy Y r.ownBlock) {s':St} {v':RdV} (hrw:RwAt (xb+1) Y s' v') {j:Nat} {u:Value}
  (hc:(#[qI s.r,v.T,v.M,v.E]:Array Value).setIfInBounds j u=#[qI s'.r,v'.T,v'.M,v'.E]):DC b g c ws p xb w k s' v' (Y.setCell ⟨xb,j,none⟩ u):=by
 have hs:=Save.of_grown hg;have hS:=fun i (e:r.ownBlock=some i)=>(zbj ho e).1;have hx:=zap h.x hs fun e=>by have:=hS _ e;omega
 have h2:=Save.set Y xb j u;refine⟨(h.rd.save hs (fun e=>by have:=hS _ e;omega) (fun e=>by have:=hS _ e;omega)).save h2 (by omega) (by omega),(zbh hx).trans (by rw [hc]),zap (zap h.z hs fun e=>by have:=hS _ e;have:=(qLt h.x);omega) h2 (by omega),hrw.low (zbu Y ⟨xb,j,none⟩ u) (fun g e=>by cases e;show xb < xb+1;omega),?_⟩;have hz:=(qLt h.z);exact h2.below (hs.below h.bl (by omega) fun i e=>by have:=hS _ e;omega) (by have:=hs.size;omega) fun i e=>by omega
end
theorem own_up {W:World} {base xb:Nat} (h:xb < base) {e:TypeId} {K:Nat} {v:Value} {n:Nat} {xs:List Value} (ho:W.ownsRow base e K v n xs):W.ownsRow (xb+1) e K v n xs:=by
 obtain⟨h1,h2⟩:=ho;refine⟨h1,?_⟩;rcases h2 with h2|⟨g,cap,cur,e1,e2,e3⟩
 ·exact .inl h2
 ·exact .inr ⟨g,cap,cur,e1,by omega,e3⟩
def zs2 (x:Img) (g:Nat→Nat→Int) (M:Nat→zas) (q:Nat→Nat→Nat→Int) (h:Nat→Nat→Int) (w:World) (e:Ending) (w':World):Prop:=
 ∃ (y:Img) (K:Nat→zas),e=.returned (.tuple #[iv y,qI 0])∧(x.r=y.r∧x.n=y.n∧x.mn=y.mn∧x.en=y.en)∧(∀ i,(M i).t=(K i).t∧(M i).qn=(K i).qn)∧zdr w' y g K q h∧Below w.heap.size w w'
end Go.Proofs.YtpbmmoneeoijaaaGreatDoor
