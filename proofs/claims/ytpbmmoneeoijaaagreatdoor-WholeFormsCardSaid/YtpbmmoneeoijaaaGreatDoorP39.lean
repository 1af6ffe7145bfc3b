/-
  A part of the proof: Decode Encode FormsFn CertSame Row33.
-/
import Derived.Test.YtpbmmoneeoijaaaGreatDoorP37
import Derived.Test.YtpbmmoneeoijaaaGreatDoorP38
namespace Go.Proofs.YtpbmmoneeoijaaaGreatDoor
open Go.RowKit Go.Deep Go.Shelf
set_option maxRecDepth 100000
set_option maxHeartbeats 8000000
attribute [local go_sem] Oper.semAt_some zaq
set_option maxRecDepth 100000
theorem zCe (x:Img) (g:Nat→Nat→Int) (M:Nat→zas) (q:Nat→Nat→Nat→Int) (h:Nat→Nat→Int) (w0:World) (hx:zdr w0 x g M q h) (hv:VX x g M q h) (gB c:Nat) (w:World) (hU:zg5 w (some ⟨gB,0,none⟩) (encW x g M q h)) (hT:Tab w):
  Calls Tryz.prog 31 #[.slice (some ⟨gB,0,none⟩) (encW x g M q h).length c] w (zs2 x g M q h w):=by
 have hlen:=zq9 hv;have hL:=zo9 (x:=x) (g:=g) (M:=M) (q:=q) (h:=h);have r1:=hv.o.r1;have r2:=hv.o.r2;have n2:=hv.o.n2;have m2:=hv.o.m2;have e2:=hv.o.e;have hWD:=hid fun (W:World) (hW:Below w.heap.size w W) (b:Nat) (hb:w.heap.size≤b) (hB:W.heap[b]? =some (qC #[.slice (some ⟨gB,0,none⟩) (encW x g M q h).length c,qI 0,.bool false] 193))=>(show WdAt b gB c (encW x g M q h) 0 W from
  ⟨hB,fun j v hj=>by
   obtain⟨b',e,hc⟩:=hU j v hj;cases e;obtain⟨h1,h2⟩:=hv.words v (List.mem_of_getElem? hj);rw [IntKind.wrap_u32,Int.emod_eq_of_lt h1 h2] at hc;exact⟨kept hc hW,h1,h2⟩,by omega,by
   obtain⟨b',e,hc⟩:=hU 0 1380273457 rfl;cases e;have:gB < w.heap.size:=zcr hc;omega⟩)
 have hg0:gB < w.heap.size:=by
  obtain⟨b',e,hc⟩:=hU 0 1380273457 rfl;cases e;exact zcr hc
 have HTK:=hid fun (i:Nat) (hi:i < x.n) (b:Nat) (hb:0 < b) (X:World) (hX:WdAt b gB c (encW x g M q h) (5+(zbt g i).length) X) (hTX:Tab X)=>zw4 hX (g i) (hv.usesW hi) (fun j v hj=>zD5 hi hj) hTX hb;have HMK:=hid fun (i:Nat) (hi:i < x.mn) (b:Nat) (X:World) (hX:WdAt b gB c (encW x g M q h) (5+(zbt g x.n).length+(zbq M q i).length) X)=>zw5 hX (M i).t (M i).qn (q i) (by have:=hv.modeT hi;omega) (hv.o.mq i hi).1 (hv.o.mq i hi).2 (fun j v hj=>zD6 hi hj);have HEK:=hid fun (i:Nat) (hi:i < x.en) (b:Nat) (hb:0 < b) (X:World) (hX:WdAt b gB c (encW x g M q h) (5+(zbt g x.n).length+(zbq M q x.mn).length+(zb0 x M h i).length) X) (hTX:Tab X) (y:Img) (K:Nat→zas) (hmn:x.mn=y.mn) (hKM:∀ i,(M i).t=(K i).t) (hM:zcu X y.mo y.mn K)=>
  zw6 hX y K (h i) hM (fun j hj=>by rw [←hKM];exact Nat.lt_trans (hv.modeT (by omega)) (by decide)) (zdl x M (h i)) (by unfold zdl;rw [zcm hmn hKM,zcm hmn hKM]) (hv.fresh (h i)) (hv.edgeN hi) (fun j v hj=>zD7 hi hj) hTX hb
 have e0:(encW x g M q h)[0]? =some 1380273457:=rfl;have e1:(encW x g M q h)[1]? =some x.r:=rfl;have e2':(encW x g M q h)[2]? =some (x.n:Int):=rfl;have e3:(encW x g M q h)[3]? =some (x.mn:Int):=rfl;have e4:(encW x g M q h)[4]? =some (x.en:Int):=rfl;obtain⟨ws,hws⟩:∃ l,encW x g M q h=l:=⟨_,rfl⟩;rw [hws] at hWD HTK HMK HEK e0 e1 e2' e3 e4 hlen hL ⊢;clear hws;have HN0:=hid fun (b:Nat) (X:World) (hX:WdAt b gB c ws 0 X)=>zcc hX e0 1380273457 (by omega);have HN1:=hid fun (b:Nat) (X:World) (hX:WdAt b gB c ws (0+1) X)=>zcc hX e1 8 (by omega);have HN2:=hid fun (b:Nat) (X:World) (hX:WdAt b gB c ws (0+1+1) X)=>zcc hX e2' 16 (by omega);have HN3:=hid fun (b:Nat) (X:World) (hX:WdAt b gB c ws (0+1+1+1) X)=>zcc hX e3 8 (by omega);have HN4:=hid fun (b:Nat) (X:World) (hX:WdAt b gB c ws (0+1+1+1+1) X)=>zcc hX e4 24 (by omega);clear e0 e1 e2' e3 e4 hU;have hpos:=hT.pos;have HL:=hid hL;clear hL;obtain⟨A1,hA1⟩:∃ X,X=w.alloc (qC #[qI 0,.slice none 0 0,.slice none 0 0,.slice none 0 0] 26):=⟨_,rfl⟩;obtain⟨A2,hA2⟩:∃ X,X=A1.alloc (qC #[.slice (some ⟨gB,0,none⟩) ws.length c,qI 0,.bool false] 193):=⟨_,rfl⟩;have hb1:Below w.heap.size w A1:=by rw [hA1];exact qBr _
 have hs1:A1.heap.size=w.heap.size+1:=by rw [hA1];simp
 have hb2:Below w.heap.size w A2:=by rw [hA2];exact hb1.alloc hb1.size _
 have hz2:A2.heap[w.heap.size]? =some (qC #[qI 0,.slice none 0 0,.slice none 0 0,.slice none 0 0] 26):=by rw [hA2];exact (Below.heap_alloc _ _ _ (by omega)).trans (by rw [hA1];exact heap_alloc_new w _)
 have hr2:A2.heap[w.heap.size+1]? =some (qC #[.slice (some ⟨gB,0,none⟩) ws.length c,qI 0,.bool false] 193):=by rw [hA2,←hs1];exact heap_alloc_new A1 _
 have hs2:A2.heap.size=w.heap.size+2:=by rw [hA2];simp [hs1]
 have HR2:=hid (hWD.out A2 hb2 (w.heap.size+1) (by omega) hr2);have HA1:=hid hA1;have HA2:=hid hA2;have HB2:=hid hb2;have HZ2:=hid hz2;have HS2:=hid hs2;have HXX:=hid hx;have HVV:=hid hv;have HTT:=hid hT;clear hA1 hA2 hb1 hs1 hb2 hz2 hr2 hs2 hWD hx hv hT;go_enter Tryz.func31,Tryz.ntmps31
 go_upto_region 2 with fail
 rw [←HA1.out,←HA2.out];obtain⟨p,hp⟩:∃ p,w.heap.size=p:=⟨_,rfl⟩;rw [hp] at HR2 HB2 HZ2 HS2 hg0 hpos;rw [hp];have HP:=hid hp;clear hp HA1 HA2
 go_upto_region 3 with (go_at_call 79;refine (HN0.out _ _ HR2.out).mono ?_;rintro e X1 ⟨rfl,hr,hs⟩;have c2:=zaa hr.blk 2;have f2:=zab hr.blk 2)
 have HR3:=hid hr.bad;have HS3:=hid (hs.trans (Save.set X1 (p+1) 2 (.bool false)) fun _ _ e=>e);clear hr hs HR2 HN0;generalize X1.setCell ⟨p+1,2,none⟩ (.bool false)=Z1 at HR3 HS3 ⊢
 go_upto_region 4 with (go_at_call 79;refine (HN1.out _ _ HR3.out).mono ?_;rintro e X2 ⟨rfl,hr,hs⟩)
 have HS4:=hid (HS3.out.trans hs fun _ _ e=>e);have hsz:=HS4.out.size;rw [HS2.out] at hsz;have HD4:=hid (show DC (p+1) gB c ws p X2.heap.size w (0+1+1) ⟨x.r,[],[],[]⟩ ⟨.slice none 0 0,.slice none 0 0,.slice none 0 0,.slice none 0 0,[]⟩ (X2.alloc (qC #[qI x.r,.slice none 0 0,.slice none 0 0,.slice none 0 0] 26)) from
  ⟨hr.save (Save.alloc _ _) id id,heap_alloc_new _ _,(Below.heap_alloc _ _ _ (by omega)).trans (zap HZ2.out HS4.out (by omega)),⟨World.ownsRow_nil _ _ _ _,World.ownsRow_nil _ _ _ _,rfl,fun i m u h1=>by simp at h1,World.ownsRow_nil _ _ _ _⟩,
   (HS4.out.below HB2.out (by rw [HS2.out];omega) fun i e=>by omega).alloc (by omega) _⟩)
 have hxb:p+1 < X2.heap.size:=by omega
 clear hr hs HR3 HS3 HS4 HS2 HZ2 HB2 HN1 hsz;generalize X2.alloc (qC #[qI x.r,.slice none 0 0,.slice none 0 0,.slice none 0 0] 26)=Z2 at HD4 ⊢;obtain⟨xb,hxe⟩:∃ n,X2.heap.size=n:=⟨_,rfl⟩;rw [hxe] at HD4 hxb ⊢;clear hxe;clear c2 f2
 go_wp2_with (go_at_call 79;first|(refine (HN4.out _ _ hrb).mono ?_;rintro e Y3 ⟨rfl,hrc,hsc⟩)|(refine (HN3.out _ _ hra).mono ?_;rintro e Y2 ⟨rfl,hrb,hsb⟩)|(refine (HN2.out _ _ HD4.out.rd).mono ?_;rintro e Y1 ⟨rfl,hra,hsa⟩))
 have HD5:=hid (((HD4.out.next (by omega) hxb hra hsa).next (by omega) hxb hrb hsb).next (by omega) hxb hrc hsc);clear hra hsa hrb hsb hrc hsc HD4 HN2 HN3 HN4
 go_loopw [30] (fun p_ wr=>∃ (i:Nat) (v:RdV),p_=qI i∧i≤x.n∧Hid (DC (p+1) gB c ws p xb w (5+(zbt g i).length) ⟨x.r,(List.range i).map g,[],[]⟩ v wr)) (fun p_ _=>x.n - (intOf p_).toNat)
 case atStart=>exact⟨0,_,rfl,by omega,HD5.out⟩
 case round=>
  obtain⟨i,v,rfl,hi,HD⟩:=hrel;by_cases hlt:i < x.n
  ·have t0:decide ((i:Int) < (x.n:Int))=true:=by simp;omega
   go_wp2;refine zan [3,4,5,6,7] (fun X=>X.heap[xb]? =some (qC #[qI x.r,v.T,v.M,v.E] 26)) (by kernel_rfl) (by kernel_rfl) HD.out.x ?_;refine qFs fun K hK=>?_;go_simp;refine⟨.pointer (some ⟨xb,1,none⟩),fun X hX=>?_,hK _ ?_⟩
   ·go_simp
   clear hK K;refine qFs fun K hK=>?_;go_simp;refine⟨v.T,fun X hX=>?_,hK _ ?_⟩
   ·have c1:=zaa hX 1;go_simp
   clear hK K;refine qFs fun K hK=>?_;go_simp;refine⟨qP (p+1),fun X hX=>?_,hK _ ?_⟩
   ·go_simp
   clear hK K;refine qFc ?_;refine qFc ?_;refine qFc ?_;refine qFc ?_;refine qFc ?_;refine za9 ?_;have HD0:=hid (HD.out.below (Below.refl wr.heap.size wr).drew);generalize wr.drew=Y0 at HD0 ⊢;refine qT1 3 [4,5,6,7] fun K hK=>?_
   go_wp2_with (go_at_call 80;refine (HTK.out i hlt (p+1) (by omega) _ HD0.out.rd (HTT.out.below HD0.out.bl hpos)).mono ?_;rintro e X3 ⟨rfl,hr,hs⟩)
   have HD1:=hid (HD0.out.next (by omega) hxb hr hs);refine hK _ _ HD1.out.x ?_;clear hK K hr hs HD0;refine qT1 4 [5,6,7] fun K hK=>?_
   go_wp2_with fail
   have HD2:=hid (HD1.out.below (qBr (qC (qF11 (g i)) 165)));refine hK _ _ HD2.out.x ?_;clear hK K;obtain⟨i0,hi0,hz0,hz1,hz2⟩:=info_parts infoTk;have HNW:=hid (show ∀ (j:Nat) (u:Value),([qI (g i 0),qI (g i 1),qI (g i 2),qI (g i 3),qI (g i 4),qI (g i 5),qI (g i 6),qI (g i 7),qI (g i 8),qI (g i 9),qI (g i 10)]:List Value)[j]? =some u→(X3.alloc (qC (qF11 (g i)) 165)).cell? ((⟨X3.heap.size,0,none⟩:Addr).add j)=some u from fun j u hj=>by rw [zbn,Nat.zero_add];exact (World.cell?_alloc_new X3 _ _ j).trans (by rw [←hj];simp));have HSZ:=hid (show xb+1≤(X3.alloc (qC (qF11 (g i)) 165)).heap.size from (qLt HD2.out.x));have hlen2:i+1≤maxLen:=by unfold maxLen;omega
   refine qT1 5 [6,7] fun K hK=>?_;refine wpList_append_own_at _ rfl _ _ 22 rfl (xb+1) 165 i0 (.agg qZ11) 11 88 Tryz.underlying22 hi0 hz0 hz1 hz2 rfl (by decide) v.T i _ rfl (by have h0:=HD2.out.rw.T;rw [List.length_map,List.length_range] at h0;exact h0) ⟨X3.heap.size,0,none⟩ 1 1 [qI (g i 0),qI (g i 1),qI (g i 2),qI (g i 3),qI (g i 4),qI (g i 5),qI (g i 6),qI (g i 7),qI (g i 8),qI (g i 9),qI (g i 10)] rfl rfl HNW.out (by simp [Value.oneCell']) hlen2 (by omega) HSZ.out ?_;intro v5 w5 h5 g5 _ _;have HX5:=hid (HD2.out.box HD2.out.rw.T g5);have HR:=hid (HD2.out.put (by omega) hxb hg0 HD2.out.rw.T g5 (HD2.out.rw.addT (g i) (by
    simp only [List.length_append,List.length_map,List.length_range,List.length_singleton];rw [zn0];exact h5) g5) (j:=1) (u:=v5) rfl)
   obtain⟨va,vc,rfl,_,_⟩:=zar h5;clear h5 g5 HD2 HD1 HNW HSZ hi0 hz0 hz1 hz2 hlen2;go_simp;refine hK _ _ HX5.out ?_;clear hK K;refine qT1 6 [7] fun K hK=>?_
   go_wp2_with fail
   refine hK _ _ HX5.out ?_;clear hK K;have c1:=zaa HX5.out 1;have f1:=zab HX5.out 1;refine zby (m:=0) (i:=7) (rem1:=[]) (by kernel_rfl) (by rfl) (by rfl) (by kernel_rfl) (fun K hK=>?_)
   go_wp2_with fail
   clear HX5 c1 f1;refine za2 ?_;generalize w5.setCell ⟨xb,1,none⟩ (.slice va (i+1) vc)=w6 at HR ⊢;go_wp2;go_roundw
   case rel=>
    refine⟨i+1,{ v with T:=.slice va (i+1) vc },by go_num,by omega,?_⟩;rw [List.range_succ,List.map_append,ziy,List.length_append,←Nat.add_assoc];exact HR.out
   case measure=>simp [intOf];omega
  ·have t0:decide ((i:Int) < (x.n:Int))=false:=by simp;omega
   obtain rfl:i=x.n:=by omega
   go_wp2;clear hlt hi t0
   go_loopw [41] (fun p_ wr=>∃ (i:Nat) (v:RdV),p_=qI i∧i≤x.mn∧Hid (DC (p+1) gB c ws p xb w (5+(zbt g x.n).length+(zbq M q i).length) ⟨x.r,(List.range x.n).map g,(List.range i).map fun i=>((M i).t,(List.range (M i).qn).map (q i)),[]⟩ v wr)) (fun p_ _=>x.mn - (intOf p_).toNat)
   case atStart=>exact⟨0,_,rfl,by omega,HD.out⟩
   case round=>
    obtain⟨i,v,rfl,hi,HD⟩:=hrel;by_cases hlt:i < x.mn
    ·have t0:decide ((i:Int) < (x.mn:Int))=true:=by simp;omega
     go_wp2;refine zan [3,4,5,6,7] (fun X=>X.heap[xb]? =some (qC #[qI x.r,v.T,v.M,v.E] 26)) (by kernel_rfl) (by kernel_rfl) HD.out.x ?_;refine qFs fun K hK=>?_;go_simp;refine⟨.pointer (some ⟨xb,2,none⟩),fun X hX=>?_,hK _ ?_⟩
     ·go_simp
     clear hK K;refine qFs fun K hK=>?_;go_simp;refine⟨v.M,fun X hX=>?_,hK _ ?_⟩
     ·have c1:=zaa hX 2;go_simp
     clear hK K;refine qFs fun K hK=>?_;go_simp;refine⟨qP (p+1),fun X hX=>?_,hK _ ?_⟩
     ·go_simp
     clear hK K;refine qFc ?_;refine qFc ?_;refine qFc ?_;refine qFc ?_;refine qFc ?_;refine za9 ?_;have HD0:=hid (HD.out.below (Below.refl wr.heap.size wr).drew);generalize wr.drew=Y0 at HD0 ⊢;refine qT1 3 [4,5,6,7] fun K hK=>?_
     go_wp2_with (go_at_call 81;refine (HMK.out i hlt (p+1) _ HD0.out.rd).mono ?_;rintro e X3 ⟨uq,rfl,huq,hr,hs⟩)
     have HD1:=hid (HD0.out.next (by omega) hxb hr hs);have HUQ:=hid (own_up (xb:=xb) (qLt HD0.out.x) huq);refine hK _ _ HD1.out.x ?_;clear hK K hr hs HD0 huq;refine qT1 4 [5,6,7] fun K hK=>?_
     go_wp2_with fail
     have HD2:=hid (HD1.out.below (qBr (qC #[qU ((M i).t:Int),uq] 71)));refine hK _ _ HD2.out.x ?_;clear hK K;obtain⟨i0,hi0,hz0,hz1,hz2⟩:=info_parts infoMd;have HNW:=hid (show ∀ (j:Nat) (u:Value),([qU ((M i).t:Int),uq]:List Value)[j]? =some u→(X3.alloc (qC #[qU ((M i).t:Int),uq] 71)).cell? ((⟨X3.heap.size,0,none⟩:Addr).add j)=some u from fun j u hj=>by rw [zbn,Nat.zero_add];exact (World.cell?_alloc_new X3 _ _ j).trans (by rw [←hj];simp));have HSZ:=hid (show xb+1≤(X3.alloc (qC #[qU ((M i).t:Int),uq] 71)).heap.size from (qLt HD2.out.x));have hlen2:i+1≤maxLen:=by unfold maxLen;omega
     have HU2:=hid (zkz HUQ.out (qBr (qC #[qU ((M i).t:Int),uq] 71)));obtain⟨ua,uc,hue,_,_⟩:=zar HUQ.out;refine qT1 5 [6,7] fun K hK=>?_;refine wpList_append_own_at _ rfl _ _ 23 rfl (xb+1) 71 i0 (.agg #[qU 0,.slice none 0 0]) 2 32 Tryz.underlying23 hi0 hz0 hz1 hz2 rfl (by decide) v.M i _ rfl (by have h0:=HD2.out.rw.M;rw [List.length_map,List.length_range] at h0;exact h0) ⟨X3.heap.size,0,none⟩ 1 1 [qU ((M i).t:Int),uq] rfl rfl HNW.out (by simp [Value.oneCell',hue]) hlen2 (by omega) HSZ.out ?_;intro v5 w5 h5 g5 _ _;have HX5:=hid (HD2.out.box HD2.out.rw.M g5);have HR:=hid (HD2.out.put (by omega) hxb hg0 HD2.out.rw.M g5 (HD2.out.rw.addM ((M i).t,(List.range (M i).qn).map (q i)) uq (by simpa using HU2.out) (by
      simp only [List.length_append,List.length_map,List.length_range,List.length_singleton];rw [zdy _ _ _ _ HD2.out.rw.ql];exact h5) g5) (j:=2) (u:=v5) rfl)
     obtain⟨va,vc,rfl,_,_⟩:=zar h5;clear h5 g5 HD2 HD1 HNW HSZ hi0 hz0 hz1 hz2 hlen2 HU2 HUQ hue;go_simp;refine hK _ _ HX5.out ?_;clear hK K;refine qT1 6 [7] fun K hK=>?_
     go_wp2_with fail
     refine hK _ _ HX5.out ?_;clear hK K;have c1:=zaa HX5.out 2;have f1:=zab HX5.out 2;refine zby (m:=0) (i:=7) (rem1:=[]) (by kernel_rfl) (by rfl) (by rfl) (by kernel_rfl) (fun K hK=>?_)
     go_wp2_with fail
     clear HX5 c1 f1;refine za2 ?_;generalize w5.setCell ⟨xb,2,none⟩ (.slice va (i+1) vc)=w6 at HR ⊢;go_wp2;go_roundw
     case rel=>
      refine⟨i+1,{ v with M:=.slice va (i+1) vc,q:=v.q ++ [uq] },by go_num,by omega,?_⟩;rw [List.range_succ,List.map_append,zi5,List.length_append,←Nat.add_assoc];exact HR.out
     case measure=>simp [intOf];omega
    ·have t0:decide ((i:Int) < (x.mn:Int))=false:=by simp;omega
     obtain rfl:i=x.mn:=by omega
     go_wp2;clear hlt hi t0
     go_loopw [52] (fun p_ wr=>∃ (i:Nat) (v:RdV),p_=qI i∧i≤x.en∧Hid (DC (p+1) gB c ws p xb w (5+(zbt g x.n).length+(zbq M q x.mn).length+(zb0 x M h i).length) ⟨x.r,(List.range x.n).map g,(List.range x.mn).map fun i=>((M i).t,(List.range (M i).qn).map (q i)),(List.range i).map h⟩ v wr)) (fun p_ _=>x.en - (intOf p_).toNat)
     case atStart=>exact⟨0,_,rfl,by omega,HD.out⟩
     case round=>
      obtain⟨i,v,rfl,hi,HD⟩:=hrel;by_cases hlt:i < x.en
      ·have t0:decide ((i:Int) < (x.en:Int))=true:=by simp;omega
       obtain⟨ta,tc,hvT,_,_⟩:=zar HD.out.rw.T;obtain⟨mo,mc,hvM,hmo⟩:=HD.out.rw.modesAt (M:=M) (q:=q) (mn:=x.mn) rfl;obtain⟨ea,ec,hvE,_,_⟩:=zar HD.out.rw.E;rw [List.length_map,List.length_range] at hvT hvE;have HEY:=hid fun (X:World) (hX:WdAt (p+1) gB c ws (5+(zbt g x.n).length+(zbq M q x.mn).length+(zb0 x M h i).length) X) (hTX:Tab X) (hR:RwAt (xb+1) X ⟨x.r,(List.range x.n).map g,(List.range x.mn).map fun i=>((M i).t,(List.range (M i).qn).map (q i)),(List.range i).map h⟩ v)=>(show Calls Tryz.prog 82 #[qP (p+1),.agg #[qI x.r,v.T,v.M,v.E]] X fun e w'=>e=.returned (.agg (qF23 (h i)))∧WdAt (p+1) gB c ws (5+(zbt g x.n).length+(zbq M q x.mn).length+(zb0 x M h i).length+(zfi (h i) (zdl x M (h i))).length) w'∧Save (fun k=>k=p+1) X w' from by
        obtain⟨mo2,mc2,hvM2,hmo2⟩:=hR.modesAt (M:=M) (q:=q) (mn:=x.mn) rfl;rw [hvT,hvM2,hvE];exact HEK.out i hlt (p+1) (by omega) X hX hTX ⟨x.r,ta,x.n,tc,mo2,x.mn,mc2,ea,i,ec⟩ (zkv v M) rfl (fun _=>rfl) hmo2)
       clear hvT hvM hvE hmo;go_wp2;refine zan [4,5,6,7,8] (fun X=>X.heap[xb]? =some (qC #[qI x.r,v.T,v.M,v.E] 26)) (by kernel_rfl) (by kernel_rfl) HD.out.x ?_;refine qFs fun K hK=>?_;go_simp;refine⟨.pointer (some ⟨xb,3,none⟩),fun X hX=>?_,hK _ ?_⟩
       ·go_simp
       clear hK K;refine qFs fun K hK=>?_;go_simp;refine⟨v.E,fun X hX=>?_,hK _ ?_⟩
       ·have c1:=zaa hX 3;go_simp
       clear hK K;refine qFs fun K hK=>?_;go_simp;refine⟨qP (p+1),fun X hX=>?_,hK _ ?_⟩
       ·go_simp
       clear hK K;refine qFs fun K hK=>?_;go_simp;refine⟨.agg #[qI x.r,v.T,v.M,v.E],fun X hX=>?_,hK _ ?_⟩
       ·have c0:=zaa hX 0;have c1:=zaa hX 1;have c2:=zaa hX 2;have c3:=zaa hX 3;go_simp
       clear hK K;refine qFc ?_;refine qFc ?_;refine qFc ?_;refine qFc ?_;refine qFc ?_;refine za9 ?_;have HD0:=hid (HD.out.below (Below.refl wr.heap.size wr).drew);generalize wr.drew=Y0 at HD0 ⊢;refine qT1 4 [5,6,7,8] fun K hK=>?_
       go_wp2_with (go_at_call 82;refine (HEY.out _ HD0.out.rd (HTT.out.below HD0.out.bl hpos) HD0.out.rw).mono ?_;rintro e X3 ⟨rfl,hr,hs⟩)
       have HD1:=hid (HD0.out.next (by omega) hxb hr hs);refine hK _ _ HD1.out.x ?_;clear hK K hr hs HD0 HEY;refine qT1 5 [6,7,8] fun K hK=>?_
       go_wp2_with fail
       have HD2:=hid (HD1.out.below (qBr (qC (qF23 (h i)) 176)));refine hK _ _ HD2.out.x ?_;clear hK K;obtain⟨i0,hi0,hz0,hz1,hz2⟩:=info_parts infoEg;have HNW:=hid (show ∀ (j:Nat) (u:Value),([qI (h i 0),qI (h i 1),qI (h i 2),qI (h i 3),qI (h i 4),qI (h i 5),qI (h i 6),qI (h i 7),qI (h i 8),qI (h i 9),qI (h i 10),qI (h i 11),qI (h i 12),qI (h i 13),qI (h i 14),qI (h i 15),qI (h i 16),qI (h i 17),qI (h i 18),qI (h i 19),qI (h i 20),qI (h i 21),qI (h i 22)]:List Value)[j]? =some u→(X3.alloc (qC (qF23 (h i)) 176)).cell? ((⟨X3.heap.size,0,none⟩:Addr).add j)=some u from fun j u hj=>by rw [zbn,Nat.zero_add];exact (World.cell?_alloc_new X3 _ _ j).trans (by rw [←hj];simp));have HSZ:=hid (show xb+1≤(X3.alloc (qC (qF23 (h i)) 176)).heap.size from (qLt HD2.out.x));have hlen2:i+1≤maxLen:=by unfold maxLen;omega
       refine qT1 6 [7,8] fun K hK=>?_;refine wpList_append_own_at _ rfl _ _ 24 rfl (xb+1) 176 i0 (.agg qZ23) 23 184 Tryz.underlying24 hi0 hz0 hz1 hz2 rfl (by decide) v.E i _ rfl (by have h0:=HD2.out.rw.E;rw [List.length_map,List.length_range] at h0;exact h0) ⟨X3.heap.size,0,none⟩ 1 1 [qI (h i 0),qI (h i 1),qI (h i 2),qI (h i 3),qI (h i 4),qI (h i 5),qI (h i 6),qI (h i 7),qI (h i 8),qI (h i 9),qI (h i 10),qI (h i 11),qI (h i 12),qI (h i 13),qI (h i 14),qI (h i 15),qI (h i 16),qI (h i 17),qI (h i 18),qI (h i 19),qI (h i 20),qI (h i 21),qI (h i 22)] rfl rfl HNW.out (by simp [Value.oneCell']) hlen2 (by omega) HSZ.out ?_;intro v5 w5 h5 g5 _ _;have HX5:=hid (HD2.out.box HD2.out.rw.E g5);have HR:=hid (HD2.out.put (by omega) hxb hg0 HD2.out.rw.E g5 (HD2.out.rw.addE (h i) (by
        simp only [List.length_append,List.length_map,List.length_range,List.length_singleton];rw [zpa];exact h5) g5) (j:=3) (u:=v5) rfl)
       obtain⟨va,vc,rfl,_,_⟩:=zar h5;clear h5 g5 HD2 HD1 HNW HSZ hi0 hz0 hz1 hz2 hlen2;go_simp;refine hK _ _ HX5.out ?_;clear hK K;refine qT1 7 [8] fun K hK=>?_
       go_wp2_with fail
       refine hK _ _ HX5.out ?_;clear hK K;have c1:=zaa HX5.out 3;have f1:=zab HX5.out 3;refine zby (m:=0) (i:=8) (rem1:=[]) (by kernel_rfl) (by rfl) (by rfl) (by kernel_rfl) (fun K hK=>?_)
       go_wp2_with fail
       clear HX5 c1 f1;refine za2 ?_;generalize w5.setCell ⟨xb,3,none⟩ (.slice va (i+1) vc)=w6 at HR ⊢;go_wp2;go_roundw
       case rel=>
        refine⟨i+1,{ v with E:=.slice va (i+1) vc },by go_num,by omega,?_⟩;rw [List.range_succ,List.map_append,zje,List.length_append,←Nat.add_assoc];exact HR.out
       case measure=>simp [intOf];omega
      ·have t0:decide ((i:Int) < (x.en:Int))=false:=by simp;omega
       obtain rfl:i=x.en:=by omega
       have HDF:=hid (show DC (p+1) gB c ws p xb w ws.length (zmy x g M q h) v wr by rw [HL.out];exact HD.out);clear HD HTK HMK HEK hlt hi;obtain⟨y,hy,ey,hI⟩:=HDF.out.rw.img HXX.out;have HCK:=hid (zgu y g (zkv v M) q h wr hI (HVV.out.congr ey (zrt v M)));obtain⟨yr,ao,n,cap,mo,mn,mc,eo,en,ec⟩:=y;unfold iv at hy HCK;dsimp only at HCK;simp only [Value.agg.injEq,Array.mk.injEq,List.cons.injEq,and_true,Value.int.injEq,true_and] at hy;obtain⟨hyr,hvT,hvM,hvE⟩:=hy;subst hyr;have hbx:=HDF.out.x;rw [hvT,hvM,hvE] at hbx;have b1:=zaa HDF.out.rd.blk 1;have b2:=zaa HDF.out.rd.blk 2;have c0:=zaa hbx 0;have c1:=zaa hbx 1;have c2:=zaa hbx 2;have c3:=zaa hbx 3;have HBX:=hid hbx;have t1:((ws.length:Int) != (ws.length:Int))=false:=by simp
       clear hbx hI;have HVS:=hid (And.intro hvT (And.intro hvM hvE));clear hvT hvM hvE ey
       go_wp2_with (go_at_call 77;refine HCK.out.mono ?_;rintro e wc ⟨rfl,hbc⟩;have hx2:=qBa hbc HBX.out;have d0:=zaa hx2 0;have d1:=zaa hx2 1;have d2:=zaa hx2 2;have d3:=zaa hx2 3;have hz2:=qBa hbc HDF.out.z;have z0:=zaa hz2 0;have z1:=zaa hz2 1;have z2:=zaa hz2 2;have z3:=zaa hz2 3;have y0:=zab hz2 0;have y1:=zab hz2 1;have y2:=zab hz2 2;have y3:=zab hz2 3)
       clear b1 b2 c0 c1 c2 c3 t1 d0 d1 d2 d3 z0 z1 z2 z3 y0 y1 y2 y3 hx2 HBX HCK;have hs4:=(((Save.set wc p 0 (qI (zmy x g M q h).r)).trans (Save.set _ p 1 (.slice ao n cap)) fun _ _ e=>e).trans (Save.set _ p 2 (.slice mo mn mc)) fun _ _ e=>e).trans (Save.set _ p 3 (.slice eo en ec)) fun _ _ e=>e;have hz4:=zbh (j:=3) (u:=.slice eo en ec) (zbh (j:=2) (u:=.slice mo mn mc) (zbh (j:=1) (u:=.slice ao n cap) (zbh (j:=0) (u:=qI (zmy x g M q h).r) hz2)));generalize (((wc.setCell ⟨p,0,none⟩ (qI (zmy x g M q h).r)).setCell ⟨p,1,none⟩ (.slice ao n cap)).setCell ⟨p,2,none⟩ (.slice mo mn mc)).setCell ⟨p,3,none⟩ (.slice eo en ec)=wF at hs4 hz4 ⊢;have hr4:=(HDF.out.rw.low (row:=Option.none) ⟨hbc.os,hbc.tape,hbc.output,hbc.size,fun k hk _=>hbc.block k hk⟩ fun g e=>by cases e).low (zk5 hs4) fun g e=>by cases e;omega
       obtain⟨y2,hy2,ey2,hI2⟩:=hr4.img HXX.out;have m0:wF.cell? ⟨p,0,none⟩=some (qI x.r):=(zaa hz4 0).trans rfl;have m1:wF.cell? ⟨p,1,none⟩=some (.slice ao n cap):=(zaa hz4 1).trans rfl;have m2:wF.cell? ⟨p,2,none⟩=some (.slice mo mn mc):=(zaa hz4 2).trans rfl;have m3:wF.cell? ⟨p,3,none⟩=some (.slice eo en ec):=(zaa hz4 3).trans rfl;rw [HVS.out.1,HVS.out.2.1,HVS.out.2.2] at hy2;have hsz:=(qLt HDF.out.z);refine bodyPost_ret (v:=.tuple #[iv y2,qI 0]) (by rw [←hy2];simp [results,Tryz.results31,go_sem,m0,m1,m2,m3]) rfl ?_;refine⟨y2,zkv v M,rfl,ey2,zrt v M,hI2,?_⟩;rw [HP.out];exact hs4.below (HDF.out.bl.trans (hbc.mono (by omega))) (by have:=hbc.size;omega) fun i e=>by omega
end Go.Proofs.YtpbmmoneeoijaaaGreatDoor
namespace Go.Proofs.YtpbmmoneeoijaaaGreatDoor
open Go.RowKit Go.Deep Go.Shelf
set_option maxRecDepth 100000
set_option maxHeartbeats 8000000
attribute [local go_sem] Oper.semAt_some zaq
set_option maxRecDepth 100000
theorem zqa (x:Img) (w:World):Calls Tryz.prog 78 #[iv x] w fun r w'=>r=.returned (.func (.func 155) #[] #[qP w.heap.size])∧w'=w.alloc (zi8 x):=by
 obtain⟨r,ao,n,cap,mo,mn,mc,eo,en,ec⟩:=x;unfold iv zi8;go_enter Tryz.func78,Tryz.ntmps78;go_wp2;go_ret;exact⟨rfl,rfl⟩
theorem KpE.appended {W w1:World} {n₀ m B:Nat} {v v':Value} {k:Nat} {xs:List Value} {tmp:Obj} (hv:Boxed W B 28 v) (hrow:W.ownsRow m 39 1 v k xs) (hgrow:(W.alloc tmp).grownBy w1 v.ownBlock)
  (hb:Below n₀ W (w1.setCell ⟨B,0,none⟩ v')):KpE n₀ W (w1.setCell ⟨B,0,none⟩ v'):=⟨hb,fun b cs t t1 t2 hc=>by
 have hlt:=(qLt hc);have h1:(W.alloc tmp).heap[b]? =some (.cells cs t (0,0)):=(Below.heap_alloc W tmp b hlt).trans hc;have hB:b≠B:=by
  rintro rfl;have:=(show W.heap[b]? =_ from hv).symm.trans hc;simp at this;exact t2 this.2.symm
 have hne:some b≠v.ownBlock:=by
  rcases hrow.2 with ⟨rfl,_⟩|⟨g,cap,cur,rfl,_,hgb,_⟩
  ·simp [Value.ownBlock]
  ·intro e
   obtain rfl:b=g:=by simpa [Value.ownBlock] using e
   rw [hgb] at hc;simp at hc;exact t1 hc.2.symm
 exact (heap_setCell_other _ ⟨B,0,none⟩ b v' (by show b≠B;exact hB)).trans ((hgrow.block b (by simp;omega) hne).trans h1)⟩
def zs1 (l:List Int) (w:World) (e:Ending) (w':World):Prop:=(∃ ao c,e=.returned (.tuple #[.slice ao l.length c,qI 0])∧zg5 w' ao l)∧Below w.heap.size w w'
theorem zB9 (x:Img) (g:Nat→Nat→Int) (M:Nat→zas) (q:Nat→Nat→Nat→Int) (h:Nat→Nat→Int) (w:World) (hx:zdr w x g M q h) (hv:VX x g M q h) (hT:Tab w)
  (hb:x.n≤40∧x.mn≤20∧x.en≤60∧∀ i,i < x.mn→(M i).qn≤20) (hf:∀ i,i < x.en→zdl x M (h i) < 65536):
  Calls Tryz.prog 30 #[iv x] w (zs1 (encW x g M q h) w):=by
 have HST:=hid fun (Bc:Nat) (W:World) (h0w:Below w.heap.size w W) (hc:W.heap[Bc]? =some (zi8 x))=>zsp 7 (by omega) Bc x g M q h w.heap.size w W h0w (Nat.le_refl _) h0w.size hx hc hT hb hf;have HCK:=hid fun X (hX:Below w.heap.size w X)=>zgu x g M q h X (hx.below hX) hv;have HCW:=hid fun X=>zqa x X;have hlen:(encW x g M q h).length≤6000:=by
  have htl:=zf8 g x.n;have hml:=zgd q (M:=M) (n:=x.mn) hb.2.2.2;have hel:=zgj x M h x.en;have b1:=hb.1;have b2:=hb.2.1;have b3:=hb.2.2.1;unfold encW;simp only [List.length_append,List.length_cons,List.length_nil];omega
 obtain⟨cl,hcl⟩:∃ l,encW x g M q h=l:=⟨_,rfl⟩;rw [hcl] at HST hlen ⊢;clear hcl hx hv hT hb hf;refine (callsIn_wide (n:=8)).1 ?_;have h1:1≤8:=by omega
 obtain⟨i0,hi,iz0,iz1,iz2⟩:=info_parts infoU;refine callsIn_of_wp_marks Tryz.func30 rfl trivial ?_ rfl;simp only [Tryz.ntmps30,qPr,Nat.reduceAdd,Nat.reduceSub];refine wpIn_wide.2 ?_;have g0:=heap_alloc_new w (zi8 x);have hb1:=qBr (w:=w) (zi8 x);have hs1:(w.alloc (zi8 x)).heap.size=w.heap.size+1:=World.size_alloc _ _;have HCK1:=hid (HCK.out _ hb1);obtain⟨r,ao,tn,cap,mo,mn,mc,eo,en,ec⟩:=x;unfold iv at HCW HCK1;unfold zi8 at HCW g0 hb1 hs1 HST HCK1;unfold iv;have c0:=zaa g0 0;have c1:=zaa g0 1;have c2:=zaa g0 2;have c3:=zaa g0 3;clear HCK
 go_upto_region 2 with (go_at_call 77;refine HCK1.out.mono ?_;rintro r W1 ⟨rfl,hB1⟩)
 have G1:=(hB1.block _ (by omega)).trans g0;have hbW:=hb1.trans (hB1.mono hb1.size);clear c0 c1 c2 c3 HCK1;have G2:=(Below.heap_alloc W1 (qC #[.slice none 0 0] 28) w.heap.size (by have:=hB1.size;omega)).trans G1;have c0:=zaa G2 0;have c1:=zaa G2 1;have c2:=zaa G2 2;have c3:=zaa G2 3;clear hs1 g0 hb1
 go_wp2_with (go_at_call 78;refine (HCW.out _).mono ?_;rintro r w' ⟨rfl,rfl⟩)
 clear c0 c1 c2 c3 G2;obtain⟨b1,hb1⟩:∃ n,W1.heap.size=n:=⟨_,rfl⟩;have bO2:=Boxed.new W1 28 (.slice none 0 0);have bO3:=bO2.alloc (qC #[qI r,.slice ao tn cap,.slice mo mn mc,.slice eo en ec] 26);have gC:=heap_alloc_new (W1.alloc (qC #[.slice none 0 0] 28)) (qC #[qI r,.slice ao tn cap,.slice mo mn mc,.slice eo en ec] 26);have hb3:Below w.heap.size w ((W1.alloc (qC #[.slice none 0 0] 28)).alloc (qC #[qI r,.slice ao tn cap,.slice mo mn mc,.slice eo en ec] 26)):=(hbW.alloc hbW.size _).alloc (by simp;have:=hbW.size;omega) _;have hs3:((W1.alloc (qC #[.slice none 0 0] 28)).alloc (qC #[qI r,.slice ao tn cap,.slice mo mn mc,.slice eo en ec] 26)).heap.size=b1+2:=by simp [hb1]
 rw [World.size_alloc] at gC;rw [hb1] at bO3 gC ⊢;have hwb:w.heap.size≤b1:=by rw [←hb1];exact hbW.size
 obtain⟨W3,hW3⟩:∃ X,X=(W1.alloc (qC #[.slice none 0 0] 28)).alloc (qC #[qI r,.slice ao tn cap,.slice mo mn mc,.slice eo en ec] 26):=⟨_,rfl⟩;rw [←hW3] at gC bO3 hb3 hs3 ⊢;clear hW3 bO2 hb1 hbW G1 hB1 HCW;have hst:=HST.out _ W3 hb3 gC;refine (wpIn_wide (n:=8)).1 ?_;refine zf9 rfl h1 (gf:=155) (lb:=#[qP (b1+1)]) rfl trivial (enters_of Tryz.func155 (by kernel_rfl) rfl) hst
  KpE.t (KpE.b (by omega)) (Below.refl _ _) (fun _=>rfl)
  (fun pre W=>zEy b1 pre W∧Below w.heap.size w W∧b1+2≤W.heap.size)
  (OwnFrom.and (Own.from (zqh _ (fun pre:List Int=>pre)) _) (OwnFrom.and (ownFrom_below (by omega) (by omega)) (fun _ X Y row hz hg _=>Nat.le_trans hz hg.size)))
  (fun X Y ⟨_,_,v,_,_,e⟩=>e▸KeepsOthers.setCell X _ v)
  (fun X Y ⟨c,u,v,hn,hc,e⟩ s hs=>by
   subst e;obtain⟨⟨z,hz,hrow⟩,hB,hsz⟩:=hs;have hne:b1≠c:=by
    rintro rfl;have:=(show X.heap[b1]? =_ from hz).symm.trans hc;simp at this
   exact⟨⟨z,hz.other hne _,zah hrow (zbu X ⟨c,0,none⟩ v) fun g e=>by cases e;exact⟨_,hc,fun cs f e2=>by simp at e2⟩⟩,hB.setCell (p:=⟨c,0,none⟩) hn _,by simpa using hsz⟩)
  ⟨⟨_,bO3,World.ownsRow_nil _ _ _ _⟩,hb3,by omega⟩
  (fun x a' W=>a'= { tmps:=#[.agg #[qI r,.slice ao tn cap,.slice mo mn mc,.slice eo en ec],qP w.heap.size,.slice none 0 0,qI 0,qI 0,qI 0,qP b1,qI x,.tuple #[qI 0,qI 0],.agg #[qI r,.slice ao tn cap,.slice mo mn mc,.slice eo en ec],.tuple #[qI 0,qI 0],qI 0,qI 0,qI 0,.bool false,undef,.agg #[qI r,.slice ao tn cap,.slice mo mn mc,.slice eo en ec],.func (.func 155) #[] #[qP (b1+1)],qI x,undef,undef,undef,undef,undef,undef],defers:=[] })
  (fun x a' _ X Y row hz hg hr=>hz)
  ?assign ?body ?done
 case assign=>
  rintro l pre x W K hI hK
  gi_wp2
  exact hK _ _ (KeepsFrom.refl _ _) (KpE.refl _ _) hI rfl
 case body=>
  rintro l pre x a' W hdl hlr ⟨⟨v,hv,hrow⟩,hB,hsz⟩ rfl hlen2;have hc:=hv.cell;have hnews:∀ (j:Nat) (u:Value),[Value.int .u32 (IntKind.u32.wrap x)][j]? =some u→(W.alloc (qC #[Value.int .u32 (IntKind.u32.wrap x)] 39)).cell? ((⟨W.heap.size,0,none⟩:Addr).add j)=some u:=fun j u hj=>by
   rw [zbn,Nat.zero_add,World.cell?_alloc_at _ _ _ _ rfl];simpa using hj
  gi_wp2_with (gi_at_builtin;refine wpListIn_append_own _ rfl _ _ 28 rfl b1 39 i0 (qU 0) 1 4 Tryz.underlying28 hi iz0 iz1 iz2 rfl (by decide) _ _ _ rfl (hrow.alloc _) ⟨W.heap.size,0,none⟩ 1 1 [qU (IntKind.u32.wrap x)] rfl rfl hnews (by simp [Value.oneCell']) (by unfold maxLen;omega) (by omega) (by simp;omega) ?_;intro v' w1 hown' hgrow _;obtain⟨g',cap',rfl⟩:=ownsRow_succ hown';obtain⟨hv1,hv2,hr2,hk2,hb2⟩:=hv.appended (by decide) hrow (by omega) (Nat.le_refl _) hown' hgrow;have hc1:=hv1.cell;have hf1:=hv1.frozen)
  exact⟨hk2.from _,KpE.appended hv hrow hgrow (hb2.mono (by omega)),⟨_,hv2,by rw [List.length_append];show World.ownsRow _ _ _ _ _ (pre.length+1) (u32s (pre ++ [x]));unfold u32s;rw [List.map_append];exact hr2⟩,hB.trans (hb2.mono (by omega)),by have:=hb2.size;omega⟩
 case done=>
  rintro D ys W hD hyse ⟨⟨v,hv,hrow⟩,hB,hsz⟩ hK;subst hyse;obtain⟨ao2,c,rfl,hU⟩:=zqj hrow;have hc:=hv.cell;have HU:=hid hU;have HB:=hid hB;clear hU hB
  gi_wp2
  go_wp2;refine⟨by simp,.inl ⟨_,_,rfl,run_takeDeferred hK,?_⟩⟩;refine⟨.tuple #[.slice ao2 ys.length c,qI 0],by simp [results,Tryz.results30,go_sem],⟨_,_,rfl,HU.out.put hK⟩,HB.out.trans (belowK_b (w:=w) (Nat.le_refl _) W D _ _ (by omega) hK rfl rfl)⟩
end Go.Proofs.YtpbmmoneeoijaaaGreatDoor
namespace Go.Proofs.YtpbmmoneeoijaaaGreatDoor
open Go.RowKit Go.Deep Go.Shelf
set_option maxRecDepth 100000
set_option maxHeartbeats 8000000
section
variable {x:Img} {g:Nat→Nat→Int} {M:Nat→zas} {q:Nat→Nat→Nat→Int} {h:Nat→Nat→Int}
theorem zt2 {w0:World} (hx:zdr w0 x g M q h) (hv:VX x g M q h) (w:World):
  Calls Tryz.prog 29 #[.string (bs (zat (imgD x g M q h)))] w fun e w'=>∃ (y:Img) (K:Nat→zas),e=.returned (.tuple #[iv y,qI 0,qI 0])∧(x.r=y.r∧x.n=y.n∧x.mn=y.mn∧x.en=y.en)∧(∀ i,(M i).t=(K i).t∧(M i).qn=(K i).qn)∧zdr w' y g K q h∧Below w.heap.size w w':=by
 refine (zDb _ w (zBg hv)).mono ?_;rintro e w' ⟨base,b,P,v,rfl,hr,_,hb⟩;rw [run_img] at hr ⊢;obtain⟨y,hy,ey,hI⟩:=hr.rows.img hx;exact⟨y,zkv v M,by rw [←hy];rfl,ey,zrt v M,hI,hb⟩
theorem zq8 {w:World} (hx:zdr w x g M q h) (hv:VX x g M q h) (hT:Tab w):Calls Tryz.prog 30 #[iv x] w (zs1 (encW x g M q h) w):=
 zB9 x g M q h w hx hv hT ⟨by have:=hv.o.n2;omega,by have:=hv.o.m2;omega,by have:=hv.o.e;omega,fun i hi=>by have:=(hv.o.mq i hi).1;omega⟩ fun i _=>hv.fresh (h i)
theorem zrc {w0:World} (hx:zdr w0 x g M q h) (hv:VX x g M q h) {ao:Option Addr} {c:Nat} {w:World} (hU:zg5 w ao (encW x g M q h)) (hT:Tab w):Calls Tryz.prog 31 #[.slice ao (encW x g M q h).length c] w (zs2 x g M q h w):=by
 obtain⟨b,rfl,_⟩:=hU 0 1380273457 rfl;exact zCe x g M q h w0 hx hv b c w hU hT
theorem zps {y:Img} {K:Nat→zas} (ey:x.r=y.r∧x.n=y.n∧x.mn=y.mn∧x.en=y.en) (eK:∀ i,(M i).t=(K i).t∧(M i).qn=(K i).qn) {w:World} (hI:zdr w y g K q h) (hv:VX x g M q h) (hT:Tab w):
  Calls Tryz.prog 34 #[iv y] w (AdmC (zp4 x g M) (zos x M) (zle x g M h) x.mn x.en w):=by
 have:=zEu y g K q h w hI (hv.congr ey eK) hT
 rwa [←zv1 ey.2.2.1 fun i=>(eK i).1,←zv2 ey.2.1 ey.2.2.1 fun i=>(eK i).1,←zw0 ey.2.1 ey.2.2.1 fun i=>(eK i).1,←ey.2.2.1,←ey.2.2.2] at this
end
theorem ztp {x:Img} {g:Nat→Nat→Int} {M:Nat→zas} {q:Nat→Nat→Nat→Int} {h:Nat→Nat→Int} {w0:World} (hx:zdr w0 x g M q h) (hv:VX x g M q h) (w:World) (hT:Tab w):
  Calls Tryz.prog 35 #[.string (bs (zat (imgD x g M q h)))] w fun e w'=>(∃ ao c,e=.returned (.tuple #[.slice ao (encW x g M q h).length c,.nilIface])∧zg5 w' ao (encW x g M q h))∧Below w.heap.size w w':=by
 have HPR:=hid (zt2 hx hv w);obtain⟨T,hTT⟩:∃ T,bs (zat (imgD x g M q h))=T:=⟨_,rfl⟩;rw [hTT] at HPR ⊢;have HV:=hid hv;have HT:=hid hT;have hpos:=hT.pos;clear hTT hx hv hT;go_enter Tryz.func35,Tryz.ntmps35
 go_upto_region 2 with (go_at_call 29;refine HPR.out.mono ?_;rintro e w2 ⟨⟨r,ao,n,cap,mo,mn,mc,eo,en,ec⟩,K,rfl,ey,eK,hI,hb2⟩)
 have HVY:=hid (HV.out.congr (y:=⟨r,ao,n,cap,mo,mn,mc,eo,en,ec⟩) ey eK);have HEY:=hid (zra (x:=x) (y:=⟨r,ao,n,cap,mo,mn,mc,eo,en,ec⟩) (g:=g) (q:=q) (h:=h) ey.1 ey.2.1 ey.2.2.1 ey.2.2.2 eK);have hb3:=qBr (w:=w2) (qC #[qI r,.slice ao n cap,.slice mo mn mc,.slice eo en ec] 26);have HBK:=hid (heap_alloc_new w2 (qC #[qI r,.slice ao n cap,.slice mo mn mc,.slice eo en ec] 26));have HI:=hid (hI.below hb3);have HB3:=hid (hb2.trans (hb3.mono hb2.size));clear ey eK hI hb2 hb3 HPR;generalize w2.alloc (qC #[qI r,.slice ao n cap,.slice mo mn mc,.slice eo en ec] 26)=W3 at HBK HI HB3 ⊢;have HCK:=hid (zgu _ g K q h W3 HI.out HVY.out);unfold iv at HCK;dsimp only at HCK;have c0:=zaa HBK.out 0;have c1:=zaa HBK.out 1;have c2:=zaa HBK.out 2;have c3:=zaa HBK.out 3
 go_upto_region 7 with (go_at_call 77;refine HCK.out.mono ?_;rintro e w4 ⟨rfl,hb4⟩)
 have HB4:=hid (HB3.out.trans (hb4.mono HB3.out.size));have HEN:=hid (zq8 (HI.out.below hb4) HVY.out (HT.out.below HB4.out hpos));unfold iv zs1 at HEN;dsimp only at HEN;rw [←HEY.out] at HEN;have hbk:=qBa hb4 HBK.out;clear c0 c1 c2 c3 HCK hb4 HBK;have c0:=zaa hbk 0;have c1:=zaa hbk 1;have c2:=zaa hbk 2;have c3:=zaa hbk 3
 go_wp2_with (go_at_call 30;refine HEN.out.mono ?_;rintro e w5 ⟨⟨ao5,c5,rfl,hU5⟩,hb5⟩)
 go_ret2;exact⟨⟨_,_,rfl,hU5⟩,HB4.out.trans (hb5.mono HB4.out.size)⟩
theorem zCy {x:Img} {g:Nat→Nat→Int} {M:Nat→zas} {q:Nat→Nat→Nat→Int} {h:Nat→Nat→Int} {w0:World} (hx:zdr w0 x g M q h) (hv:VX x g M q h) (ao:Option Addr) (c:Nat) (w:World) (hU:zg5 w ao (encW x g M q h)) (hT:Tab w):
  Calls Tryz.prog 38 #[.slice ao (encW x g M q h).length c] w fun e w'=>e=.returned (.bool ((admF (zp4 x g M) (zos x M) (zle x g M h) x.mn x.en).2 == 0))∧Below w.heap.size w w':=by
 have HDC:=hid (zrc hx hv hU hT (c:=c));obtain⟨N,hN⟩:∃ N,(encW x g M q h).length=N:=⟨_,rfl⟩;rw [hN] at HDC ⊢;have HV:=hid hv;have HT:=hid hT;have hpos:=hT.pos;clear hN hx hv hT hU;unfold zs2 at HDC;go_enter Tryz.func38,Tryz.ntmps38;obtain⟨A,hA⟩:∃ z,admF (zp4 x g M) (zos x M) (zle x g M h) x.mn x.en=z:=⟨_,rfl⟩;have HA:=hid hA;rw [hA];clear hA
 go_upto_region 2 with (go_at_call 31;refine HDC.out.mono ?_;rintro e w2 ⟨⟨r,ao,n,cap,mo,mn,mc,eo,en,ec⟩,K,rfl,⟨hr,hn,hm,he⟩,eK,hI,hb2⟩)
 subst hr hn hm he;have hb3:=qBr (w:=w2) (qC #[qI x.r,.slice ao x.n cap,.slice mo x.mn mc,.slice eo x.en ec] 26);have hbk:=heap_alloc_new w2 (qC #[qI x.r,.slice ao x.n cap,.slice mo x.mn mc,.slice eo x.en ec] 26);have HB3:=hid (hb2.trans (hb3.mono hb2.size));have HAD:=hid (zps (x:=x) (M:=M) (y:=⟨x.r,ao,x.n,cap,mo,x.mn,mc,eo,x.en,ec⟩) ⟨rfl,rfl,rfl,rfl⟩ eK (hI.below hb3) HV.out (HT.out.below HB3.out hpos));unfold AdmC admN at HAD;rw [HA.out] at HAD;obtain⟨n1,hn1⟩:∃ n,(if A.2=0 then x.mn else 0)=n:=⟨_,rfl⟩;obtain⟨n2,hn2⟩:∃ n,(if A.2=0 then x.en else 0)=n:=⟨_,rfl⟩;rw [hn1,hn2] at HAD;unfold iv at HAD;have c0:=zaa hbk 0;have c1:=zaa hbk 1;have c2:=zaa hbk 2;have c3:=zaa hbk 3;clear hb3 hbk hn1 hn2 hI hb2 eK HA HDC;generalize w2.alloc (qC #[qI x.r,.slice ao x.n cap,.slice mo x.mn mc,.slice eo x.en ec] 26)=W3 at HB3 HAD c0 c1 c2 c3 ⊢
 go_wp2_with (go_at_call 34;refine HAD.out.mono ?_;rintro e w4 ⟨ca,ce,cc,cd,rfl,_,_,hb4⟩)
 go_ret;exact⟨rfl,HB3.out.trans (hb4.mono HB3.out.size)⟩
theorem zuu (F:Nat→RowF) (L:Nat→List Nat) (E:Nat→Int×Int×Bool) (ca ce da de:Option Addr) (ml el cc cd dc dd:Nat) (w:World) (hM:zdv F L w ca ml) (hE:zb9 w ce el 2 (spG E)) (hM2:zdv F L w da ml) (hE2:zb9 w de el 2 (spG E)) (hL:∀ i,(L i).length≤32) (m8:ml≤8) (e24:el≤24):
  Calls Tryz.prog 36 #[.agg #[.slice ca ml cc,.slice ce el cd],.agg #[.slice da ml dc,.slice de el dd]] w fun e w'=>e=.returned (.bool true)∧Below w.heap.size w w':=by
 have hlen:=zl1 (F:=F) (E:=E) hL m8 e24;have WA0:∀ W,Below w.heap.size w W→Calls Tryz.prog 91 #[.agg #[.slice ca ml cc,.slice ce el cd]] W fun e w'=>(∃ ao c,e=.returned (.slice ao (zpi F L E ml el).length c)∧zg5 w' ao (zpi F L E ml el))∧Below W.heap.size W w':=fun W h=>zs5 F L E ca ce ml el cc cd W (hM.keep (M:=fun _=>False) (base:=0) (by simp) (by simp) (FT.of_below h)) (hE.below h) hL m8 e24;have WB0:∀ W,Below w.heap.size w W→Calls Tryz.prog 91 #[.agg #[.slice da ml dc,.slice de el dd]] W fun e w'=>(∃ ao c,e=.returned (.slice ao (zpi F L E ml el).length c)∧zg5 w' ao (zpi F L E ml el))∧Below W.heap.size W w':=fun W h=>zs5 F L E da de ml el dc dd W (hM2.keep (M:=fun _=>False) (base:=0) (by simp) (by simp) (FT.of_below h)) (hE2.below h) hL m8 e24;obtain⟨cl,hcl⟩:∃ l,zpi F L E ml el=l:=⟨_,rfl⟩;rw [hcl] at WA0 WB0 hlen;clear hcl hM hE hM2 hE2 hL m8 e24;obtain⟨m1,hm1⟩:∃ v,v=Value.slice ca ml cc:=⟨_,rfl⟩;obtain⟨e1,he1⟩:∃ v,v=Value.slice ce el cd:=⟨_,rfl⟩;obtain⟨m2,hm2⟩:∃ v,v=Value.slice da ml dc:=⟨_,rfl⟩;obtain⟨e2,he2⟩:∃ v,v=Value.slice de el dd:=⟨_,rfl⟩;rw [←hm1,←he1] at WA0;rw [←hm2,←he2] at WB0;rw [←hm1,←he1,←hm2,←he2];clear hm1 he1 hm2 he2;have g0:=zac (heap_alloc_new w (qC #[m1,e1] 97)) (qC #[m2,e2] 97);have g1:=heap_alloc_new (w.alloc (qC #[m1,e1] 97)) (qC #[m2,e2] 97);rw [World.size_alloc] at g1;have hb1:=(qBr (w:=w) (qC #[m1,e1] 97));have hB0:=hb1.alloc hb1.size (qC #[m2,e2] 97);go_enter Tryz.func36,Tryz.ntmps36
 go_upto_region 1 with fail
 obtain⟨W,hW⟩:∃ X,X=(w.alloc (qC #[m1,e1] 97)).alloc (qC #[m2,e2] 97):=⟨_,rfl⟩;rw [←hW] at g0 g1 hB0 ⊢;clear hW hb1;have HG0:=hid g0;have HG1:=hid g1;have HWA:=hid fun X (hX:Below W.heap.size W X)=>WA0 X (hB0.trans (hX.mono hB0.size));have HWB:=hid fun X (hX:Below W.heap.size W X)=>WB0 X (hB0.trans (hX.mono hB0.size));clear WA0 WB0 g0 g1;refine zan [1,3,4,5] (fun X=>Below W.heap.size W X) (by kernel_rfl) (by kernel_rfl) (by exact⟨rfl,rfl,rfl,Nat.le_refl _,fun _ _=>rfl⟩) ?_;refine qFs fun K hK=>?_;go_simp;refine⟨.agg #[m1,e1],fun X hX=>?_,hK _ ?_⟩
 ·have hI:=qBa hX HG0.out
  have z0:=zaa hI 0;have z1:=zaa hI 1;go_simp
 clear hK K;refine qFc ?_;refine qFs fun K hK=>?_;go_simp;refine⟨.agg #[m2,e2],fun X hX=>?_,hK _ ?_⟩
 ·have hI:=qBa hX HG1.out
  have z0:=zaa hI 0;have z1:=zaa hI 1;go_simp
 clear hK K;refine qFc ?_;refine qFc ?_;refine qFc ?_;refine za9 ?_;have B0:Below W.heap.size W W.drew:=⟨rfl,rfl,rfl,Nat.le_refl _,fun _ _=>rfl⟩;refine qT1 1 [3,4,5] fun K hK=>?_
 go_wp2_with fail
 refine (HWA.out _ B0).mono ?_;rintro e X1 ⟨⟨aa,ca,rfl,ha⟩,hba⟩;have B1:=B0.trans (hba.mono B0.size)
 go_wp2_with fail
 refine hK _ _ B1 ?_;clear hK K;refine qT1 3 [4,5] fun K hK=>?_
 go_wp2_with fail
 refine (HWB.out _ B1).mono ?_;rintro e X2 ⟨⟨ab,cb,rfl,hb2⟩,hbb⟩;have B2:=B1.trans (hbb.mono B1.size)
 go_wp2_with fail
 refine hK _ _ B2 ?_;clear hK K;refine zbw (m:=1) (i:=4) (rem1:=[5]) rfl (by kernel_rfl) (by rfl) (by rfl) B2 (by rfl) (fun K hK=>?_);go_simp;refine⟨_,fun _ _=>rfl,hK _ ?_⟩;clear hK K;refine qT1 5 [] fun K hK=>?_
 go_wp2_with fail
 refine hK _ _ B2 ?_;clear hK K;refine za2 ?_;have hUA:=ha.below hbb;have hUB:=hb2;have hBF:=hB0.trans (B2.mono hB0.size)
 go_upto_region 4 with fail
 have HUA:=hid hUA;have HUB:=hid hUB;have HB:=hid hBF;obtain⟨W9,hW9⟩:∃ X,X=X2:=⟨_,rfl⟩;rw [←hW9] at HUA HUB HB ⊢;clear hW9 hUA hUB hBF;go_wp2
 go_loopw [19] (fun i_ wr=>∃ i:Nat,i≤cl.length∧i_=qI i∧Hid (Below W9.heap.size W9 wr)) (fun i_ _=>cl.length - (intOf i_).toNat)
 case atStart=>exact⟨0,by omega,rfl,hid (.refl _ _)⟩
 case round=>
  obtain⟨i,hi,rfl,HR⟩:=hrel;by_cases hlt:i < cl.length
  ·have t0:decide ((i:Int) < (cl.length:Int))=true:=by simp;omega
   obtain⟨b1,rfl,h1⟩:=HUA.out i cl[i] (List.getElem?_eq_getElem hlt);obtain⟨b2,rfl,h2⟩:=HUB.out i cl[i] (List.getElem?_eq_getElem hlt);have k1:=kept h1 HR.out;have k2:=kept h2 HR.out;clear h1 h2;have j0:(0:Int)≤(i:Int):=by omega
   have j1:(i:Int) < (cl.length:Int):=by omega
   generalize IntKind.u32.wrap cl[i]=v at k1 k2;have K1:=Cls.cell k1;have K2:=Cls.cell k2;clear k1 k2
   go_upto_region 7 with fail
   refine zag (by kernel_rfl) (by kernel_rfl) ?_
   repeat (go_big_quiet_step (fail))
   refine wpQuiet_nil ?_;intro _ hw';obtain⟨nq,rfl⟩:=hw';have HR2:=hid (HR.out.trans (nq.below.mono HR.out.size));clear K1 K2;go_wp2;go_roundw
   case rel=>exact⟨i+1,by omega,by go_num,HR2⟩
   case measure=>simp [intOf];omega
  ·obtain rfl:i=cl.length:=by omega
   have t0:decide ((cl.length:Int) < (cl.length:Int))=false:=by simp
   go_wp2;go_ret;exact⟨rfl,HB.out.trans (HR.out.mono HB.out.size)⟩
theorem zC7 (l:List Int) (ao bo:Option Addr) (c d:Nat) (w:World) (hA:zg5 w ao l) (hB:zg5 w bo l) (hl:l.length≤1000000):
  Calls Tryz.prog 37 #[.slice ao l.length c,.slice bo l.length d] w fun e w'=>e=.returned (.bool true)∧Below w.heap.size w w':=by
 have HA:=hid hA;have HB:=hid hB;clear hA hB;go_enter Tryz.func37,Tryz.ntmps37;go_wp2
 go_loopw [5] (fun i_ wr=>∃ i:Nat,i≤l.length∧i_=qI i∧Hid (Below w.heap.size w wr)) (fun i_ _=>l.length - (intOf i_).toNat)
 case atStart=>exact⟨0,by omega,rfl,hid (.refl _ _)⟩
 case round=>
  obtain⟨i,hi,rfl,HR⟩:=hrel;by_cases hlt:i < l.length
  ·have t0:decide ((i:Int) < (l.length:Int))=true:=by simp;omega
   obtain⟨b1,rfl,h1⟩:=HA.out i l[i] (List.getElem?_eq_getElem hlt);obtain⟨b2,rfl,h2⟩:=HB.out i l[i] (List.getElem?_eq_getElem hlt);have k1:=kept h1 HR.out;have k2:=kept h2 HR.out;clear h1 h2;have j0:(0:Int)≤(i:Int):=by omega
   have j1:(i:Int) < (l.length:Int):=by omega
   generalize IntKind.u32.wrap l[i]=v at k1 k2;have K1:=Cls.cell k1;have K2:=Cls.cell k2;clear k1 k2
   go_upto_region 6 with fail
   refine zag (by kernel_rfl) (by kernel_rfl) ?_
   repeat (go_big_quiet_step (fail))
   refine wpQuiet_nil ?_;intro _ hw';obtain⟨nq,rfl⟩:=hw';have HR2:=hid (HR.out.trans (nq.below.mono HR.out.size));clear K1 K2;go_wp2;go_roundw
   case rel=>exact⟨i+1,by omega,by go_num,HR2⟩
   case measure=>simp [intOf];omega
  ·obtain rfl:i=l.length:=by omega
   have t0:decide ((l.length:Int) < (l.length:Int))=false:=by simp
   go_wp2;go_ret;exact⟨rfl,HR.out⟩
end Go.Proofs.YtpbmmoneeoijaaaGreatDoor
