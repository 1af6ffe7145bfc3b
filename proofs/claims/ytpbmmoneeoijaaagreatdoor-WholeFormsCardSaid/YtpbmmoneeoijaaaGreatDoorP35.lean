/-
  A part of the proof: EncEdge EncWords.
-/
import Derived.Test.YtpbmmoneeoijaaaGreatDoorP34
namespace Go.Proofs.YtpbmmoneeoijaaaGreatDoor
open Go.RowKit Go.Deep Go.Shelf
set_option maxRecDepth 100000
set_option maxHeartbeats 8000000
attribute [local go_sem] Oper.semAt_some zaq
attribute [local irreducible] wpAnyIn
set_option maxRecDepth 100000
structure EB (l B n₀:Nat) (J:List Int→World→Prop) (x:Img) (f:Nat→Int) (p:Nat) (w:World) (s:List Int) (X:World):Prop where
 j:J s X
 i:X.heap[p]? =some (zi8 x)
 fb:X.heap[p+1]? =some (qC #[.func (.yield l) #[] #[]] 269)
 b:X.heap[p+1+1]? =some (qC #[.bool false] 4)
 e:X.heap[p+1+1+1]? =some (zcj f)
 k:KpE n₀ w X
 m:KeepsFrom B w X
section
variable {l N B n₀:Nat} {J:List Int→World→Prop} {x:Img} {f:Nat→Int} {p:Nat} {w X Y:World} {s:List Int}
theorem EB.below (hE:EncJ l N B n₀ J) (h:EB l B n₀ J x f p w s X) (hn:n₀≤w.heap.size) (hb:Below X.heap.size X Y):EB l B n₀ J x f p w s Y:=
 ⟨hE.below h.j hb,qBa hb h.i,qBa hb h.fb,qBa hb h.b,qBa hb h.e,h.k.t (KpE.of_below (Nat.le_trans hn h.k.below.size) hb),h.m.trans (ze6 hb)⟩
theorem EB.next (h:EB l B n₀ J x f p w s X) {s':List Int} (hj:J s' Y) (hk:KpE n₀ X Y) (hm:KeepsFrom B X Y):EB l B n₀ J x f p w s' Y:=
 ⟨hj,hk.keep _ _ 26 (by decide) (by decide) h.i,hk.keep _ _ _ (by decide) (by decide) h.fb,hk.keep _ _ _ (by decide) (by decide) h.b,hk.keep _ _ 176 (by decide) (by decide) h.e,h.k.t hk,h.m.trans hm⟩
theorem EB.grown (hE:EncJ l N B n₀ J) (h:EB l B n₀ J x f p w s X) {D:Nat} (h1:p+1+1+1 < D) (h2:B≤D) (h3:w.heap.size≤D) (hn:n₀≤w.heap.size) {row:Option Nat} (hg:X.grownBy Y row) (hr:∀ r,row=some r→D≤r∧∃ o,X.heap[r]? =some o∧o.isCells=false):EB l B n₀ J x f p w s Y:=by
 have hne:∀ k,k < D→some k≠row:=fun k hk e=>by have:=(hr k e.symm).1;omega
 have at_:∀ {k:Nat} {o:Obj},k < D→X.heap[k]? =some o→Y.heap[k]? =some o:=fun hk ho=>(hg.block _ (qLt ho) (hne _ hk)).trans ho;exact⟨hE.own _ X Y row h.j hg fun r e=>⟨by have:=(hr r e).1;omega,(hr r e).2⟩,at_ (by omega) h.i,at_ (by omega) h.fb,at_ (by omega) h.b,at_ h1 h.e,
  ⟨h.k.below.grown hg (by have:=h.k.below.size;omega) fun k e=>by have:=(hr k e).1;omega,fun c cs t k1 k2 hc=>at_ (by have:=(qLt hc);omega) (h.k.keep c cs t k1 k2 hc)⟩,
  ⟨Nat.le_trans h.m.size hg.size,fun k o hk ho hc=>at_ (by have:=(qLt ho);omega) (h.m.same k o hk ho hc)⟩⟩
theorem zhy {s k:Nat} (h:k∈zae s) (hs:s < 65536):k < 16:=by
 have hb:s.testBit k=true:=by
  unfold zae at h;exact (List.mem_filter.1 h).2
 rcases Nat.lt_or_ge k 16 with h1|h1
 ·exact h1
 ·rw [Nat.testBit_lt_two_pow (Nat.lt_of_lt_of_le (show s < 2 ^ 16 from hs) (Nat.pow_le_pow_right (by decide) h1))] at hb
  cases hb
end
theorem zwz {l N B n₀:Nat} {J:List Int→World→Prop} (hE:EncJ l N B n₀ J) (x:Img) (M:Nat→zas) (h:Nat→Nat→Int) (i:Nat) (hi:i < x.en) (hen:x.en≤100) (pre:List Int) (hN:pre.length+40≤N) (w0 w:World) (hw:Below w0.heap.size w0 w)
  (hM:zcu w0 x.mo x.mn M) (htb:∀ j,j < x.mn→(M j).t < 4294967296) (hED:zb9 w0 x.eo x.en 23 h) (hs16:zdl x M (h i) < 65536) (hT0:Tab w0)
  (h0:J pre w) (hB:B≤w.heap.size) (hn:n₀≤B) (h00:w0.heap.size≤n₀):
  Calls Tryz.prog 158 #[iv x,qI i,.func (.yield l) #[] #[]] w (EncA J B n₀ pre (zfi (h i) (zdl x M (h i))) w):=by
 refine (callsIn_wide (n:=8)).1 ?_;have h1:1≤8:=by omega
 refine callsIn_of_wp_marks Tryz.func158 rfl trivial ?_ rfl;simp only [Tryz.ntmps158,qPr,Nat.reduceAdd,Nat.reduceSub];have HFV:=hid fun X (hX:Below w0.heap.size w0 X)=>zuh x M (h i) X (hM.below hX) htb;have HWB:=hid hw;have HT0:=hid hT0;obtain⟨s0,hs0⟩:∃ s,zdl x M (h i)=s:=⟨_,rfl⟩;have HS0:=hid hs0;rw [hs0] at hs16 ⊢;clear hs0 hM htb hT0;obtain⟨r,ao,n,cap,mo,mn,mc,eo,en,ec⟩:=x;obtain⟨b,o,e,hc⟩:=hED i hi;dsimp only at e hi hen;subst e;obtain⟨W0,hW0⟩:∃ X,X=((w.alloc (zi8 ⟨r,ao,n,cap,mo,mn,mc,some ⟨b,o,none⟩,en,ec⟩)).alloc (qC #[.func (.yield l) #[] #[]] 269)).alloc (qC #[.bool false] 4):=⟨_,rfl⟩;have bb:Below w.heap.size w W0:=by rw [hW0];exact ((qBr _).alloc (by simp) _).alloc (by simp;omega) _
 have hs:W0.heap.size=w.heap.size+1+1+1:=by rw [hW0];simp
 have k0:W0.heap[w.heap.size]? =some (zi8 ⟨r,ao,n,cap,mo,mn,mc,some ⟨b,o,none⟩,en,ec⟩):=by
  rw [hW0];exact (Below.heap_alloc _ _ _ (by simp;omega)).trans ((Below.heap_alloc _ _ _ (by simp)).trans (heap_alloc_new w _))
 have k1:W0.heap[w.heap.size+1]? =some (qC #[.func (.yield l) #[] #[]] 269):=by
  rw [hW0];have:=heap_alloc_new (w.alloc (zi8 ⟨r,ao,n,cap,mo,mn,mc,some ⟨b,o,none⟩,en,ec⟩)) (qC #[.func (.yield l) #[] #[]] 269);rw [World.size_alloc] at this;exact (Below.heap_alloc _ _ _ (by simp)).trans this
 have k2:W0.heap[w.heap.size+1+1]? =some (qC #[.bool false] 4):=by
  rw [hW0];have:=heap_alloc_new ((w.alloc (zi8 ⟨r,ao,n,cap,mo,mn,mc,some ⟨b,o,none⟩,en,ec⟩)).alloc (qC #[.func (.yield l) #[] #[]] 269)) (qC #[.bool false] 4);rw [World.size_alloc,World.size_alloc] at this;exact this
 unfold zi8 at hW0;unfold iv;have HW0:=hid hW0;have HSZ:=hid hs;have HB0:=hid bb;have HK0:=hid k0;have HK1:=hid k1;have HK2:=hid k2;clear hW0 hs bb k0 k1 k2;refine wpIn_wide.2 ?_
 go_upto_region 1 with fail
 rw [←HW0.out];have c3:=zaa HK0.out 3;have hr1:=zce fun j hj=>kept (hc j hj) (HWB.out.trans (HB0.out.mono HWB.out.size));have i0':(0:Int)≤(i:Int):=by omega
 have i1:(i:Int) < (en:Int):=by omega
 refine wp_region_lit ?_;refine wpList_plain rfl fun K hK=>?_;go_simp;refine hK _ _ ?_;clear hK K;refine wpList_plain rfl fun K hK=>?_;go_simp;refine hK _ _ ?_;clear hK K;refine wpList_plain rfl fun K hK=>?_;go_simp;refine hK _ _ ?_;clear hK K;refine wpList_plain rfl fun K hK=>?_;go_simp;refine hK _ _ ?_;clear hK K;refine wpList_load_mid rfl 176 _ rfl b (o+i * 23) rfl (zbf (h i)) _ hr1 Tryz.underlying176 rfl (za4 _) ?_;refine wpList_plain rfl fun K hK=>?_;go_simp;refine hK _ _ ?_;clear hK K;refine wpList_store_mid rfl 176 _ _ rfl W0.heap.size 0 (zbf (h i)).toArray rfl rfl (zdh W0 (h i)) (by simpa using za4 (h i)) (zfb _) ?_;have hbx:=zg1 W0 (h i);have hbk:=zy0 W0 (h i);obtain⟨W1,hW1⟩:∃ X,X=((W0.alloc zd6).setCells W0.heap.size 0 (zbf (h i)).toArray.toList):=⟨_,rfl⟩;rw [←hW1] at hbx hbk;unfold zd6 at hW1;show Exit.then _ _ _ _ _
 rw [←hW1];clear hW1 hr1 hc c3;go_simp;obtain⟨p,hp⟩:∃ p,w.heap.size=p:=⟨_,rfl⟩;have hp3:W0.heap.size=p+1+1+1:=by rw [HSZ.out,hp]
 have HNB:=hid (show n₀≤w.heap.size by omega);have hB1:Below w.heap.size w W1:=HB0.out.trans (hbx.below.mono HB0.out.size);have HM1:Hid (EB l B n₀ J ⟨r,ao,n,cap,mo,mn,mc,some ⟨b,o,none⟩,en,ec⟩ (h i) p w pre W1):=by
  rw [←hp];have lt:∀ {k:Nat},k≤w.heap.size+1+1→W1.heap[k]? =W0.heap[k]?:=fun hk=>hbx.below.block _ (by have:=HSZ.out;omega);exact⟨hE.below h0 hB1,(lt (by omega)).trans HK0.out,(lt (by omega)).trans HK1.out,(lt (by omega)).trans HK2.out,by rw [←HSZ.out];exact hbk,KpE.of_below HNB.out hB1,ze6 hB1⟩
 rw [hp3];rw [hp] at hB ⊢;have HB:=hid hB;have HP:=hid hp;clear hp hp3 hB HW0 HSZ HB0 HK0 HK1 HK2 hB1 hbx hbk h0
 go_upto_region 2 with fail
 refine (wpIn_wide (n:=8)).1 ?_;obtain⟨f,hf⟩:∃ f:Nat→Int,h i=f:=⟨_,rfl⟩;rw [hf] at HM1 HFV HS0 ⊢;have HF:=hid hf;clear hf hED;obtain⟨fn,tmps,assign,body,hy,hR⟩:=hE.y (pre) (f 0) W1 HM1.out.j (by (try simp only [List.length_append,List.length_cons,List.length_nil]);omega);have HY:=hid hy;have HR:=hid hR;clear hy hR;have cf0:=zaa HM1.out.fb 0;have ce0:=zaz HM1.out.e (j:=0) (by decide)
 gi_wp2
 rw [HY.out];simp only [Oper.uponIn];refine⟨fun e=>(by cases e),(zak rfl HR.out).mono ?_⟩;rintro e W2 ⟨rfl,hj,hk,hm⟩;have HM2:=hid (HM1.out.next hj hk hm);clear hj hk hm HY HR HM1;obtain⟨fn,tmps,assign,body,hy,hR⟩:=hE.y (pre ++ [f 0]) (f 1) W2 HM2.out.j (by (try simp only [List.length_append,List.length_cons,List.length_nil]);omega);have HY:=hid hy;have HR:=hid hR;clear hy hR;have cf1:=zaa HM2.out.fb 0;have ce1:=zaz HM2.out.e (j:=1) (by decide)
 gi_wp2
 rw [HY.out];simp only [Oper.uponIn];refine⟨fun e=>(by cases e),(zak rfl HR.out).mono ?_⟩;rintro e W3 ⟨rfl,hj,hk,hm⟩;have HM3:=hid (HM2.out.next hj hk hm);clear hj hk hm HY HR HM2;obtain⟨fn,tmps,assign,body,hy,hR⟩:=hE.y (pre ++ [f 0] ++ [f 1]) (f 2) W3 HM3.out.j (by (try simp only [List.length_append,List.length_cons,List.length_nil]);omega);have HY:=hid hy;have HR:=hid hR;clear hy hR;have cf2:=zaa HM3.out.fb 0;have ce2:=zaz HM3.out.e (j:=2) (by decide)
 gi_wp2
 rw [HY.out];simp only [Oper.uponIn];refine⟨fun e=>(by cases e),(zak rfl HR.out).mono ?_⟩;rintro e W4 ⟨rfl,hj,hk,hm⟩;have HM4:=hid (HM3.out.next hj hk hm);clear hj hk hm HY HR HM3;clear cf0 ce0 cf1 ce1 cf2 ce2;have e19:=zaz HM4.out.e (j:=19) (by decide);have e20:=zaz HM4.out.e (j:=20) (by decide);have e21:=zaz HM4.out.e (j:=21) (by decide);have e22:=zaz HM4.out.e (j:=22) (by decide)
 gi_wp2
 go_wp2;refine (wpIn_wide (n:=8)).1 ?_;clear e19 e20 e21 e22;have hix:∀ j,j < 4→(#[qI (f 19),qI (f 20),qI (f 21),qI (f 22)]:Array Value)[j]? =some (qI (f (19+j))):=fun j hj=>by
  rcases j with _|_|_|_|j
  all_goals first|rfl|omega
 obtain⟨s3,hs3⟩:∃ s,pre ++ [f 0] ++ [f 1] ++ [f 2]=s:=⟨_,rfl⟩;have hs3l:s3.length=pre.length+3:=by rw [←hs3];simp
 have HM5:=hid (show EB l B n₀ J ⟨r,ao,n,cap,mo,mn,mc,some ⟨b,o,none⟩,en,ec⟩ f p w (s3 ++ (List.range 0).map fun j=>f (19+j)) W4 by rw [←hs3];simpa using HM4.out);have HS3:=hid hs3;have HIX:=hid hix;clear HM4 hs3 hix
 gi_loopw [37] (fun i_ X=>∃ j:Nat,j≤4∧i_=qI j∧Hid (EB l B n₀ J ⟨r,ao,n,cap,mo,mn,mc,some ⟨b,o,none⟩,en,ec⟩ f p w (s3 ++ (List.range j).map fun j=>f (19+j)) X)) (fun i_ _=>4 - (intOf i_).toNat)
 case atStart=>exact⟨0,by omega,rfl,HM5⟩
 case round=>
  clear HM5;obtain⟨j,hj,rfl,HMr⟩:=hrel;by_cases hlt:j < 4
  ·have t0:decide ((j:Int) < 4)=true:=by simp;omega
   have HJS:=hid (show (List.range (j+1)).map (fun j=>f (19+j))=(List.range j).map (fun j=>f (19+j)) ++ [f (19+j)] by simp [List.range_succ]);have hix:=HIX.out j hlt;have hlj:((List.range j).map fun j=>f (19+j)).length=j:=by simp
   generalize f (19+j)=fv at hix HJS;have j0':(0:Int)≤(j:Int):=by omega
   have j1:(j:Int) < 4:=by omega
   have hrun:=zcv (w:=wr) 174 3 4 _ .i64 j fv .i64 Tryz.underlying174 Tryz.underlying3 (by kernel_rfl) hlt hix;clear hix;have cf:=zaa HMr.out.fb 0;obtain⟨fn,tmps,assign,body,hy,hR⟩:=hE.y (s3 ++ (List.range j).map fun j=>f (19+j)) (fv) wr HMr.out.j (by (try simp only [List.length_append]);omega);have HY:=hid hy;have HR:=hid hR;clear hy hR
   gi_wp2_with (rw [hrun];simp only [Result.andThen];rw [Oper.upon_value])
   clear hrun cf;rw [HY.out];simp only [Oper.uponIn];refine⟨fun e=>(by cases e),(zak rfl HR.out).mono ?_⟩;rintro e Y ⟨rfl,hj,hk,hm⟩;have HM9:=hid (show EB l B n₀ J ⟨r,ao,n,cap,mo,mn,mc,some ⟨b,o,none⟩,en,ec⟩ f p w (s3 ++ (List.range (j+1)).map fun j=>f (19+j)) Y by rw [HJS.out,←List.append_assoc];exact HMr.out.next hj hk hm);clear hj hk hm HY HR HMr HJS
   gi_wp2
   go_roundw
   case rel=>exact⟨j+1,by omega,by go_num,HM9⟩
   case measure=>simp [intOf];omega
  ·obtain rfl:j=4:=by omega
   have t0:decide (((4:Nat):Int) < 4)=false:=by decide
   obtain⟨s4,hs4⟩:∃ s,s3 ++ (List.range 4).map (fun j=>f (19+j))=s:=⟨_,rfl⟩;rw [hs4] at HMr;have hs4l:s4.length=pre.length+7:=by rw [←hs4];simp;omega
   have HS4:=hid hs4;clear hs4;have e2:=zaz HMr.out.e (j:=2) (by decide);have cb:=zaa HMr.out.b 0;have fb:=zab HMr.out.b 0;have hW7:∀ (ws:List Int),pre ++ ([f 0,f 1,f 2,f 19,f 20,f 21,f 22] ++ ws)=s4 ++ ws:=fun ws=>by rw [←HS4.out,←HS3.out];simp [List.range_succ]
   have HW7:=hid hW7;clear hW7;by_cases hf3:f 2=3
   ·have t1:(f 2 != 3)=false:=by simp [hf3]
    have HEW:=hid (show zfi f s0=[f 0,f 1,f 2,f 19,f 20,f 21,f 22] ++ (zae s0).map fun k=>f (3+k) by simp [zfi,hf3]);have x0:=zaa HMr.out.i 0;have x1:=zaa HMr.out.i 1;have x2:=zaa HMr.out.i 2;have x3:=zaa HMr.out.i 3;have hr:wr.rangeAt (p+1+1+1) 0 (zbf f):=by
     have:=zce (W:=wr) (b:=p+1+1+1) (o:=0) (i:=0) (h:=fun _=>f) fun j hj=>by rw [Nat.zero_mul,Nat.add_zero,Nat.zero_add];exact zaz HMr.out.e hj
     simpa using this
    clear hf3
    gi_wp2
    go_upto_region 12 with fail
    refine wp_region_lit ?_;refine wpList_plain rfl fun K hK=>?_;go_simp;refine hK _ _ ?_;clear hK K;refine wpList_load_mid rfl 176 _ rfl (p+1+1+1) 0 rfl (zbf f) _ hr Tryz.underlying176 rfl (za4 _) ?_;clear hr x0 x1 x2 x3 e2 fb cb;have HBx:=hid (HWB.out.trans (HMr.out.k.below.mono h00));have hfs:zcl (zai ⟨r,ao,n,cap,mo,mn,mc,some ⟨b,o,none⟩,en,ec⟩ M (f 1)) (zai ⟨r,ao,n,cap,mo,mn,mc,some ⟨b,o,none⟩,en,ec⟩ M (f 0))=s0:=HS0.out;rw [hfs] at HFV;clear hfs;unfold iv at HFV
    go_upto_region 13 with (first|(go_at_call 160;refine (HFV.out _ HBx.out).mono ?_;rintro e X ⟨rfl,hbx⟩)|(go_at_call 159;refine (zdk _ _).mono ?_;rintro e X ⟨rfl,rfl⟩))
    have hEX:=HMr.out.below hE HNB.out hbx;have hsz:p+1+1+1 < X.heap.size:=(qLt hEX.e);obtain⟨b6,hb6⟩:∃ n,X.heap.size=n:=⟨_,rfl⟩;have hcs:(X.alloc (qC #[qU (s0:Nat)] 140)).cell? ⟨b6,0,none⟩=some (qU s0):=by rw [←hb6];exact (zba X (qU (s0:Nat)) 140).1
    have hs7:(X.alloc (qC #[qU (s0:Nat)] 140)).heap.size=b6+1:=by rw [World.size_alloc,hb6]
    have hE7:=hEX.below hE HNB.out (qBr (qC #[qU (s0:Nat)] 140));obtain⟨W7,hW7⟩:∃ Z,Z=X.alloc (qC #[qU (s0:Nat)] 140):=⟨_,rfl⟩;rw [hb6];rw [←hW7] at hcs hs7 hE7 ⊢;have hpos:=HT0.out.pos;have h1n:1≤n₀:=by omega
    have hTab:Tab W7:=HT0.out.below (HWB.out.trans (hE7.k.below.mono h00)) hpos;have HE7:=hid hE7;have HS7:=hid hs7;have HP7:=hid (show p+1+1+1 < b6 by rw [←hb6];exact hsz);clear hW7 hE7 hEX hbx hsz hb6 hs7 HFV HMr HIX HBx;refine (wpIn_wide (n:=8)).1 ?_;refine zf9 rfl h1 (gf:=221) (lb:=#[qP b6]) rfl trivial (enters_of Tryz.func221 (by kernel_rfl) rfl)
     (zpr (8 - 1) (by omega) b6 1 s0 W7 (by omega) (by decide) hcs hTab) belowK_t (belowK_b (by have:=HS7.out;omega)) (Below.refl _ _) (fun _=>rfl)
     (fun (q:List Nat) Z=>EB l B n₀ J ⟨r,ao,n,cap,mo,mn,mc,some ⟨b,o,none⟩,en,ec⟩ f p w (s4 ++ q.map fun k=>f (3+k)) Z)
     (fun q Y Z row hz hg hr=>hz.grown hE (D:=W7.heap.size) (by have:=HS7.out;have:=HP7.out;omega) (by have:=HS7.out;have:=HP7.out;have:=HB.out;omega) (by have:=HS7.out;have:=HP7.out;have:=HP.out;omega) HNB.out hg hr)
     (fun _ _ hh=>hh.elim) (fun _ _ hh=>hh.elim) (by simpa using HE7.out)
     (fun (k:Nat) a' _=>a'= { tmps:=#[.agg #[qI r,.slice ao n cap,.slice mo mn mc,.slice (some ⟨b,o,none⟩) en ec],qI i,.func (.yield l) #[] #[],qP p,undef,qP (p+1),qP (p+1+1),qP (p+1+1+1),undef,u9,qI k,.pointer (some ⟨p,3,none⟩),.slice (some ⟨b,o,none⟩) en ec,qI i,.pointer (some ⟨b,o+i * 23,none⟩),.agg (zbf f).toArray,.func (.yield l) #[] #[],qP (p+1+1+1),qI (f 0),.bool true,.bool false,.bool false,.func (.yield l) #[] #[],.pointer (some ⟨p+1+1+1,1,none⟩),qI (f 1),.bool true,.bool false,.bool false,.bool false,.func (.yield l) #[] #[],.pointer (some ⟨p+1+1+1,2,none⟩),qI (f 2),.bool true,.bool false,.bool false,.pointer (some ⟨p+1+1+1,19,none⟩),.agg #[qI (f 19),qI (f 20),qI (f 21),qI (f 22)],qI 4,.bool false,u39,u40,u41,u42,u43,u44,.pointer (some ⟨p+1+1+1,2,none⟩),qI (f 2),.bool false,.agg #[qI r,.slice ao n cap,.slice mo mn mc,.slice (some ⟨b,o,none⟩) en ec],.agg (zbf f).toArray,qU (s0:Nat),.func (.func 221) #[] #[qP b6],qI k,undef,undef,undef,undef,undef,undef,undef],defers:=[] }) (fun x a' _ X Y row hz hg hr=>hz)
     ?assign ?body ?done
    case assign=>
     rintro l' q k Z K hI hK
     gi_wp2
     exact hK _ _ (KeepsFrom.refl _ _) (Below.refl _ _) hI rfl
    case body=>
     rintro l' q k a' Z hdl hlr hZ rfl ⟨rest,hfit⟩;have hk16:k < 16:=zhy (by rw [←hfit];simp) hs16;have hql:q.length≤32:=by have:=zbm s0;have h2:=congrArg List.length hfit;simp at h2;omega
     have k0':(0:Int)≤(k:Int):=by omega
     have k1:(k:Int) < 16:=by omega
     have HZ:=hid (hZ.below hE HNB.out (Below.refl _ _).drew);have hKD:Below 1 Z Z.drew:=((Below.refl _ _).drew).mono (by have:=(qLt hZ.i);omega);have hMD:KeepsFrom W7.heap.size Z Z.drew:=ze6 (Below.refl _ _).drew;clear hZ hfit;obtain⟨Z1,hZ1⟩:∃ X,X=Z.drew:=⟨_,rfl⟩;rw [←hZ1] at HZ hKD hMD;have cf:=zaa HZ.out.fb 0;have ce:=zaz HZ.out.e (j:=3+k) (by omega);dsimp only;obtain⟨fn,tmps,assign,body,hy,hR⟩:=hE.y (s4 ++ q.map fun k=>f (3+k)) (f (3+k)) Z1 HZ.out.j (by simp only [List.length_append,List.length_map];omega);have HY:=hid hy;have HR:=hid hR;clear hy hR;obtain⟨fv,hfv⟩:∃ v,f (3+k)=v:=⟨_,rfl⟩;have HFK:=hid hfv;rw [hfv] at ce HY HR;clear hfv
     gi_wp2
     refine zf5 (by kernel_rfl) (by kernel_rfl) ?_;rw [←hZ1];clear hZ1;refine wpAnyIn_take (i:=1) (v:=qI k) rfl rfl (by kernel_rfl) (by kernel_rfl) (by kernel_rfl) (fun _ _ _ h=>h) ⟨Or.inl ⟨by rfl,?_⟩,fun _=>rfl⟩ ?_
     ·intro w;go_simp
     go_simp;refine wpAnyIn_take (i:=2) (v:=.pointer (some ⟨p+1+1+1,3,none⟩)) rfl rfl (by kernel_rfl) (by kernel_rfl) (by kernel_rfl) (fun _ _ _ h=>h) ⟨Or.inl ⟨by rfl,?_⟩,fun _=>rfl⟩ ?_
     ·intro w;go_simp
     go_simp;refine wpAnyIn_take (i:=3) (v:=.pointer (some ⟨p+1+1+1,3+k,none⟩)) rfl rfl (by kernel_rfl) (by kernel_rfl) (by kernel_rfl) (fun _ _ _ h=>h) ⟨Or.inl ⟨by rfl,?_⟩,fun _=>rfl⟩ ?_
     ·intro w;go_simp
     go_simp;refine zgn (i:=0) (j:=4) (.func (.yield l) #[] #[]) (qI fv) (by kernel_rfl) (by kernel_rfl) (by kernel_rfl) rfl rfl (by decide) rfl (fun K hK=>?_) (fun K hK=>?_) (fun K hK=>?_) (fun K hK=>?_) ?_
     ·go_simp;exact hK
     ·go_simp;exact hK
     ·go_simp;exact hK
     ·go_simp;exact hK
     go_simp;refine wpAnyIn_ready (rs:=[5]) (by kernel_rfl) (by simp) ?_;refine AllReadyIn.cons rfl (fun K hK=>?_) AllReadyIn.nil;have hy:=HY.out;go_simp;refine (zak rfl HR.out).mono ?_;rintro e Y ⟨rfl,hj,hk,hm⟩;go_simp;refine hK _ _ ?_;clear hK K hy;refine wpAnyIn_take (i:=6) (v:=.bool false) rfl rfl (by kernel_rfl) (by kernel_rfl) (by kernel_rfl) (fun _ _ _ h=>h) ⟨Or.inl ⟨by rfl,?_⟩,fun _=>rfl⟩ ?_
     ·intro w;go_simp
     go_simp;refine wpAnyIn_done (by kernel_rfl) ?_ _
     gi_wp2
     refine⟨hMD.trans ⟨hm.size,fun c oo hc=>hm.same c oo (by have:=HS7.out;have:=HP7.out;have:=HB.out;omega)⟩,hKD.trans (hk.below.mono h1n),?_⟩;have hz:=HZ.out.next hj hk hm;show EB l B n₀ J _ f p w (s4 ++ (q ++ [k]).map fun k=>f (3+k)) Y;rw [List.map_append,←List.append_assoc];rw [←HFK.out] at hz;exact hz
    case done=>
     rintro D q X hD rfl hT hK;have hbb:=hT.b;have cb:=zaa hbb 0;have fb:=zab hbb 0;obtain⟨F,hF⟩:∃ F,F=X.setCell ⟨p+1+1,0,none⟩ (.bool true):=⟨_,rfl⟩;have k1:Boxed F (p+1+1) 4 (.bool true):=by rw [hF];exact (show Boxed X (p+1+1) 4 (.bool false) from hbb).set _
     have hDn:p+1+1 < D:=by have:=HS7.out;have:=HP7.out;omega
     have hK8:F.heap[D]? =some (.deferred (some [])):=by
      rw [hF,Below.heap_setCell _ _ _ _ (by show D≠p+1+1;omega)];exact hK
     have hjF:J (s4 ++ (zae s0).map fun k=>f (3+k)) F:=by rw [hF];exact hE.st X _ ⟨_,_,_,by have:=HNB.out;have:=HP.out;omega,hbb,rfl⟩ _ hT.j
     have hkF:KpE n₀ w F:=by rw [hF];exact hT.k.set HNB.out (by have:=HP.out;omega) _ _
     have hmF:KeepsFrom B w F:=by rw [hF];exact hT.m.trans ((KeepsOthers.setCell _ _ _).from _)
     clear hT hbb
     gi_wp2
     go_wp2;rw [←hF];clear hF;refine⟨by simp,.inl ⟨_,_,rfl,run_takeDeferred hK8,?_⟩⟩;have hDs:D < F.heap.size:=(qLt hK8);have hgr:F.grownBy (F.putObj D (.deferred none)) (some D):=⟨rfl,rfl,rfl,by simp,fun k _ hne=>World.putObj_heap_other (fun e=>hne (by rw [e]))⟩;have hDB:w.heap.size≤D:=by have:=HP.out;omega
     refine⟨.bool true,?_,rfl,?_,hkF.t (KpE.b (w:=w) HNB.out F D _ _ hDB hK8 rfl rfl),Nat.le_trans hmF.size hgr.size,fun k o hk ho hc=>(World.putObj_heap_other (by have:=(qLt ho);omega)).trans (hmF.same k o hk ho hc)⟩
     ·have z2:=(show Boxed (F.putObj D (.deferred none)) (p+1+1) 4 (.bool true) from (World.putObj_heap_other (by omega)).trans k1).cell
      generalize F.putObj D (.deferred none)=Z at z2 ⊢;simp [results,Tryz.results158,go_sem,z2]
     ·have hz:=hE.own _ F _ (some D) hjF hgr fun r e=>by cases e;exact⟨by have:=HB.out;omega,_,hK8,rfl⟩
      rw [HF.out,HEW.out,HW7.out];exact hz
   ·have t1:(f 2 != 3)=true:=by simp [hf3]
    have hkF:KpE n₀ w (wr.setCell ⟨p+1+1,0,none⟩ (.bool true)):=HMr.out.k.set HNB.out (by rw [HP.out];omega) _ _;have hcb:=(show Boxed wr (p+1+1) 4 (.bool false) from HMr.out.b).set (.bool true);have cb2:=hcb.cell
    gi_wp2
    go_wp2;refine⟨.bool true,by simp [results,Tryz.results158,go_sem,cb2],rfl,?_,hkF,HMr.out.m.trans ((KeepsOthers.setCell _ _ _).from _)⟩;have:=hE.st wr _ ⟨_,_,.bool true,by have:=HNB.out;have:=HP.out;omega,HMr.out.b,rfl⟩ _ HMr.out.j;rw [HF.out,zfi,if_neg hf3,HW7.out [],List.append_nil];exact this
end Go.Proofs.YtpbmmoneeoijaaaGreatDoor
namespace Go.Proofs.YtpbmmoneeoijaaaGreatDoor
open Go.RowKit Go.Deep Go.Shelf
set_option maxRecDepth 100000
set_option maxHeartbeats 8000000
attribute [local go_sem] Oper.semAt_some zaq
set_option maxRecDepth 100000
theorem zs8 (y:Nat→Int):∀ n,(zb3 y n).length≤n
 |0=>Nat.le_refl _
 |n+1=>by
  have:=zs8 y n;unfold zb3
  split
  ·simp;omega
  ·omega
theorem zf8 (g:Nat→Nat→Int):∀ n,(zbt g n).length≤12 * n
 |0=>Nat.le_refl _
 |n+1=>by
  have h1:=zf8 g n;have h2:=zs8 (g n) 8;rw [ziy,List.length_append];simp [zim];omega
theorem zgd {M:Nat→zas} (q:Nat→Nat→Nat→Int):∀ {n:Nat},(∀ i,i < n→(M i).qn≤20)→(zbq M q n).length≤42 * n
 |0,_=>Nat.le_refl _
 |n+1,h=>by
  have h1:=zgd q (n:=n) fun i hi=>h i (by omega);have h2:=h n (by omega);rw [zi5,List.length_append];simp [zin,zf0];omega
theorem zgj (x:Img) (M:Nat→zas) (h:Nat→Nat→Int):∀ n,(zb0 x M h n).length≤39 * n
 |0=>Nat.le_refl _
 |n+1=>by
  have h1:=zgj x M h n;rw [zje,List.length_append];have h2:(zfi (h n) (zdl x M (h n))).length≤39:=by
   have:=zbm (zdl x M (h n));unfold zfi
   split<;>simp<;>omega
  omega
theorem zsp (n:Nat) (hn:1≤n) (Bi:Nat) (x:Img) (g:Nat→Nat→Int) (M:Nat→zas) (q:Nat→Nat→Nat→Int) (h:Nat→Nat→Int) (n₀:Nat) (w0 w:World) (h0w:Below w0.heap.size w0 w) (h00:w0.heap.size≤n₀) (hnw:n₀≤w.heap.size) (hx:zdr w0 x g M q h) (hc:w.heap[Bi]? =some (zi8 x)) (hT:Tab w0)
  (hb:x.n≤40∧x.mn≤20∧x.en≤60∧∀ i,i < x.mn→(M i).qn≤20) (hf:∀ i,i < x.en→zdl x M (h i) < 65536):
  SeqA Fence.wide n Tryz.prog 155 #[qP Bi] (fun x:Int=>#[qI x]) (KpE n₀) (SetB n₀) (fun pre _=>pre.length < 6000) (fun xs=>xs=encW x g M q h) w:=by
 intro l J W hW hoJ hE hY h0;have hJ:EncJ l 6000 W.heap.size n₀ J:=⟨hoJ,fun X Y hs s hj=>hE X Y hs s hj,fun pre v W1 hj hl=>y_free rfl 8 (hY pre v W1 hj hl)⟩;have hbiW:=(hW.block Bi (qLt hc)).trans hc;have hszW:=hW.size;have hnW:n₀≤W.heap.size:=by omega
 have HB0:=hid (h0w.trans (hW.mono h0w.size));have HX:=hid hx;have HT:=hid hT;have HF:=hid hf;have HQ20:=hid hb.2.2.2;obtain⟨b1,b2,b3,_⟩:=hb;have htl:=zf8 g x.n;have hml:=zgd q (M:=M) (n:=x.mn) HQ20.out;have hel:=zgj x M h x.en;have HEQ:=hid (show encW x g M q h=[1380273457,x.r,(x.n:Int),(x.mn:Int),(x.en:Int)] ++ zbt g x.n ++ zbq M q x.mn ++ zb0 x M h x.en from rfl);have HTK:=hid fun i X (pre:List Int) (hp:pre.length+12≤6000) (hj:J pre X) (hs:W.heap.size≤X.heap.size)=>zwx hJ (g i) pre hp X hj hs hnW;have HMK:=hid fun i (hi:i < x.mn) X (pre:List Int) (hp:pre.length+2+2 * (M i).qn≤6000) (hb:Below w0.heap.size w0 X) (hj:J pre X) (hs:W.heap.size≤X.heap.size)=>
  zwy hJ (M i).t (M i).qn (M i).qc (M i).qo (q i) pre hp w0 X hb (hx.queues i hi) hj hs hnW h00 (hx.tb i hi) (by have:=HQ20.out i hi;omega)
 have HEK:=hid fun i (hi:i < x.en) X (pre:List Int) (hp:pre.length+40≤6000) (hb:Below w0.heap.size w0 X) (hj:J pre X) (hs:W.heap.size≤X.heap.size)=>
  zwz hJ x M h i hi (by omega) pre hp w0 X hb hx.modes hx.tb hx.edges (HF.out i hi) hT hj hs hnW h00
 have hxm:=hx.modes;clear hx hT hf h0w;refine callsIn_of_wp Tryz.func155 rfl trivial ?_ rfl;simp only [Tryz.ntmps155,qPr,Nat.reduceAdd,Nat.reduceSub];obtain⟨r,ao,tn,cap,mo,mn,mc,eo,en,ec⟩:=x;unfold zi8 at hbiW;dsimp only at *;have HM0:=hid (show MB W.heap.size n₀ J Bi #[qI r,.slice ao tn cap,.slice mo mn mc,.slice eo en ec] 26 W [] W from ⟨h0,hbiW,KpE.refl _ _,KeepsFrom.refl _ _⟩);clear h0 hbiW hY hE hoJ hc;obtain⟨fn,tmps,assign,body,hy,hR⟩:=hJ.y ([]) (1380273457) W HM0.out.j (by (try simp only [List.length_nil]);omega);have HY:=hid hy;have HR:=hid hR;clear hy hR
 gi_wp2
 rw [HY.out];simp only [Oper.uponIn];refine⟨fun e=>(by cases e),(zak rfl HR.out).mono ?_⟩;rintro e Y1 ⟨rfl,hj,hk,hm⟩;have HM1:=hid (HM0.out.next (by decide) (by decide) hj hk hm);clear hj hk hm HY HR HM0;obtain⟨fn,tmps,assign,body,hy,hR⟩:=hJ.y ([] ++ [1380273457]) (r) Y1 HM1.out.j (by (try simp only [List.length_append,List.length_cons,List.length_nil]);omega);have HY:=hid hy;have HR:=hid hR;clear hy hR;have c1:=zaa HM1.out.t 0
 gi_wp2
 rw [HY.out];simp only [Oper.uponIn];refine⟨fun e=>(by cases e),(zak rfl HR.out).mono ?_⟩;rintro e Y2 ⟨rfl,hj,hk,hm⟩;have HM2:=hid (HM1.out.next (by decide) (by decide) hj hk hm);clear hj hk hm HY HR HM1;obtain⟨fn,tmps,assign,body,hy,hR⟩:=hJ.y ([] ++ [1380273457] ++ [r]) ((tn:Int)) Y2 HM2.out.j (by (try simp only [List.length_append,List.length_cons,List.length_nil]);omega);have HY:=hid hy;have HR:=hid hR;clear hy hR;have c2:=zaa HM2.out.t 1
 gi_wp2
 rw [HY.out];simp only [Oper.uponIn];refine⟨fun e=>(by cases e),(zak rfl HR.out).mono ?_⟩;rintro e Y3 ⟨rfl,hj,hk,hm⟩;have HM3:=hid (HM2.out.next (by decide) (by decide) hj hk hm);clear hj hk hm HY HR HM2;obtain⟨fn,tmps,assign,body,hy,hR⟩:=hJ.y ([] ++ [1380273457] ++ [r] ++ [(tn:Int)]) ((mn:Int)) Y3 HM3.out.j (by (try simp only [List.length_append,List.length_cons,List.length_nil]);omega);have HY:=hid hy;have HR:=hid hR;clear hy hR;have c3:=zaa HM3.out.t 2
 gi_wp2
 rw [HY.out];simp only [Oper.uponIn];refine⟨fun e=>(by cases e),(zak rfl HR.out).mono ?_⟩;rintro e Y4 ⟨rfl,hj,hk,hm⟩;have HM4:=hid (HM3.out.next (by decide) (by decide) hj hk hm);clear hj hk hm HY HR HM3;obtain⟨fn,tmps,assign,body,hy,hR⟩:=hJ.y ([] ++ [1380273457] ++ [r] ++ [(tn:Int)] ++ [(mn:Int)]) ((en:Int)) Y4 HM4.out.j (by (try simp only [List.length_append,List.length_cons,List.length_nil]);omega);have HY:=hid hy;have HR:=hid hR;clear hy hR;have c4:=zaa HM4.out.t 3
 gi_wp2
 rw [HY.out];simp only [Oper.uponIn];refine⟨fun e=>(by cases e),(zak rfl HR.out).mono ?_⟩;rintro e Y5 ⟨rfl,hj,hk,hm⟩;have HM5:=hid (HM4.out.next (by decide) (by decide) hj hk hm);clear hj hk hm HY HR HM4;clear c1 c2 c3 c4;have c1:=zaa HM5.out.t 1
 gi_wp2
 clear c1;have HNW:=hid hnW;have HM6:=hid (show MB W.heap.size n₀ J Bi #[qI r,.slice ao tn cap,.slice mo mn mc,.slice eo en ec] 26 W ([1380273457,r,(tn:Int),(mn:Int),(en:Int)] ++ zbt g 0) Y5 from HM5.out);clear HM5
 gi_loopw [45] (fun i_ X=>∃ i:Nat,i≤tn∧i_=qI i∧Hid (MB W.heap.size n₀ J Bi #[qI r,.slice ao tn cap,.slice mo mn mc,.slice eo en ec] 26 W ([1380273457,r,(tn:Int),(mn:Int),(en:Int)] ++ zbt g i) X)) (fun i_ _=>tn - (intOf i_).toNat)
 case atStart=>exact⟨0,by omega,rfl,HM6⟩
 case round=>
  clear HM6;obtain⟨i,hi,rfl,HMr⟩:=hrel;by_cases hlt:i < tn
  ·have t0:decide ((i:Int) < (tn:Int))=true:=by simp;omega
   obtain⟨b,o,rfl,_⟩:=HX.out.tasks i hlt;have hbw:=HB0.out.trans (HMr.out.k.below.mono h00);obtain⟨⟨d0,d1,d2,d3⟩,⟨d4,d5,d6,d7⟩,d8,d9,d10⟩:=(HX.out.tasks.below hbw).at_ hlt;have i0':(0:Int)≤(i:Int):=by omega
   have i1:(i:Int) < (tn:Int):=by omega
   have hal:=zf8 g i;have HMa:=hid (HMr.out.below hJ HNW.out (qBr (zaj (g i))));have htk:=HTK.out i (wr.alloc (zaj (g i))) ([1380273457,r,(tn:Int),(mn:Int),(en:Int)] ++ zbt g i) (by simp only [List.length_append,List.length_cons,List.length_nil];omega) HMa.out.j HMa.out.m.size;have HTS:=hid (ziy g i);unfold zaj tv at htk;unfold zaj at HMa;have HT1:=hid htk;clear htk hbw
   gi_wp2_with (refine⟨trivial,?_⟩;gi_at_call 156;refine (callsIn_wide.2 HT1.out).mono ?_;rintro e Y ⟨rfl,hj,hk,hm⟩)
   have HM9:=hid (show MB W.heap.size n₀ J Bi #[qI r,.slice (some ⟨b,o,none⟩) tn cap,.slice mo mn mc,.slice eo en ec] 26 W ([1380273457,r,(tn:Int),(mn:Int),(en:Int)] ++ zbt g (i+1)) Y by rw [HTS.out,←List.append_assoc];exact HMa.out.next (by decide) (by decide) hj hk hm);clear hj hk hm HMa HT1 HTS HMr d0 d1 d2 d3 d4 d5 d6 d7 d8 d9 d10
   gi_wp2
   go_roundw
   case rel=>exact⟨i+1,by omega,by go_num,HM9⟩
   case measure=>simp [intOf];omega
  ·obtain rfl:i=tn:=by omega
   have t0:decide ((i:Int) < (i:Int))=false:=by simp
   clear HTK;obtain⟨s6,hs6⟩:∃ s,[1380273457,r,(i:Int),(mn:Int),(en:Int)] ++ zbt g i=s:=⟨_,rfl⟩;have hs6l:s6.length≤5+12 * 40:=by rw [←hs6];simp only [List.length_append,List.length_cons,List.length_nil];omega
   rw [hs6] at HMr HEQ;clear hs6;have c2:=zaa HMr.out.t 2
   gi_wp2
   clear c2;have HM7:=hid (show MB W.heap.size n₀ J Bi #[qI r,.slice ao i cap,.slice mo mn mc,.slice eo en ec] 26 W (s6 ++ zbq M q 0) wr by simpa [zbq] using HMr.out);clear HMr
   gi_loopw [57] (fun k_ X=>∃ k:Nat,k≤mn∧k_=qI k∧Hid (MB W.heap.size n₀ J Bi #[qI r,.slice ao i cap,.slice mo mn mc,.slice eo en ec] 26 W (s6 ++ zbq M q k) X)) (fun k_ _=>mn - (intOf k_).toNat)
   case atStart=>exact⟨0,by omega,rfl,HM7⟩
   case round=>
    clear HM7;obtain⟨k,hk0,rfl,HMr⟩:=hrel;by_cases hkl:k < mn
    ·have t0:decide ((k:Int) < (mn:Int))=true:=by simp;omega
     obtain⟨b,o,rfl,m0,m1⟩:=hxm k hkl;have hbw:=HB0.out.trans (HMr.out.k.below.mono h00);have d0:=kept m0 hbw;have d1:=kept m1 hbw;have k0':(0:Int)≤(k:Int):=by omega
     have k1:(k:Int) < (mn:Int):=by omega
     have hal:=zgd q (M:=M) (n:=k) fun i hi=>HQ20.out i (by omega);have hqk:=HQ20.out k hkl;have HMa:=hid (HMr.out.below hJ HNW.out (qBr (qC #[qU ((M k).t:Nat),.slice (M k).qo (M k).qn (M k).qc] 71)));have hmk:=HMK.out k hkl (wr.alloc (qC #[qU ((M k).t:Nat),.slice (M k).qo (M k).qn (M k).qc] 71)) (s6 ++ zbq M q k) (by simp only [List.length_append];omega) (HB0.out.trans (HMa.out.k.below.mono h00)) HMa.out.j HMa.out.m.size;have HTS:=hid (zi5 M q k);obtain⟨z,hz⟩:∃ z,M k=z:=⟨_,rfl⟩;rw [hz] at d0 d1 HMa hmk HTS;obtain⟨zt,zo,zn,zc⟩:=z;dsimp only at d0 d1 HMa hmk HTS;have HT1:=hid hmk;clear hmk hbw hz m0 m1
     gi_wp2_with (refine⟨trivial,?_⟩;gi_at_call 157;refine (callsIn_wide.2 HT1.out).mono ?_;rintro e Y ⟨rfl,hj,hk,hm⟩)
     have HM9:=hid (show MB W.heap.size n₀ J Bi #[qI r,.slice ao i cap,.slice (some ⟨b,o,none⟩) mn mc,.slice eo en ec] 26 W (s6 ++ zbq M q (k+1)) Y by rw [HTS.out,←List.append_assoc];exact HMa.out.next (by decide) (by decide) hj hk hm);clear hj hk hm HMa HT1 HTS HMr d0 d1
     gi_wp2
     go_roundw
     case rel=>exact⟨k+1,by omega,by go_num,HM9⟩
     case measure=>simp [intOf];omega
    ·obtain rfl:k=mn:=by omega
     have t0:decide ((k:Int) < (k:Int))=false:=by simp
     clear HMK;obtain⟨s7,hs7⟩:∃ s,s6 ++ zbq M q k=s:=⟨_,rfl⟩;have hs7l:s7.length≤5+12 * 40+42 * 20:=by rw [←hs7];simp only [List.length_append];omega
     rw [hs7] at HMr HEQ;clear hs7;have c3:=zaa HMr.out.t 3
     gi_wp2
     clear c3;obtain⟨y,hy⟩:∃ y:Img,Img.mk r ao i cap mo k mc eo en ec=y:=⟨_,rfl⟩;rw [hy] at HEQ HEK;have HM8:=hid (show MB W.heap.size n₀ J Bi #[qI r,.slice ao i cap,.slice mo k mc,.slice eo en ec] 26 W (s7 ++ zb0 y M h 0) wr by simpa [zb0] using HMr.out);have HYY:=hid hy;have HIV:=hid (show iv y=.agg #[qI r,.slice ao i cap,.slice mo k mc,.slice eo en ec] by rw [←hy];rfl);clear HMr hy
     gi_loopw [69] (fun j_ X=>∃ j:Nat,j≤en∧j_=qI j∧Hid (MB W.heap.size n₀ J Bi #[qI r,.slice ao i cap,.slice mo k mc,.slice eo en ec] 26 W (s7 ++ zb0 y M h j) X)) (fun j_ _=>en - (intOf j_).toNat)
     case atStart=>exact⟨0,by omega,rfl,HM8⟩
     case round=>
      clear HM8;obtain⟨j,hj0,rfl,HMr⟩:=hrel;by_cases hjl:j < en
      ·have t0:decide ((j:Int) < (en:Int))=true:=by simp;omega
       have x0:=zaa HMr.out.t 0;have x1:=zaa HMr.out.t 1;have x2:=zaa HMr.out.t 2;have x3:=zaa HMr.out.t 3;have hal:=zgj y M h j;have hek:=HEK.out j hjl wr (s7 ++ zb0 y M h j) (by simp only [List.length_append];omega) (HB0.out.trans (HMr.out.k.below.mono h00)) HMr.out.j HMr.out.m.size;rw [HIV.out] at hek;have HTS:=hid (zje y M h j);have HT1:=hid hek;clear hek
       gi_wp2_with (refine⟨trivial,?_⟩;gi_at_call 158;refine (callsIn_wide.2 HT1.out).mono ?_;rintro e Y ⟨rfl,hj,hk,hm⟩)
       have hz:=HMr.out.next (by decide) (by decide) hj hk hm;rw [List.append_assoc,←HTS.out] at hz;have HM9:=hid (show MB W.heap.size n₀ J Bi #[qI r,.slice ao i cap,.slice mo k mc,.slice eo en ec] 26 W (s7 ++ zb0 y M h (j+1)) Y from hz);clear hz;clear hj hk hm HT1 HTS HMr x0 x1 x2 x3
       gi_wp2
       go_roundw
       case rel=>exact⟨j+1,by omega,by go_num,HM9⟩
       case measure=>simp [intOf];omega
      ·obtain rfl:j=en:=by omega
       have t0:decide ((j:Int) < (j:Int))=false:=by simp
       gi_wp2
       go_end0
       refine⟨⟨_,rfl⟩,s7 ++ zb0 y M h j,?_,HMr.out.j⟩;rw [HYY.out];exact HEQ.out.symm
end Go.Proofs.YtpbmmoneeoijaaaGreatDoor
