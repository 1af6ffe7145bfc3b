/-
  A part of the proof: Edge10V E10Law DecWords.
-/
import Derived.Test.YtpbmmoneeoijaaaGreatDoorP35
namespace Go.Proofs.YtpbmmoneeoijaaaGreatDoor
open Go.RowKit Go.Deep Go.Shelf
set_option maxRecDepth 100000
set_option maxHeartbeats 8000000
attribute [local go_sem] zaq
def zxp (f:Nat→Int) (p q m:Nat):Prop:=0≤f (19+m)∧f (19+m)≤q∧(f (19+m)≠0→m < p∧∀ j,j < m→f (19+j)≠f (19+m))
def zxo (f:Nat→Int) (ta tb l:Nat):Prop:=0≤f (3+l)∧f (3+l)≤16384∧(f (3+l)≠0→f 2=3∧tb.testBit l=true∧ta.testBit l=false)
structure E10 (mn:Nat) (M:Nat→zas) (h:Nat→Nat→Int) (i:Nat):Prop where
 f1:0≤h i 0
 f2:h i 0≤(mn:Int) - 1
 t1:0≤h i 1
 t2:h i 1≤(mn:Int) - 1
 ne:h i 0≠h i 1
 p1:1≤h i 2
 p2:h i 2≤3
 first:∀ k,k < i→¬ (h k 0=h i 0∧h k 1=h i 1)
 mp:∀ m,m < 4→zxp (h i) (M (h i 0).toNat).qn (M (h i 1).toNat).qn m
 of:∀ l,l < 16→zxo (h i) (M (h i 0).toNat).t (M (h i 1).toNat).t l
theorem zCc (x:Img) (g:Nat→Nat→Int) (M:Nat→zas) (q:Nat→Nat→Nat→Int) (h:Nat→Nat→Int) (i:Nat) (w:World) (hx:zdr w x g M q h) (hi:i < x.en):
  Calls Tryz.prog 143 #[iv x,qI i] w fun e w'=>∃ rr:Bool,e=.returned (.bool rr)∧(rr=true→E10 x.mn M h i)∧Below w.heap.size w w':=by
 have hmn:=hx.mn;have hen:=hx.en;have HE:=hid hx.edges;have HM:=hid hx.modes;have HTB:=hid hx.tb;clear hx;obtain⟨r,ao,n,cap,mo,mn,mc,eo,en,ec⟩:=x;unfold iv;dsimp only at hmn hen HE HM HTB hi ⊢;unfold maxLen at hmn hen;obtain⟨b,o,rfl,hc⟩:=HE.out i hi;obtain⟨C,hC⟩:∃ C:List Value,C=(List.range 23).map fun j=>qI (h i j):=⟨_,rfl⟩;have hCl:C.length=23:=by rw [hC];simp
 have hCj:∀ j,j < 23→C[j]? =some (qI (h i j)):=fun j hj=>by rw [hC];simp [hj]
 have hC1:C.toArray.all (·.oneCell')=true:=all_oneCell_toArray fun v hv=>by
  rw [hC] at hv;obtain⟨j,_,rfl⟩:=List.mem_map.1 hv;rfl
 clear hC;have hb1:Below w.heap.size w (w.alloc (qC #[qI r,.slice ao n cap,.slice mo mn mc,.slice (some ⟨b,o,none⟩) en ec] 26)):=qBr _;have bI:=heap_alloc_new w (qC #[qI r,.slice ao n cap,.slice mo mn mc,.slice (some ⟨b,o,none⟩) en ec] 26);have hr1:(w.alloc (qC #[qI r,.slice ao n cap,.slice mo mn mc,.slice (some ⟨b,o,none⟩) en ec] 26)).rangeAt b (o+i * 23) C:=fun j v hv=>by
  have hj:j < 23:=by rw [←hCl];exact (List.getElem?_eq_some_iff.1 hv).1
  rw [hCj j hj] at hv;cases hv;exact kept (hc j hj) hb1
 have hinf:(Tryz.prog.info? 176).map (·.size)=some C.length:=by rw [hCl];kernel_rfl
 have hld:=run_loadAt_mid (P:=Tryz.prog) (w.alloc (qC #[qI r,.slice ao n cap,.slice mo mn mc,.slice (some ⟨b,o,none⟩) en ec] 26)) b (o+i * 23) 176 C _ hr1 Tryz.underlying176 rfl hinf;have bZ:((w.alloc (qC #[qI r,.slice ao n cap,.slice mo mn mc,.slice (some ⟨b,o,none⟩) en ec] 26)).alloc (qC qZ23 176)).heap[w.heap.size+1]? =some (qC qZ23 176):=by have:=heap_alloc_new (w.alloc (qC #[qI r,.slice ao n cap,.slice mo mn mc,.slice (some ⟨b,o,none⟩) en ec] 26)) (qC qZ23 176);rwa [World.size_alloc] at this
 have hth:((w.alloc (qC #[qI r,.slice ao n cap,.slice mo mn mc,.slice (some ⟨b,o,none⟩) en ec] 26)).alloc (qC qZ23 176)).there (w.heap.size+1) 0 C.toArray.size:=fun j hj=>by
  have hj:j < 23:=by rw [←hCl];simpa using hj
  refine⟨?_,zab bZ _⟩;rw [zaa bZ];simp only [Nat.zero_add];rw [Array.getElem?_eq_getElem (by simpa using hj)];rfl
 have hst:=run_storeAt_mid (P:=Tryz.prog) ((w.alloc (qC #[qI r,.slice ao n cap,.slice mo mn mc,.slice (some ⟨b,o,none⟩) en ec] 26)).alloc (qC qZ23 176)) (w.heap.size+1) 0 176 C.toArray hth (by simpa using hinf) hC1;have i0':(0:Int)≤(i:Int):=by omega
 have i1:(i:Int) < (en:Int):=by omega
 have hw1:IntKind.i64.wrap ((mn:Int) - 1)=(mn:Int) - 1:=IntWalk.i64_in _ (by omega);go_enter Tryz.func143,Tryz.ntmps143
 go_upto_region 1 with fail
 refine wp_region_lit ?_;refine wpList_plain rfl fun K hK=>?_;go_simp;refine hK _ _ ?_;clear hK K;refine wpList_plain rfl fun K hK=>?_;go_simp;refine hK _ _ ?_;clear hK K;refine wpList_plain rfl fun K hK=>?_;go_simp;refine hK _ _ ?_;clear hK K;refine wpList_plain rfl fun K hK=>?_;go_simp;refine hK _ _ ?_;clear hK K;refine wpList_load_mid rfl 176 _ rfl b (o+i * 23) rfl C _ hr1 Tryz.underlying176 rfl hinf ?_;refine wpList_plain rfl fun K hK=>?_;go_simp;refine hK _ _ ?_;clear hK K;refine wpList_store_mid rfl 176 _ _ rfl (w.heap.size+1) 0 C.toArray rfl rfl hth (by simpa using hinf) hC1 ?_;have bI2:(((w.alloc (qC #[qI r,.slice ao n cap,.slice mo mn mc,.slice (some ⟨b,o,none⟩) en ec] 26)).alloc (qC qZ23 176)).setCells (w.heap.size+1) 0 C).heap[w.heap.size]? =some (qC #[qI r,.slice ao n cap,.slice mo mn mc,.slice (some ⟨b,o,none⟩) en ec] 26):=by
  exact ((zci (Nat.le_refl _) C 0 _ (Below.refl (w.heap.size+1) _)).block w.heap.size (by omega)).trans ((Below.heap_alloc _ _ _ (by simp)).trans bI)
 have hE:∀ j,j < 23→(((w.alloc (qC #[qI r,.slice ao n cap,.slice mo mn mc,.slice (some ⟨b,o,none⟩) en ec] 26)).alloc (qC qZ23 176)).setCells (w.heap.size+1) 0 C).cell? ⟨w.heap.size+1,j,none⟩=some (qI (h i j)):=fun j hj=>by
  have:=World.rangeAt_setCells_same ((w.alloc (qC #[qI r,.slice ao n cap,.slice mo mn mc,.slice (some ⟨b,o,none⟩) en ec] 26)).alloc (qC qZ23 176)) (w.heap.size+1) 0 C (by simpa using hth) j _ (hCj j hj)
  rwa [Nat.zero_add] at this
 have hb2:Below w.heap.size w (((w.alloc (qC #[qI r,.slice ao n cap,.slice mo mn mc,.slice (some ⟨b,o,none⟩) en ec] 26)).alloc (qC qZ23 176)).setCells (w.heap.size+1) 0 C):=by
  exact zci (by omega) C 0 _ (hb1.alloc (by simp) _)
 obtain⟨W2,hW2⟩:∃ X,X=((w.alloc (qC #[qI r,.slice ao n cap,.slice mo mn mc,.slice (some ⟨b,o,none⟩) en ec] 26)).alloc (qC qZ23 176)).setCells (w.heap.size+1) 0 C:=⟨_,rfl⟩;show Exit.then _ _ _ _ _
 rw [←hW2] at bI2 hE hb2 ⊢;clear hW2 hst hth bZ hld hinf hr1 bI hb1 hC1 hCj hCl hc;go_simp;have c2:=zaa bI2 2;have c3:=zaa bI2 3;have e0:=hE 0 (by decide);have e1:=hE 1 (by decide);have e2:=hE 2 (by decide)
 cases a1:inR (h i 0) 0 ((mn:Int) - 1)
 case false=>
  go_wp2_with (go_at_call 140;refine (zal _ _ _ _).mono ?_;rintro e w' ⟨rfl,rfl⟩)
  go_ret;exact⟨false,rfl,fun h=>(by cases h),hb2⟩
 cases a2:inR (h i 1) 0 ((mn:Int) - 1)
 case false=>
  go_wp2_with (go_at_call 140;refine (zal _ _ _ _).mono ?_;rintro e w' ⟨rfl,rfl⟩)
  go_ret;exact⟨false,rfl,fun h=>(by cases h),hb2⟩
 cases a3:(h i 0 == h i 1)
 case true=>
  go_wp2_with (go_at_call 140;refine (zal _ _ _ _).mono ?_;rintro e w' ⟨rfl,rfl⟩)
  go_ret;exact⟨false,rfl,fun h=>(by cases h),hb2⟩
 cases a4:inR (h i 2) 1 3
 case false=>
  go_wp2_with (go_at_call 140;refine (zal _ _ _ _).mono ?_;rintro e w' ⟨rfl,rfl⟩)
  go_ret;exact⟨false,rfl,fun h=>(by cases h),hb2⟩
 have y1:=zb7 a1;have y2:=zb7 a2
 go_wp2_with (go_at_call 140;refine (zal _ _ _ _).mono ?_;rintro e w' ⟨rfl,rfl⟩)
 have HE2:=hid (zb9.below HE.out hb2);have HM2:=hid (zcu.below HM.out hb2);have HP:Hid (h i 0≠h i 1∧1≤h i 2∧h i 2≤3):=⟨by simpa using a3,(zb7 a4).1,(zb7 a4).2⟩;have HY:=hid (show (0≤h i 0∧h i 0≤(mn:Int) - 1)∧0≤h i 1∧h i 1≤(mn:Int) - 1 from ⟨y1,y2⟩);have HI2:=hid bI2;have HEc:=hid hE;have HB2:=hid hb2;clear HE HM y1 y2 a1 a2 a3 a4 c2 c3 e0 e1 e2 bI2 hE hb2
 go_loopw [6] (fun k_ wr=>∃ k:Nat,k≤i∧k_=qI k∧Hid (∀ k',k' < k→¬ (h k' 0=h i 0∧h k' 1=h i 1))∧Below W2.heap.size W2 wr) (fun k_ _=>i - (intOf k_).toNat)
 case atStart=>exact⟨0,by omega,rfl,fun k' hk'=>absurd hk' (by omega),Below.refl _ _⟩
 case round=>
  obtain⟨k,hk,rfl,HFS,hbr⟩:=hrel;have hIr:=qBa hbr HI2.out;by_cases hlt:k < i
  ·have t0:decide ((k:Int) < (i:Int))=true:=by simp;omega
   have c3:=zaa hIr 3;have e0:=kept (HEc.out 0 (by decide)) hbr;have e1:=kept (HEc.out 1 (by decide)) hbr;obtain⟨b',o',eb,hck⟩:=(zb9.below HE2.out hbr) k (by omega);cases eb;have f0:=hck 0 (by decide);have f1:=hck 1 (by decide);rw [Nat.add_zero] at f0;clear hck;have j0:(0:Int)≤(k:Int):=by omega
   have j1:(k:Int) < (en:Int):=by omega
   have HNF:=hid fun (c:¬ (h k 0=h i 0∧h k 1=h i 1))=>(fun k' hk'=>by
    rcases (show k' < k∨k'=k by omega) with h1|rfl
    ·exact HFS.out k' h1
    ·exact c:∀ k',k' < k+1→¬ (h k' 0=h i 0∧h k' 1=h i 1))
   generalize h k 0=u at f0 HNF;generalize h k 1=v at f1 HNF;have hdr:∀ X,Below wr.heap.size wr X→Below w.heap.size w X:=fun X hX=>HB2.out.trans ((hbr.trans (hX.mono hbr.size)).mono HB2.out.size)
   cases s0:(u == h i 0)
   ·go_wp2
    go_quiet (fail)
    go_wp2;go_roundw
    case rel=>exact⟨k+1,by omega,by go_num,hid (HNF.out fun e=>by simp [e.1] at s0),hbr.trans ⟨rfl,rfl,rfl,Nat.le_refl _,fun _ _=>rfl⟩⟩
    case measure=>simp [intOf];omega
   ·cases s1:(v == h i 1)
    ·go_wp2
     go_quiet (fail)
     go_wp2;go_roundw
     case rel=>exact⟨k+1,by omega,by go_num,hid (HNF.out fun e=>by simp [e.2] at s1),hbr.trans ⟨rfl,rfl,rfl,Nat.le_refl _,fun _ _=>rfl⟩⟩
     case measure=>simp [intOf];omega
    ·go_wp2
     go_quiet (fail)
     go_wp2;go_ret;exact⟨false,rfl,fun h=>(by cases h),hdr _ ⟨rfl,rfl,rfl,Nat.le_refl _,fun _ _=>rfl⟩⟩
  ·obtain rfl:k=i:=by omega
   have t0:decide ((k:Int) < (k:Int))=false:=by simp
   go_wp2;have d2:=zaa hIr 2;have e0:=kept (HEc.out 0 (by decide)) hbr;have e1:=kept (HEc.out 1 (by decide)) hbr;obtain⟨na,hna⟩:∃ n:Nat,h k 0=n:=⟨(h k 0).toNat,by have:=HY.out;omega⟩;obtain⟨nb,hnb⟩:∃ n:Nat,h k 1=n:=⟨(h k 1).toNat,by have:=HY.out;omega⟩;have HFIN:=hid fun (hm:∀ m,m < 4→zxp (h k) (M na).qn (M nb).qn m) (ho:∀ l,l < 16→zxo (h k) (M na).t (M nb).t l)=>
    (⟨HY.out.1.1,HY.out.1.2,HY.out.2.1,HY.out.2.2,HP.out.1,HP.out.2.1,HP.out.2.2,HFS.out,by rw [hna,hnb];exact hm,by rw [hna,hnb];exact ho⟩:E10 mn M h k)
   rw [hna] at e0;rw [hnb] at e1;have la:na < mn:=by have:=HY.out;omega
   have lb:nb < mn:=by have:=HY.out;omega
   obtain⟨bm,om,rfl,ca0,ca1⟩:=(HM2.out.below hbr) na la;obtain⟨bm',om',eb,cb0,cb1⟩:=(HM2.out.below hbr) nb lb;cases eb;have HTa:=hid (HTB.out na la);have HTb:=hid (HTB.out nb lb);generalize M na=A at ca0 ca1 HTa HFIN;generalize M nb=B at cb0 cb1 HTb HFIN;obtain⟨ta,aqo,aqn,aqc⟩:=A;obtain⟨tb,bqo,bqn,bqc⟩:=B;dsimp only at ca0 ca1 cb0 cb1 HTa HTb HFIN;have j0:(0:Int)≤(na:Int):=by omega
   have j1:(na:Int) < (mn:Int):=by omega
   have l0:(0:Int)≤(nb:Int):=by omega
   have l1:(nb:Int) < (mn:Int):=by omega
   clear HP HFS hna hnb la lb HM2 HE2 HTB
   go_cut [7,8] from 75 to 86 (fun pa_ pb_ wx=>zzc wr [qU ta,.slice aqo aqn aqc] [qU tb,.slice bqo bqn bqc] pa_ pb_ wx)
   case first=>
    refine zan [12,13,14,15] (fun X=>Below wr.heap.size wr X) (by kernel_rfl) (by kernel_rfl) (by exact⟨rfl,rfl,rfl,Nat.le_refl _,fun _ _=>rfl⟩) ?_;refine qFs fun K hK=>?_;go_simp;refine⟨_,fun _ _=>rfl,hK _ ?_⟩;clear hK K;refine qFs fun K hK=>?_;go_simp;refine⟨.slice (some ⟨bm,om,none⟩) mn mc,fun X hX=>?_,hK _ ?_⟩
    ·have z0:=kept d2 hX
     go_simp
    clear hK K;refine qFs fun K hK=>?_;go_simp;refine⟨_,fun _ _=>rfl,hK _ ?_⟩;clear hK K;refine qFs fun K hK=>?_;go_simp;refine⟨qI na,fun X hX=>?_,hK _ ?_⟩
    ·have z0:=kept e0 hX
     go_simp
    clear hK K;refine qFs fun K hK=>?_;go_simp;refine⟨_,fun _ _=>rfl,hK _ ?_⟩;clear hK K;refine qFs fun K hK=>?_;go_simp;refine⟨.agg #[qU ta,.slice aqo aqn aqc],fun X hX=>?_,hK _ ?_⟩
    ·have z0:=kept ca0 hX
     have z1:=kept ca1 hX;go_simp
    clear hK K;refine qFs fun K hK=>?_;go_simp;refine⟨_,fun _ _=>rfl,hK _ ?_⟩;clear hK K;refine qFs fun K hK=>?_;go_simp;refine⟨.slice (some ⟨bm,om,none⟩) mn mc,fun X hX=>?_,hK _ ?_⟩
    ·have z0:=kept d2 hX
     go_simp
    clear hK K;refine qFs fun K hK=>?_;go_simp;refine⟨_,fun _ _=>rfl,hK _ ?_⟩;clear hK K;refine qFs fun K hK=>?_;go_simp;refine⟨qI nb,fun X hX=>?_,hK _ ?_⟩
    ·have z0:=kept e1 hX
     go_simp
    clear hK K;refine qFs fun K hK=>?_;go_simp;refine⟨_,fun _ _=>rfl,hK _ ?_⟩;clear hK K;refine qFs fun K hK=>?_;go_simp;refine⟨.agg #[qU tb,.slice bqo bqn bqc],fun X hX=>?_,hK _ ?_⟩
    ·have z0:=kept cb0 hX
     have z1:=kept cb1 hX;go_simp
    clear hK K
    repeat (refine qFc ?_)
    refine za9 ?_;refine qT2 12 13 [13,14,15] [12,14,15] (fun K hK=>?_) fun K hK=>?_
    ·go_wp2_with fail
     refine hK _ _ (zaw (qBr _)) ?_;clear hK K;refine qT1 13 [14,15] fun K hK=>?_
     go_wp2_with fail
     refine hK _ _ (zaw ((qBr _).alloc (by simp) _)) ?_;clear hK K;have g0:=zac (heap_alloc_new wr (qC #[qU 0,.slice none 0 0] 71)) (qC #[qU 0,.slice none 0 0] 71);have g1:=heap_alloc_new (wr.alloc (qC #[qU 0,.slice none 0 0] 71)) (qC #[qU 0,.slice none 0 0] 71);rw [World.size_alloc] at g1;have c00:=zaa g0 0;have c01:=zaa g0 1;have f00:=zab g0 0;have f01:=zab g0 1;have c10:=zaa g1 0;have c11:=zaa g1 1;have f10:=zab g1 0;have f11:=zab g1 1;refine qT1 14 [15] fun K hK=>?_
     go_wp2_with fail
     refine hK _ _ (zaw ((qBr _).alloc (by simp) _)) ?_;clear hK K;clear g0 g1 c00 c01 f00 f01 c10 c11 f10 f11;have g0:=zac (heap_alloc_new wr (qC #[qU ta,.slice aqo aqn aqc] 71)) (qC #[qU 0,.slice none 0 0] 71);have g1:=heap_alloc_new (wr.alloc (qC #[qU ta,.slice aqo aqn aqc] 71)) (qC #[qU 0,.slice none 0 0] 71);rw [World.size_alloc] at g1;have c00:=zaa g0 0;have c01:=zaa g0 1;have f00:=zab g0 0;have f01:=zab g0 1;have c10:=zaa g1 0;have c11:=zaa g1 1;have f10:=zab g1 0;have f11:=zab g1 1;refine qT1 15 [] fun K hK=>?_
     go_wp2_with fail
     refine hK _ _ (zaw ((qBr _).alloc (by simp) _)) ?_;clear hK K;clear g0 g1 c00 c01 f00 f01 c10 c11 f10 f11;have g0:=zac (heap_alloc_new wr (qC #[qU ta,.slice aqo aqn aqc] 71)) (qC #[qU tb,.slice bqo bqn bqc] 71);have g1:=heap_alloc_new (wr.alloc (qC #[qU ta,.slice aqo aqn aqc] 71)) (qC #[qU tb,.slice bqo bqn bqc] 71);rw [World.size_alloc] at g1;have hbX:=zaw ((qBr (w:=wr) (qC #[qU ta,.slice aqo aqn aqc] 71)).alloc (by simp) (qC #[qU tb,.slice bqo bqn bqc] 71));refine za2 ?_;go_wp2;go_meet
     case rel=>exact⟨⟨_,_,rfl,rfl,g0,g1⟩,hbX⟩
    ·go_wp2_with fail
     refine hK _ _ (zaw (qBr _)) ?_;clear hK K;refine qT1 12 [14,15] fun K hK=>?_
     go_wp2_with fail
     refine hK _ _ (zaw ((qBr _).alloc (by simp) _)) ?_;clear hK K;have g0:=zac (heap_alloc_new wr (qC #[qU 0,.slice none 0 0] 71)) (qC #[qU 0,.slice none 0 0] 71);have g1:=heap_alloc_new (wr.alloc (qC #[qU 0,.slice none 0 0] 71)) (qC #[qU 0,.slice none 0 0] 71);rw [World.size_alloc] at g1;have c00:=zaa g0 0;have c01:=zaa g0 1;have f00:=zab g0 0;have f01:=zab g0 1;have c10:=zaa g1 0;have c11:=zaa g1 1;have f10:=zab g1 0;have f11:=zab g1 1;refine qT1 14 [15] fun K hK=>?_
     go_wp2_with fail
     refine hK _ _ (zaw ((qBr _).alloc (by simp) _)) ?_;clear hK K;clear g0 g1 c00 c01 f00 f01 c10 c11 f10 f11;have g0:=zac (heap_alloc_new wr (qC #[qU 0,.slice none 0 0] 71)) (qC #[qU ta,.slice aqo aqn aqc] 71);have g1:=heap_alloc_new (wr.alloc (qC #[qU 0,.slice none 0 0] 71)) (qC #[qU ta,.slice aqo aqn aqc] 71);rw [World.size_alloc] at g1;have c00:=zaa g0 0;have c01:=zaa g0 1;have f00:=zab g0 0;have f01:=zab g0 1;have c10:=zaa g1 0;have c11:=zaa g1 1;have f10:=zab g1 0;have f11:=zab g1 1;refine qT1 15 [] fun K hK=>?_
     go_wp2_with fail
     refine hK _ _ (zaw ((qBr _).alloc (by simp) _)) ?_;clear hK K;clear g0 g1 c00 c01 f00 f01 c10 c11 f10 f11;have g0:=zac (heap_alloc_new wr (qC #[qU tb,.slice bqo bqn bqc] 71)) (qC #[qU ta,.slice aqo aqn aqc] 71);have g1:=heap_alloc_new (wr.alloc (qC #[qU tb,.slice bqo bqn bqc] 71)) (qC #[qU ta,.slice aqo aqn aqc] 71);rw [World.size_alloc] at g1;have hbX:=zaw ((qBr (w:=wr) (qC #[qU tb,.slice bqo bqn bqc] 71)).alloc (by simp) (qC #[qU ta,.slice aqo aqn aqc] 71));refine za2 ?_;go_wp2;go_meet
     case rel=>exact⟨⟨_,_,rfl,rfl,g1,g0⟩,hbX⟩
   case rest=>
    obtain⟨⟨ba,bb,rfl,rfl,bA4,bB4⟩,hb4⟩:=hcut;have HB4:=hid (HB2.out.trans ((hbr.trans (hb4.mono hbr.size)).mono HB2.out.size));have HE4:=hid (fun (j:Nat) (hj:j < 23)=>kept (HEc.out j hj) (hbr.trans (hb4.mono hbr.size)));have HA4:=hid bA4;have HB5:=hid bB4;clear bA4 bB4 hb4 ca0 ca1 cb0 cb1 d2 e0 e1 j0 j1 l0 l1 hIr hbr HEc HB2 HI2 HY hk hlt t0 hmn hen hw1;obtain⟨W4,hW4⟩:∃ X,X=wc:=⟨_,rfl⟩;rw [←hW4] at HE4 HB4 HA4 HB5 ⊢;clear hW4;go_wp2
    go_loopw [9] (fun k_ wr=>∃ m:Nat,m≤4∧k_=qI m∧Hid (∀ m',m' < m→zxp (h k) aqn bqn m')∧W4=wr) (fun k_ _=>4 - (intOf k_).toNat)
    case atStart=>exact⟨0,by omega,rfl,fun m' hm'=>absurd hm' (by omega),rfl⟩
    case round=>
     obtain⟨m,hm,rfl,HMS,rfl⟩:=hrel;by_cases hlt2:m < 4
     ·have t1:decide ((m:Int) < 4)=true:=by simp;omega
      have em:=HE4.out (19+m) (by omega);have j0:(0:Int)≤(m:Int):=by omega
      have j1:(m:Int) < 4:=by omega
      have bq:=zaa HB5.out 1;have aq:=zaa HA4.out 1;have HMN:=hid fun (c:zxp (h k) aqn bqn m)=>(fun m' hm'=>by
       rcases (show m' < m∨m'=m by omega) with h1|rfl
       ·exact HMS.out m' h1
       ·exact c:∀ m',m' < m+1→zxp (h k) aqn bqn m')
      have HMK:=hid fun (c1:inR (h k (19+m)) 0 bqn=true) (c2:h k (19+m)≠0→m < aqn∧∀ j,j < m→h k (19+j)≠h k (19+m))=>show zxp (h k) aqn bqn m from ⟨(zb7 c1).1,(zb7 c1).2,c2⟩;generalize h k (19+m)=z at em HMK
      cases a1:inR z 0 bqn
      ·go_wp2_with (go_at_call 140;refine (zal _ _ _ _).mono ?_;rintro e w' ⟨rfl,rfl⟩)
       go_ret;exact⟨false,rfl,fun h=>(by cases h),HB4.out⟩
      ·have HA1:=hid a1
       cases hz:(z == 0)
       ·have hz':(z != 0)=true:=by simp only [bne,hz];rfl
        by_cases hq:aqn≤m
        ·have t2:decide ((aqn:Int)≤(m:Int))=true:=by simp;omega
         go_wp2_with (go_at_call 140;refine (zal _ _ _ _).mono ?_;rintro e w' ⟨rfl,rfl⟩)
         go_ret;exact⟨false,rfl,fun h=>(by cases h),HB4.out⟩
        ·have t2:decide ((aqn:Int)≤(m:Int))=false:=by simp;omega
         go_wp2_with (go_at_call 140;refine (zal _ _ _ _).mono ?_;rintro e w' ⟨rfl,rfl⟩)
         go_loopw [11] (fun j_ wr=>∃ j:Nat,j≤m∧j_=qI j∧Hid (∀ j',j' < j→h k (19+j')≠z)∧W4=wr) (fun j_ _=>m - (intOf j_).toNat)
         case atStart=>exact⟨0,by omega,rfl,fun j' hj'=>absurd hj' (by omega),rfl⟩
         case round=>
          obtain⟨j,hj,rfl,HJS,rfl⟩:=hrel;by_cases hlt3:j < m
          ·have t3:decide ((j:Int) < (m:Int))=true:=by simp;omega
           have ej:=HE4.out (19+j) (by omega);have HJN:=hid fun (c:h k (19+j)≠z)=>(fun j' hj'=>by
            rcases (show j' < j∨j'=j by omega) with h1|rfl
            ·exact HJS.out j' h1
            ·exact c:∀ j',j' < j+1→h k (19+j')≠z)
           generalize h k (19+j)=y at ej HJN;have l0:(0:Int)≤(j:Int):=by omega
           have l1:(j:Int) < 4:=by omega
           cases hy:(y == z)
           ·go_wp2
            go_roundw
            case rel=>exact⟨j+1,by omega,by go_num,hid (HJN.out (by simpa using hy)),trivial⟩
            case measure=>simp [intOf];omega
           ·go_wp2
            go_ret;exact⟨false,rfl,fun h=>(by cases h),HB4.out⟩
          ·obtain rfl:j=m:=by omega
           have t3:decide ((j:Int) < (j:Int))=false:=by simp
           go_wp2;go_roundw
           case rel=>exact⟨j+1,by omega,by go_num,hid (HMN.out (HMK.out HA1.out fun _=>⟨by omega,HJS.out⟩)),trivial⟩
           case measure=>simp [intOf];omega
       ·have hz':(z != 0)=false:=by simp only [bne,hz];rfl
        go_wp2_with (go_at_call 140;refine (zal _ _ _ _).mono ?_;rintro e w' ⟨rfl,rfl⟩)
        go_loopw [11] (fun j_ wr=>∃ j:Nat,j≤m∧j_=qI j∧W4=wr) (fun j_ _=>m - (intOf j_).toNat)
        case atStart=>exact⟨0,by omega,rfl,rfl⟩
        case round=>
         obtain⟨j,hj,rfl,rfl⟩:=hrel;by_cases hlt3:j < m
         ·have t3:decide ((j:Int) < (m:Int))=true:=by simp;omega
          go_wp2;go_roundw
          case rel=>exact⟨j+1,by omega,by go_num,trivial⟩
          case measure=>simp [intOf];omega
         ·obtain rfl:j=m:=by omega
          have t3:decide ((j:Int) < (j:Int))=false:=by simp
          go_wp2;go_roundw
          case rel=>exact⟨j+1,by omega,by go_num,hid (HMN.out (HMK.out HA1.out fun hne=>absurd (eq_of_beq hz) hne)),trivial⟩
          case measure=>simp [intOf];omega
     ·have HFI2:=hid (HFIN.out fun m' hm'=>HMS.out m' (by omega))
      have hm4:(m:Int)=4:=by omega
      rw [hm4];clear hm4;go_wp2
      go_loopw [12] (fun k_ wr=>∃ l:Nat,l≤16∧k_=qI l∧Hid (∀ l',l' < l→zxo (h k) ta tb l')∧W4=wr) (fun k_ _=>16 - (intOf k_).toNat)
      case atStart=>exact⟨0,by omega,rfl,fun l' hl'=>absurd hl' (by omega),rfl⟩
      case round=>
       obtain⟨l,hl,rfl,HLS,rfl⟩:=hrel;by_cases hlt4:l < 16
       ·have t4:decide ((l:Int) < 16)=true:=by simp;omega
        obtain⟨bit,hbit,hbs⟩:∃ bit:Nat→Bool,(∀ s X,Calls Tryz.prog 85 #[qU (s:Nat),qI l] X fun e w'=>e=.returned (.bool (bit s))∧w'=X)∧∀ s:Nat,bit s=s.testBit l:=⟨fun s=>decide (l < 32) && s.testBit l,fun s X=>zuf s l (by unfold maxLen;omega) X,fun s=>by simp;omega⟩;have HBS:=hid hbs;have HH:=hid hbit;clear hbit hbs;have e2:=HE4.out 2 (by omega);have el:=HE4.out (3+l) (by omega);have l0:(0:Int)≤(l:Int):=by omega
        have l1:(l:Int) < 16:=by omega
        have bq:=zaa HB5.out 0;have aq:=zaa HA4.out 0;have HLN:=hid fun (c:zxo (h k) ta tb l)=>(fun l' hl'=>by
         rcases (show l' < l∨l'=l by omega) with h1|rfl
         ·exact HLS.out l' h1
         ·exact c:∀ l',l' < l+1→zxo (h k) ta tb l')
        have HOK:=hid fun (c1:inR (h k (3+l)) 0 16384=true) (c2:h k (3+l)≠0→h k 2=3∧tb.testBit l=true∧ta.testBit l=false)=>show zxo (h k) ta tb l from ⟨(zb7 c1).1,(zb7 c1).2,c2⟩;generalize h k (3+l)=z at el HOK
        cases hp:(h k 2 == 3)
        ·skip
         cases a1:inR z 0 16384
         ·go_wp2_with (first|(go_at_call 140;refine (zal _ _ _ _).mono ?_;rintro e w' ⟨rfl,rfl⟩)|(go_at_call 85;refine (HH.out _ _).mono ?_;rintro e w' ⟨rfl,rfl⟩))
          go_ret;exact⟨false,rfl,fun h=>(by cases h),HB4.out⟩
         ·have HA1:=hid a1
          cases hz:(z == 0)
          ·have hz':(z != 0)=true:=by simp only [bne,hz];rfl
           go_wp2_with (first|(go_at_call 140;refine (zal _ _ _ _).mono ?_;rintro e w' ⟨rfl,rfl⟩)|(go_at_call 85;refine (HH.out _ _).mono ?_;rintro e w' ⟨rfl,rfl⟩))
           go_ret;exact⟨false,rfl,fun h=>(by cases h),HB4.out⟩
          ·have hz':(z != 0)=false:=by simp only [bne,hz];rfl
           go_wp2_with (first|(go_at_call 140;refine (zal _ _ _ _).mono ?_;rintro e w' ⟨rfl,rfl⟩)|(go_at_call 85;refine (HH.out _ _).mono ?_;rintro e w' ⟨rfl,rfl⟩))
           go_roundw
           case rel=>exact⟨l+1,by omega,by go_num,hid (HLN.out (HOK.out HA1.out fun hne=>absurd (eq_of_beq hz) hne)),trivial⟩
           case measure=>simp [intOf];omega
        ·cases hB:bit tb
         ·skip
          cases a1:inR z 0 16384
          ·go_wp2_with (first|(go_at_call 140;refine (zal _ _ _ _).mono ?_;rintro e w' ⟨rfl,rfl⟩)|(go_at_call 85;refine (HH.out _ _).mono ?_;rintro e w' ⟨rfl,rfl⟩))
           go_ret;exact⟨false,rfl,fun h=>(by cases h),HB4.out⟩
          ·have HA1:=hid a1
           cases hz:(z == 0)
           ·have hz':(z != 0)=true:=by simp only [bne,hz];rfl
            go_wp2_with (first|(go_at_call 140;refine (zal _ _ _ _).mono ?_;rintro e w' ⟨rfl,rfl⟩)|(go_at_call 85;refine (HH.out _ _).mono ?_;rintro e w' ⟨rfl,rfl⟩))
            go_ret;exact⟨false,rfl,fun h=>(by cases h),HB4.out⟩
           ·have hz':(z != 0)=false:=by simp only [bne,hz];rfl
            go_wp2_with (first|(go_at_call 140;refine (zal _ _ _ _).mono ?_;rintro e w' ⟨rfl,rfl⟩)|(go_at_call 85;refine (HH.out _ _).mono ?_;rintro e w' ⟨rfl,rfl⟩))
            go_roundw
            case rel=>exact⟨l+1,by omega,by go_num,hid (HLN.out (HOK.out HA1.out fun hne=>absurd (eq_of_beq hz) hne)),trivial⟩
            case measure=>simp [intOf];omega
         ·cases hA:bit ta
          ·skip
           cases a1:inR z 0 16384
           ·go_wp2_with (first|(go_at_call 140;refine (zal _ _ _ _).mono ?_;rintro e w' ⟨rfl,rfl⟩)|(go_at_call 85;refine (HH.out _ _).mono ?_;rintro e w' ⟨rfl,rfl⟩))
            go_ret;exact⟨false,rfl,fun h=>(by cases h),HB4.out⟩
           ·have HA1:=hid a1
            cases hz:(z == 0)
            ·have hz':(z != 0)=true:=by simp only [bne,hz];rfl
             go_wp2_with (first|(go_at_call 140;refine (zal _ _ _ _).mono ?_;rintro e w' ⟨rfl,rfl⟩)|(go_at_call 85;refine (HH.out _ _).mono ?_;rintro e w' ⟨rfl,rfl⟩))
             go_roundw
             case rel=>exact⟨l+1,by omega,by go_num,hid (HLN.out (HOK.out HA1.out fun _=>⟨eq_of_beq hp,(HBS.out _).symm.trans hB,(HBS.out _).symm.trans hA⟩)),trivial⟩
             case measure=>simp [intOf];omega
            ·have hz':(z != 0)=false:=by simp only [bne,hz];rfl
             go_wp2_with (first|(go_at_call 140;refine (zal _ _ _ _).mono ?_;rintro e w' ⟨rfl,rfl⟩)|(go_at_call 85;refine (HH.out _ _).mono ?_;rintro e w' ⟨rfl,rfl⟩))
             go_roundw
             case rel=>exact⟨l+1,by omega,by go_num,hid (HLN.out (HOK.out HA1.out fun hne=>absurd (eq_of_beq hz) hne)),trivial⟩
             case measure=>simp [intOf];omega
          ·skip
           cases a1:inR z 0 16384
           ·go_wp2_with (first|(go_at_call 140;refine (zal _ _ _ _).mono ?_;rintro e w' ⟨rfl,rfl⟩)|(go_at_call 85;refine (HH.out _ _).mono ?_;rintro e w' ⟨rfl,rfl⟩))
            go_ret;exact⟨false,rfl,fun h=>(by cases h),HB4.out⟩
           ·have HA1:=hid a1
            cases hz:(z == 0)
            ·have hz':(z != 0)=true:=by simp only [bne,hz];rfl
             go_wp2_with (first|(go_at_call 140;refine (zal _ _ _ _).mono ?_;rintro e w' ⟨rfl,rfl⟩)|(go_at_call 85;refine (HH.out _ _).mono ?_;rintro e w' ⟨rfl,rfl⟩))
             go_ret;exact⟨false,rfl,fun h=>(by cases h),HB4.out⟩
            ·have hz':(z != 0)=false:=by simp only [bne,hz];rfl
             go_wp2_with (first|(go_at_call 140;refine (zal _ _ _ _).mono ?_;rintro e w' ⟨rfl,rfl⟩)|(go_at_call 85;refine (HH.out _ _).mono ?_;rintro e w' ⟨rfl,rfl⟩))
             go_roundw
             case rel=>exact⟨l+1,by omega,by go_num,hid (HLN.out (HOK.out HA1.out fun hne=>absurd (eq_of_beq hz) hne)),trivial⟩
             case measure=>simp [intOf];omega
       ·obtain rfl:l=16:=by omega
        go_wp2;go_ret;exact⟨true,rfl,fun _=>HFI2.out HLS.out,HB4.out⟩
end Go.Proofs.YtpbmmoneeoijaaaGreatDoor
namespace Go.Proofs.YtpbmmoneeoijaaaGreatDoor
open Go.RowKit Go.Deep Go.Shelf
set_option maxRecDepth 100000
set_option maxHeartbeats 8000000
theorem zyu (s i:Nat) (hi:i≤31):hasN s (i:Int)=s.testBit i:=by
 unfold hasN;have h1:(0:Int)≤(i:Int)∧(i:Int)≤31:=by omega
 simp [h1]
theorem hasN_or {s:Nat} {v n:Int} (h:hasN (s |||bitN v) n=true):hasN s n=true∨n=v:=by
 unfold hasN at h ⊢;simp only [Bool.and_eq_true,decide_eq_true_eq,Nat.testBit_or,Bool.or_eq_true,zih] at h ⊢;obtain⟨h1,h2|h2⟩:=h
 ·exact .inl ⟨h1,h2⟩
 ·exact .inr (by omega)
theorem zwf {f:Nat→Int} {p q:Nat} (h:∀ m,m < 4→zxp f p q m):∀ (k:Nat),k≤4→∀ s:Nat,(∀ n,hasN s n=true→∃ j,j < 4 - k∧f (19+j)=n)→zhk (fun j=>f (19+j)) p q k s=true
 |0,_,_,_=>rfl
 |k+1,hk,s,hs=>by
  have hm:=h (3 - k) (by omega);unfold zhk;by_cases hz:f (19+(3 - k))=0
  ·rw [if_pos hz]
   exact zwf h k (by omega) s fun n hn=>by
    obtain⟨j,hj,e⟩:=hs n hn;exact⟨j,by omega,e⟩
  ·rw [if_neg hz]
   obtain⟨h1,h2,h3⟩:=hm;obtain⟨h4,h5⟩:=h3 hz;have hno:¬ (f (19+(3 - k)) < 0∨(q:Int) < f (19+(3 - k))∨(p:Int)≤((3 - k:Nat):Int)∨hasN s (f (19+(3 - k)))=true):=by
    rintro (h6|h6|h6|h6)
    ·omega
    ·omega
    ·omega
    ·obtain⟨j,hj,e⟩:=hs _ h6
     exact h5 j (by omega) e
   rw [if_neg hno];exact zwf h k (by omega) _ fun n hn=>by
    rcases hasN_or hn with h6|h6
    ·obtain⟨j,hj,e⟩:=hs n h6
     exact⟨j,by omega,e⟩
    ·exact⟨3 - k,by omega,h6.symm⟩
theorem zDe {f:Nat→Int} {ta tb:Nat} (hb:tb < 4294967296) (h:∀ l,l < 16→zxo f ta tb l):∀ (k:Nat),k≤16→zhe f (zcl tb ta) k=true
 |0,_=>rfl
 |k+1,hk=>by
  unfold zhe;rw [zDe hb h k (by omega),Bool.and_true];obtain⟨h1,h2,h3⟩:=h (15 - k) (by omega);unfold offB;rw [zyu _ _ (by omega),zub tb ta _ hb];by_cases hz:f (3+(15 - k))=0
  ·simp [hz]
  ·obtain⟨h4,h5,h6⟩:=h3 hz
   simp [h4,h5,h6];omega
theorem VE.of10 {x:Img} {M:Nat→zas} {h:Nat→Nat→Int} {i:Nat} (htb:∀ j,j < x.mn→(M j).t < 4294967296) (e:E10 x.mn M h i):VE x M h i:=by
 obtain⟨f1,f2,t1,t2,ne,p1,p2,first,mp,of⟩:=e;have e0:zai x M (h i 0)=(M (h i 0).toNat).t:=if_pos ⟨f1,by omega⟩;have e1:zai x M (h i 1)=(M (h i 1).toNat).t:=if_pos ⟨t1,by omega⟩;exact⟨⟨f1,by omega,t1,by omega,p1,p2⟩,ne,first,zwf mp 4 (by omega) 0 fun n hn=>by simp [hasN] at hn,by rw [e0,e1];exact zDe (htb _ (by omega)) of 16 (by omega)⟩
theorem zEr {P B R:List Int} {j:Nat} {v:Int} (h:B[j]? =some v):(P ++ (B ++ R))[P.length+j]? =some v:=by
 rw [List.getElem?_append_right (by omega),Nat.add_sub_cancel_left,List.getElem?_append_left (List.getElem?_eq_some_iff.1 h).1];exact h
section
variable {x:Img} {g:Nat→Nat→Int} {M:Nat→zas} {q:Nat→Nat→Nat→Int} {h:Nat→Nat→Int} {i:Nat}
theorem zD5 (hi:i < x.n) {j:Nat} {v:Int} (hj:(zim (g i))[j]? =some v):(encW x g M q h)[5+(zbt g i).length+j]? =some v:=by
 obtain⟨R,hR⟩:=zk7 (fun i=>zim (g i)) hi;have e:encW x g M q h=([1380273457,x.r,(x.n:Int),(x.mn:Int),(x.en:Int)] ++ zbt g i) ++ (zim (g i) ++ (R ++ (zbq M q x.mn ++ zb0 x M h x.en))):=by
  unfold encW;rw [show zbt g x.n=zbt g i ++ (zim (g i) ++ R) from hR];simp only [List.append_assoc]
 have:=zEr (P:=[1380273457,x.r,(x.n:Int),(x.mn:Int),(x.en:Int)] ++ zbt g i) (R:=R ++ (zbq M q x.mn ++ zb0 x M h x.en)) hj;rw [e]
 rwa [List.length_append,show [1380273457,x.r,(x.n:Int),(x.mn:Int),(x.en:Int)].length=5 from rfl] at this
theorem zD6 (hi:i < x.mn) {j:Nat} {v:Int} (hj:(zin (M i).t (M i).qn (q i))[j]? =some v):(encW x g M q h)[5+(zbt g x.n).length+(zbq M q i).length+j]? =some v:=by
 obtain⟨R,hR⟩:=zk7 (fun i=>zin (M i).t (M i).qn (q i)) hi;have e:encW x g M q h=([1380273457,x.r,(x.n:Int),(x.mn:Int),(x.en:Int)] ++ zbt g x.n ++ zbq M q i) ++ (zin (M i).t (M i).qn (q i) ++ (R ++ zb0 x M h x.en)):=by
  unfold encW;rw [show zbq M q x.mn=zbq M q i ++ (zin (M i).t (M i).qn (q i) ++ R) from hR];simp only [List.append_assoc]
 have:=zEr (P:=[1380273457,x.r,(x.n:Int),(x.mn:Int),(x.en:Int)] ++ zbt g x.n ++ zbq M q i) (R:=R ++ zb0 x M h x.en) hj;rw [e]
 rwa [List.length_append,List.length_append,show [1380273457,x.r,(x.n:Int),(x.mn:Int),(x.en:Int)].length=5 from rfl] at this
theorem zD7 (hi:i < x.en) {j:Nat} {v:Int} (hj:(zfi (h i) (zdl x M (h i)))[j]? =some v):(encW x g M q h)[5+(zbt g x.n).length+(zbq M q x.mn).length+(zb0 x M h i).length+j]? =some v:=by
 obtain⟨R,hR⟩:=zk7 (fun i=>zfi (h i) (zdl x M (h i))) hi;have e:encW x g M q h=([1380273457,x.r,(x.n:Int),(x.mn:Int),(x.en:Int)] ++ zbt g x.n ++ zbq M q x.mn ++ zb0 x M h i) ++ (zfi (h i) (zdl x M (h i)) ++ R):=by
  unfold encW;rw [show zb0 x M h x.en=zb0 x M h i ++ (zfi (h i) (zdl x M (h i)) ++ R) from hR];simp only [List.append_assoc]
 have:=zEr (P:=[1380273457,x.r,(x.n:Int),(x.mn:Int),(x.en:Int)] ++ zbt g x.n ++ zbq M q x.mn ++ zb0 x M h i) (R:=R) hj;rw [e]
 rwa [List.length_append,List.length_append,List.length_append,show [1380273457,x.r,(x.n:Int),(x.mn:Int),(x.en:Int)].length=5 from rfl] at this
theorem zo9:(encW x g M q h).length=5+(zbt g x.n).length+(zbq M q x.mn).length+(zb0 x M h x.en).length:=by
 unfold encW;simp only [List.length_append];rfl
theorem VX.usesW (hx:VX x g M q h) (hi:i < x.n):zxn (g i):=⟨hx.taskN hi⟩
theorem VX.modeT (hx:VX x g M q h) (hi:i < x.mn):(M i).t < 65536:=Nat.lt_of_lt_of_le (hx.o.mt i hi) (Nat.le_trans (Nat.pow_le_pow_right (by decide) hx.o.n2) (by decide))
theorem VX.fresh (hx:VX x g M q h) (f:Nat→Int):zdl x M f < 65536:=by
 have key:∀ m,zai x M m < 65536:=fun m=>by
  unfold zai
  split
  ·rename_i hm
   exact hx.modeT (i:=m.toNat) (by omega)
  ·decide
 exact Nat.lt_of_le_of_lt (zes _ _) (key (f 1))
theorem VX.words (hx:VX x g M q h):∀ v∈encW x g M q h,0≤v∧v < 4294967296:=fun v hv=>by
 have r1:=hx.o.r1;have r2:=hx.o.r2;have n2:=hx.o.n2;have m2:=hx.o.m2;have e2:=hx.o.e;unfold encW at hv;rcases List.mem_append.1 hv with hv|hv
 ·rcases List.mem_append.1 hv with hv|hv
  ·rcases List.mem_append.1 hv with hv|hv
   ·simp only [List.mem_cons,List.not_mem_nil,or_false] at hv
    omega
   ·obtain⟨i,hi,hv⟩:=List.mem_flatMap.1 hv
    have hi:=List.mem_range.1 hi;have ht:=hx.taskN hi;have h0:=ht 0 (by decide);have h1:=ht 1 (by decide);have h2:=ht 2 (by decide);unfold zim at hv;rcases List.mem_append.1 hv with hv|hv
    ·have:=zs7 (g i)
     simp only [List.mem_cons,List.not_mem_nil,or_false] at hv;omega
    ·obtain⟨p,hp,rfl⟩:=List.mem_map.1 hv
     obtain⟨e1,e3,e4⟩:=znq (g i) 8 p hp;have:=ht (3+p.1) (by omega);omega
  ·obtain⟨i,hi,hv⟩:=List.mem_flatMap.1 hv
   have hi:=List.mem_range.1 hi;have ht:=hx.modeT hi;have hq:=hx.o.mq i hi;unfold zin at hv;rcases List.mem_append.1 hv with hv|hv
   ·simp only [List.mem_cons,List.not_mem_nil,or_false] at hv
    omega
   ·obtain⟨j,hj,hv⟩:=List.mem_flatMap.1 hv
    obtain⟨c1,c2,p1,p2⟩:=hq.2 j (List.mem_range.1 hj);simp only [List.mem_cons,List.not_mem_nil,or_false] at hv;omega
 ·obtain⟨i,hi,hv⟩:=List.mem_flatMap.1 hv
  have hE:=(hx.edgeN (List.mem_range.1 hi)).all;unfold zfi at hv;have k0:=hE 0 (by decide);have k1:=hE 1 (by decide);have k2:=hE 2 (by decide);have k19:=hE 19 (by decide);have k20:=hE 20 (by decide);have k21:=hE 21 (by decide);have k22:=hE 22 (by decide);rcases List.mem_append.1 hv with hv|hv
  ·simp only [List.mem_cons,List.not_mem_nil,or_false] at hv
   omega
  ·split at hv
   ·obtain⟨j,hj,rfl⟩:=List.mem_map.1 hv
    have:=hE (3+j) (by have:=zhy hj (hx.fresh (h i));omega);omega
   ·cases hv
theorem zq9 (hx:VX x g M q h):(encW x g M q h).length≤6000:=by
 have n2:=hx.o.n2;have m2:=hx.o.m2;have e2:=hx.o.e;have htl:=zf8 g x.n;have hml:=zgd q (M:=M) (n:=x.mn) fun i hi=>by have:=(hx.o.mq i hi).1;omega
 have hel:=zgj x M h x.en;rw [zo9];omega
end
end Go.Proofs.YtpbmmoneeoijaaaGreatDoor
