/-
  A part of the proof: MigSum CoreSt CoreMove CoreHear CoreAsk CoreStep.
-/
import Derived.Test.YtpbmmoneeoijaaaGreatDoorP31
namespace Go.Proofs.YtpbmmoneeoijaaaGreatDoor
def sumQ (f:Nat→Nat):Nat→Nat
 |0=>0
 |n+1=>sumQ f n+f n
theorem zec {f g:Nat→Nat}:∀ {n:Nat},(∀ i,i < n→f i=g i)→sumQ f n=sumQ g n
 |0,_=>rfl
 |n+1,h=>by
  show sumQ f n+f n=sumQ g n+g n;rw [zec fun i hi=>h i (by omega),h n (by omega)]
theorem zug {f:Nat→Nat} {k v:Nat}:∀ {n:Nat},k < n→f k=0→sumQ (fun i=>if i=k then v else f i) n=sumQ f n+v
 |0,h,_=>by omega
 |n+1,h,h0=>by
  show sumQ _ n+(if n=k then v else f n)=sumQ f n+f n+v;by_cases hk:n=k
  ·subst hk
   rw [if_pos rfl,zec (g:=f) fun i hi=>if_neg (by omega),h0];omega
  ·rw [if_neg hk,zug (by omega) h0]
   omega
theorem zsd {f:Nat→Nat} {b:Nat}:∀ {n:Nat},(∀ i,i < n→f i≤b)→sumQ f n≤n * b
 |0,_=>by simp [sumQ]
 |n+1,h=>by
  have h1:=zsd (n:=n) fun i hi=>h i (by omega);have h2:=h n (by omega);show sumQ f n+f n≤(n+1) * b;rw [Nat.succ_mul];omega
def zd1 (L:List (Nat×Nat)):Nat:=(L.map (·.2)).sum
theorem zhs (L M:List (Nat×Nat)):zd1 (L ++ M)=zd1 L+zd1 M:=by simp [zd1]
theorem zka (xs:List Int) (m:Nat):(zd6 xs m).length=min xs.length m:=by
 unfold zd6
 split
 ·rw [List.length_drop];omega
 ·omega
theorem zq9 {g:Nat→Nat→Int} {m:Nat→Int} {tq9:Nat} {xs:Nat→List Int} {j:Nat}:∀ {n:Nat},(∀ i,i < n→bec m tq9 i≠some j)→zbx g m tq9 xs n j=[]
 |0,_=>rfl
 |n+1,h=>by
  show (if bec m tq9 n=some j then _ else zbx g m tq9 xs n j)=[];rw [if_neg (h n (by omega)),zq9 fun i hi=>h i (by omega)]
theorem zuy (g:Nat→Nat→Int) (m:Nat→Int) (tq9:Nat) (xs:Nat→List Int):∀ {n:Nat},¬ Dup m n tq9→sumQ (fun j=>(zbx g m tq9 xs n j).length) tq9+zd1 (zbb g m tq9 xs n)=sumQ (fun i=>(xs i).length) n
 |0,_=>by
  show sumQ (fun _=>0) tq9+0=0;have:∀ n,sumQ (fun _=>0) n=0:=fun n=>by
   induction n with
   |zero=>rfl
   |succ n ih=>show sumQ _ n+0=0;rw [ih]
  rw [this]
 |n+1,h=>by
  have ih:=zuy g m tq9 xs (n:=n) fun ⟨i,k,j,h1,h2,h3,h4⟩=>h ⟨i,k,j,h1,by omega,h3,h4⟩;show sumQ (fun j=>(if bec m tq9 n=some j then zd6 (xs n) (g j 0).toNat else zbx g m tq9 xs n j).length) tq9+zd1 (zbb g m tq9 xs n ++ (if 0 < zh3 g m tq9 xs n then [(n,zh3 g m tq9 xs n)] else []))=sumQ (fun i=>(xs i).length) n+(xs n).length;have hd:zd1 (if 0 < zh3 g m tq9 xs n then [(n,zh3 g m tq9 xs n)] else [])=zh3 g m tq9 xs n:=by
   split
   ·simp [zd1]
   ·simp [zd1];omega
  rw [zhs,hd,←ih]
  cases hb:bec m tq9 n with
  |none=>
   have ho:zh3 g m tq9 xs n=(xs n).length:=by unfold zh3;rw [hb]
   rw [ho,zec (g:=fun j=>(zbx g m tq9 xs n j).length) fun i _=>by simp];omega
  |some j=>
   have ho:zh3 g m tq9 xs n=(xs n).length - (g j 0).toNat:=by unfold zh3;rw [hb]
   have hf:zbx g m tq9 xs n j=[]:=zq9 fun i hi e=>h ⟨n,i,j,hi,by omega,hb,e⟩;rw [ho,zec (g:=fun i=>if i=j then (zd6 (xs n) (g j 0).toNat).length else (zbx g m tq9 xs n i).length) fun i _=>by
    by_cases hi:i=j
    ·subst hi;simp
    ·have:¬ (some j=some i):=fun e=>hi (by cases e;rfl)
     rw [if_neg this,if_neg hi],zug (zBk hb) (by rw [hf];rfl),zka]
   omega
end Go.Proofs.YtpbmmoneeoijaaaGreatDoor
namespace Go.Proofs.YtpbmmoneeoijaaaGreatDoor
open Go.RowKit Go.Deep Go.Shelf
set_option maxRecDepth 100000
structure QuS where
 n:Nat
 P:Nat→Nat
 q:Nat→QSt
structure QuOk (u:QuS):Prop where
 n4:u.n≤4
 q:∀ i,i < u.n→(1≤(u.q i).cap∧(u.q i).cap≤16)∧(u.q i).pol=1∧(u.q i).xs.length≤(u.q i).cap
def QuAt (base:Nat) (u:QuS) (X:World) (qv:Value):Prop:=X.ownsRow base 160 1 qv u.n (ptrs u.P u.n)∧Qs X base u.n u.P u.q
def drpE (x:EvR):Int:=if x.k=10 then x.b else 0
def drp (l:List EvR):Int:=(l.map drpE).sum
theorem zhe (l m:List EvR):drp (l ++ m)=drp l+drp m:=by simp [drp]
theorem ztr (x:EvR):drp [x]=drpE x:=by simp [drp]
def QuS.tot (u:QuS):Nat:=sumQ (fun i=>(u.q i).xs.length) u.n
structure zbp where
 s:EngS
 r:Dl.TL
 u:QuS
 evs:List EvR
def zbp.tot (z:zbp):Int:=(z.u.tot:Int)+drp z.evs
structure zuc (c:za3):Prop where
 en:c.d.y.en=c.x.en
 to_:∀ i,i < c.x.en→0≤c.h i 1∧c.h i 1 < c.x.mn
 wf:∀ i j,(Lit.int .i64 (c.h i j)).wf=true
 qs:∀ m,m < c.x.mn→zvw (c.R m).qn (c.q m)∧∀ i,i < (c.R m).qn→c.q m i 1=1
structure CoreB (c:za3) (X:World) (s:EngS) (r:Dl.TL):Prop where
 sch:zb8 X c.d.base c.sb
 eng:c.d.at_ X s r
 own:zg6 X c.x c.R c.g c.q c.h
structure zba (c:za3) (X:World) (z:zbp):Prop where
 core:∃ (qv ev lv:Value) (ac:Nat),zbc c X qv (.int .u32 (ac:Nat)) lv ev∧QuAt c.d.base z.u X qv∧X.ownsRow c.d.base 152 4 ev z.evs.length (evL z.evs)
 b:CoreB c X z.s z.r
 eok:zib c.d.y z.s z.r
 uok:QuOk z.u
theorem zbg.at_.low {d:zbg} {X:World} {s:EngS} {r:Dl.TL} (h:d.at_ X s r):d.base≤X.heap.size:=by have:=h.eng.lo;have:=h.eng.lt;omega
theorem CoreB.keep {M:TypeId→Prop} {c:za3} {W W':World} {s:EngS} {r:Dl.TL} (h:CoreB c W s r) (m1:zpu M) (m2:¬ M 249) (m3:¬ M 259) (m4:¬ M 343) (k:FT M c.d.base W W'):CoreB c W' s r:=
 ⟨h.sch.keep k m2,⟨h.eng.eng.keep k m3 m4,h.eng.env.keep m1 k,h.eng.tab.below (k.below h.eng.low) h.eng.pos,h.eng.pos⟩,h.own.keep m1 k⟩
theorem QuAt.keep {M:TypeId→Prop} {base:Nat} {u:QuS} {W W':World} {qv:Value} (h:QuAt base u W qv) (m1:¬ M 160) (m2:¬ M 266) (m3:¬ M 3) (k:FT M base W W'):QuAt base u W' qv:=
 ⟨FT.own k h.1 m1,h.2.keep k fun j cur t hj hc=>by
  obtain⟨_,cur',t',hc',ht⟩:=hj;rw [hc] at hc'
  cases hc'
  exact⟨fun e=>m2 (e▸ht),fun e=>m3 (e▸ht)⟩⟩
theorem zba.low {c:za3} {X:World} {z:zbp} (h:zba c X z):c.d.base≤X.heap.size:=h.b.eng.low
theorem still_ev:zpu EvT:=⟨by unfold EvT;decide,by unfold EvT;decide,by unfold EvT;decide,by unfold EvT;decide,by unfold EvT;decide⟩
theorem tellI (c:za3) (z:zbp) (kd a b:Int) (w:World) (h:zba c w z) (hl:z.evs.length≤100000000):
  Calls Tryz.prog 64 #[.pointer (some ⟨c.cb,0,none⟩),.int .i64 kd,.int .i64 a,.int .i64 b] w fun e w'=>(∃ v,e=.returned v)∧∃ n:Int,zba c w' { z with evs:=z.evs ++ [⟨n,kd,a,b⟩] }∧FT EvT c.d.base w w':=by
 obtain⟨qv,ev,lv,ac,h1,h2,h3⟩:=h.core;refine (tell_any c z.evs qv _ lv ev kd a b w h.low h1 h.b.sch h3 hl).mono ?_;rintro e w' ⟨he,n,ev',k1,k2,k3⟩;exact⟨he,n,⟨⟨qv,ev',lv,ac,k1,h2.keep (by unfold EvT;decide) (by unfold EvT;decide) (by unfold EvT;decide) k3,k2⟩,h.b.keep still_ev (by unfold EvT;decide) (by unfold EvT;decide) (by unfold EvT;decide) k3,h.eok,h.uok⟩,k3⟩
theorem zba.below {c:za3} {W W':World} {z:zbp} (h:zba c W z) (k:Below W.heap.size W W'):zba c W' z:=by
 obtain⟨qv,ev,lv,ac,h1,h2,h3⟩:=h.core;have f:FT (fun _=>False) c.d.base W W':=FT.of_below k;exact⟨⟨qv,ev,lv,ac,h1.below k,h2.keep id id id f,FT.own f h3 id⟩,h.b.keep zb6 id id id f,h.eok,h.uok⟩
theorem zra (g:Nat→Nat→Int) (m:Nat→Int) (tn:Nat) (xs:Nat→List Int):∀ (n j:Nat),(zbx g m tn xs n j).length≤(g j 0).toNat
 |0,_=>by simp [zbx]
 |n+1,j=>by
  show (if bec m tn n=some j then zd6 (xs n) (g j 0).toNat else zbx g m tn xs n j).length≤_
  split
  ·rw [zka];omega
  ·exact zra g m tn xs n j
theorem zvh (g:Nat→Nat→Int) (m:Nat→Int) (tn:Nat) (xs:Nat→List Int):∀ n:Nat,(zbb g m tn xs n).length≤n
 |0=>by simp [zbb]
 |n+1=>by
  show (zbb g m tn xs n ++ _).length≤_;have:=zvh g m tn xs n;rw [List.length_append]
  split<;>simp<;>omega
theorem zn6 {L:List (Nat×Nat)} {j:Nat} (h:j < L.length):(zgx L)[j * 2]? =some (.int .i64 (L[j].1:Int))∧(zgx L)[j * 2+1]? =some (.int .i64 (L[j].2:Int)):=by
 induction L generalizing j with
 |nil=>simp at h
 |cons x L ih=>
  cases j with
  |zero=>exact⟨rfl,rfl⟩
  |succ j=>
   have h2:j < L.length:=by simpa using h
   have:=ih h2;rw [show (j+1) * 2=j * 2+2 by omega,show j * 2+2+1=j * 2+1+2 by omega];exact this
theorem zg8:zpu CbT:=⟨by unfold CbT;decide,by unfold CbT;decide,by unfold CbT;decide,by unfold CbT;decide,by unfold CbT;decide⟩
theorem zj3 {w:World} {ao:Option Addr} {n:Nat} {g:Nat→Nat→Int} (h:zbj w ao n 2 g):Sets w ao n g:=fun i hi=>by
 obtain⟨b,o,e,hc⟩:=h i hi;exact⟨b,o,e,hc 0 (by decide),hc 1 (by decide)⟩
set_option maxHeartbeats 4000000 in
theorem zBa (c:za3) (hC:zuc c) (z:zbp) (i:Nat) (hi:i < c.x.en) (w:World) (h:zba c w z) (hl:z.evs.length≤90000000):
  Calls Tryz.prog 125 #[.pointer (some ⟨c.cb,0,none⟩),.int .i64 (i:Nat)] w fun e w'=>(∃ v,e=.returned v)∧∃ z',zba c w' z'∧z'.s=z.s∧z'.r=z.r∧z'.tot=z.tot∧z'.evs.length≤z.evs.length+4∧FT EvT c.d.base w w':=by
 obtain⟨qv,ev,lv,ac,hc,hq,he⟩:=h.core;have hto:=hC.to_ i hi;have hwf:=hC.wf i;obtain⟨m,hm⟩:∃ m:Nat,c.h i 1=m:=⟨(c.h i 1).toNat,by omega⟩;have hmn:m < c.x.mn:=by omega
 obtain⟨hR,hpol⟩:=hC.qs m hmn;obtain⟨eb,eo,hee,hce⟩:=h.b.own.edges i hi;obtain⟨qa,qc,rfl,_,HPR⟩:=zb9 hq.1;have hr1:=zf4 hce;have c5:=hc.c5;rw [hee] at c5;have i0':(0:Int)≤(i:Int):=by omega
 have i1':(i:Int) < (c.x.en:Int):=by omega
 go_enter Tryz.func125,Tryz.ntmps125
 go_upto_region 0 with fail
 refine wp_region_lit ?_
 iterate 7 (refine wpList_plain rfl fun K hK=>?_;go_simp;refine hK _ _ ?_;clear hK K)
 refine wpList_load_mid rfl 176 _ rfl eb (eo+i * 23) rfl (zc3 (c.h i)) _ hr1 Tryz.underlying176 rfl (zcd _) ?_;refine wpList_plain rfl fun K hK=>?_;go_simp;refine hK _ _ ?_;clear hK K;refine wpList_store_mid rfl 176 _ _ rfl w.heap.size 0 (zc3 (c.h i)).toArray rfl rfl (zfl w (c.h i)) (by simpa using zcd (c.h i)) (zi5 _) ?_;have hbx:=zkz w (c.h i);unfold zgw at hbx;obtain⟨W1,hW1⟩:∃ X,X=((w.alloc zgw).setCells w.heap.size 0 (zc3 (c.h i)).toArray.toList):=⟨_,rfl⟩;unfold zgw at hW1;rw [←hW1] at hbx;show Exit.then _ _ _ _ _
 rw [←hW1];clear hW1 hr1 c5;go_simp;rename_i KK hKK;refine hKK _ _ ?_;have bW:=hbx.below;have e1:=hbx.cell 1 (by decide);rw [hm] at e1;have e19:=hbx.cell 19 (by decide);have e20:=hbx.cell 20 (by decide);have e21:=hbx.cell 21 (by decide);have e22:=hbx.cell 22 (by decide);have hc1:=hc.below bW;have own1:=h.b.own.keep zb6 (FT.of_below (base:=0) bW);obtain⟨mb,mo,hme,_,kq⟩:=own1.modes m hmn;have c4:=hc1.c4;rw [hme] at c4;have q1:=Qs.below hq.2 bW;have HM:=hid fun X (hX:Below W1.heap.size W1 X)=>move_any qa (c.R m).qo z.u.n qc (c.R m).qn (c.R m).qc c.d.base (c.q m) (fun j=>c.h i (19+j)) z.u.P z.u.q X h.uok.n4 (fun j=>hwf _) (HPR.out.below (bW.trans (hX.mono bW.size))) (q1.below hX) (fun j hj=>by have:=((h.uok.q j hj).2).2;have:=(h.uok.q j hj).1;omega) (zj3 ((own1.queues m hmn).below hX)) hR
 go_upto_region 1 with fail
 refine zah [16,17,18,19,20,21,22,23] (fun X=>Below W1.heap.size W1 X) (by kernel_rfl) (by kernel_rfl) (⟨rfl,rfl,rfl,Nat.le_refl _,fun _ _=>rfl⟩:Below W1.heap.size W1 W1.drew) ?_;refine qFs fun K hK=>?_;go_simp;refine⟨_,fun _ _=>rfl,hK _ ?_⟩;clear hK K;refine qFs fun K hK=>?_;go_simp;refine⟨_,fun _ _=>rfl,hK _ ?_⟩;clear hK K;refine qFs fun K hK=>?_;go_simp;refine⟨_,fun _ _=>rfl,hK _ ?_⟩;clear hK K;refine qFs fun K hK=>?_;go_simp;refine⟨.slice qa z.u.n qc,fun X hX=>?_,hK _ ?_⟩
 ·have z0:=(hc1.below hX).c41
  go_simp
 clear hK K;refine qFs fun K hK=>?_;go_simp;refine⟨_,fun _ _=>rfl,hK _ ?_⟩;clear hK K;refine qFs fun K hK=>?_;go_simp;refine⟨_,fun _ _=>rfl,hK _ ?_⟩;clear hK K;refine qFs fun K hK=>?_;go_simp;refine⟨_,fun _ _=>rfl,hK _ ?_⟩;clear hK K;refine qFs fun K hK=>?_;go_simp;refine⟨_,fun _ _=>rfl,hK _ ?_⟩;clear hK K;refine qFs fun K hK=>?_;go_simp;refine⟨.slice (some ⟨mb,mo,none⟩) c.x.mn c.x.mc,fun X hX=>?_,hK _ ?_⟩
 ·have z0:=kept c4 hX
  go_simp
 clear hK K;refine qFs fun K hK=>?_;go_simp;refine⟨_,fun _ _=>rfl,hK _ ?_⟩;clear hK K;refine qFs fun K hK=>?_;go_simp;refine⟨.int .i64 (m:Nat),fun X hX=>?_,hK _ ?_⟩
 ·have z0:=kept e1 hX
  go_simp
 clear hK K;refine qFs fun K hK=>?_;go_simp;refine⟨.pointer (some ⟨mb,mo+m * 2,none⟩),fun X hX=>?_,hK _ ?_⟩
 ·go_simp
 clear hK K;refine qFs fun K hK=>?_;go_simp;refine⟨_,fun _ _=>rfl,hK _ ?_⟩;clear hK K;refine qFs fun K hK=>?_;go_simp;refine⟨.slice (c.R m).qo (c.R m).qn (c.R m).qc,fun X hX=>?_,hK _ ?_⟩
 ·have z0:=kept kq hX
  go_simp
 clear hK K;refine qFs fun K hK=>?_;go_simp;refine⟨_,fun _ _=>rfl,hK _ ?_⟩;clear hK K;refine qFs fun K hK=>?_;go_simp;refine⟨.agg #[.int .i64 (c.h i 19),.int .i64 (c.h i 20),.int .i64 (c.h i 21),.int .i64 (c.h i 22)],fun X hX=>?_,hK _ ?_⟩
 ·have z0:=kept e19 hX
  have z1:=kept e20 hX;have z2:=kept e21 hX;have z3:=kept e22 hX;go_simp
 clear hK K;refine qFc ?_;refine qFc ?_;refine qFc ?_;refine qFc ?_;refine qFc ?_;refine qFc ?_;refine qFc ?_;refine qFc ?_;refine zau ?_;have B0:Below W1.heap.size W1 W1.drew:=⟨rfl,rfl,rfl,Nat.le_refl _,fun _ _=>rfl⟩;refine qT1 16 [17,18,19,20,21,22,23] fun K hK=>?_;dsimp only [List.getElem_toArray,List.getElem_cons_succ,List.getElem_cons_zero]
 go_wp2_with fail
 refine (HM.out _ B0).mono ?_;rintro e W5 (⟨hdup,e5,b5⟩|⟨hnd,P',v',u',q',rfl,hv',hq',hqj,hu',b5⟩)
 ·obtain rfl:e=.returned (.tuple #[.slice none 0 0,.slice none 0 0,.int .i64 104]):=e5
  have b6:=B0.trans (b5.mono B0.size)
  go_wp2_with fail
  refine hK _ _ b6 ?_;clear hK K;refine qT1 17 [18,19,20,21,22,23] fun K hK=>?_;dsimp only [List.getElem_toArray,List.getElem_cons_succ,List.getElem_cons_zero]
  go_wp2_with fail
  refine hK _ _ b6 ?_;clear hK K;refine zaf (m:=5) (i:=18) (rem1:=[19,20,21,22,23]) rfl (by kernel_rfl) (by rfl) (by rfl) b6 (by rfl) (fun K hK=>?_);go_simp;refine⟨_,fun _ _=>rfl,hK _ ?_⟩;clear hK K;refine zaf (m:=4) (i:=19) (rem1:=[20,21,22,23]) rfl (by kernel_rfl) (by rfl) (by rfl) b6 (by rfl) (fun K hK=>?_);go_simp;refine⟨_,fun _ _=>rfl,hK _ ?_⟩;clear hK K;refine zaf (m:=3) (i:=20) (rem1:=[21,22,23]) rfl (by kernel_rfl) (by rfl) (by rfl) b6 (by rfl) (fun K hK=>?_);go_simp;refine⟨_,fun _ _=>rfl,hK _ ?_⟩;clear hK K;refine qT1 21 [22,23] fun K hK=>?_;dsimp only [List.getElem_toArray,List.getElem_cons_succ,List.getElem_cons_zero]
  go_wp2_with fail
  refine hK _ _ b6 ?_;clear hK K;refine qT1 22 [23] fun K hK=>?_;dsimp only [List.getElem_toArray,List.getElem_cons_succ,List.getElem_cons_zero]
  go_wp2_with fail
  refine hK _ _ b6 ?_;clear hK K;refine qT1 23 [] fun K hK=>?_;dsimp only [List.getElem_toArray,List.getElem_cons_succ,List.getElem_cons_zero]
  go_wp2_with fail
  refine hK _ _ b6 ?_;clear hK K;refine zan ?_;go_wp2;refine bodyPost_ret (results_none rfl _ _ _) rfl ?_;have bz:=bW.trans (b6.mono bW.size);exact⟨⟨_,rfl⟩,z,h.below bz,rfl,rfl,rfl,by omega,FT.of_below bz⟩
 ·have b6:=B0.trans (b5.mono B0.size)
  obtain⟨va,vc,rfl,_,HPR5⟩:=zb9 hv';obtain⟨ua,uc,rfl,_,_⟩:=zar hu';have HU:=hid hu'
  go_wp2_with fail
  refine hK _ _ b6 ?_;clear hK K;refine qT1 17 [18,19,20,21,22,23] fun K hK=>?_;dsimp only [List.getElem_toArray,List.getElem_cons_succ,List.getElem_cons_zero]
  go_wp2_with fail
  refine hK _ _ b6 ?_;clear hK K;refine zaf (m:=5) (i:=18) (rem1:=[19,20,21,22,23]) rfl (by kernel_rfl) (by rfl) (by rfl) b6 (by rfl) (fun K hK=>?_);go_simp;refine⟨_,fun _ _=>rfl,hK _ ?_⟩;clear hK K;refine zaf (m:=4) (i:=19) (rem1:=[20,21,22,23]) rfl (by kernel_rfl) (by rfl) (by rfl) b6 (by rfl) (fun K hK=>?_);go_simp;refine⟨_,fun _ _=>rfl,hK _ ?_⟩;clear hK K;refine zaf (m:=3) (i:=20) (rem1:=[21,22,23]) rfl (by kernel_rfl) (by rfl) (by rfl) b6 (by rfl) (fun K hK=>?_);go_simp;refine⟨_,fun _ _=>rfl,hK _ ?_⟩;clear hK K;refine qT1 21 [22,23] fun K hK=>?_;dsimp only [List.getElem_toArray,List.getElem_cons_succ,List.getElem_cons_zero]
  go_wp2_with fail
  refine hK _ _ b6 ?_;clear hK K;refine qT1 22 [23] fun K hK=>?_;dsimp only [List.getElem_toArray,List.getElem_cons_succ,List.getElem_cons_zero]
  go_wp2_with fail
  refine hK _ _ b6 ?_;clear hK K;refine qT1 23 [] fun K hK=>?_;dsimp only [List.getElem_toArray,List.getElem_cons_succ,List.getElem_cons_zero]
  go_wp2_with fail
  refine hK _ _ b6 ?_;clear hK K;refine zan ?_;have bz:=bW.trans (b6.mono bW.size);have hz5:=h.below bz;have hc5:=hc.below bz;have c41:=hc5.c41;have f41:=hc5.fz 41;have hbs:c.d.base≤W1.drew.heap.size:=Nat.le_trans h.low bW.size;have hqa:QuAt c.d.base ⟨(c.R m).qn,P',q'⟩ W5 (.slice va (c.R m).qn vc):=⟨zkt hv' hbs,Qs.base hq' hbs⟩;have hqo:QuOk ⟨(c.R m).qn,P',q'⟩:=⟨hR.1,fun j hj=>by
   obtain⟨a1,a2,a3⟩:=hqj j hj;obtain⟨b1,b2⟩:=zgk.1 (hR.2 j hj);refine⟨by dsimp only;rw [a1];omega,a2.trans (hpol j hj),?_⟩;dsimp only;rw [a1,a3];exact zra _ _ _ _ _ _⟩
  have htot:=zuy (c.q m) (fun j=>c.h i (19+j)) (c.R m).qn (fun i=>(z.u.q i).xs) (n:=z.u.n) hnd;have htq:QuS.tot ⟨(c.R m).qn,P',q'⟩=sumQ (fun j=>(zbx (c.q m) (fun j=>c.h i (19+j)) (c.R m).qn (fun i=>(z.u.q i).xs) z.u.n j).length) (c.R m).qn:=zec fun j hj=>by show (q' j).xs.length=_;rw [(hqj j hj).2.2]
  have hLn:=Nat.le_trans (zvh (c.q m) (fun j=>c.h i (19+j)) (c.R m).qn (fun i=>(z.u.q i).xs) z.u.n) h.uok.n4;have HTOT:=hid (show (QuS.tot ⟨(c.R m).qn,P',q'⟩:Int)+(zd1 (zbb (c.q m) (fun j=>c.h i (19+j)) (c.R m).qn (fun i=>(z.u.q i).xs) z.u.n):Nat)=(z.u.tot:Nat) by rw [htq];unfold QuS.tot;rw [←htot];push_cast;rfl);obtain⟨L,hL⟩:∃ L,zbb (c.q m) (fun j=>c.h i (19+j)) (c.R m).qn (fun i=>(z.u.q i).xs) z.u.n=L:=⟨_,rfl⟩;rw [hL] at HU HTOT hLn ⊢;clear hu' hL htot htq hqj HM hnd c4
  go_upto_region 4 with fail
  have k6:=hc5.ft_set 41 (.slice va (c.R m).qn vc);have hc6:=hc5.set (j:=41) (v:=.slice va (c.R m).qn vc) (by omega) rfl rfl rfl rfl;have HU6:=hid (FT.own k6 HU.out (by unfold CbT;decide));have he6:=FT.own k6 (FT.own (M:=fun _=>False) (base:=0) (FT.of_below bz) he id) (by unfold CbT;decide);have hq6:=hqa.keep (by unfold CbT;decide) (by unfold CbT;decide) (by unfold CbT;decide) k6;have hb6:=hz5.b.keep zg8 (by unfold CbT;decide) (by unfold CbT;decide) (by unfold CbT;decide) k6;have HI6:=hid (show zba c (W5.setCell ⟨c.cb,41,none⟩ (.slice va (c.R m).qn vc)) { z with u:=⟨(c.R m).qn,P',q'⟩ } from ⟨⟨_,_,_,_,hc6,hq6,he6⟩,hb6,h.eok,hqo⟩);have F6:=hid (show FT EvT c.d.base w (W5.setCell ⟨c.cb,41,none⟩ (.slice va (c.R m).qn vc)) from (FT.of_below bz).trans (k6.mono fun _=>zrd));obtain⟨W6,hW6⟩:∃ X,X=W5.setCell ⟨c.cb,41,none⟩ (.slice va (c.R m).qn vc):=⟨_,rfl⟩;rw [←hW6] at HU6 HI6 F6 ⊢;obtain⟨U,hU⟩:∃ U:QuS,U=⟨(c.R m).qn,P',q'⟩:=⟨_,rfl⟩;rw [←hU] at HI6 HTOT;obtain⟨N,hN⟩:∃ N,L.length=N:=⟨_,rfl⟩;have HN0:=hid hN;rw [hN] at HU6 hLn ⊢;clear hW6 hU hc5 hz5 hc6 he6 hq6 hb6 k6 hqa hqo hq' hv' c41 f41 HPR5 HU hN b5 b6 B0 hbx bW e1 e19 e20 e21 e22 hc1 own1 kq q1;obtain⟨B,hB⟩:∃ B,W1.drew.heap.size=B:=⟨_,rfl⟩;rw [hB] at HU6;clear hB;go_wp2
  go_loopw [47] (fun i_ wr=>∃ (j:Nat) (E:List EvR),i_=.int .i64 j∧j≤N∧E.length=j∧Hid (drp E=(zd1 (L.take j):Nat))∧Hid (zba c wr { z with u:=U,evs:=z.evs ++ E })∧Hid (wr.ownsRow B 334 2 (.slice ua N uc) N (zgx L))∧Hid (FT EvT c.d.base w wr)) (fun i_ _=>N - (intOf i_).toNat)
  case atStart=>exact⟨0,[],rfl,Nat.zero_le _,rfl,rfl,hid (by simpa using HI6.out),HU6,F6⟩
  case round=>
   clear HI6 HU6 F6;obtain⟨j,E,rfl,hj,hE,HD,HI,HO,HF⟩:=hrel;by_cases hlt:j < N
   ·have t0:decide ((j:Int) < (N:Int))=true:=by simp;omega
    have j0:(0:Int)≤(j:Int):=by omega
    have j1:(j:Int) < (N:Int):=by omega
    have hjL:j < L.length:=by rw [HN0.out];exact hlt
    obtain⟨ao,cc,e1,_,h2⟩:=zar HO.out;cases e1;obtain⟨b,rfl,_,hcl,_⟩:=h2 (by omega);have d0:=(hcl (j * 2) (by omega)).trans (zn6 hjL).1;have d1:=(hcl (j * 2+1) (by omega)).trans (zn6 hjL).2;have HDr:=hid (List.take_succ_eq_append_getElem hjL);obtain⟨x0,hx0⟩:∃ x,L[j].1=x:=⟨_,rfl⟩;obtain⟨x1,hx1⟩:∃ x,L[j].2=x:=⟨_,rfl⟩;have HX1:=hid hx1;rw [hx0] at d0;rw [hx1] at d1;clear hx0 hx1 hcl h2;have bA:Below wr.heap.size wr (wr.alloc (Obj.cells #[.int .i64 (x0:Nat),.int .i64 (x1:Nat)] 334)):=(Below.refl _ _).alloc (Nat.le_refl _) _;have HT:=hid (tellI c _ 10 (x0:Nat) (x1:Nat) _ (HI.out.below bA) (by simp only [List.length_append,hE];omega));have HOA:=hid (FT.own (M:=fun _=>False) (base:=0) (FT.of_below bA) HO.out id);have HFA:=hid (HF.out.then_below bA);clear bA
    go_wp2_with (go_at_call 64;refine HT.out.mono ?_;rintro e w9 ⟨⟨v9,rfl⟩,n9,I9,F9⟩)
    go_roundw
    case rel=>
     refine⟨j+1,E ++ [⟨n9,10,x0,x1⟩],by go_num,by omega,by simp [hE],hid ?_,hid (by simpa using I9),FT.own F9 HOA.out (by unfold EvT;decide),HFA.out.trans F9⟩;rw [HDr.out,zhs,zhe,ztr,HD.out];simp [drpE,zd1,HX1.out]
    case measure=>simp [intOf];omega
   ·obtain rfl:j=N:=by omega
    have t0:decide ((j:Int) < (j:Int))=false:=by simp
    go_wp2
    go_end0
    refine⟨⟨_,rfl⟩,_,HI.out,rfl,rfl,?_,by simp [hE];omega,HF.out⟩;have:=HD.out;rw [List.take_of_length_le (by rw [HN0.out];exact Nat.le_refl _)] at this;show (U.tot:Int)+drp (z.evs ++ E)=z.u.tot+drp z.evs;rw [zhe,this];have:=HTOT.out;omega
theorem zz3 {l:List zko} {j k:Nat} (h:j < l.length) (hk:k < 6):(zfe l)[j * 6+k]? =(zoy l[j])[k]?:=by
 induction l generalizing j with
 |nil=>simp at h
 |cons x l ih=>
  show (zoy x ++ zfe l)[j * 6+k]? =_
  cases j with
  |zero=>rw [List.getElem?_append_left (by simp [zoy];omega),Nat.zero_mul,Nat.zero_add];rfl
  |succ j=>
   have h2:j < l.length:=by simpa using h
   rw [List.getElem?_append_right (by simp [zoy];omega)];have:=ih h2;rw [show (zoy x).length=6 from rfl,show (j+1) * 6+k - 6=j * 6+k by omega];exact this
theorem zof (z:zbp) (n kd a b:Int) (hk:kd≠10):zbp.tot { z with evs:=z.evs ++ [⟨n,kd,a,b⟩] } =z.tot:=by
 show (z.u.tot:Int)+drp (z.evs ++ [⟨n,kd,a,b⟩])=z.u.tot+drp z.evs;rw [zhe,ztr];simp [drpE,hk]
theorem zlq:¬ EvT 263:=by unfold EvT;decide
theorem zil:zpu TabT:=⟨by unfold TabT;decide,by unfold TabT;decide,by unfold TabT;decide,by unfold TabT;decide,by unfold TabT;decide⟩
theorem tabI (c:za3) (z:zbp) (w:World) (h:zba c w z):∀ u,CallsD Tryz.prog 108 #[.pointer (some ⟨c.cb,0,none⟩)] u w fun e u' w'=>u'=u∧(∃ v,e=.returned v)∧zba c w' z∧FT TabT c.d.base w w':=fun u=>by
 obtain⟨qv,ev,lv,ac,h1,h2,h3⟩:=h.core;refine ((zik c z.s z.r qv lv ev ac w h.eok h.b.eng h1 h.b.sch h.b.own).2 u).mono ?_;rintro e u' w' ⟨hu,he,⟨ac',k1⟩,k2,k⟩;refine⟨hu,he,⟨⟨qv,ev,lv,ac',k1,h2.keep (by unfold TabT;decide) (by unfold TabT;decide) (by unfold TabT;decide) k,FT.own k h3 (by unfold TabT;decide)⟩,⟨k2,?_,h.b.own.keep zil k⟩,h.eok,h.uok⟩,k⟩;exact⟨h.b.eng.eng.keep k (by unfold TabT;decide) (by unfold TabT;decide),h.b.eng.env.keep zil k,h.b.eng.tab.below (k.below h.low) h.b.eng.pos,h.b.eng.pos⟩
def HeT (t:TypeId):Prop:=EvT t∨TabT t
theorem heT_ev {t:TypeId} (h:EvT t):HeT t:=.inl h
theorem heT_tab {t:TypeId} (h:TabT t):HeT t:=.inr h
set_option maxHeartbeats 4000000 in
theorem zva (c:za3) (hC:zuc c) (z:zbp) (B:Nat) (v:Value) (l:List zko) (w:World) (h:zba c w z) (ho:w.ownsRow B 263 6 v l.length (zfe l)) (hn:zrz c.d.y.en l) (hl:z.evs.length+5 * l.length≤80000000):
  Calls Tryz.prog 61 #[.pointer (some ⟨c.cb,0,none⟩),v] w fun e w'=>(∃ v,e=.returned v)∧∃ z',zba c w' z'∧z'.s=z.s∧z'.r=z.r∧z'.tot=z.tot∧z'.evs.length≤z.evs.length+5 * l.length∧FT HeT c.d.base w w':=by
 have hlow:=h.low;obtain⟨ua,uc,rfl,_,_⟩:=zar ho;obtain⟨N,hN⟩:∃ N,l.length=N:=⟨_,rfl⟩;have HN0:=hid hN;rw [hN] at ho hl ⊢;clear hN;have HO:=hid ho;have HI0:=hid h;clear ho h
 go_enter_defers Tryz.func61,Tryz.ntmps61
 go_wp2
 go_loopw [9] (fun i_ wr=>∃ (j:Nat) (y:zbp),i_=.int .i64 j∧j≤N∧(y.s=z.s∧y.r=z.r∧y.tot=z.tot)∧y.evs.length≤z.evs.length+5 * j∧Hid (zba c wr y)∧Hid (wr.ownsRow B 263 6 (.slice ua N uc) N (zfe l))∧Hid (FT EvT c.d.base w wr)) (fun i_ _=>N - (intOf i_).toNat)
 case atStart=>exact⟨0,z,rfl,Nat.zero_le _,⟨rfl,rfl,rfl⟩,by omega,HI0,HO,FT.refl _ _ _⟩
 case round=>
  clear HI0 HO;obtain⟨j,y,rfl,hj,hy,hyl,HI,HO,HF⟩:=hrel;by_cases hlt:j < N
  ·have t0:decide ((j:Int) < (N:Int))=true:=by simp;omega
   have j0:(0:Int)≤(j:Int):=by omega
   have j1:(j:Int) < (N:Int):=by omega
   have hjL:j < l.length:=by rw [HN0.out];exact hlt
   obtain⟨ao,cc,e1,_,h2⟩:=zar HO.out;cases e1;obtain⟨b,rfl,_,hcl,_⟩:=h2 (by omega);have hnx:=hn l[j] (List.getElem_mem hjL);have key:∀ k,k < 6→wr.cell? ⟨b,j * 6+k,none⟩=(zoy l[j])[k]?:=fun k hk=>(hcl (j * 6+k) (by omega)).trans (zz3 hjL hk);obtain⟨x,hx⟩:∃ x,l[j]=x:=⟨_,rfl⟩;rw [hx] at hnx key;obtain⟨bg,cm,ov,ed,mo,ti⟩:=x;have d0:wr.cell? ⟨b,j * 6,none⟩=some (.bool bg):=key 0 (by decide);have d1:wr.cell? ⟨b,j * 6+1,none⟩=some (.bool cm):=key 1 (by decide);have d2:wr.cell? ⟨b,j * 6+2,none⟩=some (.bool ov):=key 2 (by decide);have d3:wr.cell? ⟨b,j * 6+3,none⟩=some (.int .i64 ed):=key 3 (by decide);have d4:wr.cell? ⟨b,j * 6+4,none⟩=some (.int .i64 mo):=key 4 (by decide);have d5:wr.cell? ⟨b,j * 6+5,none⟩=some (.int .i64 ti):=key 5 (by decide);clear hx key hcl h2;have bA:Below wr.heap.size wr (wr.alloc (Obj.cells #[.bool bg,.bool cm,.bool ov,.int .i64 ed,.int .i64 mo,.int .i64 ti] 263)):=(Below.refl _ _).alloc (Nat.le_refl _) _;have HT:=hid fun kd a b=>tellI c y kd a b _ (HI.out.below bA) (by omega);have HIA:=hid (HI.out.below bA);have HOA:=hid (FT.own (M:=fun _=>False) (base:=0) (FT.of_below bA) HO.out id);have HFA:=hid (HF.out.then_below bA);have BX:=hid (heap_alloc_new wr (Obj.cells #[.bool bg,.bool cm,.bool ov,.int .i64 ed,.int .i64 mo,.int .i64 ti] 263));clear bA
   cases bg with
   |true=>
    go_wp2_with (go_at_call 64;refine (HT.out _ _ _).mono ?_;rintro e w9 ⟨⟨v9,rfl⟩,n9,I9,F9⟩)
    go_roundw
    case rel=>exact⟨j+1,{ y with evs:=y.evs ++ [⟨n9,7,mo,ed⟩] },by go_num,by omega,⟨hy.1,hy.2.1,(zof y n9 7 mo ed (by decide)).trans hy.2.2⟩,by simp;omega,I9,FT.own F9 HOA.out zlq,HFA.out.trans F9⟩
    case measure=>simp [intOf];omega
   |false=>
    cases cm with
    |true=>
     obtain⟨hx0,hx1⟩:=hnx rfl;obtain⟨i,rfl⟩:∃ i:Nat,ed=i:=⟨ed.toNat,by dsimp only at hx0;omega⟩;have hi:i < c.x.en:=by rw [←hC.en];dsimp only at hx1;omega
     go_wp2_with (first|(go_at_call 64;refine (HT.out _ _ _).mono ?_;rintro e w9 ⟨⟨v9,rfl⟩,n9,I9,F9⟩;have g3:=zaa (F9.blk BX.out zlq) 3)|(go_at_call 125;refine (zBa c hC _ i hi _ I9 (by simp;omega)).mono ?_;rintro e w8 ⟨⟨v8,rfl⟩,y8,I8,s8,r8,t8,l8,F8⟩))
     go_roundw
     case rel=>exact⟨j+1,y8,by go_num,by omega,⟨s8.trans hy.1,r8.trans hy.2.1,(t8.trans (zof y n9 8 mo ti (by decide))).trans hy.2.2⟩,by simp at l8;omega,I8,FT.own F8 (FT.own F9 HOA.out zlq) zlq,(HFA.out.trans F9).trans F8⟩
     case measure=>simp [intOf];omega
    |false=>
     cases ov with
     |true=>
      go_wp2_with (go_at_call 64;refine (HT.out _ _ _).mono ?_;rintro e w9 ⟨⟨v9,rfl⟩,n9,I9,F9⟩)
      go_roundw
      case rel=>exact⟨j+1,{ y with evs:=y.evs ++ [⟨n9,9,mo,0⟩] },by go_num,by omega,⟨hy.1,hy.2.1,(zof y n9 9 mo 0 (by decide)).trans hy.2.2⟩,by simp;omega,I9,FT.own F9 HOA.out zlq,HFA.out.trans F9⟩
      case measure=>simp [intOf];omega
     |false=>
      go_wp2;go_roundw
      case rel=>exact⟨j+1,y,by go_num,by omega,hy,by omega,HIA,HOA,HFA⟩
      case measure=>simp [intOf];omega
  ·obtain rfl:j=N:=by omega
   have t0:decide ((j:Int) < (j:Int))=false:=by simp
   go_wp2;refine leaves_cons (f:=108) (args:=#[.pointer (some ⟨c.cb,0,none⟩)]) (by simp) (by simp [go_sem]) ?_;refine (tabI c y wr HI.out .returning).mono ?_;rintro e u' w'' ⟨rfl,⟨v9,rfl⟩,I9,F9⟩;exact⟨_,results_none rfl _ _ _,⟨_,rfl⟩,y,I9,hy.1,hy.2.1,hy.2.2,hyl,(HF.out.mono fun _=>heT_ev).trans (F9.mono fun _=>heT_tab)⟩
theorem ztv:¬ Dl.TmT 148:=by unfold Dl.TmT;decide
theorem zba.eng {c:za3} {W W':World} {z:zbp} {s:EngS} {r:Dl.TL} (h:zba c W z) (hd:c.d.at_ W' s r) (hk:zib c.d.y s r) (k:FT Dl.TmT c.d.base W W'):zba c W' { z with s:=s,r:=r }:=by
 obtain⟨qv,ev,lv,ac,h1,h2,h3⟩:=h.core;exact⟨⟨qv,ev,lv,ac,h1.keep k ztv,h2.keep (by unfold Dl.TmT;decide) (by unfold Dl.TmT;decide) (by unfold Dl.TmT;decide) k,FT.own k h3 (by unfold Dl.TmT;decide)⟩,⟨h.b.sch.keep k (by unfold Dl.TmT;decide),hd,h.b.own.keep zbd k⟩,hk,h.uok⟩
def CoreP (c:za3) (z:zbp) (k:Nat) (w w':World):Prop:=∃ z',zba c w' z'∧z'.tot=z.tot∧z'.evs.length≤z.evs.length+k∧Below c.d.base w w'
set_option maxHeartbeats 4000000 in
theorem cask_any (c:za3) (hC:zuc c) (z:zbp) (m:Int) (w:World) (h:zba c w z) (hl:z.evs.length≤70000000):
  Calls Tryz.prog 20 #[.pointer (some ⟨c.cb,0,none⟩),.int .i64 m] w fun e w'=>(∃ v,e=.returned v)∧CoreP c z 15 w w':=by
 obtain⟨qv,ev,lv,ac,hc,_,_⟩:=h.core;have B0:Below w.heap.size w w.drew:=⟨rfl,rfl,rfl,Nat.le_refl _,fun _ _=>rfl⟩;have h0:=h.below B0;have hc0:=hc.below B0;have HLI:=hid (zu3 c.d.base c.sb w.drew h0.b.sch);have HAS:=hid (ask_any c.d z.s z.r m w.drew h0.eok h0.b.eng);go_enter Tryz.func20,Tryz.ntmps20
 go_upto_region 1 with fail
 refine zah [9,10,11,12,13,14,15] (fun X=>zbc c X qv (.int .u32 (ac:Nat)) lv ev) (by kernel_rfl) (by kernel_rfl) (hc.eq rfl:zbc c w.drew qv (.int .u32 (ac:Nat)) lv ev) ?_;refine qFs fun K hK=>?_;go_simp;refine⟨_,fun _ _=>rfl,hK _ ?_⟩;clear hK K;refine qFs fun K hK=>?_;go_simp;refine⟨_,fun _ _=>rfl,hK _ ?_⟩;clear hK K;refine qFs fun K hK=>?_;go_simp;refine⟨_,fun _ _=>rfl,hK _ ?_⟩;clear hK K;refine qFs fun K hK=>?_;go_simp;refine⟨.pointer (some ⟨c.d.eb,0,none⟩),fun X hX=>?_,hK _ ?_⟩
 ·have z0:=zbc.c40 hX
  go_simp
 clear hK K;refine qFs fun K hK=>?_;go_simp;refine⟨_,fun _ _=>rfl,hK _ ?_⟩;clear hK K;refine qFs fun K hK=>?_;go_simp;refine⟨_,fun _ _=>rfl,hK _ ?_⟩;clear hK K;refine qFs fun K hK=>?_;go_simp;refine⟨_,fun _ _=>rfl,hK _ ?_⟩;clear hK K;refine qFs fun K hK=>?_;go_simp;refine⟨_,fun _ _=>rfl,hK _ ?_⟩;clear hK K;refine qFs fun K hK=>?_;go_simp;refine⟨.pointer (some ⟨c.sb,0,none⟩),fun X hX=>?_,hK _ ?_⟩
 ·have z0:=zbc.c0 hX
  go_simp
 clear hK K;refine qFc ?_;refine qFc ?_;refine qFc ?_;refine qFc ?_;refine qFc ?_;refine qFc ?_;refine qFc ?_;refine zau ?_;refine qT1 9 [10,11,12,13,14,15] fun K hK=>?_;dsimp only [List.getElem_toArray,List.getElem_cons_succ,List.getElem_cons_zero]
 go_wp2_with fail
 refine HLI.out.mono ?_;rintro e W2 ⟨rfl,rfl⟩
 go_wp2_with fail
 refine hK _ _ hc0 ?_;clear hK K;refine qT1 10 [11,12,13,14,15] fun K hK=>?_;dsimp only [List.getElem_toArray,List.getElem_cons_succ,List.getElem_cons_zero]
 go_wp2_with fail
 refine HAS.out.mono ?_;rintro e W3 ⟨v3,code,s3,r3,rfl,⟨l3,o3,n3,b3⟩,d3,k3,F3⟩;have hc3:=hc0.keep F3 ztv;obtain⟨ia,ic,rfl,_,_⟩:=zar o3;have O3:=hid o3
 go_wp2_with fail
 refine hK _ _ hc3 ?_;clear hK K;refine qT1 11 [12,13,14,15] fun K hK=>?_;dsimp only [List.getElem_toArray,List.getElem_cons_succ,List.getElem_cons_zero]
 go_wp2_with fail
 refine hK _ _ hc3 ?_;clear hK K;refine zaf (m:=3) (i:=12) (rem1:=[13,14,15]) rfl (by kernel_rfl) (by rfl) (by rfl) hc3 (by rfl) (fun K hK=>?_);go_simp;refine⟨_,fun _ _=>rfl,hK _ ?_⟩;clear hK K;refine zaf (m:=2) (i:=13) (rem1:=[14,15]) rfl (by kernel_rfl) (by rfl) (by rfl) hc3 (by rfl) (fun K hK=>?_);go_simp;refine⟨_,fun _ _=>rfl,hK _ ?_⟩;clear hK K;refine qT1 14 [15] fun K hK=>?_;dsimp only [List.getElem_toArray,List.getElem_cons_succ,List.getElem_cons_zero]
 go_wp2_with fail
 refine hK _ _ hc3 ?_;clear hK K;refine qT1 15 [] fun K hK=>?_;dsimp only [List.getElem_toArray,List.getElem_cons_succ,List.getElem_cons_zero]
 go_wp2_with fail
 refine hK _ _ hc3 ?_;clear hK K;refine zan ?_;have I3:=h0.eng d3 k3 F3;have HHE:=hid (zva c hC _ _ _ l3 W3 I3 O3.out n3 (by show z.evs.length+5 * l3.length≤80000000;omega))
 go_wp2_with (go_at_call 61;refine HHE.out.mono ?_;rintro e W4 ⟨⟨v4,rfl⟩,z4,I4,_,_,t4,l4,F4⟩)
 go_ret;exact⟨⟨_,rfl⟩,z4,I4,t4,by have:z4.evs.length≤z.evs.length+5 * l3.length:=l4;omega,((FT.of_below B0).trans F3).below h.low |>.trans (F4.below I3.low)⟩
theorem zqa:zpu SchT:=⟨by unfold SchT;decide,by unfold SchT;decide,by unfold SchT;decide,by unfold SchT;decide,by unfold SchT;decide⟩
theorem zba.sch {c:za3} {W W':World} {z:zbp} (h:zba c W z) (hs:zb8 W' c.d.base c.sb) (k:FT SchT c.d.base W W'):zba c W' z:=by
 obtain⟨qv,ev,lv,ac,h1,h2,h3⟩:=h.core;refine⟨⟨qv,ev,lv,ac,h1.keep k (by unfold SchT;decide),h2.keep (by unfold SchT;decide) (by unfold SchT;decide) (by unfold SchT;decide) k,FT.own k h3 (by unfold SchT;decide)⟩,⟨hs,?_,h.b.own.keep zqa k⟩,h.eok,h.uok⟩;exact⟨h.b.eng.eng.keep k (by unfold SchT;decide) (by unfold SchT;decide),h.b.eng.env.keep zqa k,h.b.eng.tab.below (k.below h.low) h.b.eng.pos,h.b.eng.pos⟩
theorem ran_he:¬ HeT 81:=by unfold HeT EvT TabT;decide
theorem ran_tm:¬ Dl.TmT 81:=by unfold Dl.TmT;decide
theorem ran_sch:¬ SchT 81:=by unfold SchT;decide
theorem zba.ran {c:za3} {W W':World} {z:zbp} (h:zba c W z) (k:FT (fun t=>t=81) c.d.base W W'):zba c W' z:=by
 obtain⟨qv,ev,lv,ac,h1,h2,h3⟩:=h.core;exact⟨⟨qv,ev,lv,ac,h1.keep k (by decide),h2.keep (by decide) (by decide) (by decide) k,FT.own k h3 (by decide)⟩,h.b.keep ⟨by decide,by decide,by decide,by decide,by decide⟩ (by decide) (by decide) (by decide) k,h.eok,h.uok⟩
theorem core40 {c:za3} {X:World} (h:∃ qv av lv ev,zbc c X qv av lv ev):X.cell? ⟨c.cb,40,none⟩=some (.pointer (some ⟨c.d.eb,0,none⟩)):=by
 obtain⟨_,_,_,_,h⟩:=h;exact h.c40
theorem core00 {c:za3} {X:World} (h:∃ qv av lv ev,zbc c X qv av lv ev):X.cell? ⟨c.cb,0,none⟩=some (.pointer (some ⟨c.sb,0,none⟩)):=by
 obtain⟨_,_,_,_,h⟩:=h;exact h.c0
def CoT (t:TypeId):Prop:=HeT t∨Dl.TmT t∨SchT t∨t=81
set_option maxHeartbeats 4000000 in
theorem zA6 (c:za3) (hC:zuc c) (z:zbp) (w:World) (h:zba c w z) (hl:z.evs.length≤70000000):
  Calls Tryz.prog 23 #[.pointer (some ⟨c.cb,0,none⟩)] w fun e w'=>(∃ v,e=.returned v)∧CoreP c z 2000 w w'∧FT CoT c.d.base w w':=by
 have bA:Below w.heap.size w (w.alloc (Obj.cells #[.int .i64 0,.int .i64 0,.int .i64 0,.bool false,.int .i64 0,.bool false] 81)):=(Below.refl _ _).alloc (Nat.le_refl _) _;have bX:=heap_alloc_new w (Obj.cells #[.int .i64 0,.int .i64 0,.int .i64 0,.bool false,.int .i64 0,.bool false] 81);have HIA:=hid (h.below bA);obtain⟨qv,ev,lv,ac,hcA,_,_⟩:=HIA.out.core;have c0:=hcA.c0;have HNX:=hid (next_any c.d.base c.sb _ HIA.out.b.sch);have HTI:=hid (zsg c.d.base c.sb _ HIA.out.b.sch);unfold ranV at HTI;go_enter Tryz.func23,Tryz.ntmps23
 go_wp2_with (first|(go_at_call 63;refine HNX.out.mono ?_;rintro e w2 ⟨rfl,hw2⟩;obtain rfl:=hw2)|(go_at_call 65;refine HTI.out.mono ?_;rintro e w3 ⟨rfl,hs3,F3⟩))
 have I3:=HIA.out.sch hs3 F3;have bX3:=F3.blk bX ran_sch;have bB:Below w3.heap.size w3 (w3.alloc (Obj.cells #[.int .i64 (-1),.int .i64 (-1),.int .i64 (-1),.bool false,.int .i64 0,.bool false] 81)):=(Below.refl _ _).alloc (Nat.le_refl _) _;have I4:=I3.below bB;have bX4:=zac bX3 (Obj.cells #[.int .i64 (-1),.int .i64 (-1),.int .i64 (-1),.bool false,.int .i64 0,.bool false] 81);have bY4:=heap_alloc_new w3 (Obj.cells #[.int .i64 (-1),.int .i64 (-1),.int .i64 (-1),.bool false,.int .i64 0,.bool false] 81);have f4:FT CoT c.d.base w (w3.alloc (Obj.cells #[.int .i64 (-1),.int .i64 (-1),.int .i64 (-1),.bool false,.int .i64 0,.bool false] 81)):=(((FT.of_below bA).trans F3).trans (FT.of_below bB)).mono fun t ht=>.inr (.inr (.inl ht));have k4:=f4.below h.low;obtain⟨W4,hW4⟩:∃ X,X=w3.alloc (Obj.cells #[.int .i64 (-1),.int .i64 (-1),.int .i64 (-1),.bool false,.int .i64 0,.bool false] 81):=⟨_,rfl⟩;rw [←hW4] at I4 bX4 bY4 k4 f4 ⊢;have hlow1:=h.low;obtain⟨p1,hp1⟩:∃ p,w.heap.size=p:=⟨_,rfl⟩;obtain⟨p2,hp2⟩:∃ p,w3.heap.size=p:=⟨_,rfl⟩;rw [hp1] at bX4 hlow1;rw [hp2] at bY4;rw [hp1,hp2];clear hW4 hp1 hp2 bB bX3 I3 F3 hs3 HIA HNX HTI bX bA c0 hcA h;obtain⟨qv,ev,lv,ac,hc,_,_⟩:=I4.core;have B0:Below W4.heap.size W4 W4.drew:=⟨rfl,rfl,rfl,Nat.le_refl _,fun _ _=>rfl⟩;have h0:=I4.below B0;have hc0:=hc.below B0;have HLI:=hid (zu3 c.d.base c.sb W4.drew h0.b.sch);have HTK:=hid (zto c.d z.s z.r W4.drew h0.eok h0.b.eng);refine zah [9,10,11] (fun X=>∃ qv av lv ev,zbc c X qv av lv ev) (by kernel_rfl) (by kernel_rfl) (⟨qv,_,lv,ev,hc.eq rfl⟩:∃ qv av lv ev,zbc c W4.drew qv av lv ev) ?_;refine qFs fun K hK=>?_;go_simp;refine⟨_,fun _ _=>rfl,hK _ ?_⟩;clear hK K;refine qFs fun K hK=>?_;go_simp;refine⟨_,fun _ _=>rfl,hK _ ?_⟩;clear hK K;refine qFs fun K hK=>?_;go_simp;refine⟨_,fun _ _=>rfl,hK _ ?_⟩;clear hK K;refine qFs fun K hK=>?_;go_simp;refine⟨_,fun _ _=>rfl,hK _ ?_⟩;clear hK K;refine qFs fun K hK=>?_;go_simp;refine⟨.pointer (some ⟨c.d.eb,0,none⟩),fun X hX=>?_,hK _ ?_⟩
 ·have z0:=(core40 hX)
  go_simp
 clear hK K;refine qFs fun K hK=>?_;go_simp;refine⟨_,fun _ _=>rfl,hK _ ?_⟩;clear hK K;refine qFs fun K hK=>?_;go_simp;refine⟨_,fun _ _=>rfl,hK _ ?_⟩;clear hK K;refine qFs fun K hK=>?_;go_simp;refine⟨_,fun _ _=>rfl,hK _ ?_⟩;clear hK K;refine qFs fun K hK=>?_;go_simp;refine⟨.pointer (some ⟨c.sb,0,none⟩),fun X hX=>?_,hK _ ?_⟩
 ·have z0:=(core00 hX)
  go_simp
 clear hK K;refine qFc ?_;refine qFc ?_;refine qFc ?_;refine zau ?_;refine qT1 9 [10,11] fun K hK=>?_;dsimp only [List.getElem_toArray,List.getElem_cons_succ,List.getElem_cons_zero]
 go_wp2_with fail
 refine HLI.out.mono ?_;rintro e W5 ⟨rfl,rfl⟩
 go_wp2_with fail
 refine hK _ _ ⟨_,_,_,_,hc0⟩ ?_;clear hK K;refine qT1 10 [11] fun K hK=>?_;dsimp only [List.getElem_toArray,List.getElem_cons_succ,List.getElem_cons_zero]
 go_wp2_with fail
 refine HTK.out.mono ?_;rintro e W6 ⟨v6,s6,r6,rfl,⟨l6,o6,n6,b6⟩,d6,k6,F6⟩;have hc6:=hc0.keep F6 ztv;obtain⟨ia,ic,rfl,_,_⟩:=zar o6;have O6:=hid o6
 go_wp2_with fail
 refine hK _ _ ⟨_,_,_,_,hc6⟩ ?_;clear hK K;have I6:=h0.eng d6 k6 F6;have HHE:=hid (zva c hC _ _ _ l6 W6 I6 O6.out n6 (by show z.evs.length+5 * l6.length≤80000000;omega));refine qT1 11 [] fun K hK=>?_;dsimp only [List.getElem_toArray,List.getElem_cons_succ,List.getElem_cons_zero]
 go_wp2_with fail
 refine HHE.out.mono ?_;rintro e W7 ⟨⟨v7,rfl⟩,z7,I7,_,_,t7,l7,F7⟩;have hc7:∃ qv av lv ev,zbc c W7 qv av lv ev:=by
  obtain⟨qv,ev,lv,ac,hc,_⟩:=I7.core;exact⟨_,_,_,_,hc⟩
 go_wp2_with fail
 refine hK _ _ hc7 ?_;clear hK K;refine zan ?_;have bX7:=F7.blk (F6.blk bX4 ran_tm) ran_he;have bY7:=F7.blk (F6.blk bY4 ran_tm) ran_he;have f7:FT CoT c.d.base w W7:=(f4.trans (((FT.of_below B0).trans F6).mono fun t ht=>.inr (.inl ht))).trans (F7.mono fun t ht=>.inl ht);have k7:Below c.d.base w W7:=k4.trans (((FT.of_below B0).trans F6).below I4.low |>.trans (F7.below I6.low));have a0:=zaa bY7 0;have a1:=zaa bY7 1;have a2:=zaa bY7 2;have a3:=zaa bY7 3;have a4:=zaa bY7 4;have a5:=zaa bY7 5;have x0:=zaa bX7 0;have x1:=zaa bX7 1;have x2:=zaa bX7 2;have x3:=zaa bX7 3;have x4:=zaa bX7 4;have x5:=zaa bX7 5;have z0:=zab bX7 0;have z1:=zab bX7 1;have z2:=zab bX7 2;have z3:=zab bX7 3;have z4:=zab bX7 4;have z5:=zab bX7 5;have m1:=Dl.blk_put0 (i:=0) (u:=.int .i64 (-1)) bX7;have m2:=Dl.blk_put0 (i:=1) (u:=.int .i64 (-1)) m1;have m3:=Dl.blk_put0 (i:=2) (u:=.int .i64 (-1)) m2;have m4:=Dl.blk_put0 (i:=3) (u:=.bool false) m3;have m5:=Dl.blk_put0 (i:=4) (u:=.int .i64 0) m4;have m6:=Dl.blk_put0 (i:=5) (u:=.bool false) m5;have KX:=hid (((((FT.set (M:=fun t=>t=81) (base:=c.d.base) (i:=0) bX7 rfl hlow1 (.int .i64 (-1))).trans (FT.set (M:=fun t=>t=81) (i:=1) m1 rfl hlow1 (.int .i64 (-1)))).trans (FT.set (M:=fun t=>t=81) (i:=2) m2 rfl hlow1 (.int .i64 (-1)))).trans (FT.set (M:=fun t=>t=81) (i:=3) m3 rfl hlow1 (.bool false))).trans (FT.set (M:=fun t=>t=81) (i:=4) m4 rfl hlow1 (.int .i64 0)) |>.trans (FT.set (M:=fun t=>t=81) (i:=5) m5 rfl hlow1 (.bool false)));go_wp2;refine bodyPost_ret (v:=ranV) (results_cell_row (p:=2) (ty:=81) rfl _ _ p1 _ _ _ _ (by rfl) m6 Tryz.underlying81 rfl (by kernel_rfl)) rfl ?_;exact⟨⟨_,rfl⟩,⟨z7,I7.ran KX.out,t7,by have:z7.evs.length≤z.evs.length+5 * l6.length:=l7;omega,k7.trans (KX.out.below I7.low)⟩,f7.trans (KX.out.mono fun t ht=>.inr (.inr (.inr ht)))⟩
end Go.Proofs.YtpbmmoneeoijaaaGreatDoor
