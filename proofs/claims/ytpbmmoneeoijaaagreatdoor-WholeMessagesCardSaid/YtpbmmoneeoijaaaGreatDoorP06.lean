/-
  A part of the proof: DlAdd DlTick FrmT DlQ.
-/
import Derived.Test.YtpbmmoneeoijaaaGreatDoorP05
namespace Go.Proofs.YtpbmmoneeoijaaaGreatDoor.Dl
open Go.RowKit
def zms (id t:Int) (A:TL):Bool:=decide (1≤t∧t≤65536) && ((dueF id 0 A).isSome || decide (A.length < 64))
def addF (id t:Int) (A:TL):TL:=if zms id t A then insF id t (za1 id A).1 else A
def AddPost (base qb qo:Nat) (L:List (Nat×Int×Int)) (id t:Int) (w:World) (e:Ending) (w':World):Prop:=
 ∃ L':List (Nat×Int×Int),e=.returned (.bool (zms id t (tlOf L)))∧DQ w' base qb qo L'∧tlOf L'=addF id t (tlOf L)∧(∀ x∈L',(∃ y∈L,y.1=x.1)∨w.heap.size≤x.1)∧zeb qb qo L w w'
theorem zeb.of_below {w w':World} {qb qo base:Nat} {L:List (Nat×Int×Int)} (hq:DQ w base qb qo L) (hb:Below w.heap.size w w'):zeb qb qo L w w':=
 ⟨Save.of_below hb _,fun _ _ _=>World.cell?_of_block (hb.block _ hq.lt),fun o=>by simp [World.frozen?,hb.block _ hq.lt],.of_eq (hb.block _ hq.lt)⟩
theorem zeb.trans {a b c:World} {qb qo:Nat} {L L1:List (Nat×Int×Int)} (h:zeb qb qo L a b) (k:zeb qb qo L1 b c) (hL:∀ x∈L1,(∃ y∈L,y.1=x.1)∨a.heap.size≤x.1):zeb qb qo L a c:=
 ⟨h.s.trans k.s fun i hi hS=>by
  rcases hS with e|⟨x,hx,e⟩
  ·exact .inl e
  ·rcases hL x hx with h1|h1
   ·obtain⟨y,hy,e2⟩:=h1;exact .inr ⟨y,hy,e2.trans e⟩
   ·omega,fun o h1 h2=>(k.c o h1 h2).trans (h.c o h1 h2),fun o=>(k.f o).trans (h.f o),h.t.trans k.t⟩
theorem ze5 (id:Int):∀ (l:TL),(za1 id l).1.length≤l.length
 | []=>Nat.le_refl _
 |(i,b) :: l=>by
  simp only [za1]
  split
  ·cases l with
   |nil=>simp
   |cons y m=>obtain⟨j,c⟩:=y;simp
  ·have:=ze5 id l
   simp;omega
theorem zo2 {L:List (Nat×Int×Int)} {P:Int×Int→Prop} (h:∀ x∈tlOf L,P x):∀ x∈L,P (x.2.1,x.2.2):=fun x hx=>h _ (List.mem_map.2 ⟨x,hx,rfl⟩)
set_option maxRecDepth 100000 in
set_option maxHeartbeats 2000000 in
theorem dadd_any (base qb qo:Nat) (L:List (Nat×Int×Int)) (id t:Int) (w:World) (hq:DQ w base qb qo L) (hb:∀ x∈L,0≤x.2.2∧x.2.2≤65536) (hn:L.length≤64) (hb1:∀ x∈(za1 id (tlOf L)).1,0≤x.2∧x.2≤65536):
  Calls Tryz.prog 212 #[.pointer (some ⟨qb,qo,none⟩),.int .i64 id,.int .i64 t] w fun e w'=>AddPost base qb qo L id t w e w':=by
 by_cases hg:t < 1∨65536 < t
 ·have HA:=hid (show zms id t (tlOf L)=false by unfold zms;rw [decide_eq_false (by omega)];rfl)
  have HF:=hid (show addF id t (tlOf L)=tlOf L by unfold addF;rw [HA.out];rfl);have HS:=hid (zeb.of_below hq (Below.refl w.heap.size w));rcases hg with h|h
  ·go_enter Tryz.func212,Tryz.ntmps212
   go_wp2;go_ret;exact⟨L,by rw [HA.out];rfl,hq,HF.out.symm,fun x hx=>.inl ⟨x,hx,rfl⟩,HS.out⟩
  ·have h1:decide (t < 1)=false:=by simp;omega
   go_enter Tryz.func212,Tryz.ntmps212;go_wp2;go_ret;exact⟨L,by rw [HA.out];rfl,hq,HF.out.symm,fun x hx=>.inl ⟨x,hx,rfl⟩,HS.out⟩
 ·have ht1:1≤t:=by omega
  have ht2:t≤65536:=by omega
  have d1:decide (t < 1)=false:=by simp;omega
  have d2:decide (65536 < t)=false:=by simp;omega
  have HDU:=hid (ddue_any base qb qo L id w hq hb hn);have HAO:Hid (zms id t (tlOf L)=((dueF id 0 (tlOf L)).isSome || decide (L.length < 64))):=by
   show _=_;unfold zms;rw [decide_eq_true ⟨ht1,ht2⟩,zco];rfl
  have H2:Hid ((dR2 (dueF id 0 (tlOf L))).2=(dueF id 0 (tlOf L)).isSome):=by
   show _=_
   cases dueF id 0 (tlOf L)<;>rfl
  obtain⟨⟨r1,r2⟩,hr⟩:∃ y,dR2 (dueF id 0 (tlOf L))=y:=⟨_,rfl⟩;rw [hr] at HDU H2;rw [←H2.out] at HAO;dsimp only at HAO;clear hr hg H2;go_enter Tryz.func212,Tryz.ntmps212
  go_wp2_with fail
  refine HDU.out.mono ?_;rintro e w1 ⟨rfl,B1⟩;clear HDU;have hq1:=hq.below B1;have hS1:=zeb.of_below hq B1;have cm:=hq1.many;have key:(r2=false∧64≤L.length)∨(r2=false∧L.length < 64)∨r2=true:=by
   cases r2
   ·by_cases h:64≤L.length
    ·exact .inl ⟨rfl,h⟩
    ·exact .inr (.inl ⟨rfl,by omega⟩)
   ·exact .inr (.inr rfl)
  have hlen1:(L.length:Int)≤64:=by omega
  rcases key with ⟨rfl,hf⟩|⟨rfl,hf⟩|rfl
  ·have HA:=hid (show zms id t (tlOf L)=false by rw [HAO.out,decide_eq_false (by omega)];rfl)
   have HF:=hid (show addF id t (tlOf L)=tlOf L by unfold addF;rw [HA.out];rfl);have t3:decide ((64:Int)≤(L.length:Int))=true:=by simp;omega
   go_wp2;go_ret;exact⟨L,by rw [HA.out];rfl,hq1,HF.out.symm,fun x hx=>.inl ⟨x,hx,rfl⟩,hS1⟩
  ·have HA:=hid (show zms id t (tlOf L)=true by rw [HAO.out,decide_eq_true hf];rfl)
   have t3:decide ((64:Int)≤(L.length:Int))=false:=by simp;omega
   have HF:=hid (show addF id t (tlOf L)=insF id t (za1 id (tlOf L)).1 by unfold addF;rw [HA.out];rfl);have HC:=hid (zmd base qb qo L id w1 hq1 hb hn);clear HAO
   go_wp2_with fail
   refine HC.out.mono ?_;rintro e w2 ⟨L1,rfl,hq2,htl,hsub,hS2⟩;have hS12:=hS1.trans hS2 fun x hx=>.inl ⟨x,hx,rfl⟩;rw [←htl] at hb1 HF;have hb2:=zo2 hb1;have hsz2:w.heap.size≤w2.heap.size:=hS12.s.size;have hn1:L1.length≤64:=by
    have h1:=congrArg List.length htl;rw [zco] at h1;have h2:((za1 id (tlOf L)).1).length≤(tlOf L).length:=ze5 id (tlOf L);rw [zco] at h2;omega
   obtain⟨n,hnn⟩:∃ n,L1.length=n:=⟨_,rfl⟩;have HN:=hid hnn;have hn64:n≤64:=by omega
   have hql:=hq2.lt;clear HC htl hb1 cm hnn hn1 hlen1;go_wp2
   go_loop [2,9] (fun tk at_=>∃ (k pb po:Nat) (u:Int),tk=.int .i64 u∧at_=.pointer (some ⟨pb,po,none⟩)∧k≤n∧0≤u∧u≤65536∧Hid (zg5 qb qo L1 k pb po)∧Hid (insL w2.heap.size id t L1=L1.take k ++ insL w2.heap.size id u (L1.drop k))) (fun _ at_=>n - posV qb L1 at_)
   case atStart=>exact⟨0,qb,qo,t,rfl,rfl,Nat.zero_le _,by omega,ht2,.inl ⟨rfl,rfl,rfl⟩,by show _=_;simp⟩
   case round=>
    obtain⟨k,pb,po,u,rfl,rfl,hk,hu0,hu1,HP,HI⟩:=hrel;obtain⟨ca,fa⟩:=HP.out.cell hq2;have hne:=HP.out.ne hq2;have cm:=hq2.many;have fm:=hq2.f1;rw [HN.out] at cm;by_cases hlt:k < n
    ·have hkl:k < L1.length:=by have:=HN.out;omega
     rw [zed hkl] at ca;obtain⟨t0,t1,t2,tf⟩:=zfr (hq2.ch.at_ hkl);have hc:=hb2 _ (List.getElem_mem hkl);have HV:=hid (zjm hq2 HP.out);have HP2:=hid (zg5.next (qb:=qb) (qo:=qo) hkl);have HV2:=hid (zjm hq2 HP2.out);have hpn:=HP.out.behind hq2 hkl (Nat.le_refl _);have hqn:=hq2.nq _ (List.getElem_mem hkl);obtain⟨x,hx⟩:∃ x,L1[k]=x:=⟨_,rfl⟩;have HX:=hid hx;rw [hx] at ca t0 t1 t2 tf hc HP2 HV2 hpn hqn;obtain⟨b,i,c⟩:=x;dsimp only at ca t0 t1 t2 tf hc HP2 HV2 hpn hqn;clear hx;by_cases hle:c≤u
     ·have t4:decide (c≤u)=true:=by simpa using hle
      have HI2:=hid (zq2 w2.heap.size id hkl HI.out (by rw [HX.out];exact hle));rw [HX.out] at HI2;go_wp2
      go_round
      case rel=>exact⟨k+1,b,2,u - c,rfl,rfl,by omega,by omega,by omega,HP2,HI2⟩
      case measure=>rw [HV.out,HV2.out];omega
     ·have t4:decide (c≤u)=false:=by simpa using hle
      have HIA:=hid (zo6 w2.heap.size id L1 t u k (by omega) HI.out (fun h=>by have h1:L1[k]'h=(b,i,c):=HX.out;rw [h1];show u < c;omega));have hdr:L1.drop k=(b,i,c) :: L1.drop (k+1):=by rw [List.drop_eq_getElem_cons hkl,HX.out]
      have hbu:bump u (L1.drop k)=(b,i,c - u) :: L1.drop (k+1):=by rw [hdr];rfl
      rw [hbu] at HIA;have hsp:L1=L1.take k ++ (b,i,c) :: L1.drop (k+1):=by rw [←hdr,List.take_append_drop]
      have hbl:b < w2.heap.size:=zal t0;have hall:∀ x∈L1,x.1 < w2.heap.size:=hq2.ch.lt;have hnd:=hq2.nd;rw [hsp] at hnd;have hnd1:((L1.take k).map (·.1) ++ b :: (L1.drop (k+1)).map (·.1)).Nodup:=by simpa using hnd
      have hnb:¬ w2.heap.size∈(L1.take k).map (·.1) ++ b :: (L1.drop (k+1)).map (·.1):=fun hm=>by
       have h2:w2.heap.size∈L1.map (·.1):=by
        have h3:L1.map (·.1)=(L1.take k).map (·.1) ++ b :: (L1.drop (k+1)).map (·.1):=by
         conv=>lhs;rw [hsp]
         simp
        rw [h3];exact hm
       obtain⟨x,hx,e⟩:=List.mem_map.1 h2;have:=hall x hx;omega
      have hnd2:((L1.take k ++ (w2.heap.size,id,u) :: (b,i,c - u) :: L1.drop (k+1)).map (·.1)).Nodup:=by
       have h3:(w2.heap.size :: ((L1.take k).map (·.1) ++ b :: (L1.drop (k+1)).map (·.1))).Nodup:=List.nodup_cons.2 ⟨hnb,hnd1⟩;have h4:((L1.take k).map (·.1) ++ w2.heap.size :: b :: (L1.drop (k+1)).map (·.1)).Nodup:=List.Perm.pairwise List.perm_middle.symm h3 fun h=>Ne.symm h;simpa using h4
      have hch:Ch ((w2.alloc (tO (w2.heap.size,id,u) (some ⟨b,0,none⟩))).setCell ⟨b,1,none⟩ (.int .i64 (c - u))) ((w2.heap.size,id,u) :: (b,i,c - u) :: L1.drop (k+1)):=by
       have h1:=(hq2.ch.drop k).frame (W':=w2.alloc (tO (w2.heap.size,id,u) (some ⟨b,0,none⟩))) fun x hx=>Below.heap_alloc w2 _ x.1 (hall x (List.mem_of_mem_drop hx));rw [hdr] at h1;have h2:=zpr h1 (fun y hy e=>(List.nodup_cons.1 (List.nodup_append.1 hnd1).2.1).1 (List.mem_map.2 ⟨y,hy,e⟩)) u;exact⟨(heap_setCell_other _ _ _ _ (by show w2.heap.size≠b;omega)).trans (heap_alloc_new w2 _),h2⟩
      have hsv:Save (fun x=>x=b) w2 ((w2.alloc (tO (w2.heap.size,id,u) (some ⟨b,0,none⟩))).setCell ⟨b,1,none⟩ (.int .i64 (c - u))):=((Save.alloc w2 _).mono fun _ h=>h.elim).trans (Save.set _ b 1 _) fun _ _ h=>h;have hmem:∀ x∈(w2.heap.size,id,u) :: (b,i,c - u) :: L1.drop (k+1),(∃ y∈L1,y.1=x.1)∨w2.heap.size≤x.1:=fun x hx=>by
       rcases List.mem_cons.1 hx with rfl|hx
       ·exact .inr (Nat.le_refl _)
       ·rcases List.mem_cons.1 hx with rfl|hx
        ·exact .inl ⟨(b,i,c),by rw [hsp];simp,rfl⟩
        ·exact .inl ⟨x,List.mem_of_mem_drop hx,rfl⟩
      have HR:=hid (hq2.relink (by omega) HP.out ((w2.heap.size,id,u) :: (b,i,c - u) :: L1.drop (k+1)) hsv (fun e=>hqn e.symm) (fun x hx e=>(List.nodup_append.1 hnd1).2.2 x.1 (List.mem_map.2 ⟨x,hx,rfl⟩) b (by simp) e) hch hnd2
       (fun x hx=>by
        rcases hmem x hx with ⟨y,hy,e⟩|h
        ·rw [←e];exact hq2.nq y hy
        ·omega) (fun x hx=>by
        rcases hmem x hx with ⟨y,hy,e⟩|h
        ·rw [←e];exact hq2.low.2 y hy
        ·have:=hq2.low.1;omega) ((n:Int)+1) (by have:=HN.out;simp;omega))
      have HS:=hid (hS12.trans (zcp hq2 HP.out hsv (fun e=>hqn e.symm) (fun d _ e=>⟨(b,i,c),by rw [hsp];simp,e.symm⟩) (.pointer (some ⟨w2.heap.size,0,none⟩)) (.int .i64 ((n:Int)+1))) fun x hx=>by obtain⟨y,hy,e⟩:=hsub x hx;exact .inl ⟨y,hy,e⟩);have HM:Hid (∀ x∈L1.take k ++ (w2.heap.size,id,u) :: (b,i,c - u) :: L1.drop (k+1),(∃ y∈L,y.1=x.1)∨w.heap.size≤x.1):=fun x hx=>by
       rcases List.mem_append.1 hx with h|h
       ·exact .inl (hsub x (List.mem_of_mem_take h))
       ·rcases hmem x h with ⟨y,hy,e⟩|h
        ·obtain⟨z,hz,e2⟩:=hsub y hy;exact .inl ⟨z,hz,e2.trans e⟩
        ·exact .inr (by omega)
      have HT:Hid (tlOf (L1.take k ++ (w2.heap.size,id,u) :: (b,i,c - u) :: L1.drop (k+1))=addF id t (tlOf L)):=by
       show _=_;rw [HF.out,←HIA.out,zly]
      have hpl:pb < w2.heap.size:=zal ca;have ep:∀ v,(w2.setCell ⟨b,1,none⟩ v).cell? ⟨pb,po,none⟩=some (.pointer (some ⟨b,0,none⟩)):=fun v=>(zd9 (Ne.symm hpn)).trans ca;have em:∀ v v',((w2.setCell ⟨b,1,none⟩ v).setCell ⟨pb,po,none⟩ v').cell? ⟨qb,qo+1,none⟩=some (.int .i64 (n:Int)):=fun v v'=>(cset_ne hne).trans ((zd9 hqn).trans cm);rw [World.setCell_alloc_past _ _ _ _ hbl,World.setCell_alloc_past _ _ _ _ (by simpa using hpl),World.setCell_alloc_past _ _ _ _ (by simpa using hql)] at HR HS;clear hsp hdr hbu hnd hnd1 hnd2 hnb hch hsv hmem hall hsub hne HX HIA HI HV HV2 HP2;go_wp2;go_ret;exact⟨_,by rw [HA.out];rfl,HR.out,HT.out,HM.out,HS.out⟩
    ·obtain rfl:k=n:=by omega
     rw [zeh (by have:=HN.out;omega)] at ca;have hkL:k=L1.length:=HN.out.symm;have HIA:=hid (zo6 w2.heap.size id L1 t u k (by omega) HI.out (fun h=>by omega));have hdr:L1.drop k=[]:=List.drop_eq_nil_of_le (by omega);rw [hdr] at HIA;have hall:∀ x∈L1,x.1 < w2.heap.size:=hq2.ch.lt;have htk:L1.take k=L1:=List.take_of_length_le (by omega);have hnd2:((L1.take k ++ [(w2.heap.size,id,u)]).map (·.1)).Nodup:=by
      rw [htk,List.map_append];refine List.nodup_append.2 ⟨hq2.nd,by simp,fun x hx y hy e=>?_⟩;obtain⟨z,hz,rfl⟩:=List.mem_map.1 hx;simp only [List.map_cons,List.map_nil,List.mem_singleton] at hy;have:=hall z hz;omega
     have HR:=hid (hq2.relink (by omega) HP.out [(w2.heap.size,id,u)] (Save.alloc w2 (tO (w2.heap.size,id,u) none)) (fun h=>h) (fun _ _ h=>h) ⟨heap_alloc_new w2 _,trivial⟩ hnd2
      (fun x hx=>by simp only [List.mem_singleton] at hx;subst hx;show w2.heap.size≠qb;omega) (fun x hx=>by simp only [List.mem_singleton] at hx;subst hx;show base≤w2.heap.size;have:=hq2.low.1;omega) ((k:Int)+1) (by rw [htk];simp;omega))
     have HS:=hid (hS12.trans (zcp hq2 HP.out (Save.alloc w2 (tO (w2.heap.size,id,u) none)) (fun h=>h) (fun d _ e=>e.elim) (.pointer (some ⟨w2.heap.size,0,none⟩)) (.int .i64 ((k:Int)+1))) fun x hx=>by obtain⟨y,hy,e⟩:=hsub x hx;exact .inl ⟨y,hy,e⟩);have HM:Hid (∀ x∈L1.take k ++ [(w2.heap.size,id,u)],(∃ y∈L,y.1=x.1)∨w.heap.size≤x.1):=fun x hx=>by
      rcases List.mem_append.1 hx with h|h
      ·exact .inl (hsub x (List.mem_of_mem_take h))
      ·simp only [List.mem_singleton] at h;subst h;exact .inr hsz2
     have HT:Hid (tlOf (L1.take k ++ [(w2.heap.size,id,u)])=addF id t (tlOf L)):=by
      show _=_;rw [HF.out,←zly w2.heap.size,HIA.out];rfl
     have hpl:pb < w2.heap.size:=zal ca;have em:∀ v',(w2.setCell ⟨pb,po,none⟩ v').cell? ⟨qb,qo+1,none⟩=some (.int .i64 (k:Int)):=fun v'=>(cset_ne hne).trans cm;rw [World.setCell_alloc_past _ _ _ _ hpl,World.setCell_alloc_past _ _ _ _ (by simpa using hql)] at HR HS;clear hdr hnd2 hall hsub hne HIA HI htk hkL;go_wp2;go_ret;exact⟨_,by rw [HA.out];rfl,HR.out,HT.out,HM.out,HS.out⟩
  ·have HA:=hid (show zms id t (tlOf L)=true by rw [HAO.out];rfl)
   have HF:=hid (show addF id t (tlOf L)=insF id t (za1 id (tlOf L)).1 by unfold addF;rw [HA.out];rfl);have HC:=hid (zmd base qb qo L id w1 hq1 hb hn);clear HAO
   go_wp2_with fail
   refine HC.out.mono ?_;rintro e w2 ⟨L1,rfl,hq2,htl,hsub,hS2⟩;have hS12:=hS1.trans hS2 fun x hx=>.inl ⟨x,hx,rfl⟩;rw [←htl] at hb1 HF;have hb2:=zo2 hb1;have hsz2:w.heap.size≤w2.heap.size:=hS12.s.size;have hn1:L1.length≤64:=by
    have h1:=congrArg List.length htl;rw [zco] at h1;have h2:((za1 id (tlOf L)).1).length≤(tlOf L).length:=ze5 id (tlOf L);rw [zco] at h2;omega
   obtain⟨n,hnn⟩:∃ n,L1.length=n:=⟨_,rfl⟩;have HN:=hid hnn;have hn64:n≤64:=by omega
   have hql:=hq2.lt;clear HC htl hb1 cm hnn hn1 hlen1;go_wp2
   go_loop [2,9] (fun tk at_=>∃ (k pb po:Nat) (u:Int),tk=.int .i64 u∧at_=.pointer (some ⟨pb,po,none⟩)∧k≤n∧0≤u∧u≤65536∧Hid (zg5 qb qo L1 k pb po)∧Hid (insL w2.heap.size id t L1=L1.take k ++ insL w2.heap.size id u (L1.drop k))) (fun _ at_=>n - posV qb L1 at_)
   case atStart=>exact⟨0,qb,qo,t,rfl,rfl,Nat.zero_le _,by omega,ht2,.inl ⟨rfl,rfl,rfl⟩,by show _=_;simp⟩
   case round=>
    obtain⟨k,pb,po,u,rfl,rfl,hk,hu0,hu1,HP,HI⟩:=hrel;obtain⟨ca,fa⟩:=HP.out.cell hq2;have hne:=HP.out.ne hq2;have cm:=hq2.many;have fm:=hq2.f1;rw [HN.out] at cm;by_cases hlt:k < n
    ·have hkl:k < L1.length:=by have:=HN.out;omega
     rw [zed hkl] at ca;obtain⟨t0,t1,t2,tf⟩:=zfr (hq2.ch.at_ hkl);have hc:=hb2 _ (List.getElem_mem hkl);have HV:=hid (zjm hq2 HP.out);have HP2:=hid (zg5.next (qb:=qb) (qo:=qo) hkl);have HV2:=hid (zjm hq2 HP2.out);have hpn:=HP.out.behind hq2 hkl (Nat.le_refl _);have hqn:=hq2.nq _ (List.getElem_mem hkl);obtain⟨x,hx⟩:∃ x,L1[k]=x:=⟨_,rfl⟩;have HX:=hid hx;rw [hx] at ca t0 t1 t2 tf hc HP2 HV2 hpn hqn;obtain⟨b,i,c⟩:=x;dsimp only at ca t0 t1 t2 tf hc HP2 HV2 hpn hqn;clear hx;by_cases hle:c≤u
     ·have t4:decide (c≤u)=true:=by simpa using hle
      have HI2:=hid (zq2 w2.heap.size id hkl HI.out (by rw [HX.out];exact hle));rw [HX.out] at HI2;go_wp2
      go_round
      case rel=>exact⟨k+1,b,2,u - c,rfl,rfl,by omega,by omega,by omega,HP2,HI2⟩
      case measure=>rw [HV.out,HV2.out];omega
     ·have t4:decide (c≤u)=false:=by simpa using hle
      have HIA:=hid (zo6 w2.heap.size id L1 t u k (by omega) HI.out (fun h=>by have h1:L1[k]'h=(b,i,c):=HX.out;rw [h1];show u < c;omega));have hdr:L1.drop k=(b,i,c) :: L1.drop (k+1):=by rw [List.drop_eq_getElem_cons hkl,HX.out]
      have hbu:bump u (L1.drop k)=(b,i,c - u) :: L1.drop (k+1):=by rw [hdr];rfl
      rw [hbu] at HIA;have hsp:L1=L1.take k ++ (b,i,c) :: L1.drop (k+1):=by rw [←hdr,List.take_append_drop]
      have hbl:b < w2.heap.size:=zal t0;have hall:∀ x∈L1,x.1 < w2.heap.size:=hq2.ch.lt;have hnd:=hq2.nd;rw [hsp] at hnd;have hnd1:((L1.take k).map (·.1) ++ b :: (L1.drop (k+1)).map (·.1)).Nodup:=by simpa using hnd
      have hnb:¬ w2.heap.size∈(L1.take k).map (·.1) ++ b :: (L1.drop (k+1)).map (·.1):=fun hm=>by
       have h2:w2.heap.size∈L1.map (·.1):=by
        have h3:L1.map (·.1)=(L1.take k).map (·.1) ++ b :: (L1.drop (k+1)).map (·.1):=by
         conv=>lhs;rw [hsp]
         simp
        rw [h3];exact hm
       obtain⟨x,hx,e⟩:=List.mem_map.1 h2;have:=hall x hx;omega
      have hnd2:((L1.take k ++ (w2.heap.size,id,u) :: (b,i,c - u) :: L1.drop (k+1)).map (·.1)).Nodup:=by
       have h3:(w2.heap.size :: ((L1.take k).map (·.1) ++ b :: (L1.drop (k+1)).map (·.1))).Nodup:=List.nodup_cons.2 ⟨hnb,hnd1⟩;have h4:((L1.take k).map (·.1) ++ w2.heap.size :: b :: (L1.drop (k+1)).map (·.1)).Nodup:=List.Perm.pairwise List.perm_middle.symm h3 fun h=>Ne.symm h;simpa using h4
      have hch:Ch ((w2.alloc (tO (w2.heap.size,id,u) (some ⟨b,0,none⟩))).setCell ⟨b,1,none⟩ (.int .i64 (c - u))) ((w2.heap.size,id,u) :: (b,i,c - u) :: L1.drop (k+1)):=by
       have h1:=(hq2.ch.drop k).frame (W':=w2.alloc (tO (w2.heap.size,id,u) (some ⟨b,0,none⟩))) fun x hx=>Below.heap_alloc w2 _ x.1 (hall x (List.mem_of_mem_drop hx));rw [hdr] at h1;have h2:=zpr h1 (fun y hy e=>(List.nodup_cons.1 (List.nodup_append.1 hnd1).2.1).1 (List.mem_map.2 ⟨y,hy,e⟩)) u;exact⟨(heap_setCell_other _ _ _ _ (by show w2.heap.size≠b;omega)).trans (heap_alloc_new w2 _),h2⟩
      have hsv:Save (fun x=>x=b) w2 ((w2.alloc (tO (w2.heap.size,id,u) (some ⟨b,0,none⟩))).setCell ⟨b,1,none⟩ (.int .i64 (c - u))):=((Save.alloc w2 _).mono fun _ h=>h.elim).trans (Save.set _ b 1 _) fun _ _ h=>h;have hmem:∀ x∈(w2.heap.size,id,u) :: (b,i,c - u) :: L1.drop (k+1),(∃ y∈L1,y.1=x.1)∨w2.heap.size≤x.1:=fun x hx=>by
       rcases List.mem_cons.1 hx with rfl|hx
       ·exact .inr (Nat.le_refl _)
       ·rcases List.mem_cons.1 hx with rfl|hx
        ·exact .inl ⟨(b,i,c),by rw [hsp];simp,rfl⟩
        ·exact .inl ⟨x,List.mem_of_mem_drop hx,rfl⟩
      have HR:=hid (hq2.relink (by omega) HP.out ((w2.heap.size,id,u) :: (b,i,c - u) :: L1.drop (k+1)) hsv (fun e=>hqn e.symm) (fun x hx e=>(List.nodup_append.1 hnd1).2.2 x.1 (List.mem_map.2 ⟨x,hx,rfl⟩) b (by simp) e) hch hnd2
       (fun x hx=>by
        rcases hmem x hx with ⟨y,hy,e⟩|h
        ·rw [←e];exact hq2.nq y hy
        ·omega) (fun x hx=>by
        rcases hmem x hx with ⟨y,hy,e⟩|h
        ·rw [←e];exact hq2.low.2 y hy
        ·have:=hq2.low.1;omega) ((n:Int)+1) (by have:=HN.out;simp;omega))
      have HS:=hid (hS12.trans (zcp hq2 HP.out hsv (fun e=>hqn e.symm) (fun d _ e=>⟨(b,i,c),by rw [hsp];simp,e.symm⟩) (.pointer (some ⟨w2.heap.size,0,none⟩)) (.int .i64 ((n:Int)+1))) fun x hx=>by obtain⟨y,hy,e⟩:=hsub x hx;exact .inl ⟨y,hy,e⟩);have HM:Hid (∀ x∈L1.take k ++ (w2.heap.size,id,u) :: (b,i,c - u) :: L1.drop (k+1),(∃ y∈L,y.1=x.1)∨w.heap.size≤x.1):=fun x hx=>by
       rcases List.mem_append.1 hx with h|h
       ·exact .inl (hsub x (List.mem_of_mem_take h))
       ·rcases hmem x h with ⟨y,hy,e⟩|h
        ·obtain⟨z,hz,e2⟩:=hsub y hy;exact .inl ⟨z,hz,e2.trans e⟩
        ·exact .inr (by omega)
      have HT:Hid (tlOf (L1.take k ++ (w2.heap.size,id,u) :: (b,i,c - u) :: L1.drop (k+1))=addF id t (tlOf L)):=by
       show _=_;rw [HF.out,←HIA.out,zly]
      have hpl:pb < w2.heap.size:=zal ca;have ep:∀ v,(w2.setCell ⟨b,1,none⟩ v).cell? ⟨pb,po,none⟩=some (.pointer (some ⟨b,0,none⟩)):=fun v=>(zd9 (Ne.symm hpn)).trans ca;have em:∀ v v',((w2.setCell ⟨b,1,none⟩ v).setCell ⟨pb,po,none⟩ v').cell? ⟨qb,qo+1,none⟩=some (.int .i64 (n:Int)):=fun v v'=>(cset_ne hne).trans ((zd9 hqn).trans cm);rw [World.setCell_alloc_past _ _ _ _ hbl,World.setCell_alloc_past _ _ _ _ (by simpa using hpl),World.setCell_alloc_past _ _ _ _ (by simpa using hql)] at HR HS;clear hsp hdr hbu hnd hnd1 hnd2 hnb hch hsv hmem hall hsub hne HX HIA HI HV HV2 HP2;go_wp2;go_ret;exact⟨_,by rw [HA.out];rfl,HR.out,HT.out,HM.out,HS.out⟩
    ·obtain rfl:k=n:=by omega
     rw [zeh (by have:=HN.out;omega)] at ca;have hkL:k=L1.length:=HN.out.symm;have HIA:=hid (zo6 w2.heap.size id L1 t u k (by omega) HI.out (fun h=>by omega));have hdr:L1.drop k=[]:=List.drop_eq_nil_of_le (by omega);rw [hdr] at HIA;have hall:∀ x∈L1,x.1 < w2.heap.size:=hq2.ch.lt;have htk:L1.take k=L1:=List.take_of_length_le (by omega);have hnd2:((L1.take k ++ [(w2.heap.size,id,u)]).map (·.1)).Nodup:=by
      rw [htk,List.map_append];refine List.nodup_append.2 ⟨hq2.nd,by simp,fun x hx y hy e=>?_⟩;obtain⟨z,hz,rfl⟩:=List.mem_map.1 hx;simp only [List.map_cons,List.map_nil,List.mem_singleton] at hy;have:=hall z hz;omega
     have HR:=hid (hq2.relink (by omega) HP.out [(w2.heap.size,id,u)] (Save.alloc w2 (tO (w2.heap.size,id,u) none)) (fun h=>h) (fun _ _ h=>h) ⟨heap_alloc_new w2 _,trivial⟩ hnd2
      (fun x hx=>by simp only [List.mem_singleton] at hx;subst hx;show w2.heap.size≠qb;omega) (fun x hx=>by simp only [List.mem_singleton] at hx;subst hx;show base≤w2.heap.size;have:=hq2.low.1;omega) ((k:Int)+1) (by rw [htk];simp;omega))
     have HS:=hid (hS12.trans (zcp hq2 HP.out (Save.alloc w2 (tO (w2.heap.size,id,u) none)) (fun h=>h) (fun d _ e=>e.elim) (.pointer (some ⟨w2.heap.size,0,none⟩)) (.int .i64 ((k:Int)+1))) fun x hx=>by obtain⟨y,hy,e⟩:=hsub x hx;exact .inl ⟨y,hy,e⟩);have HM:Hid (∀ x∈L1.take k ++ [(w2.heap.size,id,u)],(∃ y∈L,y.1=x.1)∨w.heap.size≤x.1):=fun x hx=>by
      rcases List.mem_append.1 hx with h|h
      ·exact .inl (hsub x (List.mem_of_mem_take h))
      ·simp only [List.mem_singleton] at h;subst h;exact .inr hsz2
     have HT:Hid (tlOf (L1.take k ++ [(w2.heap.size,id,u)])=addF id t (tlOf L)):=by
      show _=_;rw [HF.out,←zly w2.heap.size,HIA.out];rfl
     have hpl:pb < w2.heap.size:=zal ca;have em:∀ v',(w2.setCell ⟨pb,po,none⟩ v').cell? ⟨qb,qo+1,none⟩=some (.int .i64 (k:Int)):=fun v'=>(cset_ne hne).trans cm;rw [World.setCell_alloc_past _ _ _ _ hpl,World.setCell_alloc_past _ _ _ _ (by simpa using hql)] at HR HS;clear hdr hnd2 hall hsub hne HIA HI htk hkL;go_wp2;go_ret;exact⟨_,by rw [HA.out];rfl,HR.out,HT.out,HM.out,HS.out⟩
def iv (xs:List Int):List Value:=xs.map (Value.int .i64 ·)
theorem zAd (xs ys:List Int):iv (xs ++ ys)=iv xs ++ iv ys:=List.map_append ..
theorem infoN:(Tryz.prog.info? 3).map (fun i=>(i.zero,i.size,i.bytes))=some (some (.int .i64 0),1,8):=by kernel_rfl
def lenV:Value→Nat
 | .slice _ n _=>n
 |_=>0
theorem zzv {w:World} {b s n:Nat} {e:TypeId} {v:Value} {xs:List Value} (h:w.ownsRow b e s v n xs):lenV v=n:=by
 rcases h.2 with ⟨rfl,h0⟩|⟨g,cap,cur,rfl,_⟩
 ·exact h0.symm
 ·rfl
theorem zfv {W W':World} {S:Nat→Prop} {b n s:Nat} {e:TypeId} {u:Value} {ys:List Value} (h:W.ownsRow b e s u n ys) (hs:Save S W W') (hn:∀ g,u.ownBlock=some g→¬ S g):W'.ownsRow b e s u n ys:=by
 obtain⟨h1,h2|⟨g,cap,cur,rfl,hb,hg,hr⟩⟩:=h
 ·exact⟨h1,.inl h2⟩
 ·exact⟨h1,.inr ⟨g,cap,cur,rfl,hb,(hs.block g (Array.getElem?_eq_some_iff.1 hg).1 (hn g rfl)).trans hg,hr⟩⟩
theorem DQ.save {W W':World} {base qb qo:Nat} {L:List (Nat×Int×Int)} {S:Nat→Prop} (h:DQ W base qb qo L) (hs:Save S W W') (hq:¬ S qb) (hn:∀ x∈L,¬ S x.1):DQ W' base qb qo L:=by
 have hqb:W'.heap[qb]? =W.heap[qb]?:=hs.block qb h.lt hq;have cq:∀ o,W'.cell? ⟨qb,o,none⟩=W.cell? ⟨qb,o,none⟩:=fun o=>World.cell?_of_block (w:=W) (w':=W') (a:=⟨qb,o,none⟩) hqb;have fq:∀ o,W'.frozen? ⟨qb,o,none⟩=W.frozen? ⟨qb,o,none⟩:=fun o=>by simp [World.frozen?,hqb]
 exact⟨(cq _).trans h.first,(cq _).trans h.many,(fq _).trans h.f0,(fq _).trans h.f1,h.ch.frame fun x hx=>hs.block _ (h.ch.lt x hx) (hn x hx),h.nd,h.nq,h.low⟩
theorem zeb.then {a b c:World} {qb qo:Nat} {L:List (Nat×Int×Int)} {S:Nat→Prop} (h:zeb qb qo L a b) (hlt:qb < a.heap.size) (hs:Save S b c) (hn:∀ j,j < a.heap.size→¬ S j):zeb qb qo L a c:=by
 have hqb:c.heap[qb]? =b.heap[qb]?:=hs.block qb (Nat.lt_of_lt_of_le hlt h.s.size) (hn _ hlt);exact⟨h.s.trans hs fun i hi hS=>(hn i hi hS).elim,fun o h1 h2=>(World.cell?_of_block (w:=b) (w':=c) (a:=⟨qb,o,none⟩) hqb).trans (h.c o h1 h2),fun o=>by
  have:c.frozen? ⟨qb,o,none⟩=b.frozen? ⟨qb,o,none⟩:=by simp [World.frozen?,hqb]
  exact this.trans (h.f o),h.t.trans (.of_eq hqb)⟩
theorem DQ.bump1 {W:World} {base qb qo:Nat} {b:Nat} {i c:Int} {l:List (Nat×Int×Int)} (h:DQ W base qb qo ((b,i,c) :: l)) (t:Int):DQ (W.setCell ⟨b,1,none⟩ (.int .i64 (c - t))) base qb qo ((b,i,c - t) :: l)∧zeb qb qo ((b,i,c) :: l) W (W.setCell ⟨b,1,none⟩ (.int .i64 (c - t))):=by
 have hne:qb≠b:=fun e=>h.nq (b,i,c) (by simp) e.symm;have hqb:(W.setCell ⟨b,1,none⟩ (.int .i64 (c - t))).heap[qb]? =W.heap[qb]?:=heap_setCell_other _ _ _ _ hne;have cq:∀ o,(W.setCell ⟨b,1,none⟩ (.int .i64 (c - t))).cell? ⟨qb,o,none⟩=W.cell? ⟨qb,o,none⟩:=fun o=>World.cell?_of_block (w:=W) (a:=⟨qb,o,none⟩) hqb;have fq:∀ o,(W.setCell ⟨b,1,none⟩ (.int .i64 (c - t))).frozen? ⟨qb,o,none⟩=W.frozen? ⟨qb,o,none⟩:=fun o=>by simp [World.frozen?,hqb]
 have hnd:=h.nd;have hch:=zpr h.ch (fun y hy e=>(List.nodup_cons.1 (by simpa using hnd:(b :: l.map (·.1)).Nodup)).1 (List.mem_map.2 ⟨y,hy,e⟩)) t;refine⟨⟨(cq _).trans h.first,(cq _).trans h.many,(fq _).trans h.f0,(fq _).trans h.f1,hch,by simpa using hnd,fun x hx=>?_,h.low.1,fun x hx=>?_⟩,(Save.set W b 1 _).mono fun k e=>.inr ⟨(b,i,c),by simp,e.symm⟩,fun o _ _=>cq o,fq,.of_eq hqb⟩
 ·rcases List.mem_cons.1 hx with rfl|hx
  ·exact Ne.symm hne
  ·exact h.nq x (by simp [hx])
 ·rcases List.mem_cons.1 hx with rfl|hx
  ·exact h.low.2 (b,i,c) (by simp)
  ·exact h.low.2 x (by simp [hx])
theorem DQ.pop {W:World} {base qb qo:Nat} {x:Nat×Int×Int} {l:List (Nat×Int×Int)} (h:DQ W base qb qo (x :: l)) (n:Int) (hn:n=(l.length:Int)):DQ ((W.setCell ⟨qb,qo,none⟩ (.pointer (zge l))).setCell ⟨qb,qo+1,none⟩ (.int .i64 n)) base qb qo l∧zeb qb qo (x :: l) W ((W.setCell ⟨qb,qo,none⟩ (.pointer (zge l))).setCell ⟨qb,qo+1,none⟩ (.int .i64 n)):=by
 have h1:=h.relink (k:=0) (Nat.zero_le _) (.inl ⟨rfl,rfl,rfl⟩) l (Save.refl (fun _=>False) W) (fun h=>h) (fun _ _ h=>h) h.ch.2 (by have:=h.nd;simp only [List.map_cons] at this;simpa using (List.nodup_cons.1 this).2) (fun y hy=>h.nq y (by simp [hy])) (fun y hy=>h.low.2 y (by simp [hy])) n (by simpa using hn);exact⟨by simpa using h1,zcp h (.inl ⟨rfl,rfl,rfl⟩) (Save.refl (fun _=>False) W) (fun h=>h) (fun _ _ h=>h.elim) _ _⟩
def TickPost (base qb qo:Nat) (L:List (Nat×Int×Int)) (w:World) (e:Ending) (w':World):Prop:=
 ∃ (L':List (Nat×Int×Int)) (v:Value),e=.returned v∧w'.ownsRow w.heap.size 3 1 v (zxp (tlOf L)).1.length (iv (zxp (tlOf L)).1)∧DQ w' base qb qo L'∧tlOf L'=(zxp (tlOf L)).2∧(∀ x∈L',∃ y∈L,y.1=x.1)∧zeb qb qo L w w'
set_option maxRecDepth 100000 in
set_option maxHeartbeats 2000000 in
theorem zA2 (base qb qo:Nat) (L:List (Nat×Int×Int)) (w:World) (hq:DQ w base qb qo L) (hb:∀ x∈L,0≤x.2.2∧x.2.2≤65536) (hn:L.length≤64):
  Calls Tryz.prog 135 #[.pointer (some ⟨qb,qo,none⟩)] w fun e w'=>TickPost base qb qo L w e w':=by
 obtain⟨i0,hi,hz0,hz1,hz2⟩:=info_parts infoN
 cases L with
 |nil=>
  have c0:w.cell? ⟨qb,qo,none⟩=some (.pointer none):=hq.first;have HS:=hid (zeb.of_below hq (Below.refl w.heap.size w));have HQ:=hid hq;clear hq hb;go_enter Tryz.func135,Tryz.ntmps135;go_wp2;go_ret;exact⟨[],_,rfl,World.ownsRow_nil _ _ _ _,HQ.out,rfl,fun x hx=>(by cases hx),HS.out⟩
 |cons x0 l0=>
  obtain⟨b0,j0,c0⟩:=x0;have f0:w.cell? ⟨qb,qo,none⟩=some (.pointer (some ⟨b0,0,none⟩)):=hq.first;obtain⟨_,t1,_,tf⟩:=zfr hq.ch.1;have tf1:=tf 1;have hc0:=hb (b0,j0,c0) (by simp);dsimp only at t1 tf1 hc0;obtain⟨hq1,hs1⟩:=hq.bump1 1;obtain⟨L1,hL1⟩:∃ L1,(b0,j0,c0 - 1) :: l0=L1:=⟨_,rfl⟩;have hsub:∀ x∈L1,∃ y∈(b0,j0,c0) :: l0,y.1=x.1:=fun x hx=>by
   rw [←hL1] at hx;rcases List.mem_cons.1 hx with rfl|hx
   ·exact⟨(b0,j0,c0),by simp,rfl⟩
   ·exact⟨x,by simp [hx],rfl⟩
  have hb1:∀ x∈L1,-1≤x.2.2∧x.2.2≤65536:=fun x hx=>by
   rw [←hL1] at hx;rcases List.mem_cons.1 hx with rfl|hx
   ·show -1≤c0 - 1∧c0 - 1≤65536;omega
   ·have:=hb x (by simp [hx]);omega
  have hT:zxp (tlOf ((b0,j0,c0) :: l0))=popF (tlOf L1):=by rw [←hL1];rfl
  have hT2:=zx5 L1;have HT:=hid (hT.trans hT2);have hn1:L1.length≤64:=by rw [←hL1];simpa using hn
  rw [hL1] at hq1;have hqlt:=hq.lt;have hlts:∀ x∈L1,x.1 < w.heap.size:=fun x hx=>by obtain⟨y,hy,e⟩:=hsub x hx;rw [←e];exact hq.ch.lt y hy
  obtain⟨L,hL⟩:∃ L,(b0,j0,c0) :: l0=L:=⟨_,rfl⟩;rw [hL] at hs1 hsub HT ⊢;obtain⟨n,hnn⟩:∃ n,L1.length=n:=⟨_,rfl⟩;have HN:=hid hnn;have hn64:n≤64:=by omega
  clear hq hb hn tf hT hT2 hL hL1 hn1 hnn;go_enter Tryz.func135,Tryz.ntmps135;go_wp2
  go_loopw [3] (fun v wr=>∃ k:Nat,k≤n∧Hid (zhv L1=k+zhv (L1.drop k))∧wr.ownsRow w.heap.size 3 1 v k (iv ((L1.take k).map fun x=>x.2.1))∧DQ wr base qb qo (L1.drop k)∧zeb qb qo L w wr) (fun v _=>n - lenV v)
  case atStart=>exact⟨0,Nat.zero_le _,by show _=_;simp,World.ownsRow_nil _ _ _ _,hq1,hs1⟩
  case round=>
   clear hq1 hs1 f0 t1 tf1 hc0;obtain⟨k,hk,HZ,hown,hqk,hsk⟩:=hrel;by_cases hlt:k < n
   ·have hkl:k < L1.length:=by have:=HN.out;omega
    have hc:=hb1 _ (List.getElem_mem hkl);have HTK:=hid (List.take_succ_eq_append_getElem hkl);have HZS:=hid (fun (h:(L1[k]).2.2=0)=>zxi hkl HZ.out h);have HZT:=hid (fun (h:(L1[k]).2.2≠0)=>znf HZ.out (fun _=>h) (by omega));have hdr:=List.drop_eq_getElem_cons hkl;have hbl:=hlts _ (List.getElem_mem hkl);obtain⟨x,hx⟩:∃ x,L1[k]=x:=⟨_,rfl⟩;rw [hx] at hc HTK HZS HZT hdr hbl;obtain⟨b,i,c⟩:=x;dsimp only at hc HZS HZT hbl;rw [hdr] at hqk;have cf:wr.cell? ⟨qb,qo,none⟩=some (.pointer (some ⟨b,0,none⟩)):=hqk.first;obtain⟨t0,t1,t2,tf⟩:=zfr hqk.ch.1;dsimp only at t0 t1 t2;clear tf hx;by_cases h0:c=0
    ·subst h0
     have HQK:=hid hqk;have hsz:=hid hsk.s.size;have hown1:=hown.alloc (Obj.cells #[Value.int .i64 i] 3);have hnews:∀ (j:Nat) (u:Value),(iv [i])[j]? =some u→(wr.alloc (Obj.cells #[Value.int .i64 i] 3)).cell? ((⟨wr.heap.size,0,none⟩:Addr).add j)=some u:=fun j u hj=>by
      rw [za8,Nat.zero_add,World.cell?_alloc_at _ _ _ _ rfl];rw [show iv [i]=[Value.int .i64 i] by rfl] at hj;simpa using hj
     have hszA:w.heap.size≤(wr.alloc (Obj.cells #[Value.int .i64 i] 3)).heap.size:=by have:=hsz.out;simp;omega
     have HZ2:=hid (HZS.out rfl);have HTL:Hid (iv ((L1.take (k+1)).map fun x=>x.2.1)=iv ((L1.take k).map fun x=>x.2.1) ++ iv [i]):=by
      show _=_;rw [HTK.out,List.map_append,zAd];rfl
     have HLV:=hid (zzv hown);have HDR:Hid (∀ x∈(b,i,(0:Int)) :: L1.drop (k+1),x.1 < w.heap.size):=fun x hx=>by
      rw [←hdr] at hx;exact hlts x (List.mem_of_mem_drop hx)
     have hge:∀ j,u3.ownBlock=some j→w.heap.size≤j:=fun j hj=>(hown1.lt j hj).1;have HSB:Hid (∀ x∈(b,i,(0:Int)) :: L1.drop (k+1),∃ y∈L,y.1=x.1):=fun x hx=>by
      rw [←hdr] at hx;exact hsub x (List.mem_of_mem_drop hx)
     have HSK:=hid hsk;have hlk:((L1.drop (k+1)).length:Int)=(n:Int) - 1 - (k:Int):=by have:=HN.out;rw [List.length_drop];omega
     obtain⟨R,hR⟩:∃ R,L1.drop (k+1)=R:=⟨_,rfl⟩;have HRR:=hid hR;rw [hR] at HQK HDR HSB t2 hlk;clear hqk HZS HZT HTK hdr hsk hR
     go_wp2_with (
      at_builtin
      refine wpList_append_own _ rfl _ _ 59 rfl w.heap.size 3 i0 (.int .i64 0) 1 8 Tryz.underlying59 hi hz0 hz1 hz2 rfl (by decide) u3 k _ rfl hown1 ⟨wr.heap.size,0,none⟩ 1 1 (iv [i]) rfl (by simp [iv]) hnews (by simp [Value.oneCell',iv]) (by unfold maxLen;omega) (by omega) hszA ?_;intro v' w2 hown2 hgrow _;have hsv:Save (fun j=>u3.ownBlock=some j) wr w2:=((Save.alloc wr _).mono fun _ h=>h.elim).trans (Save.of_grown hgrow) fun _ _ h=>h;have hq2:=HQK.out.save hsv (fun h=>by have:=hge _ h;omega) (fun x hx h=>by
       have:=hge _ h;have:=HDR.out x hx;omega)
      have hs2:=hid (HSK.out.then hqlt hsv fun j hj h=>by have:=hge _ h;omega);have d0:w2.cell? ⟨qb,qo,none⟩=some (.pointer (some ⟨b,0,none⟩)):=hq2.first;have d1:w2.cell? ⟨qb,qo+1,none⟩=some (.int .i64 ((n:Int) - k)):=by
       rw [hq2.many]
       congr 2
       simp only [List.length_cons];omega
      have g0:=hq2.f0;have g1:=hq2.f1;have d2:=(zfr hq2.ch.1).2.2.1;have em:∀ v',(w2.setCell ⟨qb,qo,none⟩ v').cell? ⟨qb,qo+1,none⟩=some (.int .i64 ((n:Int) - k)):=fun v'=>(cset_ne (by intro e;cases e)).trans d1;have HQ3:=hid (hq2.pop ((n:Int) - k - 1) (by omega));have hown2:=hid hown2;dsimp only at d2;clear hown1 hown hgrow hq2 hsv hnews HQK HSK hszA t0 t1 t2 cf)
     go_roundw
     case rel=>
      obtain⟨q1,q2⟩:=HQ3.out;refine⟨k+1,by omega,HZ2,?_,by rw [HRR.out];exact q1,hs2.out.trans q2 fun x hx=>.inl (HSB.out x hx)⟩;rw [HTL.out];exact zfv hown2.out ((Save.set w2 qb qo _).trans (Save.set _ qb (qo+1) _) fun _ _ h=>h) fun g hg e=>by
       have:=(hown2.out.lt g hg).1;omega
     case measure=>
      have h1:=zzv hown2.out;have h2:=HLV.out;simp only [h2,h1];omega
    ·have tz:(c == 0)=false:=by simpa using h0
     have HZ2:=hid (HZT.out h0);have HQK:Hid (DQ wr base qb qo (L1.drop k)):=by
      show DQ _ _ _ _ _;rw [hdr];exact hqk
     have HSK:=hid hsk;have HO:=hid hown;clear hqk HZS HZT HTK hdr hsk hown;go_wp2;go_ret;refine⟨L1.drop k,_,rfl,?_,HQK.out,?_,fun x hx=>hsub x (List.mem_of_mem_drop hx),HSK.out⟩
     ·rw [HT.out,HZ2.out]
      simpa [List.length_take,Nat.min_eq_left (show k≤L1.length by omega)] using HO.out
     ·rw [HT.out,HZ2.out]
   ·obtain rfl:k=n:=by omega
    have HZ2:=hid (znf HZ.out (fun h=>absurd h (by have:=HN.out;omega)) (by have:=HN.out;omega));have cf:wr.cell? ⟨qb,qo,none⟩=some (.pointer none):=by
     rw [hqk.first,zeh (by have:=HN.out;omega)]
    have HQK:=hid hqk;have HSK:=hid hsk;have HO:=hid hown;clear hqk hsk hown;go_wp2;go_ret;refine⟨L1.drop k,_,rfl,?_,HQK.out,?_,fun x hx=>hsub x (List.mem_of_mem_drop hx),HSK.out⟩
    ·rw [HT.out,HZ2.out]
     simpa [List.length_take,Nat.min_eq_left (show k≤L1.length by have:=HN.out;omega)] using HO.out
    ·rw [HT.out,HZ2.out]
end Go.Proofs.YtpbmmoneeoijaaaGreatDoor.Dl
namespace Go.Proofs.YtpbmmoneeoijaaaGreatDoor
open Go.RowKit
def OfT (M:TypeId→Prop) (base:Nat) (w:World) (k:Nat):Prop:=base≤k∧∃ cur t,w.heap[k]? =some (.cells cur t (0,0))∧M t
def FT (M:TypeId→Prop) (base:Nat) (w w':World):Prop:=Save (OfT M base w) w w'
variable {M M':TypeId→Prop} {base:Nat} {w w' a b c:World}
theorem FT.refl (M:TypeId→Prop) (base:Nat) (w:World):FT M base w w:=Save.refl _ _
theorem FT.of_below (h:Below w.heap.size w w'):FT M base w w':=Save.of_below h _
theorem FT.mono (h:FT M base w w') (hM:∀ t,M t→M' t):FT M' base w w':=Save.mono h fun _k ⟨hb,cur,t,hc,ht⟩=>⟨hb,cur,t,hc,hM t ht⟩
theorem FT.trans (h:FT M base a b) (k:FT M base b c):FT M base a c:=
 Save.trans h k fun i hi ⟨hb,cur,t,hc,ht⟩=>by
  by_cases hn:OfT M base a i
  ·exact hn
  ·rw [h.block i hi hn] at hc
   exact⟨hb,cur,t,hc,ht⟩
theorem FT.of_save {S:Nat→Prop} (h:Save S w w') (hS:∀ k,k < w.heap.size→S k→OfT M base w k):FT M base w w':=
 ⟨h.os,h.tape,h.output,h.size,fun k hk hn=>h.block k hk fun hs=>hn (hS k hk hs)⟩
theorem FT.size (h:FT M base w w'):w.heap.size≤w'.heap.size:=Save.size h
theorem FT.below (h:FT M base w w') (hb:base≤w.heap.size):Below base w w':=
 Save.below h (Below.refl base w) hb fun _ hk=>hk.1
theorem FT.then_below (h:FT M base a b) (k:Below b.heap.size b c):FT M base a c:=h.trans (FT.of_below k)
theorem FT.drewN {n:Nat} (h:FT M base w w'):FT M base w (w'.drewN n):=Save.drewN _ h
theorem FT.set {p i:Nat} {cur:Array Value} {t:TypeId} (hp:w.heap[p]? =some (.cells cur t (0,0))) (ht:M t) (hb:base≤p) (v:Value):FT M base w (w.setCell ⟨p,i,none⟩ v):=
 FT.of_save (Save.set w p i v) fun k _ hk=>by
  obtain rfl:k=p:=hk;exact⟨hb,cur,t,hp,ht⟩
theorem FT.alloc (w:World) (o:Obj):FT M base w (w.alloc o):=FT.of_below ((Below.refl _ w).alloc (Nat.le_refl _) o)
theorem FT.blk {k:Nat} {cur:Array Value} {t:TypeId} (h:FT M base w w') (hk:w.heap[k]? =some (.cells cur t (0,0))) (ht:¬ M t):w'.heap[k]? =some (.cells cur t (0,0)):=
 zaj hk h fun ⟨_,cur',t',hc,hm⟩=>by
  rw [hk] at hc;cases hc;exact ht hm
theorem FT.low {k:Nat} {o:Obj} (h:FT M base w w') (hk:w.heap[k]? =some o) (hb:k < base):w'.heap[k]? =some o:=
 zaj hk h fun ⟨hb',_⟩=>by omega
theorem FT.own {B s n:Nat} {e:TypeId} {u:Value} {ys:List Value} (h:FT M base w w') (ho:w.ownsRow B e s u n ys) (he:¬ M e):w'.ownsRow B e s u n ys:=by
 rcases ho.2 with ⟨rfl,h1⟩|⟨g,cap,cur,rfl,h2,h3,h4⟩
 ·exact⟨ho.1,.inl ⟨rfl,h1⟩⟩
 ·refine⟨ho.1,.inr ⟨g,cap,cur,rfl,h2,?_,h4⟩⟩
  exact h.blk h3 he
end Go.Proofs.YtpbmmoneeoijaaaGreatDoor
namespace Go.Proofs.YtpbmmoneeoijaaaGreatDoor.Dl
open Go.RowKit
def QS (W:World) (base qb qo:Nat) (r:TL):Prop:=∃ L,DQ W base qb qo L∧DInv (tlOf L) r
def TmT (t:TypeId):Prop:=t=343∨t=259
structure QKeep (base qb qo:Nat) (w w':World):Prop where
 k:FT TmT base w w'
 c:∀ o,o≠qo→o≠qo+1→w'.cell? ⟨qb,o,none⟩=w.cell? ⟨qb,o,none⟩
 f:∀ o,w'.frozen? ⟨qb,o,none⟩=w.frozen? ⟨qb,o,none⟩
 t:Typ w w' qb
def IsE (w:World) (qb:Nat):Prop:=∃ cur,w.heap[qb]? =some (.cells cur 259 (0,0))
theorem zeb.keep {w w':World} {base qb qo:Nat} {L:List (Nat×Int×Int)} (hq:DQ w base qb qo L) (he:IsE w qb) (h:zeb qb qo L w w'):QKeep base qb qo w w':=by
 refine⟨FT.of_save h.s fun k _ hk=>?_,h.c,h.f,h.t⟩;rcases hk with rfl|⟨x,hx,rfl⟩
 ·obtain⟨cur,hc⟩:=he
  exact⟨hq.low.1,cur,_,hc,.inr rfl⟩
 ·obtain⟨j,hj,rfl⟩:=List.getElem_of_mem hx
  exact⟨hq.low.2 _ (List.getElem_mem hj),_,_,hq.ch.at_ hj,.inl rfl⟩
theorem DInv.bnd {L:List (Nat×Int×Int)} {r:TL} (h:DInv (tlOf L) r):(∀ x∈L,0≤x.2.2∧x.2.2≤65536)∧L.length≤64:=
 ⟨zo2 h.bound,by have:=h.size;rw [zco] at this;have:=h.len;omega⟩
theorem zs2 {id:Int} {r:TL}:(look id r).isSome=true↔∃ x∈r,x.1=id:=by
 constructor
 ·intro h
  by_cases h1:∃ x∈r,x.1=id
  ·exact h1
  ·rw [zlv.2 fun x hx e=>h1 ⟨x,hx,e⟩] at h;cases h
 ·rintro⟨x,hx,e⟩
  cases h:look id r with
  |none=>exact (zlv.1 h x hx e).elim
  |some t=>rfl
def okR (id t:Int) (r:TL):Bool:=decide (1≤t∧t≤65536) && ((look id r).isSome || decide (r.length < 64))
def addR (id t:Int) (r:TL):TL:=if okR id t r then zrk id r ++ [(id,t)] else r
theorem qadd_any (base qb qo:Nat) (r:TL) (id t:Int) (w:World) (h:QS w base qb qo r) (he:IsE w qb):
  Calls Tryz.prog 212 #[.pointer (some ⟨qb,qo,none⟩),.int .i64 id,.int .i64 t] w fun e w'=>e=.returned (.bool (okR id t r))∧QS w' base qb qo (addR id t r)∧QKeep base qb qo w w':=by
 obtain⟨L,h1,h2⟩:=h;obtain⟨b1,b2⟩:=h2.bnd;refine (dadd_any base qb qo L id t w h1 b1 b2 (h2.cancel id).1.bound).mono ?_;rintro e w' ⟨L',rfl,q1,q2,q3,q4⟩;have hok:zms id t (tlOf L)=okR id t r:=by unfold zms okR;rw [h2.due,h2.size]
 refine⟨by rw [hok],⟨L',q1,?_⟩,q4.keep h1 he⟩;rw [q2];unfold addF addR;rw [hok]
 split
 ·rename_i ho
  unfold okR at ho;rw [Bool.and_eq_true,decide_eq_true_eq,Bool.or_eq_true,decide_eq_true_eq] at ho;refine h2.add id t ho.1 ?_;rcases ho.2 with h|h
  ·have:=zrj (zs2.1 h)
   have:=h2.len;omega
  ·exact Nat.lt_of_le_of_lt (List.length_filter_le _ _) h
 ·exact h2
def QTick (base qb qo:Nat) (r:TL) (w:World) (e:Ending) (w':World):Prop:=
 ∃ v:Value,e=.returned v∧w'.ownsRow w.heap.size 3 1 v (dueR r).length (iv (dueR r))∧QS w' base qb qo (leftR r)∧QKeep base qb qo w w'
theorem qtick_any (base qb qo:Nat) (r:TL) (w:World) (h:QS w base qb qo r) (he:IsE w qb):Calls Tryz.prog 135 #[.pointer (some ⟨qb,qo,none⟩)] w fun e w'=>QTick base qb qo r w e w':=by
 obtain⟨L,h1,h2⟩:=h;obtain⟨b1,b2⟩:=h2.bnd;refine (zA2 base qb qo L w h1 b1 b2).mono ?_;rintro e w' ⟨L',v,rfl,q0,q1,q2,q3,q4⟩;obtain⟨c1,c2⟩:=h2.tick;rw [c2] at q0;exact⟨v,rfl,q0,⟨L',q1,by rw [q2];exact c1⟩,q4.keep h1 he⟩
def cnt (a:Int) (r:TL):Nat:=(r.map (·.1)).count a
theorem zvm {a:Int}:∀ {r:TL},Dist r→cnt a r≤1
 | [],_=>by simp [cnt]
 |x :: r,h=>by
  obtain⟨h1,h2⟩:=List.pairwise_cons.1 h;have ih:=zvm (a:=a) h2;by_cases hx:x.1=a
  ·have:cnt a r=0:=by
    unfold cnt;rw [List.count_eq_zero];intro hm;obtain⟨y,hy,e⟩:=List.mem_map.1 hm;exact h1 y hy (hx.trans e.symm)
   unfold cnt at this ⊢;rw [List.map_cons,List.count_cons,this]
   split<;>omega
  ·unfold cnt at ih ⊢
   rw [List.map_cons,List.count_cons_of_ne hx];exact ih
theorem zpn (a:Int) (r:TL):cnt a (zrk a r)=0:=by
 unfold cnt;rw [List.count_eq_zero];intro hm;obtain⟨y,hy,e⟩:=List.mem_map.1 hm;have:=(List.mem_filter.1 hy).2;simp [e] at this
theorem zht {a b:Int} (h:b≠a):∀ r:TL,cnt b (zrk a r)=cnt b r
 | []=>rfl
 |x :: r=>by
  have ih:=zht h r;unfold cnt zrk at *;by_cases hx:x.1=a
  ·have h2:x.1≠b:=fun e=>h (e.symm.trans hx)
   rw [List.filter_cons_of_neg (by simp [hx]),List.map_cons,List.count_cons_of_ne h2];exact ih
  ·rw [List.filter_cons_of_pos (by simp [hx]),List.map_cons,List.map_cons,List.count_cons,List.count_cons,ih]
theorem cnt_add_same {a t:Int} {r:TL} (h:Dist r):cnt a (addR a t r)≤1:=by
 unfold addR
 split
 ·have:=zpn a r
  unfold cnt at this ⊢;rw [List.map_append,List.count_append,this];simp
 ·exact zvm h
theorem cnt_add_other {a b t:Int} {r:TL} (h:b≠a):cnt b (addR a t r)=cnt b r:=by
 unfold addR
 split
 ·have:=zht h r
  unfold cnt at this ⊢;rw [List.map_append,List.count_append,this];simp [Ne.symm h]
 ·rfl
theorem cnt_tick (a:Int):∀ r:TL,(dueR r).count a+cnt a (leftR r)=cnt a r
 | []=>rfl
 |x :: r=>by
  have ih:=cnt_tick a r;unfold cnt dueR leftR at *;by_cases hx:x.2=1
  ·rw [List.filter_cons_of_pos (by simp [hx]),List.filter_cons_of_neg (by simp [hx]),List.map_cons,List.map_cons,List.count_cons,List.count_cons]
   omega
  ·rw [List.filter_cons_of_neg (by simp [hx]),List.filter_cons_of_pos (by simp [hx]),List.map_cons,List.map_cons,List.map_cons,List.count_cons,List.count_cons]
   show _+(_+if (x.1 == a)=true then 1 else 0)=_;omega
theorem QS.dist {W:World} {base qb qo:Nat} {r:TL} (h:QS W base qb qo r):Dist r:=by
 obtain⟨L,_,h2⟩:=h;exact h2.ds
theorem QS.save {W W':World} {base qb qo:Nat} {r:TL} {S:Nat→Prop} (h:QS W base qb qo r) (hs:Save S W W') (hc:∀ o,o=qo∨o=qo+1→W'.cell? ⟨qb,o,none⟩=W.cell? ⟨qb,o,none⟩) (hf:∀ o,W'.frozen? ⟨qb,o,none⟩=W.frozen? ⟨qb,o,none⟩)
  (hn:∀ k cur,W.heap[k]? =some (.cells cur 343 (0,0))→¬ S k):QS W' base qb qo r:=by
 obtain⟨L,h1,h2⟩:=h;exact⟨L,⟨(hc _ (.inl rfl)).trans h1.first,(hc _ (.inr rfl)).trans h1.many,(hf _).trans h1.f0,(hf _).trans h1.f1,h1.ch.frame fun x hx=>by
  obtain⟨j,hj,rfl⟩:=List.getElem_of_mem hx;exact hs.block _ (h1.ch.lt _ hx) (hn _ _ (h1.ch.at_ hj)),h1.nd,h1.nq,h1.low⟩,h2⟩
theorem qs_nil {W:World} {base qb qo:Nat} (h0:W.cell? ⟨qb,qo,none⟩=some (.pointer none)) (h1:W.cell? ⟨qb,qo+1,none⟩=some (.int .i64 0)) (hf:∀ o,W.frozen? ⟨qb,o,none⟩=false) (hb:base≤qb):QS W base qb qo []:=
 ⟨[],⟨h0,h1,hf _,hf _,trivial,by simp,fun x hx=>(by cases hx),hb,fun x hx=>(by cases hx)⟩,zvj⟩
end Go.Proofs.YtpbmmoneeoijaaaGreatDoor.Dl
