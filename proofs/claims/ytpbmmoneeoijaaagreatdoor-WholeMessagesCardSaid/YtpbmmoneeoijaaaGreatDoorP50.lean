/-
  A part of the proof: WholeMsg.
-/
import Derived.Test.YtpbmmoneeoijaaaGreatDoorP40
import Derived.Test.YtpbmmoneeoijaaaGreatDoorP49
namespace Go.Proofs.YtpbmmoneeoijaaaGreatDoor
open Go.RowKit Go.Deep Go.Shelf
set_option maxRecDepth 100000
def zmx (c:za3) (w:World) (s_:Value) (W:World):Prop:=∃ (s2:Int) (z2:zbp),s_=.int .i64 s2∧zba c W z2∧z2.tot=s2∧z2.evs.length≤300000∧Below w.heap.size w W
theorem zuk {P:Nat→Prop} {j:Nat} (h:∀ i,i < j→P i) (hj:P j):∀ i,i < j+1→P i:=fun i hi=>by
 by_cases e:i < j
 ·exact h i e
 ·obtain rfl:i=j:=by omega
  exact hj
theorem tot64 {u:QuS} (h:QuOk u):u.tot≤64:=by
 have h4:=h.n4;have:u.tot≤u.n * 16:=zsd fun j hj=>by have:=h.q j hj;omega
 omega
theorem not_CoT:¬ CoT 76:=by unfold CoT HeT EvT TabT Dl.TmT SchT;decide
attribute [local irreducible] KL
set_option maxHeartbeats 8000000 in
theorem zie (x:Img) (g:Nat→Nat→Int) (M:Nat→za9) (q:Nat→Nat→Nat→Int) (h:Nat→Nat→Int) (lo:Option Addr) (ln lc:Nat) (f:Nat→OpR) (w:World) (hx:znd w x g M q h) (hln:ln≤maxLen) (hO:zua w lo ln f) (hTab:Tab w):
  Calls Tryz.prog 4 #[iv x,.slice lo ln lc] w fun E w'=>E=.returned (.bool true)∧Below w.heap.size w w':=by
 have hpos:0 < w.heap.size:=hTab.pos;have HG:=hid fun X (hX:Below w.heap.size w X)=>ztc lo ln lc f 40 X hln (hO.below hX);have HBG:=hid fun X (hX:Below w.heap.size w X)=>zBj x g M q h X (hx.below hX) (hTab.below hX hpos) (Nat.lt_of_lt_of_le hpos hX.size);have HLV:=hid fun X (hX:Below w.heap.size w X)=>Ev.lives_calls X (Nat.lt_of_lt_of_le hpos hX.size) (hTab.below hX hpos);have HMO:=hid hx.modes;have HQU:=hid hx.queues;have HOP:=hid hO;have HMN:=hid hx.mn;have HPO:=hid hpos;clear hx hO hTab hpos;unfold iv at HBG ⊢;unfold GreatA at HG;unfold BeginA at HBG;unfold maxLen at hln;have b1:Below w.heap.size w (w.alloc (Obj.cells #[.int .i64 x.r,.slice x.ao x.n x.cap,.slice x.mo x.mn x.mc,.slice x.eo x.en x.ec] 26)):=(Below.refl _ _).alloc (Nat.le_refl _) _;have bI1:=heap_alloc_new w (Obj.cells #[.int .i64 x.r,.slice x.ao x.n x.cap,.slice x.mo x.mn x.mc,.slice x.eo x.en x.ec] 26);go_enter Tryz.func4,Tryz.ntmps4
 go_upto_if 14 with (go_at_call 17;refine (HG.out _ b1).mono ?_;rintro e w2 ⟨⟨rr,rfl⟩,hb2⟩)
 have b2:=b1.trans (hb2.mono b1.size);have bI2:=qBa hb2 bI1;clear hb2 b1 bI1 HG;cases rr
 case true=>
  go_wp2;go_ret;exact⟨rfl,b2⟩
 have i0:=zaa bI2 0;have i1:=zaa bI2 1;have i2:=zaa bI2 2;have i3:=zaa bI2 3
 go_upto_region 3 with fail
 refine wp_region_lit ?_
 go_wp2_with fail
 refine (HBG.out _ b2).mono ?_;rintro e w3 ⟨b3,kv,L,rfl,hL,hone,hkv⟩;rename_i KK hKK;refine hKK _ _ ?_;clear hKK KK i0 i1 i2 i3;have B3:=b2.trans (b3.mono b2.size);have bI3:=qBa b3 bI2;have B4:=B3.alloc B3.size (.cells Tryz.zeroCells66 66);have bz4:=(Below.refl w3.heap.size w3).alloc (Nat.le_refl _) (.cells Tryz.zeroCells66 66);have bI4:=zac bI3 (.cells Tryz.zeroCells66 66);have bK4:=heap_alloc_new w3 (.cells Tryz.zeroCells66 66);have hth:(w3.alloc (.cells Tryz.zeroCells66 66)).there w3.heap.size 0 L.toArray.size:=fun j hj=>by
  have hj:j < 141:=by simpa [hL] using hj
  refine⟨?_,zab bK4 _⟩;rw [zaa bK4,Nat.zero_add,Array.getElem?_eq_getElem (by exact hj)];rfl
 have hsz3:=B3.size;have hlt3:=(Array.getElem?_eq_some_iff.1 bI3).1;obtain⟨p3,hp3⟩:∃ p,w3.heap.size=p:=⟨_,rfl⟩;obtain⟨W4,hW4⟩:∃ X,X=w3.alloc (.cells Tryz.zeroCells66 66):=⟨_,rfl⟩;rw [←hW4] at B4 bz4 bI4 bK4 hth;rw [hp3] at hth bK4 hsz3 hlt3;refine wpList_plain rfl fun K hK=>?_;go_simp;refine hK _ _ ?_;clear hK K;refine wpList_plain rfl fun K hK=>?_;go_simp;refine hK _ _ ?_;clear hK K;refine wpList_plain rfl fun K hK=>?_;go_simp;refine hK _ _ ?_;clear hK K;refine wpList_plain rfl fun K hK=>?_;go_simp;refine hK _ _ ?_;clear hK K;refine wpList_plain rfl fun K hK=>?_;go_simp;refine hK _ _ ?_;clear hK K;rw [←hW4];refine wpList_store_mid rfl 66 _ _ rfl p3 0 L.toArray rfl rfl hth (by rw [List.size_toArray,hL];exact kl_info) hone ?_;show Exit.then _ _ _ _ _
 have HCI:∀ (c:za3) (z:zbp),zba c w3 z→zba c (W4.setCells p3 0 L.toArray.toList) z:=fun c z hc=>zvk (hc.below bz4) (by have:=HPO.out;omega) bK4 _ _;have B5:Below w.heap.size w (W4.setCells p3 0 L.toArray.toList):=zak hsz3 _ 0 _ B4;have bI5:=((zfu p3 L.toArray.toList 0 W4).block _ (Array.getElem?_eq_some_iff.1 bI4).1 (show ¬ (w.heap.size=p3) by omega)).trans bI4;generalize W4.setCells p3 0 L.toArray.toList=W5 at HCI B5 bI5 ⊢;have HS2:=hid b2.size;clear hth hone hL bK4 bI4 bz4 B4 bI3 B3 b3 bI2 b2 HBG hW4 hp3 hsz3 hlt3;have HI5:=hid bI5;have HB5:=hid B5;clear bI5 B5;rcases hkv with rfl|⟨hk,c,z,rfl,hev,htot,hcb,hcore⟩
 ·go_wp2_with (go_at_call 8;refine (HLV.out _ HB5.out).mono ?_;rintro e wl ⟨rfl,bl⟩)
  go_ret;exact⟨rfl,HB5.out.trans (bl.mono HB5.out.size)⟩
 have HCO:=hid hcore;clear hcore;have hm8:x.mn≤8:=hk.m2;have hq4:∀ m,m < x.mn→(M m).qn≤4:=fun m hm=>(hk.mq m hm).1;have HQ4:=hid hq4;have HZE:=hid hev;have HZT:=hid htot;have HCB:=hid (Nat.le_trans HS2.out hcb);clear hk hq4 hev htot hcb;go_wp2
 go_loopw [7] (fun m_ wr=>∃ m:Nat,m_=.int .i64 m∧m≤x.mn∧Hid (∀ k,k < m→∀ i,i < (M k).qn→q k i 1=1)∧W5=wr) (fun m_ _=>x.mn - (intOf m_).toNat)
 case atStart=>exact⟨0,rfl,Nat.zero_le _,hid (fun k hk=>absurd hk (Nat.not_lt_zero _)),rfl⟩
 case round=>
  obtain⟨m,rfl,hm,HP,rfl⟩:=hrel;have i2:=zaa HI5.out 2;by_cases hlt:m < x.mn
  ·have t0:decide ((m:Int) < (x.mn:Int))=true:=by simp;omega
   have m0:(0:Int)≤(m:Int):=by omega
   have m1:(m:Int) < (x.mn:Int):=by omega
   obtain⟨mb,mo,hme,_,hk1⟩:=HMO.out m hlt;have k1:=kept hk1 HB5.out;have HQF:=hid (HQU.out m hlt);have hqn:=HQ4.out m hlt;rw [hme] at i2;clear hk1 hme;obtain⟨QN,hQN⟩:∃ n,(M m).qn=n:=⟨_,rfl⟩;have HQN:=hid hQN;rw [hQN] at k1 hqn;clear hQN;go_wp2
   go_loopw [8] (fun j_ wr=>∃ j:Nat,j_=.int .i64 j∧j≤QN∧Hid (∀ i,i < j→q m i 1=1)∧W5=wr) (fun j_ _=>QN - (intOf j_).toNat)
   case atStart=>exact⟨0,rfl,Nat.zero_le _,hid (fun k hk=>absurd hk (Nat.not_lt_zero _)),rfl⟩
   case round=>
    obtain⟨j,rfl,hj,HJ,rfl⟩:=hrel;by_cases hlt2:j < QN
    ·have t1:decide ((j:Int) < (QN:Int))=true:=by simp;omega
     have j0:(0:Int)≤(j:Int):=by omega
     have j1:(j:Int) < (QN:Int):=by omega
     obtain⟨qb,qo,hqe,hqc⟩:=HQF.out j (by rw [HQN.out];exact hlt2);have qp:=kept (hqc 1 (by decide)) HB5.out;rw [hqe] at k1;clear hqc hqe;obtain⟨pv,hpv⟩:∃ v,q m j 1=v:=⟨_,rfl⟩;have HPV:=hid hpv;rw [hpv] at qp;clear hpv;by_cases hp1:pv=1
     ·subst hp1
      go_wp2;go_roundw
      case rel=>exact⟨j+1,by go_num,by omega,hid (zuk (P:=fun i=>q m i 1=1) HJ.out HPV.out),trivial⟩
      case measure=>simp [intOf];omega
     ·have t2:(pv != 1)=true:=by simpa using hp1
      go_wp2_with (go_at_call 8;refine (HLV.out _ HB5.out).mono ?_;rintro e wl ⟨rfl,bl⟩)
      go_ret;exact⟨rfl,HB5.out.trans (bl.mono HB5.out.size)⟩
    ·obtain rfl:j=QN:=by omega
     have t1:decide ((j:Int) < (j:Int))=false:=by simp
     go_wp2;go_roundw
     case rel=>exact⟨m+1,by go_num,by omega,hid (zuk (P:=fun k=>∀ i,i < (M k).qn→q k i 1=1) HP.out (fun i hi=>HJ.out i (by rw [HQN.out] at hi;exact hi))),trivial⟩
     case measure=>simp [intOf];omega
  ·obtain rfl:m=x.mn:=by omega
   have t0:decide ((x.mn:Int) < (x.mn:Int))=false:=by simp
   obtain⟨hC,hI⟩:=HCO.out HP.out;have HC:=hid hC;have HI:=hid (HCI c z hI);clear hC hI HCO HP HQ4;go_wp2;clear i2
   go_loopw [9,10] (fun s_ i_ wr=>∃ (i:Nat) (s:Int) (z:zbp),s_=.int .i64 s∧i_=.int .i64 i∧i≤ln∧Hid (zba c wr z)∧Hid (z.evs=[])∧Hid ((z.u.tot:Int)=s)∧Hid (Below w.heap.size w wr)) (fun _ i_ _=>ln - (intOf i_).toNat)
   case atStart=>exact⟨0,0,z,rfl,rfl,Nat.zero_le _,HI,HZE,hid (by rw [HZT.out];rfl),HB5⟩
   case round=>
    clear HI HZE HZT;obtain⟨i,s,z,rfl,rfl,hi,HI,HZE,HZS,HB⟩:=hrel;have hs64:0≤s∧s≤64:=by have:=tot64 HI.out.uok;have:=HZS.out;omega
    by_cases hlt:i < ln
    ·have t0:decide ((i:Int) < (ln:Int))=true:=by simp;omega
     have i0:(0:Int)≤(i:Int):=by omega
     have i1:(i:Int) < (ln:Int):=by omega
     obtain⟨b,o,hle,c0,c1,c2,c3⟩:=HOP.out.below HB.out i hlt;subst hle;generalize f i=op at c0 c1 c2 c3;obtain⟨ok,ot,on,oso,osn,osc⟩:=op;dsimp only at c0 c1 c2 c3;have bO:=(Below.refl wr.heap.size wr).alloc (Nat.le_refl _) (Obj.cells #[.int .i64 ok,.int .i64 ot,.int .i64 on,.slice oso osn osc] 76);have hO6:=heap_alloc_new wr (Obj.cells #[.int .i64 ok,.int .i64 ot,.int .i64 on,.slice oso osn osc] 76);have I6:=hid (HI.out.below bO);have B6:=hid (HB.out.trans (bO.mono HB.out.size));have HKD:=hid fun X=>zu6 ⟨ok,ot,on,oso,osn,osc⟩ X;have HTK:=hid fun X=>zp6 ⟨ok,ot,on,oso,osn,osc⟩ X;unfold opV at HKD HTK;dsimp only at HKD HTK;have hkd:=kindF_in ok;have htk:=zzc on;obtain⟨KD,hKD⟩:∃ k,zyk ok=k:=⟨_,rfl⟩;obtain⟨TK,hTK⟩:∃ k,zng on=k:=⟨_,rfl⟩;rw [hKD] at HKD hkd;rw [hTK] at HTK htk;clear hKD hTK bO;have e0:=zaa hO6 0;have e1:=zaa hO6 1;have e2:=zaa hO6 2;have e3:=zaa hO6 3
     go_upto_block 6 with (go_at_call 19;refine (HKD.out _).mono ?_;rintro e w7 ⟨rfl,b7⟩)
     have I7:=hid (I6.out.below b7);have B7:=hid (B6.out.trans (b7.mono B6.out.size));have O7:=hid (qBa b7 hO6);obtain⟨ob,hob⟩:∃ p,wr.heap.size=p:=⟨_,rfl⟩;rw [hob] at O7;rw [hob];clear hob b7 hO6 c0 c1 c2 c3 e0 e1 e2 e3 I6 B6 HI HB HKD
     go_cut [9] from 65 to 92 (fun s_ wc=>zmx c w s_ wc)
     have HTOT:=hid (show z.tot=s by unfold zbp.tot;rw [HZE.out,HZS.out];simp [drp]);have hl0:z.evs.length≤70000000:=by rw [HZE.out];simp
     have HL0:=hid (show z.evs.length=0 by rw [HZE.out];rfl)
     case first=>
      have o1:=zaa O7.out 1;have o2:=zaa O7.out 2;by_cases k5:KD=5
      ·subst k5
       have HAK:=hid (cask_any c HC.out z on w7 I7.out hl0)
       go_wp2_with (go_at_call 20;refine HAK.out.mono ?_;rintro e w8 ⟨⟨v8,rfl⟩,hp8⟩)
       have P8:Hid (zmx c w (.int .i64 s) w8):=by
        obtain⟨z8,I8,t8,l8,b8⟩:=hp8;exact⟨s,z8,rfl,I8,t8.trans HTOT.out,by have:=HL0.out;omega,B7.out.trans (b8.mono HCB.out)⟩
       go_meet
       case rel=>exact P8.out
      have e5:(KD == 5)=false:=by simpa using k5
      have hw1:wrap64 (s+1)=s+1:=by unfold wrap64;omega
      have HSD:=hid (zA7 c z ot on w7 I7.out);by_cases k4:KD=6∨KD=7∨KD=0∨KD=1
      ·rcases k4 with rfl|rfl|rfl|rfl
       ·go_upto_if 90 with (go_at_call 21;refine HSD.out.mono ?_;rintro e w8 ⟨code,u8',rfl,I8,t8,b8⟩)
        by_cases hc0:code=0
        ·have P8:Hid (zmx c w (.int .i64 (s+1)) w8):=by
          rw [if_pos hc0] at t8;exact⟨s+1,_,rfl,I8,by unfold zbp.tot;dsimp only;rw [HZE.out,t8];have:=HZS.out;simp [drp];omega,by have:=HL0.out;show z.evs.length≤_;omega,B7.out.trans (b8.mono HCB.out)⟩
         have tc:(code == 0)=true:=by simpa using hc0
         clear I8 t8;go_wp2;go_meet
         case rel=>first|exact P8.out|(rw [hw1];exact P8.out)
        ·have P8:Hid (zmx c w (.int .i64 s) w8):=by
          rw [if_neg hc0] at t8;exact⟨s,_,rfl,I8,by unfold zbp.tot;dsimp only;rw [HZE.out,t8];have:=HZS.out;simp [drp];omega,by have:=HL0.out;show z.evs.length≤_;omega,B7.out.trans (b8.mono HCB.out)⟩
         have tc:(code == 0)=false:=by simpa using hc0
         clear I8 t8;go_wp2;go_meet
         case rel=>exact P8.out
       ·go_upto_if 90 with (go_at_call 21;refine HSD.out.mono ?_;rintro e w8 ⟨code,u8',rfl,I8,t8,b8⟩)
        by_cases hc0:code=0
        ·have P8:Hid (zmx c w (.int .i64 (s+1)) w8):=by
          rw [if_pos hc0] at t8;exact⟨s+1,_,rfl,I8,by unfold zbp.tot;dsimp only;rw [HZE.out,t8];have:=HZS.out;simp [drp];omega,by have:=HL0.out;show z.evs.length≤_;omega,B7.out.trans (b8.mono HCB.out)⟩
         have tc:(code == 0)=true:=by simpa using hc0
         clear I8 t8;go_wp2;go_meet
         case rel=>first|exact P8.out|(rw [hw1];exact P8.out)
        ·have P8:Hid (zmx c w (.int .i64 s) w8):=by
          rw [if_neg hc0] at t8;exact⟨s,_,rfl,I8,by unfold zbp.tot;dsimp only;rw [HZE.out,t8];have:=HZS.out;simp [drp];omega,by have:=HL0.out;show z.evs.length≤_;omega,B7.out.trans (b8.mono HCB.out)⟩
         have tc:(code == 0)=false:=by simpa using hc0
         clear I8 t8;go_wp2;go_meet
         case rel=>exact P8.out
       ·go_upto_if 90 with (go_at_call 21;refine HSD.out.mono ?_;rintro e w8 ⟨code,u8',rfl,I8,t8,b8⟩)
        by_cases hc0:code=0
        ·have P8:Hid (zmx c w (.int .i64 (s+1)) w8):=by
          rw [if_pos hc0] at t8;exact⟨s+1,_,rfl,I8,by unfold zbp.tot;dsimp only;rw [HZE.out,t8];have:=HZS.out;simp [drp];omega,by have:=HL0.out;show z.evs.length≤_;omega,B7.out.trans (b8.mono HCB.out)⟩
         have tc:(code == 0)=true:=by simpa using hc0
         clear I8 t8;go_wp2;go_meet
         case rel=>first|exact P8.out|(rw [hw1];exact P8.out)
        ·have P8:Hid (zmx c w (.int .i64 s) w8):=by
          rw [if_neg hc0] at t8;exact⟨s,_,rfl,I8,by unfold zbp.tot;dsimp only;rw [HZE.out,t8];have:=HZS.out;simp [drp];omega,by have:=HL0.out;show z.evs.length≤_;omega,B7.out.trans (b8.mono HCB.out)⟩
         have tc:(code == 0)=false:=by simpa using hc0
         clear I8 t8;go_wp2;go_meet
         case rel=>exact P8.out
       ·go_upto_if 90 with (go_at_call 21;refine HSD.out.mono ?_;rintro e w8 ⟨code,u8',rfl,I8,t8,b8⟩)
        by_cases hc0:code=0
        ·have P8:Hid (zmx c w (.int .i64 (s+1)) w8):=by
          rw [if_pos hc0] at t8;exact⟨s+1,_,rfl,I8,by unfold zbp.tot;dsimp only;rw [HZE.out,t8];have:=HZS.out;simp [drp];omega,by have:=HL0.out;show z.evs.length≤_;omega,B7.out.trans (b8.mono HCB.out)⟩
         have tc:(code == 0)=true:=by simpa using hc0
         clear I8 t8;go_wp2;go_meet
         case rel=>first|exact P8.out|(rw [hw1];exact P8.out)
        ·have P8:Hid (zmx c w (.int .i64 s) w8):=by
          rw [if_neg hc0] at t8;exact⟨s,_,rfl,I8,by unfold zbp.tot;dsimp only;rw [HZE.out,t8];have:=HZS.out;simp [drp];omega,by have:=HL0.out;show z.evs.length≤_;omega,B7.out.trans (b8.mono HCB.out)⟩
         have tc:(code == 0)=false:=by simpa using hc0
         clear I8 t8;go_wp2;go_meet
         case rel=>exact P8.out
      have e6:(KD == 6)=false:=by simp;omega
      have e7:(KD == 7)=false:=by simp;omega
      have e0:(KD == 0)=false:=by simp;omega
      have e1:(KD == 1)=false:=by simp;omega
      clear k5 k4 hkd HSD;go_wp2;clear o1 o2
      go_loopw [12] (fun n_ wt=>∃ (n:Nat) (z2:zbp),n_=.int .i64 n∧(n:Int)≤TK∧Hid (zba c wt z2)∧Hid (z2.tot=s)∧Hid (z2.evs.length≤2000 * n)∧Hid (FT CoT c.d.base w7 wt)) (fun n_ _=>(TK - intOf n_).toNat)
      case atStart=>exact⟨0,z,rfl,by simp;omega,I7,HTOT,hid (by rw [HL0.out];omega),FT.refl _ _ _⟩
      case round=>
       obtain⟨n,z2,rfl,hn,I2,T2,L2,F2⟩:=hrel;have O8:=F2.out.blk O7.out not_CoT;have q0:=zaa O8 0;have q1:=zaa O8 1;have q2:=zaa O8 2;have q3:=zaa O8 3;by_cases hlt:(n:Int) < TK
       ·have t9:decide ((n:Int) < TK)=true:=by simpa using hlt
        have HST:=hid fun X (hX:zba c X z2)=>zA6 c HC.out z2 X hX (by have:=L2.out;omega)
        go_wp2_with (first|(go_at_call 22;refine (HTK.out _).mono ?_;rintro e w8 ⟨rfl,b8⟩;have I8:=I2.out.below b8)|(go_at_call 23;refine (HST.out _ I8).mono ?_;rintro e w9 ⟨⟨v9,rfl⟩,⟨z9,I9,t9',l9,b9⟩,f9⟩))
        go_roundw
        case rel=>exact⟨n+1,z9,by go_num,by omega,I9,hid (t9'.trans T2.out),hid (by have:=L2.out;omega),hid ((F2.out.then_below b8).trans f9)⟩
        case measure=>simp [intOf];omega
       ·have t9:decide ((n:Int) < TK)=false:=by simpa using hlt
        go_wp2_with (go_at_call 22;refine (HTK.out _).mono ?_;rintro e w8 ⟨rfl,b8⟩)
        have P8:Hid (zmx c w (.int .i64 s) w8):=⟨s,z2,rfl,I2.out.below b8,T2.out,by have:=L2.out;omega,B7.out.trans (((F2.out.then_below b8).below I7.out.low).mono HCB.out)⟩;go_meet
        case rel=>exact P8.out
     obtain⟨s2,z2,rfl,I2,T2,L2,B2⟩:=hcut;have hdw:wrap64 (s2 - wrap64 (drp z2.evs))=(z2.u.tot:Int):=by
      have h1:=T2;unfold zbp.tot at h1;have h2:=tot64 I2.uok;unfold wrap64;omega
     have HDR:=hid (zts c z2 wc I2 (by omega));have HTH:=hid fun X (hX:zba c X { z2 with evs:=[] })=>zzd c { z2 with evs:=[] } X hX;dsimp only at HTH;obtain⟨D,hD⟩:∃ d,wrap64 (drp z2.evs)=d:=⟨_,rfl⟩;rw [hD] at hdw HDR;obtain⟨U,hU⟩:∃ d,z2.u.tot=d:=⟨_,rfl⟩;rw [hU] at hdw HTH;have HU:=hid hU;have BW:=hid B2;clear hD hU T2 L2 B2 I2 hs64
     go_wp2_with (first|(go_at_call 24;refine HDR.out.mono ?_;rintro e w3 ⟨rfl,I3,b3⟩;have J3:=hid I3;clear I3)|(go_at_call 25;refine (HTH.out _ J3.out).mono ?_;rintro e w4 ⟨rfl,b4⟩))
     go_roundw
     case rel=>exact⟨i+1,(U:Int),{ z2 with evs:=[] },by first|rfl|rw [hdw],by go_num,by omega,hid (J3.out.below b4),hid rfl,hid (by show ((z2.u.tot:Nat):Int)=_;rw [HU.out]),hid ((BW.out.trans (b3.mono HCB.out)).trans (b4.mono (BW.out.trans (b3.mono HCB.out)).size))⟩
     case measure=>simp [intOf];omega
    ·obtain rfl:i=ln:=by omega
     have t0:decide ((i:Int) < (i:Int))=false:=by simp
     go_wp2_with (go_at_call 8;refine (HLV.out _ HB.out).mono ?_;rintro e wl ⟨rfl,bl⟩)
     go_ret;exact⟨rfl,HB.out.trans (bl.mono HB.out.size)⟩
end Go.Proofs.YtpbmmoneeoijaaaGreatDoor
