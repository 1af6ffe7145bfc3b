/-
  A part of the proof: RefPrint.
-/
import Derived.Test.YtpbmmoneeoijaaaGreatDoorP18
namespace Go.Proofs.YtpbmmoneeoijaaaGreatDoor
open Go.RowKit Go.Deep Go.Shelf
set_option maxRecDepth 100000
set_option maxHeartbeats 8000000
attribute [local go_sem] zaq
set_option maxRecDepth 100000
theorem ztv (x:Img) (g:Nat→Nat→Int) (M:Nat→zas) (q:Nat→Nat→Nat→Int) (h:Nat→Nat→Int) (w:World) (hx:zdr w x g M q h) (hv:OkX x g M q h) (hh:∀ i,i < x.en→∀ j,3≤j→j < 23→0≤h i j∧h i j < 2147483648):
  Calls Tryz.prog 33 #[iv x] w fun e w'=>e=.returned (.string (bs (zat (imgD x g M q h))))∧Below w.heap.size w w':=by
 obtain⟨T,hT⟩:∃ T,zat (imgD x g M q h)=T:=⟨_,rfl⟩;have HTT:=hid hT;rw [hT];clear hT;have HX:=hid hx;have HV:=hid hv;have HH:=hid hh;have HT:=hid fun (z:Int) (X:World) (h0:0≤z) (h1:z < 2147483648)=>zx7 z X h0 h1;have r0:=hv.r1;have r8:=hv.r2;have hn16:=hv.n2;have hm8:=hv.m2;have he24:=hv.e;clear hx hv hh;obtain⟨r,ao,n,cap,mo,mn,mc,eo,en,ec⟩:=x;unfold iv;dsimp only at r0 r8 hn16 hm8 he24;have hb1:Below w.heap.size w (w.alloc (qC #[qI r,.slice ao n cap,.slice mo mn mc,.slice eo en ec] 26)):=qBr _;have bI:=heap_alloc_new w (qC #[qI r,.slice ao n cap,.slice mo mn mc,.slice eo en ec] 26);have c0:=zaa bI 0;have lr:(tk r).length≤10:=zbx _;obtain⟨C1,⟨h1,g1⟩,e1⟩:=adds (a:=⟨#[114,101,115,32]⟩) (b:=bs (tk r)) (show (⟨#[114,101,115,32]⟩:ByteArray)=bs [114,101,115,32] from rfl) rfl (by simp;omega);obtain⟨C2,⟨h2,g2⟩,e2⟩:=adds (a:=C1) (b:=⟨#[10]⟩) e1 (show (⟨#[10]⟩:ByteArray)=bs [10] from rfl) (by simp;omega);have HE:=hid (show C2=bs (zat [resD r]) by rw [e2];congr 1;simp [zat,lnB,zd0,zau,zb8.ps,resD,wRes]);have HL:=hid (zbc [resD r]);clear e1 e2 lr;go_enter Tryz.func33,Tryz.ntmps33
 go_upto_region 2 with (go_at_call 83;refine (HT.out _ _ (by omega) (by omega)).mono ?_;rintro e w2 ⟨rfl,hb2⟩)
 have HB0:=hid (hb1.trans (hb2.mono hb1.size));have bJ:=(hb2.block w.heap.size (by simp)).trans bI;have j1:=zaa bJ 1;have j2:=zaa bJ 2;have j3:=zaa bJ 3;obtain⟨W1,hW1⟩:∃ W,W=w2:=⟨_,rfl⟩;rw [←hW1] at HB0 j1 j2 j3 ⊢;clear hW1 hb2 bJ hb1 bI c0;go_wp2
 go_loopw [3,4] (fun s_ i_ wr=>∃ (i:Nat) (S:ByteArray),i≤n∧i_=qI i∧s_=.string S∧Hid (S=bs (zat ([resD r] ++ zc0 g i)))∧Hid (Below W1.heap.size W1 wr)) (fun _ i_ _=>n - (intOf i_).toNat)
 case atStart=>exact⟨0,_,by omega,by go_num,rfl,HE,Below.refl _ _⟩
 case round=>
  clear HE HL;obtain⟨i,S,hi,rfl,rfl,HS,HB⟩:=hrel;have y1:=kept j1 HB.out;by_cases hlt:i < n
  ·have t0:decide ((i:Int) < (n:Int))=true:=by simp;omega
   obtain⟨b,o,rfl,_⟩:=HX.out.tasks i hlt;obtain⟨⟨d0,d1,d2,d3⟩,⟨d4,d5,d6,d7⟩,d8,d9,d10⟩:=((HX.out.tasks.below HB0.out).below HB.out).at_ hlt;have hOT:=HV.out.tasks i hlt;have i0:(0:Int)≤(i:Int):=by omega
   have i1:(i:Int) < (n:Int):=by omega
   go_upto_region 6 with fail
   have bB:=heap_alloc_new wr (zaj (g i));have hB1:=HB.out.alloc HB.out.size (zaj (g i));unfold zaj at bB hB1;obtain⟨W2,hW2⟩:∃ X,X=(wr.alloc (qC (qF11 (g i)) 165)):=⟨_,rfl⟩;rw [←hW2] at bB hB1 ⊢;have HB2:=hid hB1;have q0:=Cls.cell (zaa bB 0);have q1:=Cls.cell (zaa bB 1);have q2:=Cls.cell (zaa bB 2);have HP:=hid fun (X:Cls W2)=>zx0 wr.heap.size 3 8 8 (fun j=>g i (3+j)) 58 ⟨#[58]⟩ X.wd rfl (by omega) (fun j hj=>by have:=hOT.l j hj;have:=hOT.c2;have:=hOT.d2;have:=hOT.p2;omega) (fun j hj=>Cls.cell (show W2.cell? ⟨wr.heap.size,3+j,none⟩=some (qI (g i (3+j))) by
    rw [zaa bB];rcases j with _|_|_|_|_|_|_|_|j
    all_goals first|rfl|omega) X)
   have hp1:=hOT.p1;have hp2:=hOT.p2;have hd1:=hOT.d1;have hd2:=hOT.d2;have hc1:=hOT.c1;have hc2:=hOT.c2;have l0:=zbk (g i 0);have l1:=zbk (g i 1);have l2:=zbk (g i 2);have l3:(zau (zbl 58 (fun j=>g i (3+j)) 8)).length≤176:=zgb 58 _ (by omega);have l4:=zbc ([resD r] ++ zc0 g i);have l5:([resD r] ++ zc0 g i).length=i+1:=by simp [zc0]
   rw [l5] at l4;have HEQ:=hid (show zat ([resD r] ++ zc0 g (i+1))=zat ([resD r] ++ zc0 g i) ++ lnB (zfz (g i)) by rw [zh3,←List.append_assoc,zew];rfl);have HSB:=HS.out;obtain⟨sl,hsl⟩:∃ l,zat ([resD r] ++ zc0 g i)=l:=⟨_,rfl⟩;rw [hsl] at HEQ HSB l4;clear h1 h2 g1 g2 hW2 d0 d1 d2 d3 d4 d5 d6 d7 d8 d9 d10 bB hB1 hOT;obtain⟨C1,⟨h1,g1⟩,e1⟩:=adds (a:=⟨#[116,97,115,107,32]⟩) (b:=bs (tk (g i 0))) (show (⟨#[116,97,115,107,32]⟩:ByteArray)=bs [116,97,115,107,32] from rfl) rfl (by simp;omega);obtain⟨C2,⟨h2,g2⟩,e2⟩:=adds (a:=C1) (b:=⟨#[32]⟩) e1 (show (⟨#[32]⟩:ByteArray)=bs [32] from rfl) (by simp;omega);obtain⟨C3,⟨h3,g3⟩,e3⟩:=adds (a:=C2) (b:=bs (tk (g i 1))) e2 rfl (by simp;omega);obtain⟨C4,⟨h4,g4⟩,e4⟩:=adds (a:=C3) (b:=⟨#[32]⟩) e3 (show (⟨#[32]⟩:ByteArray)=bs [32] from rfl) (by simp;omega);obtain⟨C5,⟨h5,g5⟩,e5⟩:=adds (a:=C4) (b:=bs (tk (g i 2))) e4 rfl (by simp;omega);obtain⟨C6,⟨h6,g6⟩,e6⟩:=adds (a:=C5) (b:=bs (zau (zbl 58 (fun j=>g i (3+j)) 8))) e5 rfl (by simp;omega);obtain⟨C7,⟨h7,g7⟩,e7⟩:=adds (a:=C6) (b:=⟨#[10]⟩) e6 (show (⟨#[10]⟩:ByteArray)=bs [10] from rfl) (by simp;omega);obtain⟨C8,⟨h8,g8⟩,e8⟩:=adds (a:=S) (b:=C7) HSB e7 (by simp;omega);have HE:=hid (show C8=bs (zat ([resD r] ++ zc0 g (i+1))) by rw [HEQ.out,e8];congr 1;simp [lnB,zd0,zfz,zau,zrm]);clear e1 e2 e3 e4 e5 e6 e7 e8 l0 l1 l2 l3 l4 l5 HSB;refine zag (by kernel_rfl) (by kernel_rfl) ?_
   repeat (go_big_quiet_step ((first|(go_at_call 83;exact Calls.cls _ (HT.out _ _ (by omega) (by omega)))|(go_at_call 84;exact Calls.cls _ (HP.out _)))))
   refine wpQuiet_nil ?_;intro _ hw';obtain⟨nq,rfl⟩:=hw';have HB3:=hid (HB2.out.trans (nq.below.mono HB2.out.size));clear HEQ HP HB2 q0 q1 q2 HS HB;go_wp2;go_roundw
   case rel=>exact⟨i+1,_,by omega,by go_num,rfl,HE,HB3⟩
   case measure=>simp [intOf];omega
  ·obtain rfl:n=i:=by omega
   have t0:decide ((n:Int) < (n:Int))=false:=by simp
   have l5:([resD r] ++ zc0 g n).length=n+1:=by simp [zc0]
   have HTU:=hid (show zat (([resD r] ++ zc0 g n) ++ za3 M q mn ++ zdb h en)=T from HTT.out);obtain⟨P1,hP1⟩:∃ l,[resD r] ++ zc0 g n=l:=⟨_,rfl⟩;rw [hP1] at HS l5 HTU;have HS0:=hid (show S=bs (zat (P1 ++ za3 M q 0)) by rw [HS.out];simp [za3]);clear hP1 HTT HS h1 g1 h2 g2;go_wp2
   go_loopw [3,6] (fun s_ i_ wr=>∃ (k:Nat) (S:ByteArray),k≤mn∧i_=qI k∧s_=.string S∧Hid (S=bs (zat (P1 ++ za3 M q k)))∧Hid ((za3 M q k).length≤5 * k)∧Hid (Below W1.heap.size W1 wr)) (fun _ i_ _=>mn - (intOf i_).toNat)
   case atStart=>exact⟨0,_,by omega,by go_num,rfl,HS0,by unfold Hid;simp [za3],HB⟩
   case round=>
    clear HS0 HB;obtain⟨k,S,hk,rfl,rfl,HS,HML,HB⟩:=hrel;have y2:=kept j2 HB.out;by_cases hlt:k < mn
    ·have t1:decide ((k:Int) < (mn:Int))=true:=by simp;omega
     obtain⟨b,o,rfl,m0,m1⟩:=((HX.out.modes.below HB0.out).below HB.out) k hlt;have k0:(0:Int)≤(k:Int):=by omega
     have k1:(k:Int) < (mn:Int):=by omega
     have HQA:=hid ((HX.out.queues k hlt).below HB0.out);have HQO:=hid (HV.out.mq k hlt);have HTB:=HX.out.tb k hlt;have HMS:=hid (show zat (P1 ++ za3 M q (k+1))=zat (P1 ++ za3 M q k) ++ (lnB (zdz (M k).t) ++ zat (za8 (q k) (M k).qn)) by rw [zc8,←List.append_assoc,zlh,zmw,zkr];rfl);have HMN:=hid (show (za3 M q (k+1)).length=(za3 M q k).length+(1+(M k).qn) by rw [zc8,List.length_append,zmw];simp [za8];omega);have l4:=zbc (P1 ++ za3 M q k);rw [List.length_append,l5] at l4;have l4':(zat (P1 ++ za3 M q k)).length≤41439:=by have:=HML.out;omega
     clear l4;have HSB:=HS.out;obtain⟨sl,hsl⟩:∃ l,zat (P1 ++ za3 M q k)=l:=⟨_,rfl⟩;rw [hsl] at HMS HSB l4';obtain⟨C1,⟨h1,g1⟩,e1⟩:=adds (a:=S) (b:=⟨#[109,111,100,101]⟩) HSB (show (⟨#[109,111,100,101]⟩:ByteArray)=bs zff from rfl) (by simp [zff];omega);have HE0:=hid (show C1=bs (sl ++ (zff ++ zau (bitP (M k).t 0))) by rw [e1];simp [bitP,zau]);generalize M k=mk at m0 m1 HQA HQO HTB HMS HMN HE0;obtain⟨t,qo,qn,qc⟩:=mk;dsimp only at m0 m1 HQA HQO HTB HMS HMN HE0;clear e1 hsl HSB HS
     go_upto_region 11 with fail
     obtain⟨W2,hW2⟩:∃ X,X=wr:=⟨_,rfl⟩;rw [←hW2] at HB m0 m1 y2 ⊢;have HB2:=HB;clear hW2 HB h1 g1;go_wp2
     go_loopw [3,7] (fun s_ i_ wq=>∃ (j:Nat) (S:ByteArray),j≤32∧i_=qI j∧s_=.string S∧Hid (S=bs (sl ++ (zff ++ zau (bitP t j))))∧Hid (Below W2.heap.size W2 wq)) (fun _ i_ _=>32 - (intOf i_).toNat)
     case atStart=>exact⟨0,_,by omega,by go_num,rfl,HE0,Below.refl _ _⟩
     case round=>
      clear HE0;obtain⟨j,S,hj,rfl,rfl,HS,HB⟩:=hrel;by_cases hlt:j < 32
      ·have t2:decide ((j:Int) < 32)=true:=by simp;omega
       have y0:=kept m0 HB.out;have y3:=kept y2 HB.out;have k2:(0:Int)≤(j:Int):=by omega
       have HBS:=hid (zki t j);have l1:=(zeu t j).1;have l2:=zcp (zeu t j).2;have l3:(zau (bitP t j)).length≤352:=by have:=Nat.mul_le_mul_right 11 l1;omega
       have HHA:=hid fun X=>(show Calls Tryz.prog 85 #[qU t,qI j] X fun e w'=>e=.returned (.bool (hasN t (j:Int)))∧w'=X by have:=zuf t j (by unfold maxLen;omega) X;rwa [show (decide (j < 32) && t.testBit j)=hasN t (j:Int) by unfold hasN;rw [Int.toNat_natCast];congr 1;simp;omega] at this)
       cases hh:hasN t (j:Int)
       ·rw [hh] at HHA
        have HN:=hid (show bitP t (j+1)=bitP t j by rw [HBS.out,hh];simp);clear l1 l2 l3 HBS
        go_wp2_with (go_at_call 85;refine (HHA.out _).mono ?_;rintro e w2 ⟨rfl,rfl⟩)
        go_roundw
        case rel=>exact⟨j+1,S,by omega,by go_num,rfl,by unfold Hid;rw [HN.out];exact HS.out,HB⟩
        case measure=>simp [intOf];omega
       ·rw [hh] at HHA
        have HN:=hid (show zau (bitP t (j+1))=zau (bitP t j) ++ (32 :: tk (j:Int)) by rw [HBS.out,hh,if_pos rfl,zdg];simp [zau,tk]);have HSB:=HS.out;have l4:=zbk (j:Int);obtain⟨D1,⟨h1,g1⟩,e1⟩:=adds (a:=⟨#[32]⟩) (b:=bs (tk (j:Int))) (show (⟨#[32]⟩:ByteArray)=bs [32] from rfl) rfl (by simp;omega);obtain⟨D2,⟨h2,g2⟩,e2⟩:=adds (a:=S) (b:=D1) HSB e1 (by simp [zff];omega);have HE:=hid (show D2=bs (sl ++ (zff ++ zau (bitP t (j+1)))) by rw [HN.out,e2];simp);clear l1 l2 l3 l4 HBS e1 e2 HSB HS
        go_wp2_with (first|(go_at_call 85;refine (HHA.out _).mono ?_;rintro e w2 ⟨rfl,rfl⟩)|(go_at_call 83;refine (HT.out _ _ (by omega) (by omega)).mono ?_;rintro e w2 ⟨rfl,hb2⟩;replace HB:=hid (HB.out.trans (hb2.mono HB.out.size));clear hb2))
        go_roundw
        case rel=>exact⟨j+1,D2,by omega,by go_num,rfl,HE,HB⟩
        case measure=>simp [intOf];omega
      ·have hj2:j=32:=by omega
       rw [hj2] at HS;have hj3:(j:Int)=32:=by omega
       rw [hj3];clear hj3 hj2 hj hlt;have l1:=(zeu t 32).1;have l2:=zcp (zeu t 32).2;have l3:(zau (bitP t 32)).length≤352:=by have:=Nat.mul_le_mul_right 11 l1;omega
       have HSB:=HS.out;obtain⟨D1,⟨h1,g1⟩,e1⟩:=adds (a:=S) (b:=⟨#[10]⟩) HSB (show (⟨#[10]⟩:ByteArray)=bs [10] from rfl) (by simp [zff];omega);have HE:=hid (show D1=bs (sl ++ (lnB (zdz t) ++ zat (za8 (q k) 0))) by rw [e1];congr 1;simp [lnB,zdz,zd0,za8,zat]);have hq4:=HQO.out.1;clear l1 l2 l3 e1 HSB HS;go_wp2
       go_loopw [3,8] (fun s_ i_ wq=>∃ (j:Nat) (S:ByteArray),j≤qn∧i_=qI j∧s_=.string S∧Hid (S=bs (sl ++ (lnB (zdz t) ++ zat (za8 (q k) j))))∧Hid (Below W2.heap.size W2 wq)) (fun _ i_ _=>qn - (intOf i_).toNat)
       case atStart=>exact⟨0,_,by omega,by go_num,rfl,HE,HB⟩
       case round=>
        clear HE HB h1 g1;obtain⟨j,S,hj,rfl,rfl,HS,HB⟩:=hrel;have y1:=kept m1 HB.out;have y3:=kept y2 HB.out;by_cases hlt:j < qn
        ·have t2:decide ((j:Int) < (qn:Int))=true:=by simp;omega
         obtain⟨b2,o2,rfl,hc⟩:=((HQA.out.below HB2.out).below HB.out) j hlt;have n0:=hc 0 (by decide);have n1:=hc 1 (by decide);rw [Nat.add_zero] at n0;have hOQ:=HQO.out.2 j hlt;have hqc1:=hOQ.c1;have hqc2:=hOQ.c2;have hqp1:=hOQ.p1;have hqp2:=hOQ.p2;have k2:(0:Int)≤(j:Int):=by omega
         have k3:(j:Int) < (qn:Int):=by omega
         have HQS:=hid (show zat (za8 (q k) (j+1))=zat (za8 (q k) j) ++ lnB (zdd (q k j)) by rw [zfq,zew];rfl);have HQP:=hid (show zdd (q k j)=[zg9,tk (q k j 0),polW (q k j 1)] from rfl);clear hc hOQ;generalize q k j 0=u at n0 hqc1 hqc2 HQP;generalize q k j 1=v at n1 hqp1 hqp2 HQP;have l1:=zbk u;have l2:=zr3 v;have l3:=zbc (za8 (q k) j);have l6:(za8 (q k) j).length=j:=by simp [za8]
         have l7:=zyp ⟨2,fun _=>0,t⟩;have l8:zb8.ps ⟨2,fun _=>0,t⟩=zdz t:=rfl;rw [l6] at l3;rw [l8] at l7;have HSB:=HS.out;obtain⟨D1,⟨h1,g1⟩,e1⟩:=adds (a:=⟨#[113,117,101,117,101,32]⟩) (b:=bs (tk u)) (show (⟨#[113,117,101,117,101,32]⟩:ByteArray)=bs [113,117,101,117,101,32] from rfl) rfl (by simp;omega);obtain⟨D2,⟨h2,g2⟩,e2⟩:=adds (a:=D1) (b:=⟨#[32]⟩) e1 (show (⟨#[32]⟩:ByteArray)=bs [32] from rfl) (by simp;omega);obtain⟨D3,⟨h3,g3⟩,e3⟩:=adds (a:=D2) (b:=bs (polW v)) e2 rfl (by simp;omega);obtain⟨D4,⟨h4,g4⟩,e4⟩:=adds (a:=D3) (b:=⟨#[10]⟩) e3 (show (⟨#[10]⟩:ByteArray)=bs [10] from rfl) (by simp;omega);obtain⟨D5,⟨h5,g5⟩,e5⟩:=adds (a:=S) (b:=D4) HSB e4 (by simp;omega);have HE:=hid (show D5=bs (sl ++ (lnB (zdz t) ++ zat (za8 (q k) (j+1)))) by rw [HQS.out,HQP.out,e5];congr 1;simp [lnB,zd0,zau,zg9]);have bB:=heap_alloc_new wr (qC #[qI u,qI v] 74);have hB1:=HB.out.alloc HB.out.size (qC #[qI u,qI v] 74);clear l1 l2 l3 l6 l7 l8 e1 e2 e3 e4 e5 HSB HS HQS HQP
         go_upto_region 21 with fail
         obtain⟨W3,hW3⟩:∃ X,X=(wr.alloc (qC #[qI u,qI v] 74)):=⟨_,rfl⟩;rw [←hW3] at bB hB1 ⊢;have HB3:=hid hB1;have q0:=Cls.cell (zaa bB 0);have q1:=Cls.cell (zaa bB 1);have HPO:=hid fun (X:Cls W3)=>zrz v X.wd hqp1 hqp2;clear hW3 bB hB1 HB n0 n1;refine zag (by kernel_rfl) (by kernel_rfl) ?_
         repeat (go_big_quiet_step ((first|(go_at_call 83;exact Calls.cls _ (HT.out _ _ (by omega) (by omega)))|(go_at_call 86;exact Calls.cls _ (HPO.out _)))))
         refine wpQuiet_nil ?_;intro _ hw';obtain⟨nq,rfl⟩:=hw';have HB4:=hid (HB3.out.trans (nq.below.mono HB3.out.size));clear HPO HB3 q0 q1;go_wp2;go_roundw
         case rel=>exact⟨j+1,_,by omega,by go_num,rfl,HE,HB4⟩
         case measure=>simp [intOf];omega
        ·have hjq:j=qn:=by omega
         rw [hjq] at HS ⊢;have t2:decide ((qn:Int) < (qn:Int))=false:=by simp
         go_wp2;go_roundw
         case rel=>exact⟨k+1,S,by omega,by go_num,rfl,by unfold Hid;rw [HMS.out];exact HS.out,by have:=HMN.out;have:=HML.out;unfold Hid;omega,HB2.out.trans (HB.out.mono HB2.out.size)⟩
         case measure=>simp [intOf];omega
    ·obtain rfl:mn=k:=by omega
     have t1:decide ((mn:Int) < (mn:Int))=false:=by simp
     have l6:(P1 ++ za3 M q mn).length≤57:=by have:=HML.out;rw [List.length_append,l5];omega
     obtain⟨P2,hP2⟩:∃ l,P1 ++ za3 M q mn=l:=⟨_,rfl⟩;rw [hP2] at HS l6 HTU;have HS0:=hid (show S=bs (zat (P2 ++ zdb h 0)) by rw [HS.out];simp [zdb]);clear hP2 HS HML l5 j2 j1;go_wp2
     go_loopw [3,10] (fun s_ i_ wr=>∃ (i:Nat) (S:ByteArray),i≤en∧i_=qI i∧s_=.string S∧Hid (S=bs (zat (P2 ++ zdb h i)))∧Hid (Below W1.heap.size W1 wr)) (fun _ i_ _=>en - (intOf i_).toNat)
     case atStart=>exact⟨0,_,by omega,by go_num,rfl,HS0,HB⟩
     case round=>
      clear HS0 HB;obtain⟨i,S,hi,rfl,rfl,HS,HB⟩:=hrel;have y3:=kept j3 HB.out;by_cases hlt:i < en
      ·have t1:decide ((i:Int) < (en:Int))=true:=by simp;omega
       obtain⟨b,o,rfl,hc⟩:=((HX.out.edges.below HB0.out).below HB.out) i hlt;have hr1:=zce hc;have i0:(0:Int)≤(i:Int):=by omega
       have i1:(i:Int) < (en:Int):=by omega
       go_upto_region 25 with fail
       refine wp_region_lit ?_;refine wpList_plain rfl fun K hK=>?_;go_simp;refine hK _ _ ?_;clear hK K;refine wpList_plain rfl fun K hK=>?_;go_simp;refine hK _ _ ?_;clear hK K;refine wpList_plain rfl fun K hK=>?_;go_simp;refine hK _ _ ?_;clear hK K;refine wpList_plain rfl fun K hK=>?_;go_simp;refine hK _ _ ?_;clear hK K;refine wpList_load_mid rfl 176 _ rfl b (o+i * 23) rfl (zbf (h i)) _ hr1 Tryz.underlying176 rfl (za4 _) ?_;refine wpList_plain rfl fun K hK=>?_;go_simp;refine hK _ _ ?_;clear hK K;refine wpList_store_mid rfl 176 _ _ rfl wr.heap.size 0 (zbf (h i)).toArray rfl rfl (zdh wr (h i)) (by simpa using za4 (h i)) (zfb _) ?_;have hbx:=zg1 wr (h i);unfold zd6 at hbx;obtain⟨W2,hW2⟩:∃ X,X=((wr.alloc zd6).setCells wr.heap.size 0 (zbf (h i)).toArray.toList):=⟨_,rfl⟩;unfold zd6 at hW2;rw [←hW2] at hbx;show Exit.then _ _ _ _ _
       rw [←hW2];clear hW2 hr1 hc;go_simp;have q0:=Cls.cell (hbx.cell 0 (by decide));have q1:=Cls.cell (hbx.cell 1 (by decide));have q2:=Cls.cell (hbx.cell 2 (by decide));have HB2:=hid (HB.out.trans (hbx.below.mono HB.out.size));have HP:=hid fun (X:Cls W2) (of k:Nat) (sg:UInt8) (h3:3≤of) (hk:k≤16) (h23:of+k≤23)=>zx0 wr.heap.size of k k (fun j=>h i (of+j)) sg ⟨#[sg]⟩ X.wd rfl hk (fun j hj=>HH.out i hlt (of+j) (by omega) (by omega)) (fun j hj=>Cls.cell (hbx.cell (of+j) (by omega)) X);have hOE:=HV.out.edges i hlt;have f1:=hOE.f1;have f2:=hOE.f2;have f3:=hOE.t1;have f4:=hOE.t2;have f5:=hOE.p1;have f6:=hOE.p2;dsimp only at f2 f4;have HPO:=hid fun (X:Cls W2)=>zog (h i 2) X.wd f5 f6;have l0:=zbk (h i 0);have l1:=zbk (h i 1);have l2:=zoj (h i 2);have l3:(zau (zbl 62 (fun j=>h i (19+j)) 4)).length≤88:=zgb 62 _ (by omega);have l4:(zau (zbl 58 (fun j=>h i (3+j)) 16)).length≤352:=zgb 58 _ (by omega);have l7:=zbc (P2 ++ zdb h i);have l8:(zdb h i).length=i:=by simp [zdb]
       rw [List.length_append,l8] at l7;have HEQ:=hid (show zat (P2 ++ zdb h (i+1))=zat (P2 ++ zdb h i) ++ lnB (zfj (h i)) by rw [zid,←List.append_assoc,zew];rfl);have HSB:=HS.out;obtain⟨sl,hsl⟩:∃ l,zat (P2 ++ zdb h i)=l:=⟨_,rfl⟩;rw [hsl] at HEQ HSB l7;clear hbx hOE;obtain⟨C1,⟨h1,g1⟩,e1⟩:=adds (a:=⟨#[101,100,103,101,32]⟩) (b:=bs (tk (h i 0))) (show (⟨#[101,100,103,101,32]⟩:ByteArray)=bs [101,100,103,101,32] from rfl) rfl (by simp;omega);obtain⟨C2,⟨h2,g2⟩,e2⟩:=adds (a:=C1) (b:=⟨#[32]⟩) e1 (show (⟨#[32]⟩:ByteArray)=bs [32] from rfl) (by simp;omega);obtain⟨C3,⟨h3,g3⟩,e3⟩:=adds (a:=C2) (b:=bs (tk (h i 1))) e2 rfl (by simp;omega);obtain⟨C4,⟨h4,g4⟩,e4⟩:=adds (a:=C3) (b:=⟨#[32]⟩) e3 (show (⟨#[32]⟩:ByteArray)=bs [32] from rfl) (by simp;omega);obtain⟨C5,⟨h5,g5⟩,e5⟩:=adds (a:=C4) (b:=bs (zgr (h i 2))) e4 rfl (by simp;omega);obtain⟨C6,⟨h6,g6⟩,e6⟩:=adds (a:=C5) (b:=bs (zau (zbl 62 (fun j=>h i (19+j)) 4))) e5 rfl (by simp;omega);obtain⟨C7,⟨h7,g7⟩,e7⟩:=adds (a:=C6) (b:=bs (zau (zbl 58 (fun j=>h i (3+j)) 16))) e6 rfl (by simp;omega);obtain⟨C8,⟨h8,g8⟩,e8⟩:=adds (a:=C7) (b:=⟨#[10]⟩) e7 (show (⟨#[10]⟩:ByteArray)=bs [10] from rfl) (by simp;omega);obtain⟨C9,⟨h9,g9⟩,e9⟩:=adds (a:=S) (b:=C8) HSB e8 (by simp;omega);have HE:=hid (show C9=bs (zat (P2 ++ zdb h (i+1))) by rw [HEQ.out,e9];congr 1;simp [lnB,zd0,zfj,zau,zmu]);clear e1 e2 e3 e4 e5 e6 e7 e8 e9 l0 l1 l2 l3 l4 l7 l8 HSB HEQ
       go_upto_region 26 with fail
       refine zag (by kernel_rfl) (by kernel_rfl) ?_
       repeat (go_big_quiet_step ((first|(go_at_call 83;exact Calls.cls _ (HT.out _ _ (by omega) (by omega)))|(go_at_call 84;exact Calls.cls _ (HP.out _ _ _ _ (by omega) (by omega) (by omega)))|(go_at_call 87;exact Calls.cls _ (HPO.out _)))))
       refine wpQuiet_nil ?_;intro _ hw';obtain⟨nq,rfl⟩:=hw';have HB3:=hid (HB2.out.trans (nq.below.mono HB2.out.size));clear HPO HP HB2 q0 q1 q2 HS HB;go_wp2;go_roundw
       case rel=>exact⟨i+1,_,by omega,by go_num,rfl,HE,HB3⟩
       case measure=>simp [intOf];omega
      ·have hie:i=en:=by omega
       rw [hie] at HS ⊢;have t1:decide ((en:Int) < (en:Int))=false:=by simp
       go_wp2;go_ret;exact⟨by rw [HS.out,HTU.out];rfl,HB0.out.trans (HB.out.mono HB0.out.size)⟩
end Go.Proofs.YtpbmmoneeoijaaaGreatDoor
