/-
  A part of the proof: PrintV ReaderMode.
-/
import Derived.Test.YtpbmmoneeoijaaaGreatDoorP17
namespace Go.Proofs.YtpbmmoneeoijaaaGreatDoor
open Go.RowKit Go.Deep Go.Shelf
set_option maxRecDepth 100000
set_option maxHeartbeats 8000000
attribute [local go_sem] zaq
set_option maxRecDepth 100000
theorem zEn {t j:Nat} (ht:t < 4294967296) (hj:j < 32):(bits .and .u32 ((t:Int) / 2 ^ j) 1 == 1)=hasN t (j:Int):=by
 have e1:(t:Int) / 2 ^ j=((t / 2 ^ j:Nat):Int):=by simp
 have hlt:t / 2 ^ j < 4294967296:=Nat.lt_of_le_of_lt (Nat.div_le_self _ _) ht;have e2:=zsy hlt (show 1 < 4294967296 by decide);rw [e1,show (1:Int)=((1:Nat):Int) from rfl,e2,Nat.and_one_is_mod];unfold hasN;rw [Int.toNat_natCast,Nat.testBit_eq_decide_div_mod_eq,show decide (0≤(j:Int)∧(j:Int)≤31)=true by simp;omega,Bool.true_and];generalize t / 2 ^ j % 2=z;by_cases h:z=1
 ·simp [h]
 ·have:((z:Int) == ((1:Nat):Int))=false:=by simp;omega
  rw [this];simp [h]
theorem adds {a b:ByteArray} {x y:List UInt8} (ha:a=bs x) (hb:b=bs y) (h:x.length+y.length≤1000000):∃ c,(a ++ b=c∧a.size+b.size≤9223372036854775807)∧c=bs (x ++ y):=
 ⟨_,⟨rfl,ziv ha hb h⟩,by rw [ha,hb,zc6]⟩
theorem zbk (n:Int):(tk n).length≤10:=zbx _
theorem zj3 (sg:UInt8) (f:Nat→Int) {k:Nat} (hk:k≤16):(zbl sg f k).length≤k∧∀ p∈zbl sg f k,p.length≤21:=by
 refine⟨?_,fun p hp=>?_⟩
 ·induction k with
  |zero=>simp [zbl]
  |succ k ih=>
   rw [zh8,List.length_append];have:=ih (by omega)
   split<;>simp<;>omega
 ·obtain⟨i,hi,hp⟩:=List.mem_flatMap.1 hp
  split at hp
  ·cases hp
  ·simp at hp hi
   rw [hp];have:=zbk (f i);have:=zbx i;simp;omega
theorem zgb (sg:UInt8) (f:Nat→Int) {k:Nat} (hk:k≤16):(zau (zbl sg f k)).length≤k * 22:=by
 have h:=zj3 sg f hk;exact Nat.le_trans (zcp h.2) (Nat.mul_le_mul_right _ h.1)
theorem zeu (t:Nat) (k:Nat):(bitP t k).length≤k∧∀ p∈bitP t k,p.length≤10:=by
 refine⟨?_,fun p hp=>?_⟩
 ·induction k with
  |zero=>simp [bitP]
  |succ k ih=>
   rw [zki,List.length_append]
   split<;>simp<;>omega
 ·obtain⟨i,_,hp⟩:=List.mem_flatMap.1 hp
  split at hp
  ·simp at hp;rw [hp];exact zbx _
  ·cases hp
theorem zr3 (p:Int):(polW p).length≤6:=by
 unfold polW
 split
 ·simp
 ·split<;>simp
theorem zoj (p:Int):(zgr p).length≤7:=by
 unfold zgr
 split
 ·simp
 ·split<;>simp
theorem zoi (d:zb8):d.ps.length≤33∧∀ p∈d.ps,p.length≤21:=by
 have ht:=fun n=>zbk n;unfold zb8.ps
 split
 ·refine⟨by simp,fun p hp=>?_⟩
  simp at hp;rcases hp with rfl|rfl
  ·decide
  ·have:=ht (d.f 0);omega
 ·split
  ·have hp:=zj3 58 (fun j=>d.f (3+j)) (k:=8) (by omega)
   refine⟨by unfold zfz;simp;omega,fun p h=>?_⟩;unfold zfz at h;rcases List.mem_append.1 h with h|h
   ·simp at h
    rcases h with rfl|rfl|rfl|rfl
    ·decide
    ·have:=ht (d.f 0);omega
    ·have:=ht (d.f 1);omega
    ·have:=ht (d.f 2);omega
   ·exact hp.2 p h
  ·split
   ·have hp:=zeu d.t 32
    refine⟨by unfold zdz;simp;omega,fun p h=>?_⟩;rcases List.mem_cons.1 h with rfl|h
    ·decide
    ·have:=hp.2 p h;omega
   ·split
    ·refine⟨by simp [zdd],fun p h=>?_⟩
     simp [zdd] at h;rcases h with rfl|rfl|rfl
     ·decide
     ·have:=ht (d.f 0);omega
     ·have:=zr3 (d.f 1);omega
    ·have h1:=zj3 62 (fun j=>d.f (19+j)) (k:=4) (by omega)
     have h2:=zj3 58 (fun j=>d.f (3+j)) (k:=16) (by omega);refine⟨by unfold zfj;simp;omega,fun p h=>?_⟩;unfold zfj at h;rcases List.mem_append.1 h with h|h
     ·simp at h
      rcases h with rfl|rfl|rfl|rfl
      ·decide
      ·have:=ht (d.f 0);omega
      ·have:=ht (d.f 1);omega
      ·have:=zoj (d.f 2);omega
     ·rcases List.mem_append.1 h with h|h
      ·exact h1.2 p h
      ·exact h2.2 p h
theorem zyp (d:zb8):(lnB d.ps).length≤727:=by
 have:=zBv (zoi d).2;have:=(zoi d).1;omega
theorem zbc:∀ L:List zb8,(zat L).length≤L.length * 727
 | []=>by simp [zat]
 |d :: L=>by
  have:=zyp d;have:=zbc L;rw [zkr,List.length_append,List.length_cons,Nat.add_mul];omega
theorem ztz (x:Img) (g:Nat→Nat→Int) (M:Nat→zas) (q:Nat→Nat→Nat→Int) (h:Nat→Nat→Int) (w:World) (hx:zdr w x g M q h) (hv:OkX x g M q h) (hh:∀ i,i < x.en→∀ j,3≤j→j < 23→0≤h i j∧h i j < 2147483648):
  Calls Tryz.prog 28 #[iv x] w fun e w'=>e=.returned (.string (bs (zat (imgD x g M q h))))∧Below w.heap.size w w':=by
 obtain⟨T,hT⟩:∃ T,zat (imgD x g M q h)=T:=⟨_,rfl⟩;have HTT:=hid hT;rw [hT];clear hT;have HX:=hid hx;have HV:=hid hv;have HH:=hid hh;have HT:=hid fun (z:Int) (X:World) (h0:0≤z) (h1:z < 2147483648)=>textI z X h0 h1;have r0:=hv.r1;have r8:=hv.r2;have hn16:=hv.n2;have hm8:=hv.m2;have he24:=hv.e;clear hx hv hh;obtain⟨r,ao,n,cap,mo,mn,mc,eo,en,ec⟩:=x;unfold iv;dsimp only at r0 r8 hn16 hm8 he24;have hb1:Below w.heap.size w (w.alloc (qC #[qI r,.slice ao n cap,.slice mo mn mc,.slice eo en ec] 26)):=qBr _;have bI:=heap_alloc_new w (qC #[qI r,.slice ao n cap,.slice mo mn mc,.slice eo en ec] 26);have c0:=zaa bI 0;have lr:(tk r).length≤10:=zbx _;obtain⟨C1,⟨h1,g1⟩,e1⟩:=adds (a:=⟨#[114,101,115,32]⟩) (b:=bs (tk r)) (show (⟨#[114,101,115,32]⟩:ByteArray)=bs [114,101,115,32] from rfl) rfl (by simp;omega);obtain⟨C2,⟨h2,g2⟩,e2⟩:=adds (a:=C1) (b:=⟨#[10]⟩) e1 (show (⟨#[10]⟩:ByteArray)=bs [10] from rfl) (by simp;omega);have HE:=hid (show C2=bs (zat [resD r]) by rw [e2];congr 1;simp [zat,lnB,zd0,zau,zb8.ps,resD,wRes]);have HL:=hid (zbc [resD r]);clear e1 e2 lr;go_enter Tryz.func28,Tryz.ntmps28
 go_upto_region 2 with (go_at_call 70;refine (HT.out _ _ (by omega) (by omega)).mono ?_;rintro e w2 ⟨rfl,hb2⟩)
 have HB0:=hid (hb1.trans (hb2.mono hb1.size));have bJ:=(hb2.block w.heap.size (by simp)).trans bI;have j1:=zaa bJ 1;have j2:=zaa bJ 2;have j3:=zaa bJ 3;obtain⟨W1,hW1⟩:∃ W,W=w2:=⟨_,rfl⟩;rw [←hW1] at HB0 j1 j2 j3 ⊢;clear hW1 hb2 bJ hb1 bI c0;go_wp2
 go_loopw [3,21] (fun s_ i_ wr=>∃ (i:Nat) (S:ByteArray),i≤n∧i_=qI i∧s_=.string S∧Hid (S=bs (zat ([resD r] ++ zc0 g i)))∧Hid (Below W1.heap.size W1 wr)) (fun _ i_ _=>n - (intOf i_).toNat)
 case atStart=>exact⟨0,_,by omega,by go_num,rfl,HE,Below.refl _ _⟩
 case round=>
  clear HE HL;obtain⟨i,S,hi,rfl,rfl,HS,HB⟩:=hrel;by_cases hlt:i < n
  ·have t0:decide ((i:Int) < (n:Int))=true:=by simp;omega
   obtain⟨b,o,rfl,_⟩:=HX.out.tasks i hlt;obtain⟨⟨d0,d1,d2,d3⟩,⟨d4,d5,d6,d7⟩,d8,d9,d10⟩:=((HX.out.tasks.below HB0.out).below HB.out).at_ hlt;have hOT:=HV.out.tasks i hlt;have i0:(0:Int)≤(i:Int):=by omega
   have i1:(i:Int) < (n:Int):=by omega
   go_upto_region 5 with fail
   have bB:=heap_alloc_new wr (zaj (g i));have hB1:=HB.out.alloc HB.out.size (zaj (g i));unfold zaj at bB hB1;obtain⟨W2,hW2⟩:∃ X,X=(wr.alloc (qC (qF11 (g i)) 165)):=⟨_,rfl⟩;rw [←hW2] at bB hB1 ⊢;have HB2:=hid hB1;have q0:=Cls.cell (zaa bB 0);have q1:=Cls.cell (zaa bB 1);have q2:=Cls.cell (zaa bB 2);have HP:=hid fun (X:Cls W2)=>zt3 wr.heap.size 3 8 8 (fun j=>g i (3+j)) 58 ⟨#[58]⟩ X.wd rfl (by omega) (fun j hj=>by have:=hOT.l j hj;have:=hOT.c2;have:=hOT.d2;have:=hOT.p2;omega) (fun j hj=>Cls.cell (show W2.cell? ⟨wr.heap.size,3+j,none⟩=some (qI (g i (3+j))) by
    rw [zaa bB];rcases j with _|_|_|_|_|_|_|_|j
    all_goals first|rfl|omega) X)
   have hp1:=hOT.p1;have hp2:=hOT.p2;have hd1:=hOT.d1;have hd2:=hOT.d2;have hc1:=hOT.c1;have hc2:=hOT.c2;have l0:=zbk (g i 0);have l1:=zbk (g i 1);have l2:=zbk (g i 2);have l3:(zau (zbl 58 (fun j=>g i (3+j)) 8)).length≤176:=zgb 58 _ (by omega);have l4:=zbc ([resD r] ++ zc0 g i);have l5:([resD r] ++ zc0 g i).length=i+1:=by simp [zc0]
   rw [l5] at l4;have HEQ:=hid (show zat ([resD r] ++ zc0 g (i+1))=zat ([resD r] ++ zc0 g i) ++ lnB (zfz (g i)) by rw [zh3,←List.append_assoc,zew];rfl);have HSB:=HS.out;obtain⟨sl,hsl⟩:∃ l,zat ([resD r] ++ zc0 g i)=l:=⟨_,rfl⟩;rw [hsl] at HEQ HSB l4;clear h1 h2 g1 g2 hW2 d0 d1 d2 d3 d4 d5 d6 d7 d8 d9 d10 bB hB1 hOT;obtain⟨C1,⟨h1,g1⟩,e1⟩:=adds (a:=⟨#[116,97,115,107,32]⟩) (b:=bs (tk (g i 0))) (show (⟨#[116,97,115,107,32]⟩:ByteArray)=bs [116,97,115,107,32] from rfl) rfl (by simp;omega);obtain⟨C2,⟨h2,g2⟩,e2⟩:=adds (a:=C1) (b:=⟨#[32]⟩) e1 (show (⟨#[32]⟩:ByteArray)=bs [32] from rfl) (by simp;omega);obtain⟨C3,⟨h3,g3⟩,e3⟩:=adds (a:=C2) (b:=bs (tk (g i 1))) e2 rfl (by simp;omega);obtain⟨C4,⟨h4,g4⟩,e4⟩:=adds (a:=C3) (b:=⟨#[32]⟩) e3 (show (⟨#[32]⟩:ByteArray)=bs [32] from rfl) (by simp;omega);obtain⟨C5,⟨h5,g5⟩,e5⟩:=adds (a:=C4) (b:=bs (tk (g i 2))) e4 rfl (by simp;omega);obtain⟨C6,⟨h6,g6⟩,e6⟩:=adds (a:=C5) (b:=bs (zau (zbl 58 (fun j=>g i (3+j)) 8))) e5 rfl (by simp;omega);obtain⟨C7,⟨h7,g7⟩,e7⟩:=adds (a:=C6) (b:=⟨#[10]⟩) e6 (show (⟨#[10]⟩:ByteArray)=bs [10] from rfl) (by simp;omega);obtain⟨C8,⟨h8,g8⟩,e8⟩:=adds (a:=S) (b:=C7) HSB e7 (by simp;omega);have HE:=hid (show C8=bs (zat ([resD r] ++ zc0 g (i+1))) by rw [HEQ.out,e8];congr 1;simp [lnB,zd0,zfz,zau,zrm]);clear e1 e2 e3 e4 e5 e6 e7 e8 l0 l1 l2 l3 l4 l5 HSB;refine zag (by kernel_rfl) (by kernel_rfl) ?_
   repeat (go_big_quiet_step ((first|(go_at_call 70;exact Calls.cls _ (HT.out _ _ (by omega) (by omega)))|(go_at_call 71;exact Calls.cls _ (HP.out _)))))
   refine wpQuiet_nil ?_;intro _ hw';obtain⟨nq,rfl⟩:=hw';have HB3:=hid (HB2.out.trans (nq.below.mono HB2.out.size));clear HEQ HP HB2 q0 q1 q2 HS HB;go_wp2;go_roundw
   case rel=>exact⟨i+1,_,by omega,by go_num,rfl,HE,HB3⟩
   case measure=>simp [intOf];omega
  ·obtain rfl:n=i:=by omega
   have t0:decide ((n:Int) < (n:Int))=false:=by simp
   have l5:([resD r] ++ zc0 g n).length=n+1:=by simp [zc0]
   have HTU:=hid (show zat (([resD r] ++ zc0 g n) ++ za3 M q mn ++ zdb h en)=T from HTT.out);obtain⟨P1,hP1⟩:∃ l,[resD r] ++ zc0 g n=l:=⟨_,rfl⟩;rw [hP1] at HS l5 HTU;have HS0:=hid (show S=bs (zat (P1 ++ za3 M q 0)) by rw [HS.out];simp [za3]);have j2':=kept j2 HB.out;clear hP1 HTT HS h1 g1 h2 g2 j2;go_wp2
   go_loopw [3,50] (fun s_ i_ wr=>∃ (k:Nat) (S:ByteArray),k≤mn∧i_=qI k∧s_=.string S∧Hid (S=bs (zat (P1 ++ za3 M q k)))∧Hid ((za3 M q k).length≤5 * k)∧Hid (Below W1.heap.size W1 wr)) (fun _ i_ _=>mn - (intOf i_).toNat)
   case atStart=>exact⟨0,_,by omega,by go_num,rfl,HS0,by unfold Hid;simp [za3],HB⟩
   case round=>
    clear HS0 HB;obtain⟨k,S,hk,rfl,rfl,HS,HML,HB⟩:=hrel;by_cases hlt:k < mn
    ·have t1:decide ((k:Int) < (mn:Int))=true:=by simp;omega
     obtain⟨b,o,rfl,m0,m1⟩:=((HX.out.modes.below HB0.out).below HB.out) k hlt;have k0:(0:Int)≤(k:Int):=by omega
     have k1:(k:Int) < (mn:Int):=by omega
     have HQA:=hid ((HX.out.queues k hlt).below HB0.out);have HQO:=hid (HV.out.mq k hlt);have HTB:=HX.out.tb k hlt;have HMS:=hid (show zat (P1 ++ za3 M q (k+1))=zat (P1 ++ za3 M q k) ++ (lnB (zdz (M k).t) ++ zat (za8 (q k) (M k).qn)) by rw [zc8,←List.append_assoc,zlh,zmw,zkr];rfl);have HMN:=hid (show (za3 M q (k+1)).length=(za3 M q k).length+(1+(M k).qn) by rw [zc8,List.length_append,zmw];simp [za8];omega);have l4:=zbc (P1 ++ za3 M q k);rw [List.length_append,l5] at l4;have l4':(zat (P1 ++ za3 M q k)).length≤41439:=by have:=HML.out;omega
     clear l4;have HSB:=HS.out;obtain⟨sl,hsl⟩:∃ l,zat (P1 ++ za3 M q k)=l:=⟨_,rfl⟩;rw [hsl] at HMS HSB l4';obtain⟨C1,⟨h1,g1⟩,e1⟩:=adds (a:=S) (b:=⟨#[109,111,100,101]⟩) HSB (show (⟨#[109,111,100,101]⟩:ByteArray)=bs zff from rfl) (by simp [zff];omega);have HE0:=hid (show C1=bs (sl ++ (zff ++ zau (bitP (M k).t 0))) by rw [e1];simp [bitP,zau]);generalize M k=mk at m0 m1 HQA HQO HTB HMS HMN HE0;obtain⟨t,qo,qn,qc⟩:=mk;dsimp only at m0 m1 HQA HQO HTB HMS HMN HE0;have bB:=heap_alloc_new wr (qC #[qU (t:Nat),.slice qo qn qc] 71);have hB1:=HB.out.alloc HB.out.size (qC #[qU (t:Nat),.slice qo qn qc] 71);clear e1 hsl HSB HS
     go_upto_region 11 with fail
     obtain⟨W2,hW2⟩:∃ X,X=(wr.alloc (qC #[qU (t:Nat),.slice qo qn qc] 71)):=⟨_,rfl⟩;rw [←hW2] at bB hB1 ⊢;have HB2:=hid hB1;have z0:=zaa bB 0;have z1:=zaa bB 1;clear hW2 bB hB1 HB h1 g1 m0 m1 j2';go_wp2
     go_loopw [3,56] (fun s_ i_ wq=>∃ (j:Nat) (S:ByteArray),j≤32∧i_=qI j∧s_=.string S∧Hid (S=bs (sl ++ (zff ++ zau (bitP t j))))∧Hid (Below W2.heap.size W2 wq)) (fun _ i_ _=>32 - (intOf i_).toNat)
     case atStart=>exact⟨0,_,by omega,by go_num,rfl,HE0,Below.refl _ _⟩
     case round=>
      clear HE0;obtain⟨j,S,hj,rfl,rfl,HS,HB⟩:=hrel;by_cases hlt:j < 32
      ·have t2:decide ((j:Int) < 32)=true:=by simp;omega
       have y0:=kept z0 HB.out;have k2:(0:Int)≤(j:Int):=by omega
       have HBS:=hid (zki t j);have l1:=(zeu t j).1;have l2:=zcp (zeu t j).2;have l3:(zau (bitP t j)).length≤352:=by have:=Nat.mul_le_mul_right 11 l1;omega
       have hba:=zEn HTB hlt
       cases hh:hasN t (j:Int)
       ·rw [hh] at hba
        have HN:=hid (show bitP t (j+1)=bitP t j by rw [HBS.out,hh];simp);clear l1 l2 l3 HBS;go_wp2;go_roundw
        case rel=>exact⟨j+1,S,by omega,by go_num,rfl,by unfold Hid;rw [HN.out];exact HS.out,HB⟩
        case measure=>simp [intOf];omega
       ·rw [hh] at hba
        have HN:=hid (show zau (bitP t (j+1))=zau (bitP t j) ++ (32 :: tk (j:Int)) by rw [HBS.out,hh,if_pos rfl,zdg];simp [zau,tk]);have HSB:=HS.out;have l4:=zbk (j:Int);obtain⟨D1,⟨h1,g1⟩,e1⟩:=adds (a:=⟨#[32]⟩) (b:=bs (tk (j:Int))) (show (⟨#[32]⟩:ByteArray)=bs [32] from rfl) rfl (by simp;omega);obtain⟨D2,⟨h2,g2⟩,e2⟩:=adds (a:=S) (b:=D1) HSB e1 (by simp [zff];omega);have HE:=hid (show D2=bs (sl ++ (zff ++ zau (bitP t (j+1)))) by rw [HN.out,e2];simp);clear l1 l2 l3 l4 HBS e1 e2 HSB HS
        go_wp2_with (go_at_call 70;refine (HT.out _ _ (by omega) (by omega)).mono ?_;rintro e w2 ⟨rfl,hb2⟩;replace HB:=hid (HB.out.trans (hb2.mono HB.out.size));clear hb2)
        go_roundw
        case rel=>exact⟨j+1,D2,by omega,by go_num,rfl,HE,HB⟩
        case measure=>simp [intOf];omega
      ·have hj2:j=32:=by omega
       rw [hj2] at HS;have hj3:(j:Int)=32:=by omega
       rw [hj3];clear hj3 hj2 hj hlt;have l1:=(zeu t 32).1;have l2:=zcp (zeu t 32).2;have l3:(zau (bitP t 32)).length≤352:=by have:=Nat.mul_le_mul_right 11 l1;omega
       have HSB:=HS.out;obtain⟨D1,⟨h1,g1⟩,e1⟩:=adds (a:=S) (b:=⟨#[10]⟩) HSB (show (⟨#[10]⟩:ByteArray)=bs [10] from rfl) (by simp [zff];omega);have HE:=hid (show D1=bs (sl ++ (lnB (zdz t) ++ zat (za8 (q k) 0))) by rw [e1];congr 1;simp [lnB,zdz,zd0,za8,zat]);have z1':=kept z1 HB.out;have hq4:=HQO.out.1;clear l1 l2 l3 e1 HSB HS;go_wp2
       go_loopw [3,76] (fun s_ i_ wq=>∃ (j:Nat) (S:ByteArray),j≤qn∧i_=qI j∧s_=.string S∧Hid (S=bs (sl ++ (lnB (zdz t) ++ zat (za8 (q k) j))))∧Hid (Below W2.heap.size W2 wq)) (fun _ i_ _=>qn - (intOf i_).toNat)
       case atStart=>exact⟨0,_,by omega,by go_num,rfl,HE,HB⟩
       case round=>
        clear HE HB h1 g1 z1';obtain⟨j,S,hj,rfl,rfl,HS,HB⟩:=hrel;by_cases hlt:j < qn
        ·have t2:decide ((j:Int) < (qn:Int))=true:=by simp;omega
         obtain⟨b2,o2,rfl,hc⟩:=((HQA.out.below HB2.out).below HB.out) j hlt;have n0:=hc 0 (by decide);have n1:=hc 1 (by decide);rw [Nat.add_zero] at n0;have hOQ:=HQO.out.2 j hlt;have hqc1:=hOQ.c1;have hqc2:=hOQ.c2;have hqp1:=hOQ.p1;have hqp2:=hOQ.p2;have k2:(0:Int)≤(j:Int):=by omega
         have k3:(j:Int) < (qn:Int):=by omega
         have HQS:=hid (show zat (za8 (q k) (j+1))=zat (za8 (q k) j) ++ lnB (zdd (q k j)) by rw [zfq,zew];rfl);have HQP:=hid (show zdd (q k j)=[zg9,tk (q k j 0),polW (q k j 1)] from rfl);clear hc hOQ;generalize q k j 0=u at n0 hqc1 hqc2 HQP;generalize q k j 1=v at n1 hqp1 hqp2 HQP;have l1:=zbk u;have l2:=zr3 v;have l3:=zbc (za8 (q k) j);have l6:(za8 (q k) j).length=j:=by simp [za8]
         have l7:=zyp ⟨2,fun _=>0,t⟩;have l8:zb8.ps ⟨2,fun _=>0,t⟩=zdz t:=rfl;rw [l6] at l3;rw [l8] at l7;have HSB:=HS.out;obtain⟨D1,⟨h1,g1⟩,e1⟩:=adds (a:=⟨#[113,117,101,117,101,32]⟩) (b:=bs (tk u)) (show (⟨#[113,117,101,117,101,32]⟩:ByteArray)=bs [113,117,101,117,101,32] from rfl) rfl (by simp;omega);obtain⟨D2,⟨h2,g2⟩,e2⟩:=adds (a:=D1) (b:=⟨#[32]⟩) e1 (show (⟨#[32]⟩:ByteArray)=bs [32] from rfl) (by simp;omega);obtain⟨D3,⟨h3,g3⟩,e3⟩:=adds (a:=D2) (b:=bs (polW v)) e2 rfl (by simp;omega);obtain⟨D4,⟨h4,g4⟩,e4⟩:=adds (a:=D3) (b:=⟨#[10]⟩) e3 (show (⟨#[10]⟩:ByteArray)=bs [10] from rfl) (by simp;omega);obtain⟨D5,⟨h5,g5⟩,e5⟩:=adds (a:=S) (b:=D4) HSB e4 (by simp;omega);have HE:=hid (show D5=bs (sl ++ (lnB (zdz t) ++ zat (za8 (q k) (j+1)))) by rw [HQS.out,HQP.out,e5];congr 1;simp [lnB,zd0,zau,zg9]);have bB:=heap_alloc_new wr (qC #[qI u,qI v] 74);have hB1:=HB.out.alloc HB.out.size (qC #[qI u,qI v] 74);clear l1 l2 l3 l6 l7 l8 e1 e2 e3 e4 e5 HSB HS HQS HQP
         go_upto_region 21 with fail
         obtain⟨W3,hW3⟩:∃ X,X=(wr.alloc (qC #[qI u,qI v] 74)):=⟨_,rfl⟩;rw [←hW3] at bB hB1 ⊢;have HB3:=hid hB1;have q0:=Cls.cell (zaa bB 0);have q1:=Cls.cell (zaa bB 1);have HPO:=hid fun (X:Cls W3)=>Calls.below (zqo v X.wd hqp1 hqp2);clear hW3 bB hB1 HB n0 n1;refine zag (by kernel_rfl) (by kernel_rfl) ?_
         repeat (go_big_quiet_step ((first|(go_at_call 70;exact Calls.cls _ (HT.out _ _ (by omega) (by omega)))|(go_at_call 72;exact Calls.cls _ (HPO.out _)))))
         refine wpQuiet_nil ?_;intro _ hw';obtain⟨nq,rfl⟩:=hw';have HB4:=hid (HB3.out.trans (nq.below.mono HB3.out.size));clear HPO HB3 q0 q1;go_wp2;go_roundw
         case rel=>exact⟨j+1,_,by omega,by go_num,rfl,HE,HB4⟩
         case measure=>simp [intOf];omega
        ·have hjq:j=qn:=by omega
         rw [hjq] at HS ⊢;have t2:decide ((qn:Int) < (qn:Int))=false:=by simp
         go_wp2;go_roundw
         case rel=>exact⟨k+1,S,by omega,by go_num,rfl,by unfold Hid;rw [HMS.out];exact HS.out,by have:=HMN.out;have:=HML.out;unfold Hid;omega,HB2.out.trans (HB.out.mono HB2.out.size)⟩
         case measure=>simp [intOf];omega
    ·obtain rfl:mn=k:=by omega
     have t1:decide ((mn:Int) < (mn:Int))=false:=by simp
     have l6:(P1 ++ za3 M q mn).length≤57:=by have:=HML.out;rw [List.length_append,l5];omega
     obtain⟨P2,hP2⟩:∃ l,P1 ++ za3 M q mn=l:=⟨_,rfl⟩;rw [hP2] at HS l6 HTU;have HS0:=hid (show S=bs (zat (P2 ++ zdb h 0)) by rw [HS.out];simp [zdb]);have j3':=kept j3 HB.out;clear hP2 HS HML l5 j2' j1 j3;go_wp2
     go_loopw [3,97] (fun s_ i_ wr=>∃ (i:Nat) (S:ByteArray),i≤en∧i_=qI i∧s_=.string S∧Hid (S=bs (zat (P2 ++ zdb h i)))∧Hid (Below W1.heap.size W1 wr)) (fun _ i_ _=>en - (intOf i_).toNat)
     case atStart=>exact⟨0,_,by omega,by go_num,rfl,HS0,HB⟩
     case round=>
      clear HS0 HB j3';obtain⟨i,S,hi,rfl,rfl,HS,HB⟩:=hrel;by_cases hlt:i < en
      ·have t1:decide ((i:Int) < (en:Int))=true:=by simp;omega
       obtain⟨b,o,rfl,hc⟩:=((HX.out.edges.below HB0.out).below HB.out) i hlt;have hr1:=zce hc;have i0:(0:Int)≤(i:Int):=by omega
       have i1:(i:Int) < (en:Int):=by omega
       go_upto_region 26 with fail
       refine wp_region_lit ?_;refine wpList_plain rfl fun K hK=>?_;go_simp;refine hK _ _ ?_;clear hK K;refine wpList_load_mid rfl 176 _ rfl b (o+i * 23) rfl (zbf (h i)) _ hr1 Tryz.underlying176 rfl (za4 _) ?_;refine wpList_plain rfl fun K hK=>?_;go_simp;refine hK _ _ ?_;clear hK K;refine wpList_store_mid rfl 176 _ _ rfl wr.heap.size 0 (zbf (h i)).toArray rfl rfl (zdh wr (h i)) (by simpa using za4 (h i)) (zfb _) ?_;have hbx:=zg1 wr (h i);unfold zd6 at hbx;obtain⟨W2,hW2⟩:∃ X,X=((wr.alloc zd6).setCells wr.heap.size 0 (zbf (h i)).toArray.toList):=⟨_,rfl⟩;unfold zd6 at hW2;rw [←hW2] at hbx;show Exit.then _ _ _ _ _
       rw [←hW2];clear hW2 hr1 hc;go_simp;have q0:=Cls.cell (hbx.cell 0 (by decide));have q1:=Cls.cell (hbx.cell 1 (by decide));have q2:=Cls.cell (hbx.cell 2 (by decide));have HB2:=hid (HB.out.trans (hbx.below.mono HB.out.size));have HP:=hid fun (X:Cls W2) (of k:Nat) (sg:UInt8) (h3:3≤of) (hk:k≤16) (h23:of+k≤23)=>zt3 wr.heap.size of k k (fun j=>h i (of+j)) sg ⟨#[sg]⟩ X.wd rfl hk (fun j hj=>HH.out i hlt (of+j) (by omega) (by omega)) (fun j hj=>Cls.cell (hbx.cell (of+j) (by omega)) X);have hOE:=HV.out.edges i hlt;have f1:=hOE.f1;have f2:=hOE.f2;have f3:=hOE.t1;have f4:=hOE.t2;have f5:=hOE.p1;have f6:=hOE.p2;dsimp only at f2 f4;have HPO:=hid fun (X:Cls W2)=>Calls.below (zlp (h i 2) X.wd f5 f6);have l0:=zbk (h i 0);have l1:=zbk (h i 1);have l2:=zoj (h i 2);have l3:(zau (zbl 62 (fun j=>h i (19+j)) 4)).length≤88:=zgb 62 _ (by omega);have l4:(zau (zbl 58 (fun j=>h i (3+j)) 16)).length≤352:=zgb 58 _ (by omega);have l7:=zbc (P2 ++ zdb h i);have l8:(zdb h i).length=i:=by simp [zdb]
       rw [List.length_append,l8] at l7;have HEQ:=hid (show zat (P2 ++ zdb h (i+1))=zat (P2 ++ zdb h i) ++ lnB (zfj (h i)) by rw [zid,←List.append_assoc,zew];rfl);have HSB:=HS.out;obtain⟨sl,hsl⟩:∃ l,zat (P2 ++ zdb h i)=l:=⟨_,rfl⟩;rw [hsl] at HEQ HSB l7;clear hbx hOE;obtain⟨C1,⟨h1,g1⟩,e1⟩:=adds (a:=⟨#[101,100,103,101,32]⟩) (b:=bs (tk (h i 0))) (show (⟨#[101,100,103,101,32]⟩:ByteArray)=bs [101,100,103,101,32] from rfl) rfl (by simp;omega);obtain⟨C2,⟨h2,g2⟩,e2⟩:=adds (a:=C1) (b:=⟨#[32]⟩) e1 (show (⟨#[32]⟩:ByteArray)=bs [32] from rfl) (by simp;omega);obtain⟨C3,⟨h3,g3⟩,e3⟩:=adds (a:=C2) (b:=bs (tk (h i 1))) e2 rfl (by simp;omega);obtain⟨C4,⟨h4,g4⟩,e4⟩:=adds (a:=C3) (b:=⟨#[32]⟩) e3 (show (⟨#[32]⟩:ByteArray)=bs [32] from rfl) (by simp;omega);obtain⟨C5,⟨h5,g5⟩,e5⟩:=adds (a:=C4) (b:=bs (zgr (h i 2))) e4 rfl (by simp;omega);obtain⟨C6,⟨h6,g6⟩,e6⟩:=adds (a:=C5) (b:=bs (zau (zbl 62 (fun j=>h i (19+j)) 4))) e5 rfl (by simp;omega);obtain⟨C7,⟨h7,g7⟩,e7⟩:=adds (a:=C6) (b:=bs (zau (zbl 58 (fun j=>h i (3+j)) 16))) e6 rfl (by simp;omega);obtain⟨C8,⟨h8,g8⟩,e8⟩:=adds (a:=C7) (b:=⟨#[10]⟩) e7 (show (⟨#[10]⟩:ByteArray)=bs [10] from rfl) (by simp;omega);obtain⟨C9,⟨h9,g9⟩,e9⟩:=adds (a:=S) (b:=C8) HSB e8 (by simp;omega);have HE:=hid (show C9=bs (zat (P2 ++ zdb h (i+1))) by rw [HEQ.out,e9];congr 1;simp [lnB,zd0,zfj,zau,zmu]);clear e1 e2 e3 e4 e5 e6 e7 e8 e9 l0 l1 l2 l3 l4 l7 l8 HSB HEQ
       go_upto_region 27 with fail
       refine zag (by kernel_rfl) (by kernel_rfl) ?_
       repeat (go_big_quiet_step ((first|(go_at_call 70;exact Calls.cls _ (HT.out _ _ (by omega) (by omega)))|(go_at_call 71;exact Calls.cls _ (HP.out _ _ _ _ (by omega) (by omega) (by omega)))|(go_at_call 73;exact Calls.cls _ (HPO.out _)))))
       refine wpQuiet_nil ?_;intro _ hw';obtain⟨nq,rfl⟩:=hw';have HB3:=hid (HB2.out.trans (nq.below.mono HB2.out.size));clear HPO HP HB2 q0 q1 q2 HS HB;go_wp2;go_roundw
       case rel=>exact⟨i+1,_,by omega,by go_num,rfl,HE,HB3⟩
       case measure=>simp [intOf];omega
      ·have hie:i=en:=by omega
       rw [hie] at HS ⊢;have t1:decide ((en:Int) < (en:Int))=false:=by simp
       go_wp2;go_ret;exact⟨by rw [HS.out,HTU.out];rfl,HB0.out.trans (HB.out.mono HB0.out.size)⟩
end Go.Proofs.YtpbmmoneeoijaaaGreatDoor
namespace Go.Proofs.YtpbmmoneeoijaaaGreatDoor
open Go.RowKit Go.Deep Go.Shelf
set_option maxRecDepth 100000
set_option maxHeartbeats 8000000
attribute [local go_sem] zaq
set_option maxRecDepth 100000
def bidx (t K:Nat):List Nat:=(List.range K).filter fun (i:Nat)=>hasN t (i:Int)
theorem bitP_idx (t:Nat) (K:Nat):bitP t K=(bidx t K).map txt:=by
 induction K with
 |zero=>rfl
 |succ K ih=>
  have e:bidx t (K+1)=bidx t K ++ (if hasN t (K:Int)=true then [K] else []):=by
   unfold bidx;rw [List.range_succ,List.filter_append];by_cases h:hasN t (K:Int)=true<;>simp [h]
  rw [zki,ih,e,List.map_append]
  split<;>rfl
def setN (l:List Nat):Nat:=l.foldl (fun s i=>s |||2 ^ i) 0
theorem zC2 (l:List Nat) (i:Nat):setN (l ++ [i])=setN l |||2 ^ i:=by simp [setN]
theorem zx1 (j:Nat):∀ l:List Nat,(setN l).testBit j=l.contains j:=by
 have:∀ (l:List Nat) (s:Nat),(l.foldl (fun s i=>s |||2 ^ i) s).testBit j=(s.testBit j || l.contains j):=by
  intro l
  induction l with
  |nil=>simp
  |cons i l ih=>
   intro s;rw [List.foldl_cons,ih,Nat.testBit_or,Nat.testBit_two_pow,List.contains_cons,Bool.or_assoc]
   congr 2
   by_cases h:i=j
   ·simp [h]
   ·have h2:(j == i)=false:=by simp;exact fun e=>h e.symm
    simp [h,h2]
 intro l;rw [setN,this l 0];simp
theorem setN_lt {l:List Nat} (h:∀ i∈l,i < 32):setN l < 4294967296:=by
 have:∀ (l:List Nat) (s:Nat),(∀ i∈l,i < 32)→s < 2 ^ 32→l.foldl (fun s i=>s |||2 ^ i) s < 2 ^ 32:=by
  intro l
  induction l with
  |nil=>intro s _ h;exact h
  |cons i l ih=>intro s hl hs;exact ih _ (fun k hk=>hl k (by simp [hk])) (Nat.or_lt_two_pow hs (Nat.pow_lt_pow_right (by decide) (hl i (by simp))))
 exact this l 0 h (by decide)
theorem zC3 {t:Nat} (ht:t < 4294967296):setN (bidx t 32)=t:=by
 refine Nat.eq_of_testBit_eq fun j=>?_;rw [zx1];by_cases hj:j < 32
 ·have e:hasN t (j:Int)=t.testBit j:=by unfold hasN;rw [Int.toNat_natCast,show decide (0≤(j:Int)∧(j:Int)≤31)=true by simp;omega,Bool.true_and]
  cases h:t.testBit j with
  |true=>rw [List.contains_iff_mem];exact List.mem_filter.2 ⟨List.mem_range.2 hj,by rw [e,h]⟩
  |false=>
   rw [Bool.eq_false_iff];intro hc;rw [List.contains_iff_mem] at hc;have:=(List.mem_filter.1 hc).2;rw [e,h] at this;cases this
 ·rw [Nat.testBit_lt_two_pow (Nat.lt_of_lt_of_le ht (Nat.le_trans (show 4294967296≤2 ^ 32 by decide) (Nat.pow_le_pow_right (n:=2) (by decide) (show 32≤j by omega))))]
  rw [Bool.eq_false_iff];intro hc;rw [List.contains_iff_mem] at hc;have:=List.mem_range.1 (List.mem_filter.1 hc).1;omega
def mdB (t:Nat):Obj:=.cells #[qU (t:Nat),.slice none 0 0] 71
theorem zC1 {l:List Nat} {k i:Nat} (h:l[k]? =some i):setN (l.take (k+1))=setN (l.take k) |||2 ^ i:=by
 rw [List.take_add_one,h];exact zC2 _ _
theorem setN_new {l:List Nat} (hn:l.Nodup) {k i:Nat} (h:l[k]? =some i):(setN (l.take k)).testBit i=false:=by
 rw [zx1,Bool.eq_false_iff];intro hc;rw [List.contains_iff_mem] at hc;obtain⟨j,hj,hji⟩:=List.mem_take_iff_getElem.1 hc;obtain⟨hk1,hk2⟩:=List.getElem?_eq_some_iff.1 h;have hjl:j < l.length:=by omega
 exact (List.pairwise_iff_getElem.1 hn) j k hjl hk1 (by omega) (by rw [hji,hk2])
theorem zBi (base b:Nat) (W:World) (s:St) (v:RdV) (t:Nat) (hbase:base≤W.heap.size) (h:RdAt base b W s (zdz t) v) (ht:t < 4294967296) (hn:s.ms.length≤1000):
  Calls Tryz.prog 148 #[qP b] W (zpw base b W { s with ms:=s.ms ++ [(t,[])] } (zdz t)):=by
 obtain⟨l,hl⟩:∃ l,bidx t 32=l:=⟨_,rfl⟩;have hPQ:zdz t=zff :: l.map txt:=by unfold zdz;rw [bitP_idx,hl]
 have hQl:l.length≤32:=by rw [←hl];exact Nat.le_trans (List.length_filter_le _ _) (by simp)
 have HND:=hid (show l.Nodup by rw [←hl];exact List.Pairwise.filter _ List.nodup_range);have HM:=hid (show ∀ i∈l,i < 32 from fun i hi=>by rw [←hl] at hi;exact List.mem_range.1 (List.mem_filter.1 hi).1);have HST:=hid (show setN l=t by rw [←hl];exact zC3 ht);obtain⟨g,cap,e,hc1,hc2,hcell⟩:=h.pieces (by rw [hPQ];simp);have hlen:(zdz t).length=l.length+1:=by rw [hPQ];simp
 rw [hlen] at e hc1;have c4:=h.cell4;rw [e] at c4;obtain⟨NQ,hNQ⟩:∃ n,l.length=n:=⟨_,rfl⟩;rw [hNQ] at hQl hc1 c4 e hlen;have HNQ:=hid hNQ;have HN:=hid fun (X:World) (hX:Below W.heap.size W X) (k i:Nat) (hk:l[k]? =some i)=>(show Calls Tryz.prog 215 #[qP b,qI (1+(k:Int))] X fun e w'=>e=.returned (.tuple #[qI (i:Int),.bool true])∧X=w' by
  have hkl:k < NQ:=by rw [←hNQ];exact (List.getElem?_eq_some_iff.1 hk).1
  have hil:=HM.out i (List.mem_of_getElem? hk);have:=zex b g (1+k) (NQ+1) cap (i:Int) X (by omega) (by omega) (by omega) (by omega) (kept c4 hX) (kept (hcell (1+k) (txt i) (by rw [hPQ,Nat.add_comm,List.getElem?_cons_succ,List.getElem?_map,hk];rfl)) hX)
  rwa [show ((1+k:Nat):Int)=1+(k:Int) by omega] at this)
 have HH:=hid h;have hB1:Below W.heap.size W (W.alloc (mdB 0)):=qBr _;have bT:=heap_alloc_new W (mdB 0);unfold mdB at hB1 bT;clear hl hPQ hcell h hNQ;go_enter Tryz.func148,Tryz.ntmps148
 go_upto_region 2 with fail
 obtain⟨W2,hW2⟩:∃ X,X=W.alloc (qC #[qU 0,.slice none 0 0] 71):=⟨_,rfl⟩;have HB2:=hid (show Below W.heap.size W W2 by rw [hW2];exact hB1);have HT0:=hid (show W2.heap[W.heap.size]? =some (mdB (setN (l.take 0))) by rw [hW2];exact bT);rw [←hW2];obtain⟨tb,htb⟩:∃ n,W.heap.size=n:=⟨_,rfl⟩;have HTB:=hid htb;rw [htb] at HT0 ⊢;have c4':=kept c4 HB2.out;clear hW2 hB1 bT htb c4;go_wp2
 all_goals
  go_loopw [14] (fun i_ wr=>∃ k:Nat,k≤NQ∧i_=qI k∧Hid (wr.heap[tb]? =some (mdB (setN (l.take k))))∧Hid (Below W.heap.size W wr)) (fun i_ _=>NQ - (intOf i_).toNat)
  case atStart=>exact⟨0,by omega,by go_num,HT0,HB2⟩
  case round=>
   clear HT0 HB2 c4';obtain⟨k,hk,rfl,HT,HB⟩:=hrel;by_cases hlt:k < NQ
   ·first
    |(exfalso;omega)
    |(
     have t1:decide ((k:Int) < (NQ:Int))=true:=by simp;omega
     obtain⟨i,hi⟩:∃ i,l[k]? =some i:=⟨_,List.getElem?_eq_getElem (by have:=HNQ.out;omega)⟩;have him:=HM.out i (List.mem_of_getElem? hi);have hSl:=setN_lt (l:=l.take k) fun j hj=>HM.out j (List.mem_of_mem_take hj);have hbt:=zEn hSl him;have hhs:hasN (setN (l.take k)) (i:Int)=false:=by unfold hasN;rw [Int.toNat_natCast,setN_new HND.out hi,Bool.and_false]
     rw [hhs] at hbt;have HST2:=hid (zC1 hi);have HNk:=hid fun X hX=>HN.out X hX k i hi;have cb:=HT.out;generalize setN (l.take k)=z at hSl hbt HST2 cb;have t2:decide ((31:Int) < (i:Int))=false:=by simp;omega
     unfold mdB at cb;have ct:wr.cell? ⟨tb,0,none⟩=some (qU (z:Nat)):=by rw [zaa cb];rfl
     have ft:=zab cb 0;have hov:bits .or .u32 (z:Int) ((2:Int) ^ i % 4294967296)=((z |||2 ^ i:Nat):Int):=by
      have hp:2 ^ i < 4294967296:=Nat.pow_lt_pow_right (by decide) him;have e2:(2:Int) ^ i=((2 ^ i:Nat):Int):=by simp
      rw [e2];generalize 2 ^ i=q at hp ⊢;rw [show (q:Int) % 4294967296=(q:Int) by omega];exact zoo hSl hp
     have HT3:=hid (show (wr.setCell ⟨tb,0,none⟩ (qU ((z |||2 ^ i:Nat):Int))).heap[tb]? =some (mdB (setN (l.take (k+1)))) by rw [HST2.out];exact (zbh cb).trans rfl);have HB3:=hid (HB.out.setCell (p:=⟨tb,0,none⟩) (by rw [HTB.out];exact Nat.le_refl _) (qU ((z |||2 ^ i:Nat):Int)));generalize z |||2 ^ i=z2 at hov HT3 HB3
     go_wp2_with (go_at_call 215;refine (HNk.out _ HB.out).mono ?_;rintro e w2 ⟨rfl,rfl⟩)
     go_region
     go_wp2;go_roundw
     case rel=>exact⟨k+1,by omega,by go_num,HT3,HB3.out.trans ⟨rfl,rfl,rfl,Nat.le_refl _,fun _ _=>rfl⟩⟩
     case measure=>simp [intOf];omega)
   ·have hkq:k=NQ:=by omega
    have t1:decide ((k:Int) < (NQ:Int))=false:=by simp;omega
    have HTF:=hid (show wr.heap[tb]? =some (mdB t) by rw [HT.out,←HST.out,hkq,←HNQ.out,List.take_length]);obtain⟨i0,hi,hz0,hz1,hz2⟩:=info_parts infoMd;clear hkq hk HT HST
    go_upto_region 10 with fail
    have HRr:=HH.out.below HB.out;have hcb:=HRr.blk;have hbs:=HRr.hb;have hwr:=HB.out.size;refine zan [7,8,9,10,11,12] (fun X=>Two2 X b tb (rdB s.r v) (mdB t)) (by kernel_rfl) (by kernel_rfl) (show Two2 wr.drew b tb (rdB s.r v) (mdB t) from ⟨hcb,HTF.out⟩) ?_;refine qFs fun K hK=>?_;go_simp;refine⟨_,fun _ _=>rfl,hK _ ?_⟩;clear hK K;refine qFs fun K hK=>?_;go_simp;refine⟨_,fun _ _=>rfl,hK _ ?_⟩;clear hK K;refine qFs fun K hK=>?_;go_simp;refine⟨_,fun _ _=>rfl,hK _ ?_⟩;clear hK K;refine qFs fun K hK=>?_;go_simp;refine⟨_,fun _ _=>rfl,hK _ ?_⟩;clear hK K;refine qFs fun K hK=>?_;go_simp;refine⟨_,fun _ _=>rfl,hK _ ?_⟩;clear hK K;refine qFs fun K hK=>?_;go_simp;refine⟨v.M,fun X hX=>?_,hK _ ?_⟩
    ·have z:X.cell? ⟨b,2,none⟩=some v.M:=by rw [zaa hX.h1];rfl
     go_simp
    clear hK K;refine qFs fun K hK=>?_;go_simp;refine⟨.agg #[qU (t:Nat),.slice none 0 0],fun X hX=>?_,hK _ ?_⟩
    ·have cz:=hX.h2
     unfold mdB at cz;have z0:X.cell? ⟨tb,0,none⟩=some (qU (t:Nat)):=by rw [zaa cz];rfl
     have z1:X.cell? ⟨tb,1,none⟩=some (.slice none 0 0):=by rw [zaa cz];rfl
     go_simp
    clear hK K;refine qFc ?_;refine qFc ?_;refine qFc ?_;refine qFc ?_;refine qFc ?_;refine qFc ?_;refine za9 ?_;have hBA:Below wr.heap.size wr (wr.alloc (Obj.cells ([Value.int .u32 (t:Nat),Value.slice none 0 0]).toArray 71)).drew:=((qBr _)).drew;have hRA:=HRr.below hBA;have HTA:=hid ((hBA.block tb (qLt HTF.out)).trans HTF.out);have hn63:s.ms.length+1≤maxLen:=by unfold maxLen;omega
    refine qT1 7 [8,9,10,11,12] fun K hK=>?_
    go_wp2_with fail
    refine hK _ _ (show Two2 (wr.alloc (Obj.cells ([Value.int .u32 (t:Nat),Value.slice none 0 0]).toArray 71)).drew b tb (rdB s.r v) (mdB t) from ⟨hRA.blk,HTA.out⟩) ?_;clear hK K;refine qT1 8 [9,10,11,12] fun K hK=>?_;dsimp only [List.getElem_toArray,List.getElem_cons_succ,List.getElem_cons_zero];refine wpList_append_own _ rfl _ _ 23 rfl base 71 i0 (.agg #[qU 0,.slice none 0 0]) 2 32 Tryz.underlying23 hi hz0 hz1 hz2 rfl (by decide) v.M (s.ms.length) _ rfl hRA.M ⟨wr.heap.size,0,none⟩ 1 1 ([Value.int .u32 (t:Nat),Value.slice none 0 0]) rfl (by simp) (fun j u hj=>by rw [zbn,Nat.zero_add];exact (World.cell?_alloc_new _ _ _ j).trans (by rw [List.getElem?_toArray];exact hj)) (by exact (by intro u hu;simp at hu;rcases hu with rfl|rfl<;>rfl)) hn63 (by omega) (Nat.le_trans hbase (Nat.le_trans hwr hBA.size)) ?_;intro v5 w5 h5 g5 _;have hF5:=(Frm2.below (base:=base) (b:=b) HB.out).trans ((Frm2.below (base:=base) (b:=b) hBA).trans (Frm2.own hRA.M g5));have hb5:=zdo hRA.blk g5 fun g hg=>by have:=(zbj hRA.M hg).1;omega
    have ht5:w5.heap[tb]? =some (mdB t):=(g5.block tb (qLt HTA.out) fun e=>by
     have h9:=(HRr.M.lt tb e.symm).2;have h8:=(HH.out.M.lt tb e.symm).2;have:=HTB.out;omega).trans HTA.out
    have hA5:=hRA.addM t (by rw [zdy _ _ _ _ HRr.ql,List.length_append];exact h5) g5;obtain⟨va,vc,rfl,_,_⟩:=zar h5;have hS5:=Frm2.set (base:=base) w5 2 (.slice va (s.ms.length+1) vc) hb5;have c5:w5.cell? ⟨b,2,none⟩=some v.M:=by rw [zaa hb5];rfl
    have f5:=zab hb5 2;have hC5:Two2 w5 b tb (rdB s.r v) (mdB t):=⟨hb5,ht5⟩
    go_wp2_with fail
    refine hK _ _ hC5 ?_;clear hK K;refine qT1 9 [10,11,12] fun K hK=>?_
    go_wp2_with fail
    refine hK _ _ hC5 ?_;clear hK K;refine qT1 10 [11,12] fun K hK=>?_
    go_wp2_with fail
    refine hK _ _ hC5 ?_;clear hK K;refine qT1 11 [12] fun K hK=>?_
    go_wp2_with fail
    refine hK _ _ hC5 ?_;clear hK K;refine zby (m:=0) (i:=12) (rem1:=[]) (by kernel_rfl) (by rfl) (by rfl) (by kernel_rfl) (fun K hK=>?_)
    go_wp2_with fail
    refine za2 ?_;go_wp2;go_ret;exact⟨rfl,⟨_,hA5⟩,hF5.trans hS5⟩
end Go.Proofs.YtpbmmoneeoijaaaGreatDoor
