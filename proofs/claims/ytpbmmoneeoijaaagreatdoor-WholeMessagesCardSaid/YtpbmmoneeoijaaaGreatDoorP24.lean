/-
  A part of the proof: EngBegin EngAsk EngTick SchFn FinAll.
-/
import Derived.Test.YtpbmmoneeoijaaaGreatDoorP23
namespace Go.Proofs.YtpbmmoneeoijaaaGreatDoor
open Go.RowKit Go.Deep
set_option maxRecDepth 100000
theorem zn4 {d:zbg} {X:World} (V:Env X d.y d.R d.h d.ceo d.cn d.sp) {i:Nat} (hi:i < d.y.en):∃ b o,d.y.eo=some ⟨b,o,none⟩∧X.cell? ⟨b,o+i * 23+1,none⟩=some (.int .i64 (d.h i 1))∧X.cell? ⟨b,o+i * 23+2,none⟩=some (.int .i64 (d.h i 2)):=by
 obtain⟨b,o,e,hc⟩:=V.edges i hi;exact⟨b,o,e,hc 1 (by decide),hc 2 (by decide)⟩
set_option maxHeartbeats 4000000 in
theorem begin_of (d:zbg) (k:Nat) (hk:k≤1000) (hP:zCh d (· < 0) k) (hW:WaitC d (· < 0) k):zCi d (k+1):=by
 intro i s r w hi hs m0 m1 hr hd;have hbw:d.base≤w.heap.size:=by have:=hd.eng.lo;have:=hd.eng.lt;omega
 have hpos:=hd.pos;have HT:=hid hd.tab;obtain⟨mo,ed,ph,si,nw,he,op⟩:=s;dsimp only at hs m0 m1;have E0:=hd.eng;have V0:=hd.env;have hOE:=V0.ok i hi;have c7:=E0.c7;have c9:=E0.c9;have c10:=E0.c10;have c12:=E0.c12;have f7:=E0.fz 7;have f9:=E0.fz 9;have f12:=E0.fz 12;dsimp only at c7 c9 c10 c12;have j0:(0:Int)≤(i:Int):=by omega
 have j1:(i:Int) < (d.y.en:Int):=by omega
 go_enter Tryz.func124,Tryz.ntmps124
 go_upto_region 2 with fail
 have Ea:=E0.set (s':=⟨mo,i,ph,si,nw,he,op⟩) (j:=7) (v:=.int .i64 (i:Nat)) (by omega) rfl rfl rfl rfl rfl rfl rfl (by omega);have Eb:=Ea.set (s':=⟨mo,i,ph,nw,nw,he,op⟩) (j:=9) (v:=.int .i64 nw) (by omega) rfl rfl rfl rfl rfl rfl rfl (by omega);have E1:=Eb.set (s':=⟨mo,i,ph,nw,nw,he,0⟩) (j:=12) (v:=.int .u32 0) (by omega) rfl rfl rfl rfl rfl rfl rfl (by omega);have k1:=((E0.ft_set 7 (.int .i64 (i:Nat))).trans (Ea.ft_set 9 (.int .i64 nw))).trans (Eb.ft_set 12 (.int .u32 0));have V1:=V0.keep zbd k1;obtain⟨W1,hW1⟩:∃ X,X=((w.setCell ⟨d.eb,7,none⟩ (.int .i64 (i:Nat))).setCell ⟨d.eb,9,none⟩ (.int .i64 nw)).setCell ⟨d.eb,12,none⟩ (.int .u32 0):=⟨_,rfl⟩;rw [←hW1] at E1 V1 k1 ⊢;clear hW1 Ea Eb E0 V0 c7 c9 c10 c12 f7 f9 f12 hd;obtain⟨eb,eo,heo,ce1,ce2⟩:=zn4 V1 hi;have c3:=E1.c3;rw [heo] at c3;obtain⟨tm,htm⟩:∃ q,d.h i 1=q:=⟨_,rfl⟩;rw [htm] at ce1;clear htm
 go_upto_region 3 with fail
 have bA:Below W1.heap.size W1 (W1.alloc (Obj.cells #[.bool true,.bool false,.bool false,.int .i64 (i:Nat),.int .i64 tm,.int .i64 0] 263)):=(Below.refl _ _).alloc (Nat.le_refl _) _;have E2:=E1.below bA;have V2:=V1.below bA;have k2:=k1.trans (FT.of_below (M:=Dl.TmT) (base:=d.base) bA);have hO2:=zox W1 ⟨true,false,false,(i:Int),tm,0⟩ (B:=w.heap.size) k1.size;have HO2:=hid hO2;have ce2':=kept ce2 bA;obtain⟨W2,hW2⟩:∃ X,X=W1.alloc (Obj.cells #[.bool true,.bool false,.bool false,.int .i64 (i:Nat),.int .i64 tm,.int .i64 0] 263):=⟨_,rfl⟩;rw [←hW2] at E2 V2 k2 HO2 ce2' ⊢;clear hW2 bA E1 V1 k1 c3 ce1 ce2 hO2;obtain⟨sa,hsa⟩:∃ q,zxw d.cn d.sp i=q:=⟨_,rfl⟩;obtain⟨sb,hsb⟩:∃ q,zxv d.cn d.sp i=q:=⟨_,rfl⟩;obtain⟨sk,hsk⟩:∃ q,zok d.cn i=q:=⟨_,rfl⟩;have HSE:=hid (zki d.ca d.ceo d.cl d.cb d.cn d.cc d.sp (i:Nat) W2 V2.spans);rw [hsa,hsb,hsk] at HSE;clear hsa hsb hsk;have g4:=E2.c4;have g5:=E2.c5
 go_upto_region 4 with (go_at_call 202;refine HSE.out.mono ?_;rintro e w3 ⟨rfl,b3⟩)
 have bB:Below w3.heap.size w3 (w3.alloc (Obj.cells #[.int .i64 sa,.int .i64 sb] 154)):=(Below.refl _ _).alloc (Nat.le_refl _) _;have b4:=b3.trans (bB.mono b3.size);have E4:=E2.below b4;have V4:=V2.below b4;have k4:=k2.trans (FT.of_below (M:=Dl.TmT) (base:=d.base) b4);have HO4:=hid (zdd HO2.out b4);have hS4:=heap_alloc_new w3 (Obj.cells #[.int .i64 sa,.int .i64 sb] 154);have cp:=kept ce2' b4;obtain⟨W4,hW4⟩:∃ X,X=w3.alloc (Obj.cells #[.int .i64 sa,.int .i64 sb] 154):=⟨_,rfl⟩;rw [←hW4] at E4 V4 k4 HO4 hS4 cp ⊢;clear hW4 bB b4 b3 E2 V2 k2 HO2 g4 g5 HSE ce2';have c3:=E4.c3;rw [heo] at c3;have c8:=E4.c8;have f8:=E4.fz 8;dsimp only at c8;have q1:=hOE.p1;have q2:=hOE.p2;obtain⟨p,hp⟩:∃ q,d.h i 2=q:=⟨_,rfl⟩;rw [hp] at cp q1 q2;clear hp hOE;have HNW:Hid (zrz d.y.en [⟨true,false,false,(i:Int),tm,0⟩]):=fun n hn hc=>by simp at hn;subst hn;cases hc
 rcases (show p=1∨p=2∨p=3 by omega) with rfl|rfl|rfl
 ·have E5:=E4.set (s':=⟨mo,i,1,nw,nw,he,0⟩) (j:=8) (v:=.int .i64 1) (by omega) rfl rfl rfl rfl rfl rfl rfl (by omega)
  have ks:=E4.ft_set 8 (.int .i64 1);have V5:=V4.keep zbd ks;have k5:=k4.trans ks;have HO5:=hid (FT.own ks HO4.out zci);have HCO:=hid (hP ⟨mo,i,1,nw,nw,he,0⟩ r _ hs j0 j1 (by show 0 < _;omega) hr ⟨E5,V5,HT.out.below (k5.below hbw) hpos,hpos⟩);have hsz:=hid k5.size
  go_wp2_with (first|(go_at_call 136;refine HCO.out.mono ?_;rintro e w9 ⟨v9,s9,r9,rfl,⟨l9,o9,n9,l9b⟩,E9,K9,F9⟩;have HO9:=hid (FT.own F9 HO5.out zci);have hs9:=hid F9.size)|(at_builtin;refine za0 rfl _ _ rfl w.heap.size _ [⟨true,false,false,(i:Int),tm,0⟩] rfl HO9.out _ _ l9 rfl o9 (by simp;omega) (Nat.le_trans hsz.out hs9.out) ?_;intro v10 w10 h10 g10))
  have b10:=FT.grown (M:=fun t=>t=263) (base:=d.base) HO9.out g10 rfl hbw;have k10:=FT.then_new (k5.trans F9) (Save.of_grown g10) fun x hx=>(HO9.out.lt x hx).1;go_ret;exact⟨v10,s9,r9,rfl,⟨_,h10,(by
   intro n hn hc;rcases List.mem_append.1 hn with hn|hn
   ·exact HNW.out n hn hc
   ·exact n9 n hn hc),by rw [List.length_append];simp;omega⟩,E9.keep b10 (by decide) (by decide),K9,k10⟩
 ·have E5:=E4.set (s':=⟨mo,i,2,nw,nw,he,0⟩) (j:=8) (v:=.int .i64 2) (by omega) rfl rfl rfl rfl rfl rfl rfl (by omega)
  have ks:=E4.ft_set 8 (.int .i64 2);have V5:=V4.keep zbd ks;have k5:=k4.trans ks;have HO5:=hid (FT.own ks HO4.out zci);have hS5:=ks.blk hS4 (by unfold Dl.TmT;decide);have n0:=zaa hS5 0;have n1:=zaa hS5 1;have HWA:=hid (hW sa sb ⟨mo,i,2,nw,nw,he,0⟩ r _ hs m0 m1 (.inl rfl) j0 j1 (by show 0 < _;omega) hr ⟨E5,V5,HT.out.below (k5.below hbw) hpos,hpos⟩);have hsz:=hid k5.size
  go_wp2_with (first|(go_at_call 204;refine HWA.out.mono ?_;rintro e w9 ⟨v9,s9,r9,rfl,⟨l9,o9,n9,l9b⟩,E9,K9,F9⟩;have HO9:=hid (FT.own F9 HO5.out zci);have hs9:=hid F9.size)|(at_builtin;refine za0 rfl _ _ rfl w.heap.size _ [⟨true,false,false,(i:Int),tm,0⟩] rfl HO9.out _ _ l9 rfl o9 (by simp;omega) (Nat.le_trans hsz.out hs9.out) ?_;intro v10 w10 h10 g10))
  have b10:=FT.grown (M:=fun t=>t=263) (base:=d.base) HO9.out g10 rfl hbw;have k10:=FT.then_new (k5.trans F9) (Save.of_grown g10) fun x hx=>(HO9.out.lt x hx).1;go_ret;exact⟨v10,s9,r9,rfl,⟨_,h10,(by
   intro n hn hc;rcases List.mem_append.1 hn with hn|hn
   ·exact HNW.out n hn hc
   ·exact n9 n hn hc),by rw [List.length_append];simp;omega⟩,E9.keep b10 (by decide) (by decide),K9,k10⟩
 ·have E5:=E4.set (s':=⟨mo,i,3,nw,nw,he,0⟩) (j:=8) (v:=.int .i64 3) (by omega) rfl rfl rfl rfl rfl rfl rfl (by omega)
  have ks:=E4.ft_set 8 (.int .i64 3);have V5:=V4.keep zbd ks;have k5:=k4.trans ks;have HO5:=hid (FT.own ks HO4.out zci);have hS5:=ks.blk hS4 (by unfold Dl.TmT;decide);have HSH:=hid (zzh d ⟨mo,i,3,nw,nw,he,0⟩ r i _ rfl hi (by show 0 < _;omega) hr ⟨E5,V5,HT.out.below (k5.below hbw) hpos,hpos⟩)
  go_upto_region 15 with (go_at_call 203;refine HSH.out.mono ?_;rintro e w6 ⟨⟨v6,rfl⟩,op6,r6,h6,t6,D6,F6⟩)
  have k6:=k5.trans F6;have HO6:=hid (FT.own F6 HO5.out zci);have hS6:=F6.blk hS5 (by unfold Dl.TmT;decide);have n0:=zaa hS6 0;have n1:=zaa hS6 1;have HWA:=hid (hW sa sb _ r6 _ hs m0 m1 (.inr rfl) j0 j1 h6 t6 D6);have hsz:=hid k6.size;clear E5 V5 E4 V4
  go_wp2_with (first|(go_at_call 204;refine HWA.out.mono ?_;rintro e w9 ⟨v9,s9,r9,rfl,⟨l9,o9,n9,l9b⟩,E9,K9,F9⟩;have HO9:=hid (FT.own F9 HO6.out zci);have hs9:=hid F9.size)|(at_builtin;refine za0 rfl _ _ rfl w.heap.size _ [⟨true,false,false,(i:Int),tm,0⟩] rfl HO9.out _ _ l9 rfl o9 (by simp;omega) (Nat.le_trans hsz.out hs9.out) ?_;intro v10 w10 h10 g10))
  have b10:=FT.grown (M:=fun t=>t=263) (base:=d.base) HO9.out g10 rfl hbw;have k10:=FT.then_new (k6.trans F9) (Save.of_grown g10) fun x hx=>(HO9.out.lt x hx).1;go_ret;exact⟨v10,s9,r9,rfl,⟨_,h10,(by
   intro n hn hc;rcases List.mem_append.1 hn with hn|hn
   ·exact HNW.out n hn hc
   ·exact n9 n hn hc),by rw [List.length_append];simp;omega⟩,E9.keep b10 (by decide) (by decide),K9,k10⟩
theorem over0 (d:zbg):OverC d (· < 0) 1:=zzx d _ 0 (by omega) (.inl fun _ h=>h)
theorem come0 (d:zbg):zCh d (· < 0) 2:=zA8 d _ 1 (by omega) (over0 d)
theorem begin0 (d:zbg):zCi d 3:=begin_of d 2 (by omega) (come0 d) (wait_of d _ 2 (come0 d))
theorem over1 (d:zbg):OverC d (fun _=>True) 4:=zzx d _ 3 (by omega) (.inr (begin0 d))
theorem come1 (d:zbg):zCh d (fun _=>True) 5:=zA8 d _ 4 (by omega) (over1 d)
def tgF (d:zbg) (s:EngS):Int:=if s.ed < 0 then s.mo else d.h s.ed.toNat 1
set_option maxHeartbeats 1000000 in
theorem zxq (d:zbg) (s:EngS) (r:Dl.TL) (w:World) (he:s.ed < d.y.en) (hd:d.at_ w s r):
  Calls Tryz.prog 123 #[.pointer (some ⟨d.eb,0,none⟩)] w fun e w'=>e=.returned (.int .i64 (tgF d s))∧Below w.heap.size w w':=by
 have c3:=hd.eng.c3;have c6:=hd.eng.c6;have c7:=hd.eng.c7;have V:=hd.env;obtain⟨mo,ed,ph,si,nw,hel,op⟩:=s;dsimp only at c6 c7 he;unfold tgF;dsimp only;clear hd;by_cases h:ed < 0
 ·have u1:decide (ed < 0)=true:=by simp [h]
  rw [if_pos h];go_enter Tryz.func123,Tryz.ntmps123;go_wp2;go_ret;exact⟨rfl,Below.refl _ _⟩
 ·have u1:decide (ed < 0)=false:=by simp;omega
  obtain⟨j,rfl⟩:∃ j:Nat,ed=j:=⟨ed.toNat,by omega⟩;rw [if_neg h];obtain⟨b,o,heo,ce1,ce2⟩:=zn4 V (i:=j) (by omega);rw [heo] at c3;have j0:(0:Int)≤(j:Int):=by omega
  have j1:(j:Int) < (d.y.en:Int):=by omega
  rw [Int.toNat_natCast];go_enter Tryz.func123,Tryz.ntmps123;go_wp2
  go_quiet (fail)
  go_wp2;go_ret;exact⟨rfl,⟨rfl,rfl,rfl,Nat.le_refl _,fun _ _=>rfl⟩⟩
def AskA (d:zbg) (w:World) (e:Ending) (w':World):Prop:=
 ∃ v code s r,e=.returned (.tuple #[v,.int .i64 code])∧zvy w' w.heap.size d.y.en 3 v∧d.at_ w' s r∧zib d.y s r∧FT Dl.TmT d.base w w'
theorem zit (w:World) (B en k:Nat):zvy w B en k (.slice none 0 0):=⟨[],World.ownsRow_nil _ _ _ _,fun n hn=>(by cases hn),Nat.zero_le _⟩
set_option maxHeartbeats 4000000 in
theorem ask_any (d:zbg) (s:EngS) (r:Dl.TL) (m:Int) (w:World) (hk:zib d.y s r) (hd:d.at_ w s r):
  Calls Tryz.prog 60 #[.pointer (some ⟨d.eb,0,none⟩),.int .i64 m,.int .u32 0] w (AskA d w):=by
 have hbw:d.base≤w.heap.size:=by have:=hd.eng.lo;have:=hd.eng.lt;omega
 have HTG:=hid fun X (hX:Below w.heap.size w X)=>zxq d s r X hk.e1 (hd.below hX);have HED:=hid fun (p q:Int) X (hX:Below w.heap.size w X)=>zpl d.y d.h p q X (hd.below hX).env.edges (by have:=hd.env.en;unfold maxLen;omega);have c2:=hd.eng.c2;have c8:=hd.eng.c8;have c11:=hd.eng.c11;have f11:=hd.eng.fz 11;obtain⟨tg,htg⟩:∃ q,tgF d s=q:=⟨_,rfl⟩;rw [htg] at HTG;clear htg;by_cases h0:m < 0
 ·have u1:decide (m < 0)=true:=by simp [h0]
  go_enter Tryz.func60,Tryz.ntmps60;go_wp2;go_ret2;exact⟨_,_,s,r,rfl,zit _ _ _ _,hd,hk,FT.refl _ _ _⟩
 have u1:decide (m < 0)=false:=by simp;omega
 by_cases h1:(d.y.mn:Int)≤m
 ·have u2:decide ((d.y.mn:Int)≤m)=true:=by simp [h1]
  go_enter Tryz.func60,Tryz.ntmps60;go_wp2;go_ret2;exact⟨_,_,s,r,rfl,zit _ _ _ _,hd,hk,FT.refl _ _ _⟩
 have u2:decide ((d.y.mn:Int)≤m)=false:=by simp;omega
 by_cases h2:0≤s.he
 ·have u3:decide (0≤s.he)=true:=by simp [h2]
  go_enter Tryz.func60,Tryz.ntmps60;go_wp2;go_ret2;exact⟨_,_,s,r,rfl,zit _ _ _ _,hd,hk,FT.refl _ _ _⟩
 have u3:decide (0≤s.he)=false:=by simp;omega
 have HD:=hid hd;have HK:=hid hk;have hpos:=hd.pos;clear hk;go_enter Tryz.func60,Tryz.ntmps60
 go_upto_region 5 with fail
 refine zah [5,7,8,9,10,11,12] (fun X=>Below w.heap.size w X) (by kernel_rfl) (by kernel_rfl) (by exact⟨rfl,rfl,rfl,Nat.le_refl _,fun _ _=>rfl⟩) ?_;refine qFs fun K hK=>?_;go_simp;refine⟨_,fun _ _=>rfl,hK _ ?_⟩;clear hK K;refine qFs fun K hK=>?_;go_simp;refine⟨_,fun _ _=>rfl,hK _ ?_⟩;clear hK K;refine qFs fun K hK=>?_;go_simp;refine⟨_,fun _ _=>rfl,hK _ ?_⟩;clear hK K;refine qFs fun K hK=>?_;go_simp;refine⟨.agg #[.int .i64 d.y.r,.slice d.y.ao d.y.n d.y.cap,.slice d.y.mo d.y.mn d.y.mc,.slice d.y.eo d.y.en d.y.ec],fun X hX=>?_,hK _ ?_⟩
 ·have EX:=HD.out.eng.below hX
  have z0:=EX.c0;have z1:=EX.c1;have z2:=EX.c2;have z3:=EX.c3;go_simp
 clear hK K;refine qFs fun K hK=>?_;go_simp;refine⟨_,fun _ _=>rfl,hK _ ?_⟩;clear hK K;refine qFc ?_;refine qFs fun K hK=>?_;go_simp;refine⟨_,fun _ _=>rfl,hK _ ?_⟩;clear hK K;refine qFc ?_;refine qFc ?_;refine qFc ?_;refine qFc ?_;refine qFc ?_;refine qFc ?_;refine zau ?_;have B5:Below w.heap.size w w.drew:=⟨rfl,rfl,rfl,Nat.le_refl _,fun _ _=>rfl⟩;refine qT1 5 [7,8,9,10,11,12] fun K hK=>?_
 go_wp2_with fail
 refine (HTG.out _ B5).mono ?_;rintro e W6 ⟨rfl,b6⟩;have B6:=B5.trans (b6.mono B5.size)
 go_wp2_with fail
 refine hK _ _ B6 ?_;clear hK K b6 B5;refine qT1 7 [8,9,10,11,12] fun K hK=>?_
 go_wp2_with fail
 refine (HED.out tg m _ B6).mono ?_;rintro e W7 ⟨i,ok,rfl,hin,b7⟩;have B7:=B6.trans (b7.mono B6.size)
 go_wp2_with fail
 refine hK _ _ B7 ?_;clear hK K b7 B6;refine zaf (m:=4) (i:=8) (rem1:=[9,10,11,12]) rfl (by kernel_rfl) (by rfl) (by rfl) B7 (by rfl) (fun K hK=>?_);go_simp;refine⟨_,fun _ _=>rfl,hK _ ?_⟩;clear hK K;refine zaf (m:=3) (i:=9) (rem1:=[10,11,12]) rfl (by kernel_rfl) (by rfl) (by rfl) B7 (by rfl) (fun K hK=>?_);go_simp;refine⟨_,fun _ _=>rfl,hK _ ?_⟩;clear hK K;refine zaf (m:=2) (i:=10) (rem1:=[11,12]) rfl (by kernel_rfl) (by rfl) (by rfl) B7 (by rfl) (fun K hK=>?_);go_simp;refine⟨_,fun _ _=>rfl,hK _ ?_⟩;clear hK K;refine qT1 11 [12] fun K hK=>?_
 go_wp2_with fail
 refine hK _ _ B7 ?_;clear hK K;refine qT1 12 [] fun K hK=>?_
 go_wp2_with fail
 refine hK _ _ B7 ?_;clear hK K;refine zan ?_;have D7:=HD.out.below B7;have F7:=FT.of_below (M:=Dl.TmT) (base:=d.base) B7;have e8:=D7.eng.c8;have e11:=D7.eng.c11;have g11:=D7.eng.fz 11;cases ok
 ·go_wp2
  go_ret2;exact⟨_,_,s,r,rfl,zit _ _ _ _,D7,HK.out,F7⟩
 ·obtain⟨i0,i1,_,_⟩:=hin rfl
  obtain⟨j,rfl⟩:∃ j:Nat,i=j:=⟨i.toNat,by omega⟩;by_cases hp:s.ph=0
  ·have u4:(s.ph != 0)=false:=by simp [hp]
   have hno:NoTm r:=by
    have t16:=HK.out.t16;have t17:=HK.out.t17;rw [hp] at t16 t17;exact⟨by simpa using t16,by simpa using t17⟩
   have HBE:=hid (begin0 d j s r W7 (by omega) (by omega) HK.out.m0 HK.out.m1 hno D7)
   go_wp2_with (go_at_call 124;refine HBE.out.mono ?_;rintro e w9 ⟨v9,s9,r9,rfl,⟨l9,o9,n9,l9b⟩,E9,K9,F9⟩)
   go_ret2;exact⟨_,_,s9,r9,rfl,⟨l9,zqq o9 B7.size,n9,l9b⟩,⟨E9,D7.env.keep zbd F9,D7.tab.below (F9.below (Nat.le_trans hbw B7.size)) hpos,hpos⟩,K9,F7.trans F9⟩
  ·have u4:(s.ph != 0)=true:=by simp [hp]
   have E8:=D7.eng.set (s':={ s with he:=m }) (j:=11) (v:=.int .i64 m) (by omega) rfl rfl rfl rfl rfl rfl rfl (by omega);have ks:=D7.eng.ft_set 11 (.int .i64 m);have hk:=HK.out;go_wp2;go_ret2;exact⟨_,_,{ s with he:=m },r,rfl,zit _ _ _ _,⟨E8,D7.env.keep zbd ks,D7.tab.below (ks.below (Nat.le_trans hbw B7.size)) hpos,hpos⟩,⟨hk.m0,hk.m1,hk.p,hk.e0,hk.e1,hk.op,hk.t16,hk.t17⟩,F7.trans ks⟩
structure zdw (y:Img) (s:EngS) (r:Dl.TL) (D:List Int):Prop where
 m0:0≤s.mo
 m1:s.mo < y.mn
 p:s.ph=0∨s.ph=2∨s.ph=3∨s.ph=4
 e0:s.ph≠0→0≤s.ed
 e1:s.ed < y.en
 op:s.op < 4294967296
 t16:D.count 16+Dl.cnt 16 r≤if s.ph=2∨s.ph=3 then 1 else 0
 t17:D.count 17+Dl.cnt 17 r≤if s.ph=4 then 1 else 0
theorem zdw.done {y:Img} {s:EngS} {r:Dl.TL} (h:zdw y s r []):zib y s r:=⟨h.m0,h.m1,h.p,h.e0,h.e1,h.op,by simpa using h.t16,by simpa using h.t17⟩
theorem zdw.of_ok {y:Img} {s:EngS} {r:Dl.TL} {D:List Int} (h:zib y s r) (h1:D.count 16=0) (h2:D.count 17=0):zdw y s r D:=⟨h.m0,h.m1,h.p,h.e0,h.e1,h.op,by rw [h1,Nat.zero_add];exact h.t16,by rw [h2,Nat.zero_add];exact h.t17⟩
theorem zdw.at16 {y:Img} {s:EngS} {r:Dl.TL} {D:List Int} (h:zdw y s r (16 :: D)):(s.ph=2∨s.ph=3)∧NoTm r∧D.count 16=0∧D.count 17=0:=by
 have a:=h.t16;have b:=h.t17;rw [List.count_cons_self] at a;rw [List.count_cons_of_ne (by decide)] at b;have hp:s.ph=2∨s.ph=3:=by
  by_cases hp:s.ph=2∨s.ph=3
  ·exact hp
  ·rw [if_neg hp] at a;omega
 rw [if_pos hp] at a;have hp4:s.ph≠4:=by omega
 rw [if_neg hp4] at b;exact⟨hp,⟨by omega,by omega⟩,by omega,by omega⟩
theorem zdw.at17 {y:Img} {s:EngS} {r:Dl.TL} {D:List Int} (h:zdw y s r (17 :: D)):s.ph=4∧NoTm r∧D.count 16=0∧D.count 17=0:=by
 have a:=h.t16;have b:=h.t17;rw [List.count_cons_self] at b;rw [List.count_cons_of_ne (by decide)] at a;have hp4:s.ph=4:=by
  by_cases hp:s.ph=4
  ·exact hp
  ·rw [if_neg hp] at b;omega
 have hp:¬ (s.ph=2∨s.ph=3):=by omega
 rw [if_neg hp] at a;rw [if_pos hp4] at b;exact⟨hp4,⟨by omega,by omega⟩,by omega,by omega⟩
theorem zdw.other {y:Img} {s:EngS} {r:Dl.TL} {x:Int} {D:List Int} {op:Nat} (h:zdw y s r (x :: D)) (h1:x≠16) (h2:x≠17) (ho:op < 4294967296):zdw y { s with op:=op } r D:=by
 have a:=h.t16;have b:=h.t17;rw [List.count_cons_of_ne h1] at a;rw [List.count_cons_of_ne h2] at b;exact⟨h.m0,h.m1,h.p,h.e0,h.e1,ho,a,b⟩
theorem zdw.first {y:Img} {s:EngS} {r:Dl.TL} {n:Int} (h:zib y s r):zdw y { s with nw:=n } (Dl.leftR r) (Dl.dueR r):=
 ⟨h.m0,h.m1,h.p,h.e0,h.e1,h.op,by rw [Dl.cnt_tick];exact h.t16,by rw [Dl.cnt_tick];exact h.t17⟩
def EngTickA (d:zbg) (w:World) (e:Ending) (w':World):Prop:=
 ∃ v s r,e=.returned v∧zvy w' w.heap.size d.y.en 400 v∧d.at_ w' s r∧zib d.y s r∧FT Dl.TmT d.base w w'
theorem dueR_len (r:Dl.TL):(Dl.dueR r).length≤r.length:=by
 unfold Dl.dueR;rw [List.length_map];exact List.length_filter_le _ _
theorem qs_len {W:World} {base qb qo:Nat} {r:Dl.TL} (h:Dl.QS W base qb qo r):r.length≤64:=by
 obtain⟨L,_,h2⟩:=h;exact h2.len
theorem zAe:¬ Dl.TmT 3:=by unfold Dl.TmT;decide
set_option maxHeartbeats 4000000 in
theorem zto (d:zbg) (s:EngS) (r:Dl.TL) (w:World) (hk:zib d.y s r) (hd:d.at_ w s r):
  Calls Tryz.prog 66 #[.pointer (some ⟨d.eb,0,none⟩),.int .u32 0] w (EngTickA d w):=by
 have hbw:d.base≤w.heap.size:=by have:=hd.eng.lo;have:=hd.eng.lt;omega
 have hpos:=hd.pos;have c10:=hd.eng.c10;have f10:=hd.eng.fz 10;have E1:=hd.eng.set (s':={ s with nw:=wrap64 (s.nw+1) }) (j:=10) (v:=.int .i64 (wrap64 (s.nw+1))) (by omega) rfl rfl rfl rfl rfl rfl rfl (by omega);have k1:=hd.eng.ft_set 10 (.int .i64 (wrap64 (s.nw+1)));have D1:=hid (show d.at_ (w.setCell ⟨d.eb,10,none⟩ (.int .i64 (wrap64 (s.nw+1)))) { s with nw:=wrap64 (s.nw+1) } r from ⟨E1,hd.env.keep zbd k1,hd.tab.below (k1.below hbw) hpos,hpos⟩);have HK:=hid (zdw.first (n:=wrap64 (s.nw+1)) hk);have hlen:(Dl.dueR r).length≤64:=Nat.le_trans (dueR_len r) (qs_len hd.eng.q);clear E1 hk;go_enter Tryz.func66,Tryz.ntmps66
 go_upto_region 3 with fail
 obtain⟨W1,hW1⟩:∃ X,X=w.setCell ⟨d.eb,10,none⟩ (.int .i64 (wrap64 (s.nw+1))):=⟨_,rfl⟩;rw [←hW1] at D1 k1 ⊢;clear hW1 c10 f10 hd
 go_upto_region 4 with (go_at_call 135;refine (Dl.qtick_any d.base d.eb 13 r W1 D1.out.eng.q D1.out.eng.ty).mono ?_;rintro e w2 ⟨v2,rfl,o2,q2,K2⟩;obtain⟨ia,ic,rfl,_,_⟩:=zar o2)
 have D2:=hid (show d.at_ w2 { s with nw:=wrap64 (s.nw+1) } (Dl.leftR r) from ⟨D1.out.eng.timers K2 q2,D1.out.env.keep zbd K2.k,D1.out.tab.below (K2.k.below (Nat.le_trans hbw k1.size)) hpos,hpos⟩);have F2:=hid (k1.trans K2.k);have O2:=hid o2;obtain⟨D,hD⟩:∃ D,Dl.dueR r=D:=⟨_,rfl⟩;rw [hD] at HK hlen O2 ⊢;obtain⟨N,hN⟩:∃ N,D.length=N:=⟨_,rfl⟩;have HN0:=hid hN;rw [hN] at hlen O2 ⊢;clear hD hN o2 q2 K2 D1
 go_loopw [5,20] (fun o_ i_ wr=>∃ (i:Nat) (s':EngS) (r':Dl.TL) (l:List zko),i_=.int .i64 i∧i≤N∧Hid (d.at_ wr s' r')∧Hid (zdw d.y s' r' (D.drop i))∧Hid (wr.ownsRow w.heap.size 263 6 o_ l.length (zfe l))∧Hid (zrz d.y.en l)∧l.length≤5 * i∧Hid (wr.ownsRow W1.heap.size 3 1 (.slice ia N ic) N (Dl.iv D))∧Hid (FT Dl.TmT d.base w wr)) (fun _ i_ _=>N - (intOf i_).toNat)
 case atStart=>exact⟨0,_,_,[],rfl,Nat.zero_le _,D2,HK,World.ownsRow_nil _ _ _ _,(fun n hn=>by cases hn),Nat.zero_le _,O2,F2⟩
 case round=>
  clear D2 HK O2 F2 k1;obtain⟨i,s1,r1,l,rfl,hi,HD,HK,HO,HN,hl,HI,HF⟩:=hrel;by_cases hlt:i < N
  ·have t0:decide ((i:Int) < (N:Int))=true:=by simp;omega
   have i0:(0:Int)≤(i:Int):=by omega
   have i1:(i:Int) < (N:Int):=by omega
   obtain⟨ao,c,e1,_,h2⟩:=zar HI.out;cases e1;obtain⟨b,rfl,_,hc,_⟩:=h2 (by omega);have hiD:i < D.length:=by rw [HN0.out];exact hlt
   have hdrop:=List.drop_eq_getElem_cons hiD;have cx:wr.cell? ⟨b,i,none⟩=some (.int .i64 D[i]):=by
    rw [hc i (by omega)];simp [Dl.iv,hiD]
   have hKx:=HK.out;rw [hdrop] at hKx;obtain⟨x,hx⟩:∃ x,D[i]=x:=⟨_,rfl⟩;rw [hx] at cx hKx;have hD:=HD.out;clear hdrop hx hc h2 HK;by_cases h16:x=16
   ·subst h16
    obtain⟨hp,hno,z1,z2⟩:=hKx.at16;have HCO:=hid (come1 d s1 r1 wr trivial (hKx.e0 (by omega)) hKx.e1 hKx.op hno hD)
    go_wp2_with (first|(go_at_call 136;refine HCO.out.mono ?_;rintro e w9 ⟨v9,s9,r9,rfl,⟨l9,o9,n9,l9b⟩,E9,K9,F9⟩;have HO9:=hid (FT.own F9 HO.out zci);have HI9:=hid (FT.own F9 HI.out zAe);have hs9:=hid (Nat.le_trans HF.out.size F9.size))|(at_builtin;refine za0 rfl _ _ rfl w.heap.size _ l rfl HO9.out _ _ l9 rfl o9 (by omega) hs9.out ?_;intro v10 w10 h10 g10;have b10:=hid (FT.grown (M:=fun t=>t=263) (base:=d.base) HO9.out g10 rfl hbw);have k10:=hid (FT.then_new (HF.out.trans F9) (Save.of_grown g10) fun x hx=>(HO9.out.lt x hx).1)))
    go_roundw
    case rel=>
     refine⟨i+1,s9,r9,l ++ l9,by go_num,by omega,⟨E9.keep b10.out (by decide) (by decide),(hD.env.keep zbd F9).keep ⟨by decide,by decide,by decide,by decide,by decide⟩ b10.out,(hD.tab.below (F9.below (Nat.le_trans hbw HF.out.size)) hpos).below (b10.out.below (Nat.le_trans hbw hs9.out)) hpos,hpos⟩,zdw.of_ok K9 z1 z2,h10,fun n hn hc=>?_,by rw [List.length_append];omega,FT.own b10.out HI9.out (by decide),k10.out⟩;rcases List.mem_append.1 hn with hn|hn
     ·exact HN.out n hn hc
     ·exact n9 n hn hc
    case measure=>simp [intOf];omega
   ·have u1:(x == 16)=false:=by simp [h16]
    by_cases h17:x=17
    ·subst h17
     obtain⟨hp,hno,z1,z2⟩:=hKx.at17;have HOV:=hid (over1 d s1 r1 wr trivial hKx.m0 hKx.m1 hno hD)
     go_wp2_with (first|(go_at_call 137;refine HOV.out.mono ?_;rintro e w9 ⟨v9,s9,r9,rfl,⟨l9,o9,n9,l9b⟩,E9,K9,F9⟩;have HO9:=hid (FT.own F9 HO.out zci);have HI9:=hid (FT.own F9 HI.out zAe);have hs9:=hid (Nat.le_trans HF.out.size F9.size))|(at_builtin;refine za0 rfl _ _ rfl w.heap.size _ l rfl HO9.out _ _ l9 rfl o9 (by omega) hs9.out ?_;intro v10 w10 h10 g10;have b10:=hid (FT.grown (M:=fun t=>t=263) (base:=d.base) HO9.out g10 rfl hbw);have k10:=hid (FT.then_new (HF.out.trans F9) (Save.of_grown g10) fun x hx=>(HO9.out.lt x hx).1)))
     go_roundw
     case rel=>
      refine⟨i+1,s9,r9,l ++ l9,by go_num,by omega,⟨E9.keep b10.out (by decide) (by decide),(hD.env.keep zbd F9).keep ⟨by decide,by decide,by decide,by decide,by decide⟩ b10.out,(hD.tab.below (F9.below (Nat.le_trans hbw HF.out.size)) hpos).below (b10.out.below (Nat.le_trans hbw hs9.out)) hpos,hpos⟩,zdw.of_ok K9 z1 z2,h10,fun n hn hc=>?_,by rw [List.length_append];omega,FT.own b10.out HI9.out (by decide),k10.out⟩;rcases List.mem_append.1 hn with hn|hn
      ·exact HN.out n hn hc
      ·exact n9 n hn hc
     case measure=>simp [intOf];omega
    ·have u2:(x == 17)=false:=by simp [h17]
     have c12:=hD.eng.c12;have f12:=hD.eng.fz 12;have g1':s1.op |||bitN x < 4294967296:=Nat.or_lt_two_pow (n:=32) hKx.op (zh9 _)
     have HWI:=hid (zfq s1.op hKx.op x wr);obtain⟨op2,hop2⟩:∃ q,s1.op |||bitN x=q:=⟨_,rfl⟩
     rw [hop2] at HWI g1';clear hop2;have E6:=hD.eng.set (s':={ s1 with op:=op2 }) (j:=12) (v:=.int .u32 (op2:Nat)) (by omega) rfl rfl rfl rfl rfl rfl rfl (by omega);have ks:=hD.eng.ft_set 12 (.int .u32 (op2:Nat))
     go_wp2_with (go_at_call 138;refine HWI.out.mono ?_;rintro e w9 ⟨rfl,hw9⟩;obtain rfl:=hw9.symm)
     go_roundw
     case rel=>exact⟨i+1,{ s1 with op:=op2 },r1,l,by go_num,by omega,⟨E6,hD.env.keep zbd ks,hD.tab.below (ks.below (Nat.le_trans hbw HF.out.size)) hpos,hpos⟩,hKx.other h16 h17 g1',FT.own ks HO.out zci,HN,by omega,FT.own ks HI.out zAe,HF.out.trans ks⟩
     case measure=>simp [intOf];omega
  ·obtain rfl:i=N:=by omega
   have t0:decide ((i:Int) < (i:Int))=false:=by simp
   have hk2:=HK.out;rw [List.drop_of_length_le (by rw [HN0.out];exact Nat.le_refl _)] at hk2;have hk3:=hk2.done;have hD:=HD.out;have c8:=hD.eng.c8;have hp:=hk3.p;have u8:(s1.ph == 1)=false:=by simp;omega
   go_wp2;go_ret;exact⟨_,s1,r1,rfl,⟨l,HO.out,HN.out,by omega⟩,hD,hk3,HF.out⟩
end Go.Proofs.YtpbmmoneeoijaaaGreatDoor
namespace Go.Proofs.YtpbmmoneeoijaaaGreatDoor
open Go.RowKit Go.Deep Go.Shelf
attribute [local go_sem] Oper.semAt_some
set_option maxRecDepth 100000
structure zb8 (W:World) (base sb:Nat):Prop where
 c96:W.cell? ⟨sb,96,none⟩=some (.int .u32 0)
 c97:W.cell? ⟨sb,97,none⟩=some (.int .u32 0)
 c139:∃ n:Int,W.cell? ⟨sb,139,none⟩=some (.int .i64 n)
 tb:∀ k,k < 8→∃ v,W.cell? ⟨sb,131+k,none⟩=some v
 fz:∀ o,W.frozen? ⟨sb,o,none⟩=false
 ty:∃ cur,W.heap[sb]? =some (.cells cur 249 (0,0))
 lo:base≤sb
def SchT (t:TypeId):Prop:=t=249
theorem zb8.lt {W:World} {base sb:Nat} (h:zb8 W base sb):sb < W.heap.size:=zal h.c96
theorem zb8.eq {W W':World} {base sb:Nat} (h:zb8 W base sb) (hb:W'.heap[sb]? =W.heap[sb]?):zb8 W' base sb:=by
 obtain⟨cur,hc⟩:=h.ty;have cc:∀ o,W'.cell? ⟨sb,o,none⟩=W.cell? ⟨sb,o,none⟩:=fun o=>World.cell?_of_block (w:=W) (w':=W') (a:=⟨sb,o,none⟩) hb;obtain⟨n,hn⟩:=h.c139;exact⟨(cc _).trans h.c96,(cc _).trans h.c97,⟨n,(cc _).trans hn⟩,fun k hk=>by obtain⟨v,hv⟩:=h.tb k hk;exact⟨v,(cc _).trans hv⟩,fun o=>by have:=h.fz o;simpa [World.frozen?,hb] using this,⟨cur,hb.trans hc⟩,h.lo⟩
theorem zb8.keep {M:TypeId→Prop} {base sb:Nat} {W W':World} (h:zb8 W base sb) (k:FT M base W W') (hm:¬ M 249):zb8 W' base sb:=by
 obtain⟨cur,hc⟩:=h.ty;exact h.eq ((k.blk hc hm).trans hc.symm)
theorem zb8.below {base sb:Nat} {W W':World} (h:zb8 W base sb) (k:Below W.heap.size W W'):zb8 W' base sb:=h.keep (M:=fun _=>False) (FT.of_below k) id
theorem zb8.ft_set {base sb:Nat} {W:World} (h:zb8 W base sb) (j:Nat) (v:Value):FT SchT base W (W.setCell ⟨sb,j,none⟩ v):=by
 obtain⟨cur,hc⟩:=h.ty;exact FT.set (M:=SchT) hc rfl h.lo v
theorem zb8.set {base sb:Nat} {W:World} (h:zb8 W base sb) {j:Nat} {v:Value} (hj:(131≤j∧j < 139)∨(j=139∧∃ n:Int,v=.int .i64 n)):zb8 (W.setCell ⟨sb,j,none⟩ v) base sb:=by
 obtain⟨cur,hc⟩:=h.ty;have hb:=Dl.blk_put0 (i:=j) (u:=v) hc;have key:∀ (o:Nat) (u:Value),W.cell? ⟨sb,o,none⟩=some u→(W.setCell ⟨sb,j,none⟩ v).cell? ⟨sb,o,none⟩=some (if j=o then v else u):=fun o u ho=>by
  rw [zaa hc] at ho;rw [zaa hb];by_cases e:j=o
  ·subst e
   have:=(Array.getElem?_eq_some_iff.1 ho).1;simp [this]
  ·rw [if_neg e,Array.getElem?_setIfInBounds_ne e,ho]
 obtain⟨n,hn⟩:=h.c139;refine⟨by rw [key _ _ h.c96,if_neg (by omega)],by rw [key _ _ h.c97,if_neg (by omega)],?_,fun k hk=>by obtain⟨u,hu⟩:=h.tb k hk;exact⟨_,key _ _ hu⟩,fun o=>by have:=h.fz o;simpa [World.frozen?_setCell] using this,⟨_,hb⟩,h.lo⟩;rcases hj with hj|⟨rfl,m,rfl⟩
 ·exact⟨n,by rw [key _ _ hn,if_neg (by omega)]⟩
 ·exact⟨m,by rw [key _ _ hn,if_pos rfl]⟩
theorem zu3 (base sb:Nat) (w:World) (h:zb8 w base sb):Calls Tryz.prog 57 #[.pointer (some ⟨sb,0,none⟩)] w fun e w'=>e=.returned (.int .u32 0)∧w=w':=by
 have c:=h.c96;go_enter Tryz.func57,Tryz.ntmps57;go_wp2;go_ret;exact⟨rfl,rfl⟩
theorem zyp (w:World):Calls Tryz.prog 206 #[.int .u32 0] w fun e w'=>e=.returned (.tuple #[.int .i64 0,.bool false])∧w=w':=by
 go_enter Tryz.func206,Tryz.ntmps206;go_wp2;go_ret2;exact⟨rfl,rfl⟩
theorem znl (base sb:Nat) (w:World) (h:zb8 w base sb):Calls Tryz.prog 127 #[.pointer (some ⟨sb,97,none⟩)] w fun e w'=>e=.returned (.tuple #[.int .i64 0,.bool false])∧w=w':=by
 have c:=h.c97;have HF:=hid (zyp w);go_enter Tryz.func127,Tryz.ntmps127
 go_wp2_with (go_at_call 206;refine HF.out.mono ?_;rintro e w2 ⟨rfl,hw2⟩;obtain rfl:=hw2)
 go_ret2;exact⟨rfl,rfl⟩
theorem next_any (base sb:Nat) (w:World) (h:zb8 w base sb):Calls Tryz.prog 63 #[.pointer (some ⟨sb,0,none⟩)] w fun e w'=>e=.returned (.tuple #[.int .i64 0,.bool false])∧w=w':=by
 have HF:=hid (znl base sb w h);go_enter Tryz.func63,Tryz.ntmps63
 go_wp2_with (go_at_call 127;refine HF.out.mono ?_;rintro e w2 ⟨rfl,hw2⟩;obtain rfl:=hw2)
 go_ret2;exact⟨rfl,rfl⟩
def ranV:Value:=.agg #[.int .i64 (-1),.int .i64 (-1),.int .i64 (-1),.bool false,.int .i64 0,.bool false]
set_option maxHeartbeats 1000000 in
theorem zsg (base sb:Nat) (w:World) (h:zb8 w base sb):Calls Tryz.prog 65 #[.pointer (some ⟨sb,0,none⟩)] w fun e w'=>e=.returned ranV∧zb8 w' base sb∧FT SchT base w w':=by
 have bA:Below w.heap.size w (w.alloc (Obj.cells #[.int .i64 0,.int .i64 0,.int .i64 0,.bool false,.int .i64 0,.bool false] 81)):=(Below.refl _ _).alloc (Nat.le_refl _) _;have hN:=heap_alloc_new w (Obj.cells #[.int .i64 0,.int .i64 0,.int .i64 0,.bool false,.int .i64 0,.bool false] 81);have h1:=h.below bA;obtain⟨n,c⟩:=h1.c139;have f:=h1.fz 139;have HF:=hid (znl base sb _ h1);obtain⟨W1,hW1⟩:∃ X,X=w.alloc (Obj.cells #[.int .i64 0,.int .i64 0,.int .i64 0,.bool false,.int .i64 0,.bool false] 81):=⟨_,rfl⟩;go_enter Tryz.func65,Tryz.ntmps65
 go_upto_region 1 with fail
 rw [←hW1] at bA hN h1 c f HF ⊢;clear hW1;have h2:=h1.set (j:=139) (v:=.int .i64 (wrap64 (n+1))) (.inr ⟨rfl,_,rfl⟩);have k2:=h1.ft_set 139 (.int .i64 (wrap64 (n+1)))
 go_upto_region 4 with (go_at_call 127;refine HF.out.mono ?_;rintro e w2 ⟨rfl,hw2⟩;obtain rfl:=hw2)
 have hN2:=k2.blk hN (by unfold SchT;decide);obtain⟨W2,hW2⟩:∃ X,X=W1.setCell ⟨sb,139,none⟩ (.int .i64 (wrap64 (n+1))):=⟨_,rfl⟩;rw [←hW2] at h2 k2 hN2 ⊢;clear hW2;have n0:=zaa hN2 0;have n1:=zaa hN2 1;have n2:=zaa hN2 2;have n3:=zaa hN2 3;have n4:=zaa hN2 4;have n5:=zaa hN2 5;have z0:=zab hN2 0;have z1:=zab hN2 1;have z2:=zab hN2 2;have z3:=zab hN2 3;have z4:=zab hN2 4;have z5:=zab hN2 5;have k3:FT (fun t=>t=81) w.heap.size W2 _:=FT.set (M:=fun t=>t=81) (i:=0) hN2 rfl (Nat.le_refl _) (.int .i64 (-1));have m1:=Dl.blk_put0 (i:=0) (u:=.int .i64 (-1)) hN2;have k4:=k3.trans (FT.set (M:=fun t=>t=81) (i:=1) m1 rfl (Nat.le_refl _) (.int .i64 (-1)));have m2:=Dl.blk_put0 (i:=1) (u:=.int .i64 (-1)) m1;have k5:=k4.trans (FT.set (M:=fun t=>t=81) (i:=2) m2 rfl (Nat.le_refl _) (.int .i64 (-1)));have m3:=Dl.blk_put0 (i:=2) (u:=.int .i64 (-1)) m2;have k6:=k5.trans (FT.set (M:=fun t=>t=81) (i:=3) m3 rfl (Nat.le_refl _) (.bool false));have m4:=Dl.blk_put0 (i:=3) (u:=.bool false) m3;have k7:=k6.trans (FT.set (M:=fun t=>t=81) (i:=4) m4 rfl (Nat.le_refl _) (.int .i64 0));have m5:=Dl.blk_put0 (i:=4) (u:=.int .i64 0) m4;have k8:=k7.trans (FT.set (M:=fun t=>t=81) (i:=5) m5 rfl (Nat.le_refl _) (.bool false));have m6:=Dl.blk_put0 (i:=5) (u:=.bool false) m5;go_wp2;refine bodyPost_ret (v:=ranV) (results_cell_row (p:=2) (ty:=81) rfl _ _ w.heap.size _ _ _ _ (by rfl) m6 Tryz.underlying81 rfl (by kernel_rfl)) rfl ?_;refine⟨rfl,h2.eq ?_,?_⟩
 ·obtain⟨cur,hc⟩:=h2.ty
  exact (k8.low hc (by have:=h.lt;omega)).trans hc.symm
 ·exact ((FT.of_below bA).trans k2).then_new k8 fun i hi=>hi.1
end Go.Proofs.YtpbmmoneeoijaaaGreatDoor
namespace Go.Proofs.YtpbmmoneeoijaaaGreatDoor
open Go.RowKit Go.Deep
set_option maxRecDepth 100000
set_option maxHeartbeats 2000000 in
theorem all1_fin (m:Nat) (n:Nat) (hn:1≤n) (Bn n₀:Nat) (s:Nat) (w:World) (hs:s < 4294967296) (hm:s < 2 ^ m) (hn0:0 < n₀) (hc:w.cell? ⟨Bn,0,none⟩=some (.int .u32 s)) (hT:Tab w):
  SeqStopsK Fence.wide n Tryz.prog 221 #[.pointer (some ⟨Bn,0,none⟩)] (fun x:Fin m=>#[.int .i64 (x.val:Nat)]) (Below n₀) (fun _=>True) (fun _=>True) 32 w:=by
 intro l J Jx W hW hJ hJx hY h0;have hc1:W.cell? ⟨Bn,0,none⟩=some (.int .u32 s):=(hW.cell (p:=⟨Bn,0,none⟩) (zal hc)).trans hc;have hT1:Tab W:=hT.below hW hT.pos;have hlen:=zea s;have hmem:∀ i,i∈zdv s→i < m:=fun i hi=>by
  unfold zdv at hi;have hb:=(List.mem_filter.1 hi).2;rcases Nat.lt_or_ge i m with h|h
  ·exact h
  ·rw [Nat.testBit_lt_two_pow (Nat.lt_of_lt_of_le hm (Nat.pow_le_pow_right (by decide) h))] at hb;cases hb
 refine callsIn_of_wp Tryz.func221 rfl trivial ?_ rfl;simp only [Tryz.ntmps221,List.size_toArray,List.length_cons,List.length_nil,Nat.reduceAdd,Nat.reduceSub,Array.replicate_succ,Array.replicate_zero,List.push_toArray,List.append_toArray,List.nil_append,List.cons_append]
 gi_wp2
 gi_loopw [3] (fun p wr=>∃ (pre:List (Fin m)) (x:Nat),p=.int .u32 x∧x < 4294967296∧zdv s=pre.map (·.val) ++ zdv x∧Tab wr∧J pre wr)
  (fun p _=>(intOf p).toNat)
 case atStart=>exact⟨[],s,rfl,hs,rfl,hT1,h0⟩
 case round=>
  obtain⟨pre,x,rfl,hx,hb,hTr,hJr⟩:=hrel;by_cases hx0:x=0
  ·subst hx0
   gi_wp2
   go_end0
   exact⟨⟨_,rfl⟩,.inl ⟨pre,trivial,hJr⟩⟩
  ·have hst:=zmo hx0 hx
   have hlt:=zAb hx0;have t1:((x:Int) != 0)=true:=by simp;omega
   have t2:((x:Int) == 0)=false:=by simp;omega
   have hcm:Lib.ctz 32 x < m:=hmem _ (by rw [hb,hst];simp);obtain⟨c,hcv⟩:∃ c:Fin m,c.val=Lib.ctz 32 x:=⟨⟨_,hcm⟩,rfl⟩;obtain⟨fn,tmps,assign,body,hy,hR⟩:=hY pre c wr hJr (by rw [hst] at hb;have:=congrArg List.length hb;simp at this;omega);rw [hcv] at hy;have e1:IntKind.u32.wrap ((x:Int) - 1)=((x - 1:Nat):Int):=by rw [IntKind.wrap_u32];omega
   have e2:bits BinOp.and IntKind.u32 (x:Int) ((x - 1:Nat):Int)=((x &&& (x - 1):Nat):Int):=bits_and_u32_nat x (x - 1) hx (by omega)
   gi_wp2_with (first
    |(refine⟨trivial,?_⟩;gi_at_call 222;refine (callsIn_wide.2 (zud x hx hx0 _ hTr)).mono ?_;rintro e w' ⟨rfl,rfl⟩)
    |(refine hR.mono ?_;clear hR;rintro e W3 (⟨rfl,hJ3,hk3⟩|⟨rfl,hJx3⟩)))
   ·go_roundw
    case rel=>exact⟨pre ++ [c],x &&& (x - 1),rfl,by omega,by rw [hb,hst];simp [hcv],hTr.below hk3 hn0,hJ3⟩
    case measure=>simp only [intOf];omega
   ·refine bodyPost_ret (results_none rfl _ _ _) rfl ?_
    exact⟨⟨_,rfl⟩,.inr ⟨pre ++ [c],trivial,hJx3⟩⟩
theorem zs8 (x:Nat→Int) (w:World):Calls Tryz.prog 220 #[tv x] w fun e w'=>e=.returned (.func (.func 272) #[] #[.pointer (some ⟨w.heap.size,0,none⟩)])∧w'=w.alloc (zih x):=by
 unfold tv zih;go_enter Tryz.func220,Tryz.ntmps220;go_wp2;go_ret;exact⟨rfl,rfl⟩
set_option maxHeartbeats 4000000 in
theorem zr7 (n:Nat) (hn:1≤n) (Bn n₀:Nat) (y:Nat→Int) (w:World) (hc:w.heap[Bn]? =some (zih y)):
  SeqStopsK Fence.wide n Tryz.prog 272 #[.pointer (some ⟨Bn,0,none⟩)] (fun x:Fin 8×Int=>#[.int .i64 (x.1.val:Nat),.int .i64 x.2]) (Below n₀) (fun _=>True) (fun _=>True) 8 w:=by
 intro l J Jx W hW hJ hJx hY h0;unfold zih at hc;have hblk:=(hW.block Bn (Array.getElem?_eq_some_iff.1 hc).1).trans hc;have d3:=zaa hblk 3;have d4:=zaa hblk 4;have d5:=zaa hblk 5;have d6:=zaa hblk 6;have d7:=zaa hblk 7;have d8:=zaa hblk 8;have d9:=zaa hblk 9;have d10:=zaa hblk 10;refine callsIn_of_wp Tryz.func272 rfl trivial ?_ rfl;simp only [Tryz.ntmps272,List.size_toArray,List.length_cons,List.length_nil,Nat.reduceAdd,Nat.reduceSub,Array.replicate_succ,Array.replicate_zero,List.push_toArray,List.append_toArray,List.nil_append,List.cons_append]
 gi_wp2
 clear d3 d4 d5 d6 d7 d8 d9 d10 hblk
 gi_loopw [7] (fun p wr=>∃ (pre:List (Fin 8×Int)) (i:Nat),p=.int .i64 i∧i≤8∧pre.length≤i∧J pre wr)
  (fun p _=>8 - (intOf p).toNat)
 case atStart=>exact⟨[],0,rfl,by omega,Nat.le_refl _,h0⟩
 case round=>
  obtain⟨pre,i,rfl,hi,hlen,hJr⟩:=hrel;by_cases hlt:i < 8
  ·have t0:decide ((i:Int) < 8)=true:=by simp;omega
   obtain⟨v,hv⟩:∃ v,y (3+i)=v:=⟨_,rfl⟩;have hix:(#[Value.int .i64 (y 3),.int .i64 (y 4),.int .i64 (y 5),.int .i64 (y 6),.int .i64 (y 7),.int .i64 (y 8),.int .i64 (y 9),.int .i64 (y 10)]:Array Value)[i]? =some (.int .i64 v):=by
    rw [←hv];rcases i with _|_|_|_|_|_|_|_|i
    all_goals first|rfl|omega
   have i0':(0:Int)≤(i:Int):=by omega
   have i1:(i:Int) < 8:=by omega
   have hrun:=zc0 (w:=wr) 56 3 8 _ .i64 i v .i64 Tryz.underlying56 Tryz.underlying3 (by kernel_rfl) hlt hix;by_cases hp:0 < v
   ·have t1:decide (0 < v)=true:=by simp [hp]
    obtain⟨c,hcv,hc2⟩:∃ c:Fin 8×Int,c.1.val=i∧c.2=v:=⟨(⟨i,hlt⟩,v),rfl,rfl⟩;obtain⟨fn,tmps,assign,body,hy,hR⟩:=hY pre c wr hJr (by omega);rw [hcv,hc2] at hy
    gi_wp2_with (first
     |(rw [hrun];dsimp only [Result.andThen];clear hrun hix)
     |(refine hR.mono ?_;clear hR;rintro e W3 (⟨rfl,hJ3,hk3⟩|⟨rfl,hJx3⟩)))
    ·go_roundw
     case rel=>exact⟨pre ++ [c],i+1,by go_num,by omega,by simp;omega,hJ3⟩
     case measure=>simp [intOf];omega
    ·refine bodyPost_ret (results_none rfl _ _ _) rfl ?_
     exact⟨⟨_,rfl⟩,.inr ⟨pre ++ [c],trivial,hJx3⟩⟩
   ·have t1:decide (0 < v)=false:=by simp [hp]
    gi_wp2_with (rw [hrun];dsimp only [Result.andThen];clear hrun hix)
    refine⟨fun _ h=>(by cases h),?_⟩
    gi_wp2
    go_roundw
    case rel=>exact⟨pre,i+1,by go_num,by omega,by omega,hJr⟩
    case measure=>simp [intOf];omega
  ·obtain rfl:i=8:=by omega
   gi_wp2
   go_end0
   exact⟨⟨_,rfl⟩,.inl ⟨pre,trivial,hJr⟩⟩
end Go.Proofs.YtpbmmoneeoijaaaGreatDoor
