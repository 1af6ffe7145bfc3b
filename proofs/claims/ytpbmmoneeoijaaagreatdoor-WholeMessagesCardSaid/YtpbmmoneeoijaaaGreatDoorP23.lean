/-
  A part of the proof: EngCome EngWait EngKeepS EngCls StageIn TailIn EngShift.
-/
import Derived.Test.YtpbmmoneeoijaaaGreatDoorP22
namespace Go.Proofs.YtpbmmoneeoijaaaGreatDoor
open Go.RowKit Go.Deep
set_option maxRecDepth 100000
structure SpanBox (W:World) (a b:Int) (p:Value) (X:World):Prop where
 box:∃ q,p=.pointer (some ⟨q,0,none⟩)∧X.heap[q]? =some (Obj.cells #[.int .i64 a,.int .i64 b] 154)
 below:Below W.heap.size W X
set_option maxHeartbeats 4000000 in
theorem zA8 (d:zbg) (P:Int→Prop) (k:Nat) (hk:k≤1000) (hP:OverC d P k):zCh d P (k+1):=by
 intro s r w hs e0 e1 hop hr hd;have hbw:d.base≤w.heap.size:=by have:=hd.eng.lo;have:=hd.eng.lt;omega
 have HE:=hid hd.eng;have HV:=hid hd.env;have HT:=hid hd.tab;have hpos:=hd.pos;obtain⟨mo,ed,ph,si,nw,he,op⟩:=s;dsimp only at hs e0 e1 hop;obtain⟨j,rfl⟩:∃ j:Nat,ed=j:=⟨ed.toNat,by omega⟩;have c3:=hd.eng.c3;have c6:=hd.eng.c6;have c7:=hd.eng.c7;dsimp only at c6 c7;have hOE:=hd.env.ok j (by omega);obtain⟨b,o,heo,hc⟩:=hd.env.edges j (by omega);rw [heo] at c3;have ce:=hc 1 (by decide);have j0:(0:Int)≤(j:Int):=by omega
 clear hd hc;have CC3:=Cls.cell c3;have CC7:=Cls.cell c7;have CCE:=Cls.cell ce;obtain⟨tm,htm⟩:∃ q,d.h j 1=q:=⟨_,rfl⟩;have t1:=hOE.t1;have t2:=hOE.t2;rw [htm] at ce CCE t1 t2;go_enter Tryz.func136,Tryz.ntmps136
 go_upto_region 1 with fail
 refine za5 15 (by kernel_rfl) (by kernel_rfl) (by kernel_rfl) ?_;dsimp only [List.take,List.drop]
 repeat (go_big_quiet_step (fail))
 refine wpQuiet_nil ?_;intro _ hw';obtain⟨nq,rfl⟩:=hw';have hq:=nq.below;have hqs:=hq.size;have E1:=HE.out.below hq;have V1:=HV.out.below hq;have d6:=E1.c6;have f6:=E1.fz 6;dsimp only at d6;refine wpList_plain rfl fun K hK=>?_;go_simp;refine hK _ _ ?_;show Exit.then _ _ _ _ _
 have E2:=E1.set (s':=⟨tm,j,ph,si,nw,he,op⟩) (j:=6) (v:=.int .i64 tm) (by omega) rfl rfl rfl rfl rfl rfl rfl (by omega);have ks:=E1.ft_set 6 (.int .i64 tm);have V2:=V1.keep zbd ks;have k2:=(FT.of_below (M:=Dl.TmT) (base:=d.base) hq).trans ks;obtain⟨W2,hW2⟩:∃ X,X=nq.wd.setCell ⟨d.eb,6,none⟩ (.int .i64 tm):=⟨_,rfl⟩;rw [←hW2] at E2 V2 k2 ⊢;clear hW2 hK K CC3 CC7 CCE c3 c6 c7 ce E1 V1 ks HE HV hq d6 f6;have g5:=E2.c9;have g6:=E2.c6;have g7:=E2.c7;have g10:=E2.c10;dsimp only at g5 g6 g7 g10;have C5:=Cls.cell g5;have C6:=Cls.cell g6;have C7:=Cls.cell g7;have C10:=Cls.cell g10
 go_upto_region 2 with fail
 refine za5 18 (by kernel_rfl) (by kernel_rfl) (by kernel_rfl) ?_;dsimp only [List.take,List.drop]
 repeat (go_big_quiet_step (fail))
 refine wpQuiet_nil ?_;intro _ hw';obtain⟨nq2,rfl⟩:=hw';have hq2:=nq2.below;have bA:Below nq2.wd.heap.size nq2.wd (nq2.wd.alloc (Obj.cells #[.bool false,.bool true,.bool false,.int .i64 (j:Nat),.int .i64 tm,.int .i64 (wrap64 (nw - si))] 263)):=(Below.refl _ _).alloc (Nat.le_refl _) _;have E3:=(E2.below hq2).below bA;have V3:=(V2.below hq2).below bA;have k3:=(k2.trans (FT.of_below (M:=Dl.TmT) (base:=d.base) hq2)).trans (FT.of_below (M:=Dl.TmT) (base:=d.base) bA);have hO3:=zox nq2.wd ⟨false,true,false,j,tm,wrap64 (nw - si)⟩ (B:=w.heap.size) (Nat.le_trans k2.size hq2.size);have HO3:=hid hO3;clear hO3
 go_upto_region 3 with fail
 obtain⟨W3,hW3⟩:∃ X,X=nq2.wd.alloc (Obj.cells #[.bool false,.bool true,.bool false,.int .i64 (j:Nat),.int .i64 tm,.int .i64 (wrap64 (nw - si))] 263):=⟨_,rfl⟩;have HO3:Hid (W3.ownsRow w.heap.size 263 6 (.slice (some ⟨nq2.wd.heap.size,0,none⟩) 1 1) 1 (zfe [⟨false,true,false,j,tm,wrap64 (nw - si)⟩])):=by rw [hW3];exact HO3.out
 rw [←hW3] at E3 V3 k3 ⊢;clear hW3 C5 C6 C7 C10 g5 g6 g7 g10 bA hq2 E2 V2 k2;obtain⟨sa,hsa⟩:∃ q,zxw d.cn d.sp j=q:=⟨_,rfl⟩;obtain⟨sb,hsb⟩:∃ q,zxv d.cn d.sp j=q:=⟨_,rfl⟩;obtain⟨sk,hsk⟩:∃ q,zok d.cn j=q:=⟨_,rfl⟩;have HSE:=hid fun X (hX:Below W3.heap.size W3 X)=>zki d.ca d.ceo d.cl d.cb d.cn d.cc d.sp (j:Nat) X (V3.below hX).spans;rw [hsa,hsb,hsk] at HSE;clear hsa hsb hsk
 go_cut [6,7] from 42 to 53 (fun p_ _ wx=>SpanBox W3 sa sb p_ wx)
 case first=>
  refine zah [8,9,10,11,12,13,14] (fun X=>Below W3.heap.size W3 X) (by kernel_rfl) (by kernel_rfl) (by exact⟨rfl,rfl,rfl,Nat.le_refl _,fun _ _=>rfl⟩) ?_;refine qFs fun K hK=>?_;go_simp;refine⟨_,fun _ _=>rfl,hK _ ?_⟩;clear hK K;refine qFs fun K hK=>?_;go_simp;refine⟨_,fun _ _=>rfl,hK _ ?_⟩;clear hK K;refine qFs fun K hK=>?_;go_simp;refine⟨_,fun _ _=>rfl,hK _ ?_⟩;clear hK K;refine qFs fun K hK=>?_;go_simp;refine⟨.agg #[.slice d.ca d.cl d.cb,.slice d.ceo d.cn d.cc],fun X hX=>?_,hK _ ?_⟩
  ·have EX:=E3.below hX
   have z0:=EX.c4;have z1:=EX.c5;go_simp
  clear hK K;refine qFs fun K hK=>?_;go_simp;refine⟨_,fun _ _=>rfl,hK _ ?_⟩;clear hK K;refine qFs fun K hK=>?_;go_simp;refine⟨_,fun _ _=>rfl,hK _ ?_⟩;clear hK K;refine qFs fun K hK=>?_;go_simp;refine⟨_,fun _ _=>rfl,hK _ ?_⟩;clear hK K;refine qFs fun K hK=>?_;go_simp;refine⟨.int .i64 (j:Nat),fun X hX=>?_,hK _ ?_⟩
  ·have EX:=E3.below hX
   have z0:=EX.c7;go_simp
  clear hK K;refine qFc ?_;refine qFc ?_;refine qFc ?_;refine qFc ?_;refine qFc ?_;refine qFc ?_;refine qFc ?_;refine zau ?_;have B5:Below W3.heap.size W3 W3.drew:=⟨rfl,rfl,rfl,Nat.le_refl _,fun _ _=>rfl⟩;refine zb0 (m:=6) (i:=8) (j:=12) (rem1:=[9,10,11,12,13,14]) (rem2:=[8,9,10,11,13,14]) (by kernel_rfl) (by rfl) (by rfl) (by rfl) (by rfl) (fun K hK=>?_) (fun K hK=>?_)
  ·go_wp2_with fail
   refine (HSE.out _ B5).mono ?_;rintro e W7 ⟨rfl,hb7⟩;have B7:=B5.trans (hb7.mono B5.size)
   go_wp2_with fail
   refine hK _ _ B7 ?_;clear hK K;refine zaf (m:=5) (i:=9) (rem1:=[10,11,12,13,14]) rfl (by kernel_rfl) (by rfl) (by rfl) B7 (by rfl) (fun K hK=>?_);go_simp;refine⟨_,fun _ _=>rfl,hK _ ?_⟩;clear hK K;refine zaf (m:=4) (i:=10) (rem1:=[11,12,13,14]) rfl (by kernel_rfl) (by rfl) (by rfl) B7 (by rfl) (fun K hK=>?_);go_simp;refine⟨_,fun _ _=>rfl,hK _ ?_⟩;clear hK K;refine zaf (m:=3) (i:=11) (rem1:=[12,13,14]) rfl (by kernel_rfl) (by rfl) (by rfl) B7 (by rfl) (fun K hK=>?_);go_simp;refine⟨_,fun _ _=>rfl,hK _ ?_⟩;clear hK K;have B8:=B7.alloc B7.size (Obj.cells #[.int .i64 0,.int .i64 0] 154);have hN:=heap_alloc_new W7 (Obj.cells #[.int .i64 0,.int .i64 0] 154);obtain⟨W8,hW8⟩:∃ X,X=W7.alloc (Obj.cells #[.int .i64 0,.int .i64 0] 154):=⟨_,rfl⟩;refine qT1 12 [13,14] fun K hK=>?_
   go_wp2_with fail
   refine hK _ _ (B7.alloc B7.size _) ?_;clear hK K;rw [←hW8] at B8 hN ⊢;clear hW8;have z0:=zaa hN 0;have z1:=zaa hN 1;have y0:=zab hN 0;have y1:=zab hN 1;have hF:=Dl.blk_put0 (i:=1) (u:=.int .i64 sb) (Dl.blk_put0 (i:=0) (u:=.int .i64 sa) hN);have B9:Below W3.heap.size W3 ((W8.setCell ⟨W7.heap.size,0,none⟩ (.int .i64 sa)).setCell ⟨W7.heap.size,1,none⟩ (.int .i64 sb)):=(B8.setCell (by exact B7.size) _).setCell (by exact B7.size) _;refine qT1 13 [14] fun K hK=>?_
   go_wp2_with fail
   refine hK _ _ B9 ?_;clear hK K;refine qT1 14 [] fun K hK=>?_
   go_wp2_with fail
   refine hK _ _ B9 ?_;clear hK K;refine zan ?_;go_wp2;go_meet
   case rel=>exact⟨⟨_,rfl,hF⟩,B9⟩
  ·go_wp2_with fail
   have B6:Below W3.heap.size W3 (W3.alloc (Obj.cells #[.int .i64 0,.int .i64 0] 154)).drew:=zhh ((Below.refl _ _).alloc (Nat.le_refl _) _);have hN6:(W3.alloc (Obj.cells #[.int .i64 0,.int .i64 0] 154)).drew.heap[W3.heap.size]? =some (Obj.cells #[.int .i64 0,.int .i64 0] 154):=heap_alloc_new W3 (Obj.cells #[.int .i64 0,.int .i64 0] 154);refine hK _ _ B6 ?_;clear hK K;obtain⟨W6,hW6⟩:∃ X,X=(W3.alloc (Obj.cells #[.int .i64 0,.int .i64 0] 154)).drew:=⟨_,rfl⟩;rw [←hW6] at B6 hN6 ⊢;clear hW6;refine qT1 8 [9,10,11,13,14] fun K hK=>?_
   go_wp2_with fail
   refine (HSE.out _ B6).mono ?_;rintro e W7 ⟨rfl,hb7⟩;have B7:=B6.trans (hb7.mono B6.size);have hN:=qBa hb7 hN6
   go_wp2_with fail
   refine hK _ _ B7 ?_;clear hK K;refine zaf (m:=4) (i:=9) (rem1:=[10,11,13,14]) rfl (by kernel_rfl) (by rfl) (by rfl) B7 (by rfl) (fun K hK=>?_);go_simp;refine⟨_,fun _ _=>rfl,hK _ ?_⟩;clear hK K;refine zaf (m:=3) (i:=10) (rem1:=[11,13,14]) rfl (by kernel_rfl) (by rfl) (by rfl) B7 (by rfl) (fun K hK=>?_);go_simp;refine⟨_,fun _ _=>rfl,hK _ ?_⟩;clear hK K;refine zaf (m:=2) (i:=11) (rem1:=[13,14]) rfl (by kernel_rfl) (by rfl) (by rfl) B7 (by rfl) (fun K hK=>?_);go_simp;refine⟨_,fun _ _=>rfl,hK _ ?_⟩;clear hK K;have z0:=zaa hN 0;have z1:=zaa hN 1;have y0:=zab hN 0;have y1:=zab hN 1;have hF:=Dl.blk_put0 (i:=1) (u:=.int .i64 sb) (Dl.blk_put0 (i:=0) (u:=.int .i64 sa) hN);have B9:Below W3.heap.size W3 ((W7.setCell ⟨W3.heap.size,0,none⟩ (.int .i64 sa)).setCell ⟨W3.heap.size,1,none⟩ (.int .i64 sb)):=(B7.setCell (by exact Nat.le_refl _) _).setCell (by exact Nat.le_refl _) _;refine qT1 13 [14] fun K hK=>?_
   go_wp2_with fail
   refine hK _ _ B9 ?_;clear hK K;refine qT1 14 [] fun K hK=>?_
   go_wp2_with fail
   refine hK _ _ B9 ?_;clear hK K;refine zan ?_;go_wp2;go_meet
   case rel=>exact⟨⟨_,rfl,hF⟩,B9⟩
 obtain⟨⟨q,rfl,hS⟩,bC⟩:=hcut;have E4:=E3.below bC;have V4:=V3.below bC;have k4:=k3.trans (FT.of_below (M:=Dl.TmT) (base:=d.base) bC);have HO4:=hid (zdd HO3.out bC);have c8:=E4.c8;have f8:=E4.fz 8;dsimp only at c8;have E5:=E4.set (s':=⟨tm,j,4,si,nw,he,op⟩) (j:=8) (v:=.int .i64 4) (by omega) rfl rfl rfl rfl rfl rfl rfl (by omega);have ks:=E4.ft_set 8 (.int .i64 4);have V5:=V4.keep zbd ks;have k5:=k4.trans ks;have HO5:=hid (FT.own ks HO4.out zci);have hS5:=ks.blk hS (by unfold Dl.TmT;decide)
 go_upto_region 5 with fail
 obtain⟨W5,hW5⟩:∃ X,X=wc.setCell ⟨d.eb,8,none⟩ (.int .i64 4):=⟨_,rfl⟩;rw [←hW5] at E5 V5 k5 HO5 hS5 ⊢;clear hW5 E4 V4 k4 HO4 c8 f8 ks E3 V3 k3 HO3 bC hS HSE;have s1:=zaa hS5 1;have HOK:Hid (∀ r',Dl.cnt 16 r'=0→Dl.cnt 17 r'≤1→zib d.y ⟨tm,j,4,si,nw,he,op⟩ r'):=fun r' a1 a2=>⟨t1,t2,.inr (.inr (.inr rfl)),fun _=>j0,by show (j:Int) < _;omega,hop,by rw [a1];exact Nat.zero_le _,a2⟩;have HNW:Hid (zrz d.y.en [⟨false,true,false,(j:Int),tm,wrap64 (nw - si)⟩]):=fun n hn hc=>by simp at hn;subst hn;exact⟨j0,by show (j:Int) < _;omega⟩
 by_cases hsb:0 < sb
 ·have u1:decide (0 < sb)=true:=by simp [hsb]
  have CS:=Cls.cell s1
  go_upto_region 6 with fail
  refine za5 5 (by kernel_rfl) (by kernel_rfl) (by kernel_rfl) ?_;dsimp only [List.take,List.drop]
  repeat (go_big_quiet_step (fail))
  refine wpQuiet_nil ?_;intro _ hw';obtain⟨nq6,rfl⟩:=hw';have b6:=nq6.below;have E6:=E5.below b6;have V6:=V5.below b6;have HO6:=hid (zdd HO5.out b6);have k6:=k5.trans (FT.of_below (M:=Dl.TmT) (base:=d.base) b6)
  go_wp2_with (go_at_call 212;refine (Dl.qadd_any d.base d.eb 13 r 17 sb nq6.wd E6.q E6.ty).mono ?_;rintro e w7 ⟨rfl,q7,K7⟩)
  go_ret;exact⟨_,⟨tm,j,4,si,nw,he,op⟩,Dl.addR 17 sb r,rfl,⟨_,FT.own K7.k HO6.out zci,HNW.out,by simp⟩,E6.timers K7 q7,HOK.out _ (by rw [Dl.cnt_add_other (by decide)];exact hr.1) (Dl.cnt_add_same E6.q.dist),k6.trans K7.k⟩
 ·have u1:decide (0 < sb)=false:=by simp;omega
  have HOV:=hid (hP ⟨tm,j,4,si,nw,he,op⟩ r W5 hs t1 t2 hr ⟨E5,V5,HT.out.below (k5.below hbw) hpos,hpos⟩);have hsz:=hid k5.size
  go_wp2_with (first|(go_at_call 137;refine HOV.out.mono ?_;rintro e w9 ⟨v9,s9,r9,rfl,⟨l9,o9,n9,q9⟩,E9,K9,F9⟩;have HO9:=hid (FT.own F9 HO5.out zci);have hs9:=hid F9.size)|(at_builtin;refine za0 rfl _ _ rfl w.heap.size _ [⟨false,true,false,(j:Int),tm,wrap64 (nw - si)⟩] rfl HO9.out _ _ l9 rfl o9 (by simp;omega) (Nat.le_trans hsz.out hs9.out) ?_;intro v10 w10 h10 g10))
  have b10:=FT.grown (M:=fun t=>t=263) (base:=d.base) HO9.out g10 rfl hbw;have k10:=FT.then_new (k5.trans F9) (Save.of_grown g10) fun x hx=>(HO9.out.lt x hx).1;go_ret;exact⟨v10,s9,r9,rfl,⟨_,h10,(by
   intro n hn hc;rcases List.mem_append.1 hn with hn|hn
   ·exact HNW.out n hn hc
   ·exact n9 n hn hc),by rw [List.length_append];simp;omega⟩,E9.keep b10 (by decide) (by decide),K9,k10⟩
def WaitC (d:zbg) (P:Int→Prop) (k:Nat):Prop:=∀ (a b:Int) (s:EngS) (r:Dl.TL) (X:World),P s.he→0≤s.mo→s.mo < d.y.mn→(s.ph=2∨s.ph=3)→0≤s.ed→s.ed < d.y.en→s.op < 4294967296→NoTm r→d.at_ X s r→
 Calls Tryz.prog 204 #[.pointer (some ⟨d.eb,0,none⟩),.agg #[.int .i64 a,.int .i64 b],.int .u32 0] X (d.post k X)
theorem zqq {W:World} {B B' s n:Nat} {e:TypeId} {u:Value} {ys:List Value} (h:W.ownsRow B e s u n ys) (hb:B'≤B):W.ownsRow B' e s u n ys:=by
 rcases h.2 with h1|⟨g,cap,cur,rfl,h2,h3⟩
 ·exact⟨h.1,.inl h1⟩
 ·exact⟨h.1,.inr ⟨g,cap,cur,rfl,Nat.le_trans hb h2,h3⟩⟩
theorem zbg.at_.below {d:zbg} {W W':World} {s:EngS} {r:Dl.TL} (h:d.at_ W s r) (hb:Below W.heap.size W W'):d.at_ W' s r:=
 ⟨h.eng.below hb,h.env.below hb,h.tab.below hb h.tab.pos,h.pos⟩
set_option maxHeartbeats 1000000 in
theorem wait_of (d:zbg) (P:Int→Prop) (k:Nat) (hP:zCh d P k):WaitC d P k:=by
 intro a b s r w hs m0 m1 hph e0 e1 hop hr hd;have hbw:d.base≤w.heap.size:=by have:=hd.eng.lo;have:=hd.eng.lt;omega
 have bA:Below w.heap.size w (w.alloc (Obj.cells #[.int .i64 a,.int .i64 b] 154)):=(Below.refl _ _).alloc (Nat.le_refl _) _;have hN:=heap_alloc_new w (Obj.cells #[.int .i64 a,.int .i64 b] 154);have c0:=zaa hN 0;have HD1:=hid (hd.below bA);by_cases ha:a < 1
 ·have u1:decide (a < 1)=true:=by simp [ha]
  have HCO:=hid (hP s r _ hs e0 e1 hop hr HD1.out);go_enter Tryz.func204,Tryz.ntmps204
  go_wp2_with (go_at_call 136;refine HCO.out.mono ?_;rintro e w9 ⟨v9,s9,r9,rfl,⟨l9,o9,n9,q9⟩,E9,K9,F9⟩)
  go_ret;exact⟨v9,s9,r9,rfl,⟨l9,zqq o9 bA.size,n9,q9⟩,E9,K9,(FT.of_below bA).trans F9⟩
 ·have u1:decide (a < 1)=false:=by simp;omega
  obtain⟨W1,hW1⟩:∃ X,X=w.alloc (Obj.cells #[.int .i64 a,.int .i64 b] 154):=⟨_,rfl⟩;go_enter Tryz.func204,Tryz.ntmps204
  go_upto_region 3 with fail
  rw [←hW1] at HD1 hN c0 bA ⊢;clear hW1;have C0:=Cls.cell c0;refine za5 5 (by kernel_rfl) (by kernel_rfl) (by kernel_rfl) ?_;dsimp only [List.take,List.drop]
  repeat (go_big_quiet_step (fail))
  refine wpQuiet_nil ?_;intro _ hw';obtain⟨nq,rfl⟩:=hw';have bq:=bA.trans (nq.below.mono bA.size);have D2:=HD1.out.below nq.below
  go_wp2_with (go_at_call 212;refine (Dl.qadd_any d.base d.eb 13 r 16 a nq.wd D2.eng.q D2.eng.ty).mono ?_;rintro e w7 ⟨rfl,q7,K7⟩)
  go_ret;refine⟨_,s,Dl.addR 16 a r,rfl,⟨[],World.ownsRow_nil _ _ _ _,fun n hn=>(by cases hn),Nat.zero_le _⟩,D2.eng.timers K7 q7,⟨m0,m1,?_,fun _=>e0,e1,hop,?_,?_⟩,(FT.of_below bq).trans K7.k⟩
  ·rcases hph with h|h
   ·exact .inr (.inl h)
   ·exact .inr (.inr (.inl h))
  ·rw [if_pos hph];exact Dl.cnt_add_same D2.eng.q.dist
  ·rw [Dl.cnt_add_other (by decide),hr.2];exact Nat.zero_le _
end Go.Proofs.YtpbmmoneeoijaaaGreatDoor
namespace Go.Proofs.YtpbmmoneeoijaaaGreatDoor
open Go.RowKit Go.Deep Go.Shelf
set_option maxRecDepth 100000
variable {W W':World} {S:Nat→Prop}
def zia (W:World) (S:Nat→Prop):Prop:=∀ k cur t,S k→W.heap[k]?≠some (.cells cur t (0,0))
theorem TyAt.keepS {ao:Option Addr} {t:TypeId} (h:TyAt W ao t) (hs:Save S W W') (hn:zia W S):TyAt W' ao t:=fun b o e=>by
 obtain⟨cur,hc⟩:=h b o e;exact⟨cur,zaj hc hs fun hk=>hn _ _ _ hk hc⟩
theorem TyAt.cellS {b o i:Nat} {t:TypeId} {v:Value} (h:TyAt W (some ⟨b,o,none⟩) t) (hs:Save S W W') (hn:zia W S) (hc:W.cell? ⟨b,i,none⟩=some v):W'.cell? ⟨b,i,none⟩=some v:=by
 obtain⟨cur,h1⟩:=h b o rfl;have h2:=zaj h1 hs fun hk=>hn _ _ _ hk h1;exact (World.cell?_of_block (w:=W) (w':=W') (a:=⟨b,i,none⟩) (h2.trans h1.symm)).trans hc
theorem zbj.keepS {ao:Option Addr} {n K:Nat} {g:Nat→Nat→Int} {t:TypeId} (h:zbj W ao n K g) (ha:TyAt W ao t) (hs:Save S W W') (hn:zia W S):zbj W' ao n K g:=fun i hi=>by
 obtain⟨b,o,e,hc⟩:=h i hi;subst e;exact⟨b,o,rfl,fun j hj=>ha.cellS hs hn (hc j hj)⟩
theorem zbh.keepS {mo:Option Addr} {mn:Nat} {R:Nat→za9} {t:TypeId} (h:zbh W mo mn R) (ha:TyAt W mo t) (hs:Save S W W') (hn:zia W S):zbh W' mo mn R:=fun i hi=>by
 obtain⟨b,o,e,h1,h2⟩:=h i hi;subst e;exact⟨b,o,rfl,ha.cellS hs hn h1,ha.cellS hs hn h2⟩
theorem Env.keepS {y:Img} {R:Nat→za9} {h:Nat→Nat→Int} {ce:Option Addr} {cn:Nat} {sp:Nat→Nat→Int} (e:Env W y R h ce cn sp) (hs:Save S W W') (hn:zia W S):Env W' y R h ce cn sp:=
 ⟨e.modes.keepS e.tm hs hn,e.edges.keepS e.te hs hn,e.spans.keepS e.ts hs hn,e.tm.keepS hs hn,e.te.keepS hs hn,e.ts.keepS hs hn,e.ok,e.tb,e.en,e.mn,e.cn⟩
theorem zdk.keepS {base eb:Nat} {y:Img} {cm ce:Value} {s:EngS} {r:Dl.TL} (h:zdk W base eb y cm ce s r) (hs:Save S W W') (hn:zia W S):zdk W' base eb y cm ce s r:=by
 obtain⟨cur,hc⟩:=h.ty;have h2:=zaj hc hs fun hk=>hn _ _ _ hk hc;have hb:W'.heap[eb]? =W.heap[eb]?:=h2.trans hc.symm;have cc:∀ o,W'.cell? ⟨eb,o,none⟩=W.cell? ⟨eb,o,none⟩:=fun o=>World.cell?_of_block (w:=W) (w':=W') (a:=⟨eb,o,none⟩) hb;have ff:∀ o,W'.frozen? ⟨eb,o,none⟩=W.frozen? ⟨eb,o,none⟩:=fun o=>by simp [World.frozen?,hb]
 exact⟨(cc _).trans h.c0,(cc _).trans h.c1,(cc _).trans h.c2,(cc _).trans h.c3,(cc _).trans h.c4,(cc _).trans h.c5,(cc _).trans h.c6,(cc _).trans h.c7,(cc _).trans h.c8,(cc _).trans h.c9,(cc _).trans h.c10,(cc _).trans h.c11,(cc _).trans h.c12,
  fun o=>(ff o).trans (h.fz o),⟨cur,h2⟩,h.q.save hs (fun o _=>cc o) ff fun j cur' hj hk=>hn _ _ _ hk hj,h.lo⟩
theorem zlp {row:Option Nat} (hr:∀ r,row=some r→∃ o:Obj,W.heap[r]? =some o∧o.isCells=false):zia W (fun k=>row=some k):=fun k cur t hk hc=>by
 obtain⟨o,ho,hf⟩:=hr k hk;rw [hc] at ho;cases ho;cases hf
structure zvv (d:zbg) (s:EngS) (w0:World) (pb ob:Nat) (O:Nat→Int) (X:World):Prop where
 eng:∃ op r,op < 4294967296∧NoTm r∧d.at_ X { s with op:=op } r
 pbx:X.heap[pb]? =some (Obj.cells #[.pointer (some ⟨d.eb,0,none⟩)] 145)
 obx:X.heap[ob]? =some (Obj.cells #[.int .i64 (O 0),.int .i64 (O 1),.int .i64 (O 2),.int .i64 (O 3),.int .i64 (O 4),.int .i64 (O 5),.int .i64 (O 6),.int .i64 (O 7),.int .i64 (O 8),.int .i64 (O 9),.int .i64 (O 10),.int .i64 (O 11),.int .i64 (O 12),.int .i64 (O 13),.int .i64 (O 14),.int .i64 (O 15)] 62)
 ft:FT Dl.TmT d.base w0 X
theorem zni (d:zbg) (s:EngS) (w0:World) (pb ob:Nat) (O:Nat→Int) {B:Nat} (hB:w0.heap.size≤B) (hB1:1≤B) {β:Type}:OwnFrom B (fun (_:β) X=>zvv d s w0 pb ob O X):=fun _ X Y row hs hg hr=>by
 have hn:=zlp fun r e=>(hr r e).2;have hsv:=Save.of_grown hg;obtain⟨op,r,h1,h2,h3⟩:=hs.eng;refine⟨⟨op,r,h1,h2,h3.eng.keepS hsv hn,h3.env.keepS hsv hn,h3.tab.grown hg fun e=>?_,h3.pos⟩,zaj hs.pbx hsv fun hk=>hn _ _ _ hk hs.pbx,zaj hs.obx hsv fun hk=>hn _ _ _ hk hs.obx,hs.ft.then_new hsv fun k hk=>?_⟩
 ·have:=(hr 0 e).1;omega
 ·have:=(hr k hk).1;omega
theorem zgo {M:TypeId→Prop} {base B:Nat} (h:FT M base W W'):KeepsFrom B W W':=⟨h.size,fun k o _ hk ho=>zaj hk h fun ⟨_,cur,t,hc,_⟩=>by
 rw [hk] at hc;cases hc
 cases ho⟩
end Go.Proofs.YtpbmmoneeoijaaaGreatDoor
namespace Go.Proofs.YtpbmmoneeoijaaaGreatDoor
open Go.RowKit Go.Deep Go.Shelf
set_option maxRecDepth 100000
def clO (d:zbg) (j:Nat):Nat:=zdq (zax d.y d.R (d.h j 0)) (zax d.y d.R (d.h j 1))
def clN (d:zbg) (j:Nat):Nat:=zdq (zax d.y d.R (d.h j 1)) (zax d.y d.R (d.h j 0))
def clS (d:zbg) (j:Nat):Nat:=zax d.y d.R (d.h j 0) &&& zax d.y d.R (d.h j 1)
theorem zez {X:World} {y:Img} {R:Nat→za9} {h:Nat→Nat→Int} {ce:Option Addr} {cn:Nat} {sp:Nat→Nat→Int} (e:Env X y R h ce cn sp) (m:Int):zax y R m < 4294967296:=by
 unfold zax
 split
 ·rename_i hm;exact e.tb _ (by omega)
 ·decide
set_option maxHeartbeats 1000000 in
theorem zmg (d:zbg) (s:EngS) (r:Dl.TL) (j:Nat) (w:World) (hed:s.ed=j) (hj:j < d.y.en) (hd:d.at_ w s r):
  Calls Tryz.prog 252 #[.pointer (some ⟨d.eb,0,none⟩)] w fun e w'=>e=.returned (cv (clO d j) (clN d j) (clS d j))∧Below w.heap.size w w':=by
 have bA:Below w.heap.size w (w.alloc (Obj.cells #[.int .u32 0,.int .u32 0,.int .u32 0] 291)):=(Below.refl _ _).alloc (Nat.le_refl _) _;have hN:=heap_alloc_new w (Obj.cells #[.int .u32 0,.int .u32 0,.int .u32 0] 291);have E1:=hd.eng.below bA;have V1:=hd.env.below bA;have c7:=E1.c7;rw [hed] at c7;obtain⟨W1,hW1⟩:∃ X,X=w.alloc (Obj.cells #[.int .u32 0,.int .u32 0,.int .u32 0] 291):=⟨_,rfl⟩;go_enter Tryz.func252,Tryz.ntmps252
 go_upto_region 1 with fail
 rw [←hW1] at bA hN E1 V1 c7 ⊢;clear hW1;have C0:=Cls.cell E1.c0;have C1:=Cls.cell E1.c1;have C2:=Cls.cell E1.c2;have C3:=Cls.cell E1.c3;have C7:=Cls.cell c7;have hCE:=hid fun (i:Cls W1)=>(zgy d.y d.R d.h j i.wd (V1.modes.below i.below) (V1.edges.below i.below) V1.tb hj);unfold cv iv at hCE;obtain⟨oo,hoo⟩:∃ q,clO d j=q:=⟨_,rfl⟩;obtain⟨nn,hnn⟩:∃ q,clN d j=q:=⟨_,rfl⟩;obtain⟨ss,hss⟩:∃ q,clS d j=q:=⟨_,rfl⟩;have hCE2:Hid (∀ i:Cls W1,Calls Tryz.prog 163 #[.agg #[.int .i64 d.y.r,.slice d.y.ao d.y.n d.y.cap,.slice d.y.mo d.y.mn d.y.mc,.slice d.y.eo d.y.en d.y.ec],.int .i64 (j:Nat)] i.wd fun e w'=>e=.returned (.agg #[.int .u32 (oo:Nat),.int .u32 (nn:Nat),.int .u32 (ss:Nat)])∧Below i.wd.heap.size i.wd w'):=by
  rw [←hoo,←hnn,←hss];exact hCE.out
 clear hCE;refine za5 9 (by kernel_rfl) (by kernel_rfl) (by kernel_rfl) ?_;dsimp only [List.take,List.drop]
 repeat (go_big_quiet_step ((go_at_call 163;exact Calls.cls _ (hCE2.out _))))
 refine wpQuiet_nil ?_;intro _ hw';obtain⟨nq,rfl⟩:=hw';have nb:=(nq.below.block _ (Array.getElem?_eq_some_iff.1 hN).1).trans hN;have n0:=zaa nb 0;have n1:=zaa nb 1;have n2:=zaa nb 2;have z0:=zab nb 0;have z1:=zab nb 1;have z2:=zab nb 2;have hF:=Dl.blk_put0 (i:=2) (u:=.int .u32 (ss:Nat)) (Dl.blk_put0 (i:=1) (u:=.int .u32 (nn:Nat)) (Dl.blk_put0 (i:=0) (u:=.int .u32 (oo:Nat)) nb));have hB:=((((bA.trans (nq.below.mono bA.size)).setCell (p:=⟨w.heap.size,0,none⟩) (Nat.le_refl _) (.int .u32 (oo:Nat))).setCell (p:=⟨w.heap.size,1,none⟩) (Nat.le_refl _) (.int .u32 (nn:Nat))).setCell (p:=⟨w.heap.size,2,none⟩) (Nat.le_refl _) (.int .u32 (ss:Nat)));go_wp2;refine bodyPost_ret (v:=cv oo nn ss) (results_cell_row (p:=2) (ty:=291) rfl _ _ w.heap.size _ _ _ _ (by rfl) hF Tryz.underlying291 rfl (by kernel_rfl)) rfl ?_;exact⟨by rw [hoo,hnn,hss],hB⟩
end Go.Proofs.YtpbmmoneeoijaaaGreatDoor
namespace Go.Proofs.YtpbmmoneeoijaaaGreatDoor
open Go.RowKit
theorem rows_in {n:Nat} {l:Nat} {P:Program} {row:String} {args:Array Value} {w:World} {R:Value→World→Prop} (h:Rows P row args w R):RowsIn (Fence.wide.inRound l) n P row args w R:=fun c cs _=>by
 obtain⟨v,w',hR,hs⟩:=h c cs;exact⟨v,w',hR,stepsIn_wide.2 hs⟩
theorem zj7 {P:Program} {ops:Array Oper} {Q:Exit→Act→World→Prop} {l n:Nat} (hd:∀ o∈ops.toList,∀ c,o.op≠.defer c) (hQ:¬ LetsOut Q):
  ∀ is a w,wpOps P ops Q is a w→wpOpsIn (Fence.wide.inRound l) n P ops Q is a w:=by
 intro is
 induction is with
 |nil=>intro a w h;exact h
 |cons i rest ih=>
  intro a w h;unfold wpOps at h;unfold wpOpsIn
  cases ho:ops[i]? with
  |none=>rw [ho] at h;exact ih a w h
  |some o=>
   rw [ho] at h;simp only at h ⊢;by_cases hw:Region.wanted o (yielded ops a.tmps)=true
   ·rw [if_pos hw] at h ⊢
    rcases h with h|⟨_,h⟩
    ·refine⟨fun f _=>trivial,?_⟩
     have hm:o∈ops.toList:=by
      obtain⟨hlt,e⟩:=Array.getElem?_eq_some_iff.1 ho;rw [←e];simp
     rw [Fence.inRound_round,Oper.semAt_some l _ o (hd o hm)];unfold Oper.wp at h
     cases hr:(execOp a.eval o).run P w with
     |ok nx w'=>
      rw [hr] at h
      cases nx with
      |value v=>exact ih _ _ h
      |skip=>exact ih _ _ h
      |defer d=>exact ih _ _ h
      |enter f args=>
       refine⟨fun e=>(by cases e),CallsIn.inRound l (callsIn_wide.2 (Calls.mono h ?_))⟩;intro e w'' he
       cases e with
       |returned v=>exact ih _ _ he
       |panicked ch=>exact he
       |outgrown=>exact he
      |row row args=>
       refine⟨fun e=>(by cases e),rows_in (Rows.mono h ?_)⟩;intro v w'' he;exact ih _ _ he
      |_=>exact h.elim
     |halt x w'=>
      rw [hr] at h
      cases x with
      |panic v=>exact h
      |_=>exact h.elim
    ·exact (hQ h).elim
   ·rw [if_neg hw] at h ⊢
    exact⟨fun f _=>trivial,ih _ _ h⟩
theorem zda {P:Program} {id:Nat} {Q:Exit→Act→World→Prop} {a:Act} {w:World} {l:List Oper} {k n:Nat} (N:Nat) (C:Nat→World→Prop) (hm:P.follows .mixedOrders=true) (hB:stgB l N=true) (hd:l.all (fun o=>match o.op with| .defer _=>false|_=>true)=true) (hQ:¬ LetsOut Q) (h0:C 0 w.drew)
  (h:zhk P l.toArray C (fun s a'=>∀ w',C s w'→wpList P l.toArray Q (l.drop N) a' w') 0 (l.take N) a):(Code.region id l.toArray true).wpIn (Fence.wide.inRound k) n P Q a w:=
 wpIn_region_draw fun t=>by
  refine zj7 (fun o ho c e=>?_) hQ _ _ _ ?_
  ·have:=List.all_eq_true.1 hd o (by simpa using ho)
   rw [e] at this;cases this
  ·simp only [Region.schedule,hm,Bool.true_or,if_true]
   exact wpAny_sound l.toArray.size t _ a _ (zer N C hB h0 h)
theorem zbk {P:Program} {id:Nat} {Q:Exit→Act→World→Prop} {a:Act} {w:World} {l:List Oper} {k n:Nat} (N:Nat) (hm:P.follows .mixedOrders=true) (hB:stgB l N=true) (hne:(l.take N).all (fun o=>!zd7 o)=true) (hd:l.all (fun o=>match o.op with| .defer _=>false|_=>true)=true) (hQ:¬ LetsOut Q)
  (h:wpQuiet P l.toArray (fun w'=>∃ i:Cls w,w'=i.wd) (fun a'=>∀ w',(∃ i:Cls w,w'=i.wd)→wpList P l.toArray Q (l.drop N) a' w') (l.take N) a):(Code.region id l.toArray true).wpIn (Fence.wide.inRound k) n P Q a w:=
 zda N (fun _ w'=>∃ i:Cls w,w'=i.wd) hm hB hd hQ ⟨⟨w.drew,(Below.refl _ _).drew⟩,rfl⟩ (zcl _ 0 _ hne h)
end Go.Proofs.YtpbmmoneeoijaaaGreatDoor
namespace Go.Proofs.YtpbmmoneeoijaaaGreatDoor
open Go.RowKit Go.Deep Go.Shelf
attribute [local go_sem] Oper.semAt_some
set_option maxRecDepth 100000
theorem zsh (a b c:Int) (w:World):(Instr.field 291 (.agg #[.int .u32 a,.int .u32 b,.int .u32 c]) 1).run Tryz.prog w=.ok (.int .u32 b) w:=by kernel_rfl
def ShiftA (d:zbg) (s:EngS) (w:World) (e:Ending) (w':World):Prop:=
 (∃ v,e=.returned v)∧∃ op r',op < 4294967296∧NoTm r'∧d.at_ w' { s with op:=op } r'∧FT Dl.TmT d.base w w'
set_option maxHeartbeats 4000000 in
theorem zzh (d:zbg) (s:EngS) (r:Dl.TL) (j:Nat) (w:World) (hed:s.ed=j) (hj:j < d.y.en) (hop:s.op < 4294967296) (hr:NoTm r) (hd:d.at_ w s r):
  Calls Tryz.prog 203 #[.pointer (some ⟨d.eb,0,none⟩)] w (ShiftA d s w):=by
 have hbw:d.base≤w.heap.size:=by have:=hd.eng.lo;have:=hd.eng.lt;omega
 have hpos:=hd.pos;have heb:=hd.eng.lt;obtain⟨eo,oo,heo,hc⟩:=hd.env.edges j hj;have b1:Below w.heap.size w (w.alloc (Obj.cells #[.pointer (some ⟨d.eb,0,none⟩)] 145)):=(Below.refl _ _).alloc (Nat.le_refl _) _;have hPB:=heap_alloc_new w (Obj.cells #[.pointer (some ⟨d.eb,0,none⟩)] 145);have D1:=hd.below b1;have he:=hid fun k (hk:k < 23)=>kept (hc k hk) b1;have c3:=D1.eng.c3;have c7:=D1.eng.c7;rw [heo] at c3;rw [hed] at c7;have hs1:=hid (show (w.alloc (Obj.cells #[.pointer (some ⟨d.eb,0,none⟩)] 145)).heap.size=w.heap.size+1 from by simp);obtain⟨O,hO⟩:∃ O:Nat→Int,O=fun k=>d.h j (3+k):=⟨_,rfl⟩;have hee:Hid (∀ k,k < 16→(w.alloc (Obj.cells #[.pointer (some ⟨d.eb,0,none⟩)] 145)).cell? ⟨eo,oo+j * 23+3+k,none⟩=some (.int .i64 (O k))):=fun k hk=>by
  rw [hO,Nat.add_assoc];exact he.out (3+k) (by omega)
 clear hc he hO;have j0:(0:Int)≤(j:Int):=by omega
 have j1:(j:Int) < (d.y.en:Int):=by omega
 obtain⟨W1,hW1⟩:∃ X,X=w.alloc (Obj.cells #[.pointer (some ⟨d.eb,0,none⟩)] 145):=⟨_,rfl⟩;refine (callsIn_wide (n:=8)).1 ?_;have h1:1≤8:=by omega
 refine callsIn_of_wp_marks Tryz.func203 rfl trivial ?_ rfl;simp only [Tryz.ntmps203,List.size_toArray,List.length_cons,List.length_nil,Nat.reduceAdd,Nat.reduceSub,Array.replicate_succ,Array.replicate_zero,List.push_toArray,List.append_toArray,List.nil_append,List.cons_append];refine wpIn_wide.2 ?_
 go_upto_region 1 with fail
 rw [←hW1] at b1 hPB D1 hee c3 c7 hs1 ⊢;clear hW1;refine zah [12,13] (fun X=>Below W1.heap.size W1 X) (by kernel_rfl) (by kernel_rfl) (by exact⟨rfl,rfl,rfl,Nat.le_refl _,fun _ _=>rfl⟩) ?_;refine qFs fun K hK=>?_;go_simp;refine⟨.pointer (some ⟨d.eb,0,none⟩),fun X hX=>?_,hK _ ?_⟩
 ·have z0:=zaa (qBa hX hPB) 0
  go_simp
 clear hK K;refine qFs fun K hK=>?_;go_simp;refine⟨_,fun _ _=>rfl,hK _ ?_⟩;clear hK K;refine qFs fun K hK=>?_;go_simp;refine⟨_,fun _ _=>rfl,hK _ ?_⟩;clear hK K;refine qFs fun K hK=>?_;go_simp;refine⟨_,fun _ _=>rfl,hK _ ?_⟩;clear hK K;refine qFs fun K hK=>?_;go_simp;refine⟨.slice (some ⟨eo,oo,none⟩) d.y.en d.y.ec,fun X hX=>?_,hK _ ?_⟩
 ·have z0:=kept c3 hX
  go_simp
 clear hK K;refine qFs fun K hK=>?_;go_simp;refine⟨.pointer (some ⟨d.eb,0,none⟩),fun X hX=>?_,hK _ ?_⟩
 ·have z0:=zaa (qBa hX hPB) 0
  go_simp
 clear hK K;refine qFs fun K hK=>?_;go_simp;refine⟨_,fun _ _=>rfl,hK _ ?_⟩;clear hK K;refine qFs fun K hK=>?_;go_simp;refine⟨_,fun _ _=>rfl,hK _ ?_⟩;clear hK K;refine qFs fun K hK=>?_;go_simp;refine⟨.int .i64 (j:Nat),fun X hX=>?_,hK _ ?_⟩
 ·have z0:=kept c7 hX
  go_simp
 clear hK K;refine qFs fun K hK=>?_;go_simp;refine⟨.pointer (some ⟨eo,oo+j * 23,none⟩),fun X hX=>(by go_simp),hK _ ?_⟩;clear hK K;refine qFs fun K hK=>?_;go_simp;refine⟨_,fun _ _=>rfl,hK _ ?_⟩;clear hK K;refine qFs fun K hK=>?_;go_simp;refine⟨.agg #[.int .i64 (O 0),.int .i64 (O 1),.int .i64 (O 2),.int .i64 (O 3),.int .i64 (O 4),.int .i64 (O 5),.int .i64 (O 6),.int .i64 (O 7),.int .i64 (O 8),.int .i64 (O 9),.int .i64 (O 10),.int .i64 (O 11),.int .i64 (O 12),.int .i64 (O 13),.int .i64 (O 14),.int .i64 (O 15)],fun X hX=>?_,hK _ ?_⟩
 ·have z0:=kept (hee.out 0 (by decide)) hX
  have z1:=kept (hee.out 1 (by decide)) hX;have z2:=kept (hee.out 2 (by decide)) hX;have z3:=kept (hee.out 3 (by decide)) hX;have z4:=kept (hee.out 4 (by decide)) hX;have z5:=kept (hee.out 5 (by decide)) hX;have z6:=kept (hee.out 6 (by decide)) hX;have z7:=kept (hee.out 7 (by decide)) hX;have z8:=kept (hee.out 8 (by decide)) hX;have z9:=kept (hee.out 9 (by decide)) hX;have z10:=kept (hee.out 10 (by decide)) hX;have z11:=kept (hee.out 11 (by decide)) hX;have z12:=kept (hee.out 12 (by decide)) hX;have z13:=kept (hee.out 13 (by decide)) hX;have z14:=kept (hee.out 14 (by decide)) hX;have z15:=kept (hee.out 15 (by decide)) hX;go_simp
 clear hK K;refine qFc ?_;refine qFc ?_;refine zau ?_;refine qT1 12 [13] fun K hK=>?_
 go_wp2_with fail
 refine hK _ _ (zhh ((Below.refl _ _).alloc (Nat.le_refl _) _)) ?_;clear hK K;refine zcy (i:=13) (rem1:=[]) (by kernel_rfl) (by rfl) (by rfl) (by kernel_rfl) (fun K hK=>?_)
 go_wp2_with fail
 refine zan ?_;have b2:Below W1.heap.size W1 (W1.alloc (Obj.cells #[.int .i64 (O 0),.int .i64 (O 1),.int .i64 (O 2),.int .i64 (O 3),.int .i64 (O 4),.int .i64 (O 5),.int .i64 (O 6),.int .i64 (O 7),.int .i64 (O 8),.int .i64 (O 9),.int .i64 (O 10),.int .i64 (O 11),.int .i64 (O 12),.int .i64 (O 13),.int .i64 (O 14),.int .i64 (O 15)] 62)).drew:=zhh ((Below.refl _ _).alloc (Nat.le_refl _) _);have hOB:(W1.alloc (Obj.cells #[.int .i64 (O 0),.int .i64 (O 1),.int .i64 (O 2),.int .i64 (O 3),.int .i64 (O 4),.int .i64 (O 5),.int .i64 (O 6),.int .i64 (O 7),.int .i64 (O 8),.int .i64 (O 9),.int .i64 (O 10),.int .i64 (O 11),.int .i64 (O 12),.int .i64 (O 13),.int .i64 (O 14),.int .i64 (O 15)] 62)).drew.heap[W1.heap.size]? =some (Obj.cells #[.int .i64 (O 0),.int .i64 (O 1),.int .i64 (O 2),.int .i64 (O 3),.int .i64 (O 4),.int .i64 (O 5),.int .i64 (O 6),.int .i64 (O 7),.int .i64 (O 8),.int .i64 (O 9),.int .i64 (O 10),.int .i64 (O 11),.int .i64 (O 12),.int .i64 (O 13),.int .i64 (O 14),.int .i64 (O 15)] 62):=heap_alloc_new W1 (Obj.cells #[.int .i64 (O 0),.int .i64 (O 1),.int .i64 (O 2),.int .i64 (O 3),.int .i64 (O 4),.int .i64 (O 5),.int .i64 (O 6),.int .i64 (O 7),.int .i64 (O 8),.int .i64 (O 9),.int .i64 (O 10),.int .i64 (O 11),.int .i64 (O 12),.int .i64 (O 13),.int .i64 (O 14),.int .i64 (O 15)] 62);have hs2:=hid (show (W1.alloc (Obj.cells #[.int .i64 (O 0),.int .i64 (O 1),.int .i64 (O 2),.int .i64 (O 3),.int .i64 (O 4),.int .i64 (O 5),.int .i64 (O 6),.int .i64 (O 7),.int .i64 (O 8),.int .i64 (O 9),.int .i64 (O 10),.int .i64 (O 11),.int .i64 (O 12),.int .i64 (O 13),.int .i64 (O 14),.int .i64 (O 15)] 62)).drew.heap.size=W1.heap.size+1 from by simp [World.drew]);obtain⟨W2,hW2⟩:∃ X,X=(W1.alloc (Obj.cells #[.int .i64 (O 0),.int .i64 (O 1),.int .i64 (O 2),.int .i64 (O 3),.int .i64 (O 4),.int .i64 (O 5),.int .i64 (O 6),.int .i64 (O 7),.int .i64 (O 8),.int .i64 (O 9),.int .i64 (O 10),.int .i64 (O 11),.int .i64 (O 12),.int .i64 (O 13),.int .i64 (O 14),.int .i64 (O 15)] 62)).drew:=⟨_,rfl⟩;rw [←hW2] at b2 hOB hs2 ⊢;clear hW2 c3 c7 hee;have D2:=D1.below b2;have hPB2:=qBa b2 hPB;have p0:=zaa hPB2 0;have HCL:=hid (zmg d s r j W2 hed hj D2);have hnn:clN d j < 4294967296:=Nat.lt_of_le_of_lt (zd5 _ _) (zez D2.env _);obtain⟨nn,hn2⟩:∃ q,clN d j=q:=⟨_,rfl⟩;rw [hn2] at HCL hnn;clear hn2;unfold cv at HCL
 go_wp2_with (first|(go_at_call 252;refine HCL.out.mono ?_;rintro e W3 ⟨rfl,b3⟩;have hfl:=zsh (clO d j:Nat) (nn:Nat) (clS d j:Nat) W3)|(go_at_call 159;refine (zdn nn _).mono ?_;rintro e W4 ⟨rfl,rfl⟩))
 have hs3:=b3.size;have b4:Below W3.heap.size W3 (W3.alloc (Obj.cells #[.int .u32 (nn:Nat)] 140)):=(Below.refl _ _).alloc (Nat.le_refl _) _;have hc4:=(zaq W3 (.int .u32 (nn:Nat)) 140).1;have hs4:(W3.alloc (Obj.cells #[.int .u32 (nn:Nat)] 140)).heap.size=W3.heap.size+1:=by simp
 obtain⟨W4,hW4⟩:∃ X,X=W3.alloc (Obj.cells #[.int .u32 (nn:Nat)] 140):=⟨_,rfl⟩;rw [←hW4] at b4 hc4 hs4 ⊢;clear hW4;have D4:=(D2.below b3).below b4;have hPB4:=(b4.block _ (by have:=hs1.out;have:=hs2.out;omega)).trans ((b3.block _ (by have:=hs1.out;have:=hs2.out;omega)).trans hPB2);have hOB4:=(b4.block _ (by have:=hs1.out;have:=hs2.out;omega)).trans ((b3.block _ (by have:=hs1.out;have:=hs2.out;omega)).trans hOB);have hft4:FT Dl.TmT d.base w W4:=((FT.of_below b1).trans (FT.of_below b2)).trans ((FT.of_below b3).trans (FT.of_below b4));have hbW4:d.base≤W4.heap.size∧w.heap.size≤W4.heap.size∧1≤W4.heap.size:=by have:=hs1.out;have:=hs2.out;omega
 clear D2 hPB2 hOB D1 hPB p0 b1 b2 b3 b4 hfl HCL hs3 hs4 hs1 hs2;refine (wpIn_wide (n:=8)).1 ?_;refine wpIn_rangeFunc_ownG rfl h1 (gf:=221) (lb:=#[.pointer (some ⟨W3.heap.size,0,none⟩)]) rfl trivial (enters_of Tryz.func221 (by kernel_rfl) rfl)
  (zcu (8 - 1) (by omega) W3.heap.size d.base nn W4 hnn hpos hc4 D4.tab) belowK_t (belowK_b hbW4.1) (Below.refl _ _) (fun _=>rfl)
  (fun _ X=>zvv d s w w.heap.size W1.heap.size O X)
  (fun _ _ _=>False)
  (zni d s w _ _ O hbW4.2.1 hbW4.2.2)
  (fun _ _ _ _ _ hs _ _=>hs)
  ⟨⟨s.op,r,hop,hr,D4⟩,hPB4,hOB4,hft4⟩
  (fun i=>{ tmps:=#[.pointer (some ⟨d.eb,0,none⟩),.pointer (some ⟨w.heap.size,0,none⟩),.pointer (some ⟨W1.heap.size,0,none⟩),.int .i64 (i:Nat),.pointer (some ⟨d.eb,0,none⟩),.pointer (some ⟨d.eb,0,none⟩),.pointer (some ⟨d.eb,0,none⟩),.pointer (some ⟨d.eb,3,none⟩),.slice (some ⟨eo,oo,none⟩) d.y.en d.y.ec,.pointer (some ⟨d.eb,0,none⟩),.pointer (some ⟨d.eb,0,none⟩),.pointer (some ⟨d.eb,7,none⟩),.int .i64 (j:Nat),.pointer (some ⟨eo,oo+j * 23,none⟩),.pointer (some ⟨eo,oo+j * 23+3,none⟩),.agg #[.int .i64 (O 0),.int .i64 (O 1),.int .i64 (O 2),.int .i64 (O 3),.int .i64 (O 4),.int .i64 (O 5),.int .i64 (O 6),.int .i64 (O 7),.int .i64 (O 8),.int .i64 (O 9),.int .i64 (O 10),.int .i64 (O 11),.int .i64 (O 12),.int .i64 (O 13),.int .i64 (O 14),.int .i64 (O 15)],.pointer (some ⟨d.eb,0,none⟩),.agg #[.int .u32 (clO d j:Nat),.int .u32 (nn:Nat),.int .u32 (clS d j:Nat)],.int .u32 (nn:Nat),.func (.func 221) #[] #[.pointer (some ⟨W3.heap.size,0,none⟩)],.int .i64 (i:Nat),undef,undef,undef,undef,undef,undef,undef,undef,undef,undef,undef,undef,undef,undef,undef,undef,undef,undef,undef,undef,undef,undef,undef,undef,undef],defers:=[] })
  ?assign ?body ?done ?stop
 case assign=>
  rintro l i X K hK
  gi_wp2
  exact hK
 case body=>
  rintro l pre i X ⟨⟨op,r2,g1,g2,hD⟩,hp,ho,hft⟩ hlt;have hoc:∀ k,k < 16→X.cell? ⟨W1.heap.size,k,none⟩=some (.int .i64 (O k)):=fun k hk=>by
   rw [zaa ho];rcases k with _|_|_|_|_|_|_|_|_|_|_|_|_|_|_|_|k
   all_goals first|rfl|omega
  have p0:=zaa hp 0;have i0:(0:Int)≤(i:Int):=by omega
  by_cases hi:i < 16
  ·have u1:decide ((16:Int)≤(i:Int))=false:=by simp;omega
   have i1:(i:Int) < 16:=by omega
   have oc:=hoc i hi;by_cases ho1:O i < 1
   ·have u2:decide (O i < 1)=true:=by simp [ho1]
    gi_wp2
    have CP:=Cls.cell p0;have C12:=Cls.cell hD.eng.c12;have hWI:Hid (∀ k:Cls X,Calls Tryz.prog 138 #[.int .u32 (op:Nat),.int .i64 (i:Nat)] k.wd fun e w'=>e=.returned (.int .u32 (op |||bitN (i:Nat):Nat))∧Below k.wd.heap.size k.wd w'):=fun k=>(zfq op g1 (i:Nat) k.wd).mono fun e w' ⟨q1,q2⟩=>⟨q1,q2▸Below.refl _ _⟩;have g1':op |||bitN (i:Nat) < 4294967296:=Nat.or_lt_two_pow (n:=32) g1 (zh9 _)
    obtain⟨op2,hop2⟩:∃ q,op |||bitN (i:Nat)=q:=⟨_,rfl⟩
    rw [hop2] at hWI g1';clear hop2;dsimp only at C12;refine zbk 9 (by kernel_rfl) (by kernel_rfl) (by kernel_rfl) (by kernel_rfl) ?_ ?_
    ·rintro⟨_,_,h⟩
     exact h
    dsimp only [List.take,List.drop]
    repeat (go_big_quiet_step ((go_at_call 138;exact Calls.cls _ (hWI.out _))))
    refine wpQuiet_nil ?_;intro _ hw';obtain⟨nq,rfl⟩:=hw';have D5:=hD.below nq.below;have c12:=D5.eng.c12;have f12:=D5.eng.fz 12;dsimp only at c12;have E6:=D5.eng.set (s':={ s with op:=op2 }) (j:=12) (v:=.int .u32 (op2:Nat)) (by omega) rfl rfl rfl rfl rfl rfl rfl (by omega);have ks:=D5.eng.ft_set 12 (.int .u32 (op2:Nat));have kt:=(FT.of_below (M:=Dl.TmT) (base:=d.base) nq.below).trans ks;have kb:=kt.below (Nat.le_of_lt (Nat.lt_of_le_of_lt hD.eng.lo hD.eng.lt));have hI5:zvv d s w w.heap.size W1.heap.size O (nq.wd.setCell ⟨d.eb,12,none⟩ (.int .u32 (op2:Nat))):=⟨⟨op2,r2,g1',g2,E6,D5.env.keep zbd ks,hD.tab.below kb hpos,hpos⟩,kt.blk hp (by unfold Dl.TmT;decide),kt.blk ho (by unfold Dl.TmT;decide),hft.trans kt⟩;refine wpList_plain rfl fun K hK=>?_;go_simp;refine hK _ _ ?_;clear hK K;go_simp;rename_i KK hKK;refine hKK _ _ ?_;clear hKK KK
    gi_wp2
    exact⟨zgo kt,kb,hI5⟩
   ·have u2:decide (O i < 1)=false:=by simp;omega
    gi_wp2
    have CP:=Cls.cell p0;have CO:=Cls.cell oc;refine zbk 7 (by kernel_rfl) (by kernel_rfl) (by kernel_rfl) (by kernel_rfl) ?_ ?_
    ·rintro⟨_,_,h⟩
     exact h
    dsimp only [List.take,List.drop]
    repeat (go_big_quiet_step (fail))
    refine wpQuiet_nil ?_;intro _ hw';obtain⟨nq,rfl⟩:=hw';have D5:=hD.below nq.below
    go_wp2_with (go_at_call 212;refine (Dl.qadd_any d.base d.eb 13 r2 (i:Nat) (O i) nq.wd D5.eng.q D5.eng.ty).mono ?_;rintro e w7 ⟨rfl,q7,K7⟩)
    have kt:=(FT.of_below (M:=Dl.TmT) (base:=d.base) nq.below).trans K7.k;have kb:=kt.below (Nat.le_of_lt (Nat.lt_of_le_of_lt hD.eng.lo hD.eng.lt));have ht:NoTm (Dl.addR (i:Nat) (O i) r2):=⟨by rw [Dl.cnt_add_other (by omega)];exact g2.1,by rw [Dl.cnt_add_other (by omega)];exact g2.2⟩;exact⟨zgo kt,kb,⟨op,_,g1,ht,D5.eng.timers K7 q7,D5.env.keep zbd K7.k,hD.tab.below kb hpos,hpos⟩,kt.blk hp (by unfold Dl.TmT;decide),kt.blk ho (by unfold Dl.TmT;decide),hft.trans kt⟩
  ·have u1:decide ((16:Int)≤(i:Int))=true:=by simp;omega
   gi_wp2
   have CP:=Cls.cell p0;have C12:=Cls.cell hD.eng.c12;have hWI:Hid (∀ k:Cls X,Calls Tryz.prog 138 #[.int .u32 (op:Nat),.int .i64 (i:Nat)] k.wd fun e w'=>e=.returned (.int .u32 (op |||bitN (i:Nat):Nat))∧Below k.wd.heap.size k.wd w'):=fun k=>(zfq op g1 (i:Nat) k.wd).mono fun e w' ⟨q1,q2⟩=>⟨q1,q2▸Below.refl _ _⟩;have g1':op |||bitN (i:Nat) < 4294967296:=Nat.or_lt_two_pow (n:=32) g1 (zh9 _)
   obtain⟨op2,hop2⟩:∃ q,op |||bitN (i:Nat)=q:=⟨_,rfl⟩
   rw [hop2] at hWI g1';clear hop2;dsimp only at C12;refine zbk 9 (by kernel_rfl) (by kernel_rfl) (by kernel_rfl) (by kernel_rfl) ?_ ?_
   ·rintro⟨_,_,h⟩
    exact h
   dsimp only [List.take,List.drop]
   repeat (go_big_quiet_step ((go_at_call 138;exact Calls.cls _ (hWI.out _))))
   refine wpQuiet_nil ?_;intro _ hw';obtain⟨nq,rfl⟩:=hw';have D5:=hD.below nq.below;have c12:=D5.eng.c12;have f12:=D5.eng.fz 12;dsimp only at c12;have E6:=D5.eng.set (s':={ s with op:=op2 }) (j:=12) (v:=.int .u32 (op2:Nat)) (by omega) rfl rfl rfl rfl rfl rfl rfl (by omega);have ks:=D5.eng.ft_set 12 (.int .u32 (op2:Nat));have kt:=(FT.of_below (M:=Dl.TmT) (base:=d.base) nq.below).trans ks;have kb:=kt.below (Nat.le_of_lt (Nat.lt_of_le_of_lt hD.eng.lo hD.eng.lt));have hI5:zvv d s w w.heap.size W1.heap.size O (nq.wd.setCell ⟨d.eb,12,none⟩ (.int .u32 (op2:Nat))):=⟨⟨op2,r2,g1',g2,E6,D5.env.keep zbd ks,hD.tab.below kb hpos,hpos⟩,kt.blk hp (by unfold Dl.TmT;decide),kt.blk ho (by unfold Dl.TmT;decide),hft.trans kt⟩;refine wpList_plain rfl fun K hK=>?_;go_simp;refine hK _ _ ?_;clear hK K;go_simp;rename_i KK hKK;refine hKK _ _ ?_;clear hKK KK
   gi_wp2
   exact⟨zgo kt,kb,hI5⟩
 case done=>
  rintro D ys X hD _ hI hK
  gi_wp2
  have hI2:=(zni d s w w.heap.size W1.heap.size O hbW4.2.1 hbW4.2.2 (β:=Unit)).putObj (s:=()) (.deferred none) hI (by omega) hK rfl;obtain⟨op,r2,g1,g2,hD2⟩:=hI2.eng;refine⟨by simp,.inl ⟨_,_,rfl,run_takeDeferred hK,?_⟩⟩;exact⟨.tuple #[],by simp [results,Tryz.results203,go_sem],⟨_,rfl⟩,op,r2,g1,g2,hD2,hI2.ft⟩
 case stop=>
  rintro D c pre X _ _ h _;exact h.elim
end Go.Proofs.YtpbmmoneeoijaaaGreatDoor
