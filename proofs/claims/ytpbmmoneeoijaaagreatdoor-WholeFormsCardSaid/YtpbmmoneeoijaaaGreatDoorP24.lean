/-
  A part of the proof: LinesFn ParseSt ParseFn WindowFn BehindFn SpanFn.
-/
import Derived.Test.YtpbmmoneeoijaaaGreatDoorP23
namespace Go.Proofs.YtpbmmoneeoijaaaGreatDoor
open Go.RowKit Go.Deep Go.Shelf
set_option maxRecDepth 100000
set_option maxHeartbeats 8000000
attribute [local go_sem] Oper.semAt_some
set_option maxRecDepth 100000
theorem zBb (S:ByteArray) (w:World):Calls Tryz.prog 75 #[.string S] w fun e w'=>e=.returned (.func (.func 145) #[] #[qP w.heap.size])∧w.alloc (qC #[.string S] 9)=w':=by
 go_enter Tryz.func75,Tryz.ntmps75;go_wp2;go_ret;exact⟨rfl,rfl⟩
theorem zDk (S:ByteArray) (w:World):Calls Tryz.prog 74 #[.string S] w fun e w'=>e=.returned (.func (.func 144) #[] #[qP w.heap.size])∧w.alloc (qC #[.string S] 9)=w':=by
 go_enter Tryz.func74,Tryz.ntmps74;go_wp2;go_ret;exact⟨rfl,rfl⟩
def zea (bd:List (List UInt8)):List UInt8:=bd.flatMap fun b=>b ++ [10]
theorem zi6 (b:List UInt8) (r:List (List UInt8)):zea (b :: r)=b ++ 10 :: zea r:=by simp [zea]
def FitL (bd:List (List UInt8)) (pre:List (Nat×List UInt8)) (x:Nat×List UInt8):Prop:=x.1=pre.length+1∧(pre ++ [x]).map (·.2) <+:bd
theorem zBw (n:Nat) (hn:1≤n) (Bs:Nat) (bd:List (List UInt8)) (hbd:∀ b∈bd,∀ c∈b,c≠10∧c≠35) (hk:bd.length≤1000) (hlen:(zea bd).length≤100000) (w:World) (hc:Boxed w Bs 9 (.string (bs (zea bd)))):
  SeqA Fence.wide n Tryz.prog 144 #[qP Bs] encP (KpB Bs) (fun X Y=>∃ v,Y=X.setCell ⟨Bs,0,none⟩ v) (FitL bd) (fun xs=>xs.map (·.2)=bd) w:=by
 intro lb J W hW hoJ hE hY h0;have hcW:Boxed W Bs 9 (.string (bs (zea bd))):=(hW.block Bs hc.lt).trans hc;have HC:=hid hcW;have HBD:=hid hbd;clear hc hcW hbd;refine callsIn_of_wp Tryz.func144 rfl trivial ?_ rfl;simp only [Tryz.ntmps144,qPr,Nat.reduceAdd,Nat.reduceSub]
 gi_wp2
 gi_loopw [3] (fun n_ wr=>∃ (pre:List (Nat×List UInt8)) (rest:List (List UInt8)),n_=qI ((pre.length:Int)+1)∧Hid (bd=pre.map (·.2) ++ rest)∧Hid (Boxed wr Bs 9 (.string (bs (zea rest))))∧Hid (J pre wr)) (fun n_ _=>bd.length+1 - (intOf n_).toNat)
 case atStart=>exact⟨[],bd,by go_num,rfl,HC,h0⟩
 case round=>
  clear HC h0;obtain⟨pre,rest,rfl,HR,HC,HJ⟩:=hrel;have hpl:pre.length+rest.length=bd.length:=by rw [HR.out];simp
  cases rest with
  |nil=>
   obtain⟨S,hS⟩:∃ S,bs (zea [])=S:=⟨_,rfl⟩;have hq:(S.toList == [])=true:=by rw [←hS,za1];rfl
   rw [hS] at HC;have hcell:=HC.out.cell
   gi_wp2
   go_end0
   exact⟨⟨_,rfl⟩,pre,by rw [HR.out];simp,HJ.out⟩
  |cons b r=>
   obtain⟨S,hS⟩:∃ S,bs (zea (b :: r))=S:=⟨_,rfl⟩;rw [hS] at HC;have hcell:=HC.out.cell;have hq:(S.toList == [])=false:=by rw [←hS,za1,zi6];simp
   have hsz:S.size=b.length+1+(zea r).length:=by rw [←hS,zhw,zi6];simp;omega
   have HG:=hid fun (i:Nat) (c:UInt8) (h:(zea (b :: r))[i]? =some c)=>zy2 h;have HX:=hid fun i j=>zif (zea (b :: r)) i j;rw [hS] at HG HX;rw [zi6] at HG HX;clear hS;have HBB:=hid (HBD.out b (by rw [HR.out];simp));obtain⟨P,hP⟩:∃ P,bs b=P:=⟨_,rfl⟩;obtain⟨T,hT⟩:∃ T,bs (zea r)=T:=⟨_,rfl⟩;have x1:S.extract 0 b.length=P:=by rw [HX.out,←hP];simp
   have x2:S.extract (b.length+1) S.size=T:=by rw [HX.out,hsz,←hT];congr 1;rw [List.drop_append,List.drop_eq_nil_of_le (by omega),show b.length+1 - b.length=1 by omega];simp
   have hpz:P.size=b.length:=by rw [←hP,zhw]
   have HGP:=hid fun (i:Nat) (c:UInt8) (h:b[i]? =some c)=>zy2 h;have HGS:=hid fun (i:Nat) (c:UInt8) (h:b[i]? =some c)=>HG.out i c (by rw [List.getElem?_append_left (List.getElem?_eq_some_iff.1 h).1];exact h);have hg10:=HG.out b.length 10 (by rw [List.getElem?_append_right (Nat.le_refl _)];simp);rw [hP] at HGP;obtain⟨L,hL⟩:∃ L,b.length=L:=⟨_,rfl⟩;obtain⟨TL,hTL⟩:∃ L,(zea r).length=L:=⟨_,rfl⟩;rw [hL] at x1 x2 hpz hg10 hsz;rw [hTL] at hsz;rw [hsz] at x2;have hbl:L+1+TL≤100000:=by rw [←hL,←hTL];have:=hlen;rw [HR.out] at this;simp [zea] at this ⊢;omega
   have HL:=hid hL;have HP:=hid hP;have HTT:=hid hT;have HRR:=hid (show bd=(pre ++ [((pre.length+1,b):Nat×List UInt8)]).map (·.2) ++ r by rw [HR.out];simp);clear HG HX hL hP hT hTL hlen HR
   gi_wp2
   gi_loopw [15] (fun i_ wq=>∃ i:Nat,i≤L∧i_=qI i∧wr=wq) (fun i_ _=>L+1 - (intOf i_).toNat)
   case atStart=>exact⟨0,by omega,by go_num,rfl⟩
   case round=>
    obtain⟨i,hi,rfl,rfl⟩:=hrel;have t0:decide ((i:Int) < (L:Int)+1+(TL:Int))=true:=by simp;omega
    by_cases hlt:i < L
    ·obtain⟨c,hc⟩:∃ c,b[i]? =some c:=⟨_,List.getElem?_eq_getElem (by rw [HL.out];exact hlt)⟩
     have hgi:=HGS.out i c hc;have hcn:=HBB.out c (List.mem_of_getElem? hc);have t1:((c.toNat:Int) == 10)=false:=by
      have:c.toNat≠10:=fun h=>hcn.1 (UInt8.toNat_inj.1 h);simp;omega
     clear hc hcn hg10 x1 x2
     gi_wp2
     go_roundw
     case rel=>exact⟨i+1,by omega,by go_num,trivial⟩
     case measure=>simp [intOf];omega
    ·have hiL:i=L:=by omega
     have t1:(((10:UInt8).toNat:Int) == 10)=true:=by decide
     rw [hiL] at t0 ⊢;clear hiL hlt hi
     gi_wp2
     refine wpIn_wide.2 ?_
     go_quiet (fail)
     have HJ9:=hoJ _ wr (wr.drewN nq) none HJ.out ⟨rfl,rfl,rfl,Nat.le_refl _,fun _ _ _=>rfl⟩ (fun r e=>by cases e);have hC9:Boxed (wr.drewN nq) Bs 9 (.string S):=HC.out;obtain⟨W9,hW9⟩:∃ X,X=wr.drewN nq:=⟨_,rfl⟩;rw [←hW9] at HJ9 hC9 ⊢;have hf9:=hC9.frozen;have hc9:=hC9.cell;have HJA:=hid (hE W9 (W9.setCell ⟨Bs,0,none⟩ (.string T)) ⟨_,rfl⟩ pre HJ9);have HCA:=hid (hC9.set (.string T));clear hW9 hcell hg10 x1 x2 HJ HC HJ9 hC9 hE hsz hq
     gi_wp2
     obtain⟨WA,hWA⟩:∃ X,X=W9.setCell ⟨Bs,0,none⟩ (.string T):=⟨_,rfl⟩;rw [←hWA] at HJA HCA ⊢;clear hWA hf9 hc9
     gi_loopw [4,33] (fun l_ i_ wq=>∃ i:Nat,i≤L∧i_=qI i∧l_=.string P∧WA=wq) (fun _ i_ _=>L+1 - (intOf i_).toNat)
     case atStart=>exact⟨0,by omega,by go_num,rfl,rfl⟩
     case round=>
      obtain⟨i,hi,rfl,rfl,rfl⟩:=hrel;by_cases hlt:i < L
      ·have t2:decide ((i:Int) < (L:Int))=true:=by simp;omega
       obtain⟨c,hc⟩:∃ c,b[i]? =some c:=⟨_,List.getElem?_eq_getElem (by rw [HL.out];exact hlt)⟩;have hgi:=HGP.out i c hc;have hcn:=HBB.out c (List.mem_of_getElem? hc);have t1:((c.toNat:Int) == 35)=false:=by
        have:c.toNat≠35:=fun h=>hcn.2 (UInt8.toNat_inj.1 h);simp;omega
       have k0:(0:Int)≤(i:Int):=by omega
       have k1:(i:Int) < (L:Int):=by omega
       clear hc hcn
       gi_wp2
       go_roundw
       case rel=>exact⟨i+1,by omega,by go_num,rfl,trivial⟩
       case measure=>simp [intOf];omega
      ·have hiL:i=L:=by omega
       rw [hiL];have t2:decide ((L:Int) < (L:Int))=false:=by simp
       clear hiL hlt hi;obtain⟨fn,tmps,assign,body,hy,hR⟩:=hY pre (pre.length+1,b) WA HJA.out ⟨rfl,⟨r,HRR.out.symm⟩⟩;unfold encP at hy;dsimp only at hy;rw [HP.out,show ((pre.length+1:Nat):Int)=(pre.length:Int)+1 by omega] at hy
       gi_wp2_with (refine hR.mono ?_;clear hR;rintro e W3 ⟨rfl,hJ3,hk3,hs3⟩)
       go_roundw
       case rel=>exact⟨pre ++ [(pre.length+1,b)],r,by simp,HRR,by unfold Hid;rw [HTT.out];exact (show W3.heap[Bs]? =WA.heap[Bs]? from hk3).trans HCA.out,hJ3⟩
       case measure=>simp [intOf];simp at hpl;omega
end Go.Proofs.YtpbmmoneeoijaaaGreatDoor
namespace Go.Proofs.YtpbmmoneeoijaaaGreatDoor
open Go.RowKit Go.Deep Go.Shelf
set_option maxRecDepth 100000
set_option maxHeartbeats 8000000
structure PA (b:Nat) (wz:World) (st:St) (P:List (List UInt8)) (fst:Bool) (X:World):Prop where
 rd:∃ v,RdAt (b+4) b X st P v
 rp:Boxed X (b+1) 178 (qP b)
 fs:Boxed X (b+2) 4 (.bool fst)
 sb:∃ u,Boxed X (b+3) 9 u
 bl:Below b wz X
 sz:b+4≤X.heap.size
theorem zB3 (X:World) (row:Option Nat):X.grownBy X row:=⟨rfl,rfl,rfl,Nat.le_refl _,fun _ _ _=>rfl⟩
section
variable {b:Nat} {wz:World} {st:St} {P:List (List UInt8)} {fst:Bool} {X Y:World}
theorem PA.grown (h:PA b wz st P fst X) {row:Option Nat} (hg:X.grownBy Y row) (hr:∀ g,row=some g→b+4≤g∧∃ o,X.heap[g]? =some o∧o.isCells=false):PA b wz st P fst Y:=by
 obtain⟨⟨v,h1⟩,h2,h3,⟨u,h4⟩,h5,h6⟩:=h;have ne:∀ k,k < b+4→some k≠row:=fun k hk e=>by have:=(hr k e.symm).1;omega
 exact⟨⟨v,h1.grown hg fun g e=>⟨by have:=(hr g e).1;omega,by obtain⟨_,o,h7,h8⟩:=hr g e;exact⟨o,h7,.inl h8⟩⟩⟩,h2.kept hg (ne _ (by omega)),h3.kept hg (ne _ (by omega)),⟨u,h4.kept hg (ne _ (by omega))⟩,h5.grown hg (by omega) fun k e=>by have:=(hr k e).1;omega,Nat.le_trans h6 hg.size⟩
theorem PA.setS (h:PA b wz st P fst X) (x:Value):PA b wz st P fst (X.setCell ⟨b+3,0,none⟩ x):=by
 obtain⟨⟨v,h1⟩,h2,h3,⟨u,h4⟩,h5,h6⟩:=h;exact⟨⟨v,h1.grown (zbu X ⟨b+3,0,none⟩ x) fun g e=>by cases e;exact⟨by show b+3≠b;omega,_,h4,.inr (by show b+3 < b+4;omega)⟩⟩,h2.other (by omega) _,h3.other (by omega) _,⟨x,h4.set x⟩,h5.setCell (by show b≤b+3;omega) _,by simpa using h6⟩
theorem PA.setF (h:PA b wz st P fst X) (x:Bool):PA b wz st P x (X.setCell ⟨b+2,0,none⟩ (.bool x)):=by
 obtain⟨⟨v,h1⟩,h2,h3,⟨u,h4⟩,h5,h6⟩:=h;exact⟨⟨v,h1.grown (zbu X ⟨b+2,0,none⟩ (.bool x)) fun g e=>by cases e;exact⟨by show b+2≠b;omega,_,h3,.inr (by show b+2 < b+4;omega)⟩⟩,h2.other (by omega) _,h3.set _,⟨u,h4.other (by omega) _⟩,h5.setCell (by show b≤b+2;omega) _,by simpa using h6⟩
theorem PA.below (h:PA b wz st P fst X) (hb:Below X.heap.size X Y):PA b wz st P fst Y:=by
 obtain⟨⟨v,h1⟩,h2,h3,⟨u,h4⟩,h5,h6⟩:=h;exact⟨⟨v,h1.below hb⟩,(hb.block _ h2.lt).trans h2,(hb.block _ h3.lt).trans h3,⟨u,(hb.block _ h4.lt).trans h4⟩,h5.trans (hb.mono (by omega)),Nat.le_trans h6 hb.size⟩
theorem PA.step (h:PA b wz st P fst X) {st':St} {P':List (List UInt8)} (hr:∃ v',RdAt (b+4) b Y st' P' v') (hf:Frm2 (b+4) b X Y):PA b wz st' P' fst Y:=by
 obtain⟨_,h2,h3,⟨u,h4⟩,h5,h6⟩:=h;exact⟨hr,(hf.low _ (by omega) (by omega) h2.lt).trans h2,(hf.low _ (by omega) (by omega) h3.lt).trans h3,⟨u,(hf.low _ (by omega) (by omega) h4.lt).trans h4⟩,h5.trans ⟨hf.io.1,hf.io.2.1,hf.io.2.2,hf.size,fun k hk=>hf.low k (by omega) (by omega) (by omega)⟩,Nat.le_trans h6 hf.size⟩
theorem Frm2.keeps {base:Nat} (h:Frm2 base b X Y) (d:Nat):KeepsFrom d X Y:=⟨h.size,fun k o _ h1 h2=>h.keep k o h1 h2⟩
theorem Frm2.kpB {base c:Nat} (h:Frm2 base b X Y) (h1:c < base) (h2:c≠b) (h3:c < X.heap.size):KpB c X Y:=h.low c h1 h2 h3
theorem cut_run (vP:Value) (base n:Nat) (xs:List Value) (X:World) (h:X.ownsRow base 9 1 vP n xs):∃ u,(∀ Y,(Instr.slice 179 vP none (some (qI 0)) none).run Tryz.prog Y=.ok u Y)∧u.ownBlock=vP.ownBlock∧∀ Y:World,Y.ownsRow base 9 1 vP n xs→Y.ownsRow base 9 1 u 0 []:=by
 rcases h.2 with ⟨rfl,rfl⟩|⟨g,cap,cur,rfl,h1,h2,h3,h4,h5,h6⟩
 ·refine⟨.slice none 0 0,fun Y=>?_,rfl,fun Y _=>World.ownsRow_nil _ _ _ _⟩
  go_simp
 ·refine⟨.slice (some ⟨g,0,none⟩) 0 cap,fun Y=>?_,rfl,fun Y hY=>?_⟩
  ·go_simp
  ·rcases hY.2 with ⟨e,_⟩|⟨g',cap',cur',e,k1,k2,k3,k4,k5,k6⟩
   ·cases e
   ·cases e
    exact⟨rfl,.inr ⟨g,cap,cur',rfl,k1,k2,Nat.zero_le _,k4,k5,by simp⟩⟩
end
attribute [local go_sem] Oper.semAt_some zaq
set_option maxRecDepth 100000
structure OkText (L:List zb8):Prop where
 ok:∀ k d,L[k]? =some d→zzb (St.none.run (L.take k)) d
 fst:∀ k d,L[k]? =some d→(d.k=0↔k=0)
 n0:0 < L.length
 n1:L.length≤1000
 len:(zat L).length≤65536
def ParseA (L:List zb8) (w:World) (e:Ending) (w':World):Prop:=
 ∃ base b P v,e=.returned (.tuple #[.agg #[qI (St.none.run L).r,v.T,v.M,v.E],qI 0,qI 0])∧RdAt base b w' (St.none.run L) P v∧w.heap.size≤base∧Below w.heap.size w w'
theorem zny (L:List zb8):zea (L.map fun d=>zd0 d.ps)=zat L:=by
 simp [zea,zat,lnB,List.flatMap_map]
theorem infoStr:(Tryz.prog.info? 9).map (fun i=>(i.zero,i.size,i.bytes))=some (some (.string ⟨#[]⟩),1,16):=by kernel_rfl
def zn7 (w:World) (o0 o1 o2 o3 o4 o5 o6:Obj):World:=((((((w.alloc o0).alloc o1).alloc o2).alloc o3).alloc o4).alloc o5).alloc o6
theorem seven_at (w:World) (o0 o1 o2 o3 o4 o5 o6:Obj):(zn7 w o0 o1 o2 o3 o4 o5 o6).heap[w.heap.size]? =some o0∧(zn7 w o0 o1 o2 o3 o4 o5 o6).heap[w.heap.size+1]? =some o1∧(zn7 w o0 o1 o2 o3 o4 o5 o6).heap[w.heap.size+1+1]? =some o2∧(zn7 w o0 o1 o2 o3 o4 o5 o6).heap[w.heap.size+1+1+1]? =some o3∧
  (zn7 w o0 o1 o2 o3 o4 o5 o6).heap[w.heap.size+1+1+1+1]? =some o4∧(zn7 w o0 o1 o2 o3 o4 o5 o6).heap[w.heap.size+1+1+1+1+1]? =some o5∧(zn7 w o0 o1 o2 o3 o4 o5 o6).heap[w.heap.size+1+1+1+1+1+1]? =some o6∧(zn7 w o0 o1 o2 o3 o4 o5 o6).heap.size=w.heap.size+7∧Below w.heap.size w (zn7 w o0 o1 o2 o3 o4 o5 o6):=by
 have key:∀ (X:World) (o:Obj) (k:Nat) (u:Obj),X.heap[k]? =some u→(X.alloc o).heap[k]? =some u:=fun X o k u h=>(Below.heap_alloc X o k (qLt h)).trans h;have new:∀ (X:World) (o:Obj) (k:Nat),X.heap.size=k→(X.alloc o).heap[k]? =some o:=fun X o k h=>by subst h;exact heap_alloc_new X o
 refine⟨?_,?_,?_,?_,?_,?_,?_,by simp [zn7],?_⟩
 ·exact key _ _ _ _ (key _ _ _ _ (key _ _ _ _ (key _ _ _ _ (key _ _ _ _ (key _ _ _ _ (new _ _ _ rfl))))))
 ·exact key _ _ _ _ (key _ _ _ _ (key _ _ _ _ (key _ _ _ _ (key _ _ _ _ (new _ _ _ (by simp))))))
 ·exact key _ _ _ _ (key _ _ _ _ (key _ _ _ _ (key _ _ _ _ (new _ _ _ (by simp)))))
 ·exact key _ _ _ _ (key _ _ _ _ (key _ _ _ _ (new _ _ _ (by simp))))
 ·exact key _ _ _ _ (key _ _ _ _ (new _ _ _ (by simp)))
 ·exact key _ _ _ _ (new _ _ _ (by simp))
 ·exact new _ _ _ (by simp)
 ·have al:∀ (X:World) (o:Obj),Below w.heap.size w X→Below w.heap.size w (X.alloc o):=fun X o h=>h.alloc h.size o
  exact al _ _ (al _ _ (al _ _ (al _ _ (al _ _ (al _ _ (al _ _ (Below.refl _ _)))))))
theorem zDb (L:List zb8) (w:World) (ok:OkText L):
  Calls Tryz.prog 29 #[.string (bs (zat L))] w (ParseA L w):=by
 obtain⟨S,hS⟩:∃ S,bs (zat L)=S:=⟨_,rfl⟩;have hsz:S.size≤65536:=by rw [←hS,zhw];exact ok.len
 rw [hS];have HS:=hid hS;have HOK:=hid ok;clear hS ok;refine (callsIn_wide (n:=8)).1 ?_;have h1:1≤8:=by omega
 refine callsIn_of_wp_marks Tryz.func29 rfl trivial ?_ rfl;simp only [Tryz.ntmps29,qPr,Nat.reduceAdd,Nat.reduceSub];refine wpIn_wide.2 ?_;have t1:decide ((65536:Int) < (S.size:Int))=false:=by simp;omega
 have HL:=hid fun X=>zDk S X;go_wp2;refine wp_scope_straight ?_;go_wp2;refine wp_label ?_
 go_wp2_with (go_at_call 74;refine (HL.out _).mono ?_;rintro e w2 ⟨rfl,rfl⟩)
 clear HL t1 hsz;obtain⟨W7,hW7⟩:∃ X,X=((((((w.alloc (Obj.cells #[qI 0,.slice none 0 0,.slice none 0 0,.slice none 0 0] 26)).alloc (Obj.cells #[qI 0] 3)).alloc (Obj.cells #[qI 0] 35)).alloc (Obj.cells #[qI 0,.slice none 0 0,.slice none 0 0,.slice none 0 0,.slice none 0 0] 181)).alloc (Obj.cells #[qP (w.heap.size+1+1+1)] 178)).alloc (Obj.cells #[.bool true] 4)).alloc (Obj.cells #[.string S] 9):=⟨_,rfl⟩;rw [←hW7];have hW8:W7=zn7 w (Obj.cells #[qI 0,.slice none 0 0,.slice none 0 0,.slice none 0 0] 26) (Obj.cells #[qI 0] 3) (Obj.cells #[qI 0] 35) (Obj.cells #[qI 0,.slice none 0 0,.slice none 0 0,.slice none 0 0,.slice none 0 0] 181) (Obj.cells #[qP (w.heap.size+1+1+1)] 178) (Obj.cells #[.bool true] 4) (Obj.cells #[.string S] 9):=hW7;obtain⟨g0,g1,g2,g3,g4,g5,g6,gs,gB⟩:=seven_at w (Obj.cells #[qI 0,.slice none 0 0,.slice none 0 0,.slice none 0 0] 26) (Obj.cells #[qI 0] 3) (Obj.cells #[qI 0] 35) (Obj.cells #[qI 0,.slice none 0 0,.slice none 0 0,.slice none 0 0,.slice none 0 0] 181) (Obj.cells #[qP (w.heap.size+1+1+1)] 178) (Obj.cells #[.bool true] 4) (Obj.cells #[.string S] 9);rw [←hW8] at g0 g1 g2 g3 g4 g5 g6 gs gB;clear hW7 hW8;obtain⟨b,hb⟩:∃ n,w.heap.size+1+1+1=n:=⟨_,rfl⟩;rw [hb] at g3 g4 g5 g6 ⊢;have hPA:PA b W7 St.none [] true W7:=⟨⟨⟨.slice none 0 0,.slice none 0 0,.slice none 0 0,.slice none 0 0,[]⟩,g3,World.ownsRow_nil _ _ _ _,World.ownsRow_nil _ _ _ _,rfl,fun i m u h=>by simp [St.none] at h,fun i j u x g _ h=>by simp at h,World.ownsRow_nil _ _ _ _,World.ownsRow_nil _ _ _ _,by omega⟩,g4,g5,⟨_,g6⟩,Below.refl _ _,by omega⟩;obtain⟨p0,hp0⟩:∃ n,w.heap.size=n:=⟨_,rfl⟩;have HB7:=hid gB;have HP0:=hid hp0;have HR0:=hid g0;have HR1:=hid g1;have HR2:=hid g2;rw [hp0] at HR0 HR1 HR2 gs hb ⊢;have HSZ:=hid gs;have HB:=hid hb;have hbd:∀ x∈L.map (fun d=>zd0 d.ps),∀ c∈x,c≠10∧c≠35:=fun x hx=>by
  obtain⟨d,_,rfl⟩:=List.mem_map.1 hx;exact line_no d.piece
 have hln:=zBw (8 - 1) (by omega) (b+1+1+1) (L.map fun d=>zd0 d.ps) hbd (by rw [List.length_map];exact HOK.out.n1) (by rw [zny];have:=HOK.out.len;omega) W7 (by rw [zny,HS.out];exact g6);have hs7:W7.heap.size=b+4:=by omega
 clear g0 g1 g2 g3 g4 g5 g6 gs gB hp0 hb;refine (wpIn_wide (n:=8)).1 ?_;refine zf9 rfl h1 (gf:=144) (lb:=#[qP (b+1+1+1)]) rfl trivial (enters_of Tryz.func144 (by kernel_rfl) rfl) hln
  KpB.t (KpB.b (by omega)) (Below.refl _ _) (fun _=>rfl)
  (fun pre X=>∃ P,PA b W7 (St.none.run (L.take pre.length)) P (decide (pre.length=0)) X)
  (fun s X Y row hs hg hr=>by obtain⟨P,hP⟩:=hs;exact⟨P,hP.grown hg fun g e=>⟨by have:=(hr g e).1;omega,(hr g e).2⟩⟩)
  (fun X Y ⟨v,e⟩=>e▸KeepsOthers.setCell X _ v)
  (fun X Y ⟨v,e⟩ s hs=>by obtain⟨P,hP⟩:=hs;subst e;exact⟨P,hP.setS v⟩)
  ⟨[],hPA⟩
  (fun x a' _=>a'= { tmps:=#[.string S,undef,qP p0,qP (p0+1),qP (p0+1+1),qP (b+1),qP (b+1+1),qI (x.1:Nat),.string (bs x.2),undef,undef,.string S,qI (S.size:Nat),.bool false,undef,.agg #[qI 0,.slice none 0 0,.slice none 0 0,.slice none 0 0,.slice none 0 0],qP b,.string S,.func (.func 144) #[] #[qP (b+1+1+1)],qI (x.1:Nat),.string (bs x.2),undef,undef,undef,undef,undef,undef,undef,undef,undef,undef,undef,undef,undef,undef,undef,undef,undef,undef,undef,undef,undef,undef,undef,undef,undef,undef,undef,undef,undef,undef,undef,undef,undef,undef,undef,undef,undef,undef,undef,undef],defers:=[] })
  (fun x a' _ X Y row hz hg hr=>hz)
  ?assign ?body ?done
 case assign=>
  rintro l pre x W K hI hK;unfold encP
  gi_wp2
  exact hK _ _ (KeepsFrom.refl _ _) rfl hI rfl
 case body=>
  rintro l pre ⟨xn,xl⟩ a' W hdl ⟨lr,hlr⟩ ⟨P,hP⟩ rfl ⟨_,hfit⟩;dsimp only at hfit ⊢;obtain⟨d,hd⟩:∃ d,L[pre.length]? =some d∧xl=zd0 d.ps:=by
   obtain⟨t,ht⟩:=hfit;have:=congrArg (fun z=>z[pre.length]?) ht;simp only [List.map_append,List.map_cons,List.map_nil,List.append_assoc,List.cons_append,List.nil_append] at this;rw [List.getElem?_append_right (by simp),List.length_map,Nat.sub_self,List.getElem?_cons_zero,List.getElem?_map] at this
   cases hL:L[pre.length]? with
   |none=>rw [hL] at this;cases this
   |some d=>rw [hL] at this;exact⟨d,rfl,by simpa using this⟩
  obtain⟨hLd,rfl⟩:=hd;obtain⟨⟨v,hrd⟩,h2,h3,⟨u,h4⟩,h5,h6⟩:=hP;obtain⟨vP0,hcut,hcb,hcown⟩:=cut_run v.P (b+4) P.length _ W hrd.P
  gi_wp2
  refine zc7 [8] (fun X=>Two2 X b (b+1) (rdB (St.none.run (L.take pre.length)).r v) (Obj.cells #[qP b] 178)) (by kernel_rfl) (by kernel_rfl) (by kernel_rfl) (fun ⟨_,_,h⟩=>h) (show Two2 W.drew b (b+1) _ _ from ⟨hrd.blk,h2⟩) ?_;refine qFs fun K hK=>?_;go_simp;refine⟨qP b,fun X hX=>?_,hK _ ?_⟩
  ·have z:X.cell? ⟨b+1,0,none⟩=some (qP b):=zaa hX.h2 0
   go_simp
  clear hK K;refine qFs fun K hK=>?_;go_simp;refine⟨qP b,fun X hX=>?_,hK _ ?_⟩
  ·have z:X.cell? ⟨b+1,0,none⟩=some (qP b):=zaa hX.h2 0
   go_simp
  clear hK K;refine qFs fun K hK=>?_;go_simp;refine⟨_,fun _ _=>rfl,hK _ ?_⟩;clear hK K;refine qFs fun K hK=>?_;go_simp;refine⟨_,fun _ _=>rfl,hK _ ?_⟩;clear hK K;refine qFs fun K hK=>?_;go_simp;refine⟨v.P,fun X hX=>?_,hK _ ?_⟩
  ·have z:X.cell? ⟨b,4,none⟩=some v.P:=by rw [zaa hX.h1];rfl
   go_simp
  clear hK K;refine qFs fun K hK=>?_;go_simp;refine⟨vP0,fun _ _=>rfl,hK _ ?_⟩;clear hK K;refine qFs fun K hK=>?_;go_simp;refine⟨_,fun _ _=>rfl,hK _ ?_⟩;clear hK K;refine qFs fun K hK=>?_;go_simp;refine⟨_,fun _ _=>rfl,hK _ ?_⟩;clear hK K;refine qFc ?_;refine za9 ?_;have hBd:Below W.heap.size W W.drew:=⟨rfl,rfl,rfl,Nat.le_refl _,fun _ _=>rfl⟩;have hrd2:=hrd.below hBd;have c8:W.drew.cell? ⟨b,4,none⟩=some v.P:=hrd2.cell4;have f8:=zab hrd2.blk 4;have hshape:=zar (hcown _ hrd2.P);obtain⟨va,vc,rfl,_⟩:=hshape;refine zby (m:=0) (i:=8) (rem1:=[]) (by kernel_rfl) (by rfl) (by rfl) (by kernel_rfl) (fun K hK=>?_)
  go_wp2_with fail
  refine za2 ?_;obtain⟨X1,hX1⟩:∃ X,X=(W.setCell ⟨b,4,none⟩ (.slice va 0 vc)).drew:=⟨_,rfl⟩;have HR1:=hid (show RdAt (b+4) b X1 (St.none.run (L.take pre.length)) [] { v with P:=.slice va 0 vc } by rw [hX1];exact hrd2.addP [] (hcown _ hrd2.P) (zB3 _ _));have HF1:=hid (show Frm2 (b+4) b W X1 by rw [hX1];exact (Frm2.below hBd).trans (Frm2.set W.drew 4 (.slice va 0 vc) hrd2.blk));rw [←hX1];have HPA1:=hid (show PA b W7 (St.none.run (L.take pre.length)) [] (decide (pre.length=0)) X1 from PA.step ⟨⟨v,hrd⟩,h2,h3,⟨u,h4⟩,h5,h6⟩ ⟨_,HR1.out⟩ HF1.out);have HKP:=hid (HF1.out.kpB (c:=b+1+1+1) (by omega) (by omega) h4.lt);have HKF:=hid (HF1.out.keeps W7.heap.size);clear hX1 c8 f8 hrd2 hrd h2 h3 h4 h5 hBd hcut hcown hcb;have HPV:=hid fun X=>zBb (bs (zd0 d.ps)) X
  gi_wp2_with (refine⟨trivial,?_⟩;gi_at_call 75;refine (CallsIn.inRound l (callsIn_wide.2 (HPV.out _))).mono ?_;rintro e w' ⟨rfl,rfl⟩)
  obtain⟨X2,hX2⟩:∃ X,X=X1.alloc (Obj.cells #[.string (bs (zd0 d.ps))] 9):=⟨_,rfl⟩;have hB2:Below X1.heap.size X1 X2:=by rw [hX2];exact qBr _
  have hC2:Boxed X2 X1.heap.size 9 (.string (bs (zd0 d.ps))):=by rw [hX2];exact Boxed.new X1 _ _
  have hs2:X2.heap.size=X1.heap.size+1:=by rw [hX2];simp
  rw [←hX2];have HPA2:=hid (HPA1.out.below hB2);have HKP2:=hid (KpB.t HKP.out (KpB.below hB2 (show b+1+1+1 < X1.heap.size by have:=HPA1.out.sz;omega)));have HKF2:=hid (HKF.out.trans (show KeepsFrom W7.heap.size X1 X2 from ⟨hB2.size,fun k o _ h _=>(hB2.block k (qLt h)).trans h⟩));have hlr2:X2.heap[l]? =some (.loop lr):=HKF2.out.same l _ hdl hlr rfl;have hPC:=zvx (8 - 1 - 1 - 1) (by omega) X1.heap.size (zd0 d.ps) d.ps (pcs_line d.piece) (by have:=zyp d;unfold lnB at this;rw [List.length_append] at this;omega) X2 hC2;have hszX:=HPA1.out.sz;have hRB:=HR1.out.below hB2;have hNB:∀ g,(Value.slice va 0 vc).ownBlock=some g→g≠X1.heap.size:=fun g hg he=>by have:=(HR1.out.P.lt g hg).2;omega
  obtain⟨Bc,hBc⟩:∃ n,X1.heap.size=n:=⟨_,rfl⟩;rw [hBc] at hs2 hPC hszX hNB ⊢;have HRB:=hid (show ∃ v2,RdAt (b+4) b X2 (St.none.run (L.take pre.length)) [] v2∧v2.P.ownBlock≠some Bc from ⟨_,hRB,fun h=>hNB Bc h rfl⟩);have HLd:=hid hLd;have HPS:=hid (zoi d);clear hX2 hB2 hC2 HPV HKP HKF HPA1 HR1 HF1 hBc hlr hfit hRB hNB;generalize v.P=vp;obtain⟨SL,hSL⟩:∃ z,bs (zd0 d.ps)=z:=⟨_,rfl⟩;rw [hSL];clear hSL;refine zvs (l₀:=l) rfl hlr2 (by omega) (gf:=145) (lb:=#[qP Bc]) rfl trivial (enters_of Tryz.func145 (by kernel_rfl) rfl) hPC
   KpB.t (KpB.b (by omega)) (Below.refl _ _) (fun _=>rfl)
   (fun pre2 X=>(∃ v2,RdAt (b+4) b X (St.none.run (L.take pre.length)) (pre2.map (·.2)) v2∧v2.P.ownBlock≠some Bc)∧PA b W7 (St.none.run (L.take pre.length)) (pre2.map (·.2)) (decide (pre.length=0)) X∧KeepsFrom W7.heap.size X2 X∧KpB (b+1+1+1) X2 X)
   (fun s X Y row hs hg hr=>⟨by obtain⟨v2,hv2,hn2⟩:=hs.1;exact⟨v2,hv2.grown hg fun g e=>⟨by have:=(hr g e).1;omega,by obtain⟨_,o,h7,h8⟩:=hr g e;exact⟨o,h7,.inl h8⟩⟩,hn2⟩,hs.2.1.grown hg fun g e=>⟨by have:=(hr g e).1;omega,(hr g e).2⟩,ownFrom_keepsFrom (β:=Unit) (Nat.le_refl _) () X Y row hs.2.2.1 hg hr,KpB.t hs.2.2.2 (hg.block _ (by have:=hs.2.1.sz;omega) fun e=>by have:=(hr _ e.symm).1;omega)⟩)
   (fun _ _ hc=>hc.elim) (fun _ _ hc=>hc.elim)
   ⟨HRB.out,HPA2.out,KeepsFrom.refl _ _,rfl⟩
   (fun x a' _=>a'= { tmps:=#[.string S,undef,qP p0,qP (p0+1),qP (p0+1+1),qP (b+1),qP (b+1+1),qI (pre.length+1),.string SL,undef,.string (bs x.2),.string S,qI (S.size:Nat),.bool false,undef,.agg #[qI 0,.slice none 0 0,.slice none 0 0,.slice none 0 0,.slice none 0 0],qP b,.string S,.func (.func 144) #[] #[qP (b+1+1+1)],qI (pre.length+1),.string SL,qP b,qP b,qP b,.pointer (some ⟨b,4,none⟩),vp,.slice va 0 vc,qP b,.pointer (some ⟨b,4,none⟩),.string SL,.func (.func 145) #[] #[qP Bc],qI (x.1:Nat),.string (bs x.2),undef,undef,undef,undef,undef,undef,undef,undef,undef,undef,undef,undef,undef,undef,undef,undef,undef,undef,undef,undef,undef,undef,undef,undef,undef,undef,undef,undef],defers:=[] })
   (fun x a' _ X Y row hz hg hr=>hz)
   ?assign2 ?body2 ?done2
  case assign2=>
   rintro l2 pre2 x X K hI hK;unfold encP
   gi_wp2
   exact hK _ _ (KeepsFrom.refl _ _) rfl hI rfl
  case body2=>
   rintro l2 pre2 ⟨xi,xp⟩ a' X hXl ⟨_,hXr⟩ ⟨⟨v2,hr2,hn2⟩,hPX,hKX,hKpX⟩ rfl ⟨_,hfit2⟩;dsimp only;have hP0:=hPX;obtain⟨_,e2,_,⟨u4,e4⟩,_,hz2⟩:=hPX;have hXs:Bc < X.heap.size:=by have:=(qLt hXr);omega
   have hfl:pre2.length+1≤33:=by
    obtain⟨t,ht⟩:=hfit2;have:=congrArg List.length ht;have h33:=HPS.out.1;simp at this;omega
   obtain⟨XP,hXP⟩:∃ z,bs xp=z:=⟨_,rfl⟩;rw [hXP];have HXP:=hid hXP;clear hXP;obtain⟨i0,hi,hz0,hz1,hz2'⟩:=info_parts infoStr
   gi_wp2
   refine zc7 [6,7,8,9,10] (fun X=>Two2 X b (b+1) (rdB (St.none.run (L.take pre.length)).r v2) (Obj.cells #[qP b] 178)) (by kernel_rfl) (by kernel_rfl) (by kernel_rfl) (fun ⟨_,_,h⟩=>h) (show Two2 X.drew b (b+1) _ _ from ⟨hr2.blk,e2⟩) ?_;refine qFs fun K hK=>?_;go_simp;refine⟨qP b,fun X hX=>?_,hK _ ?_⟩
   ·have z:X.cell? ⟨b+1,0,none⟩=some (qP b):=zaa hX.h2 0
    go_simp
   clear hK K;refine qFs fun K hK=>?_;go_simp;refine⟨qP b,fun X hX=>?_,hK _ ?_⟩
   ·have z:X.cell? ⟨b+1,0,none⟩=some (qP b):=zaa hX.h2 0
    go_simp
   clear hK K;refine qFs fun K hK=>?_;go_simp;refine⟨_,fun _ _=>rfl,hK _ ?_⟩;clear hK K;refine qFs fun K hK=>?_;go_simp;refine⟨_,fun _ _=>rfl,hK _ ?_⟩;clear hK K;refine qFs fun K hK=>?_;go_simp;refine⟨v2.P,fun X hX=>?_,hK _ ?_⟩
   ·have z:X.cell? ⟨b,4,none⟩=some v2.P:=by rw [zaa hX.h1];rfl
    go_simp
   clear hK K;refine qFs fun K hK=>?_;go_simp;refine⟨_,fun _ _=>rfl,hK _ ?_⟩;clear hK K;refine qFc ?_;refine qFc ?_;refine qFc ?_;refine qFc ?_;refine qFc ?_;refine za9 ?_;have hBA:Below X.heap.size X (X.alloc (Obj.cells #[.string XP] 9)).drew:=(qBr _).drew;have hRA:=hr2.below hBA;have e2A:=(hBA.block _ e2.lt).trans e2;refine qT1 6 [7,8,9,10] fun K hK=>?_
   go_wp2_with fail
   refine hK _ _ (show Two2 (X.alloc (Obj.cells #[.string XP] 9)).drew b (b+1) _ _ from ⟨hRA.blk,e2A⟩) ?_;clear hK K;refine qT1 7 [8,9,10] fun K hK=>?_;dsimp only [List.getElem_toArray,List.getElem_cons_succ,List.getElem_cons_zero];refine wpList_append_own_at _ rfl _ _ 179 rfl (b+4) 9 i0 (.string ⟨#[]⟩) 1 16 Tryz.underlying179 hi hz0 hz1 hz2' rfl (by decide) v2.P ((pre2.map (·.2)).length) _ rfl hRA.P ⟨X.heap.size,0,none⟩ 1 1 [.string XP] rfl rfl (fun j u hj=>by rw [zbn,Nat.zero_add];exact (World.cell?_alloc_new _ _ _ j).trans (by rw [←hj];simp)) (by simp [Value.oneCell']) (by rw [List.length_map];unfold maxLen;omega) (by rw [List.length_map];omega) (Nat.le_trans hz2 hBA.size) ?_;intro v5 w5 h5 g5 _ b5;have hn5:v5.ownBlock≠some Bc:=fun he=>by
    rcases b5 with b5|b5
    ·exact hn2 (by rw [←b5];exact he)
    ·rw [b5] at he
     have h9:(X.alloc (Obj.cells #[.string XP] 9)).drew.heap.size=Bc:=by cases he;rfl
     have:=hBA.size;omega
   have hbc5:w5.heap[Bc]? =X.heap[Bc]?:=(g5.block Bc (by have:=hBA.size;omega) fun e=>hn2 e.symm).trans (hBA.block Bc hXs);have hb5:=zdo hRA.blk g5 fun g hg=>by have:=(zbj hRA.P hg).1;omega
   have e25:w5.heap[b+1]? =some (Obj.cells #[qP b] 178):=(g5.block (b+1) (qLt e2A) fun e=>by have:=(zbj hRA.P e.symm).1;omega).trans e2A;have h6':w5.ownsRow (b+4) 9 1 v5 ((pre2 ++ [((xi,xp):Nat×List UInt8)]).map (·.2)).length (strC ((pre2 ++ [((xi,xp):Nat×List UInt8)]).map (·.2))):=by
    rw [List.map_append,List.map_cons,List.map_nil,zCv,List.length_append,HXP.out];exact h5
   have hA5:=hRA.addP ((pre2 ++ [((xi,xp):Nat×List UInt8)]).map (·.2)) h6' g5;obtain⟨wa,wc,rfl,_,_⟩:=zar h5;rw [List.length_map] at hA5 hn5;have hF5:=((Frm2.below (base:=b+4) (b:=b) hBA).trans (Frm2.own hRA.P g5)).trans (Frm2.set w5 4 (.slice wa (pre2.length+1) wc) hb5);have c5:w5.cell? ⟨b,4,none⟩=some v2.P:=by rw [zaa hb5];rfl
   have f5:=zab hb5 4;have hC5:Two2 w5 b (b+1) (rdB (St.none.run (L.take pre.length)).r v2) (Obj.cells #[qP b] 178):=⟨hb5,e25⟩
   go_wp2_with fail
   refine hK _ _ hC5 ?_;clear hK K;refine qT1 8 [9,10] fun K hK=>?_
   go_wp2_with fail
   refine hK _ _ hC5 ?_;clear hK K;refine qT1 9 [10] fun K hK=>?_
   go_wp2_with fail
   refine hK _ _ hC5 ?_;clear hK K;refine zby (m:=0) (i:=10) (rem1:=[]) (by kernel_rfl) (by rfl) (by rfl) (by kernel_rfl) (fun K hK=>?_)
   go_wp2_with fail
   refine za2 ?_;have hk1:=hF5.kpB (c:=b+1+1+1) (by omega) (by omega) (by omega);have hk2:KpB Bc X (w5.setCell ⟨b,4,none⟩ (.slice wa (pre2.length+1) wc)):=(Below.heap_setCell w5 ⟨b,4,none⟩ _ Bc (by show Bc≠b;omega)).trans hbc5;exact⟨hF5.keeps _,hk2,⟨_,hA5,hn5⟩,PA.step hP0 ⟨_,hA5⟩ hF5,hKX.trans (hF5.keeps _),KpB.t hKpX hk1⟩
  case done2=>
   rintro xs X hxs ⟨_,hPX,hKX,hKpX⟩;rw [hxs] at hPX;have hP0:=hPX;obtain⟨⟨v2,hr2⟩,e2,e3,⟨u4,e4⟩,_,hz2⟩:=hPX;have hps:0 < d.ps.length:=by
    unfold zb8.ps
    split;· simp
    split;· simp [zfz]
    split;· simp [zdz]
    split;· simp [zdd]
    simp [zfj]
   obtain⟨wa,wc,hvP,_,_⟩:=zar hr2.P;have c4:X.cell? ⟨b,4,none⟩=some (.slice wa d.ps.length wc):=by rw [←hvP];exact hr2.cell4
   have c1:=e2.cell;have c2:=e3.cell;have hkd:decide (pre.length=0)=decide (d.k=0):=by
    have:=HOK.out.fst pre.length d HLd.out;by_cases hz:pre.length=0
    ·simp [hz,this.2 hz]
    ·have:d.k≠0:=fun h=>hz (this.1 h)
     simp [hz,this]
   rw [hkd] at c2 hP0;have HLN:=hid (line_val (b+4) b X (St.none.run (L.take pre.length)) v2 d hz2 hr2 (HOK.out.ok pre.length d HLd.out));have HP0:=hid hP0;have HKX:=hid hKX;have HKpX:=hid hKpX;have HXS:=hid e4.lt;have hse:St.none.run (L.take (pre ++ [((xn,zd0 d.ps):Nat×List UInt8)]).length)=(St.none.run (L.take pre.length)).step d:=by
    rw [List.length_append,List.length_singleton,List.take_add_one,HLd.out,St.run_append];rfl
   have HSE:=hid hse;obtain⟨kb,hkb⟩:∃ kb,decide (d.k=0)=kb:=⟨_,rfl⟩;rw [hkb] at c2 HLN HP0;have t9:((d.ps.length:Int) == 0)=false:=beq_eq_false_iff_ne.2 (by omega);clear hP0 hr2 e2 e3 e4 hvP hKX hKpX hse hkb hkd hxs hps hz2
   gi_wp2_with (refine⟨trivial,?_⟩;gi_at_call 76;refine (CallsIn.inRound l (callsIn_wide.2 (HLN.out))).mono ?_;rintro e w' ⟨rfl,hRd,hFr⟩;have HPY:=hid (PA.step HP0.out hRd hFr);have HFY:=hid hFr;have f3:=HPY.out.fs.frozen;have c3:=HPY.out.fs.cell;clear hRd hFr)
   have hK1:KeepsFrom W7.heap.size W (w'.setCell ⟨b+2,0,none⟩ (.bool false)):=(HKF2.out.trans (HKX.out.trans (HFY.out.keeps _))).trans ((KeepsOthers.setCell _ _ _).from _);have hK2:KpB (b+1+1+1) W (w'.setCell ⟨b+2,0,none⟩ (.bool false)):=KpB.t (KpB.t HKP2.out (KpB.t HKpX.out (HFY.out.kpB (by omega) (by omega) HXS.out))) (Below.heap_setCell w' ⟨b+2,0,none⟩ _ _ (by show b+1+1+1≠b+2;omega));refine⟨hK1,hK2,d.ps,?_⟩;have hz:decide ((pre ++ [((xn,zd0 d.ps):Nat×List UInt8)]).length=0)=false:=by simp
   rw [hz,HSE.out];exact HPY.out.setF false
 case done=>
  rintro D xs X hD hxs ⟨P,hPX⟩ hK;have hlen:xs.length=L.length:=by simpa using congrArg List.length hxs
  have hn0:=HOK.out.n0;have hdf:decide (xs.length=0)=false:=decide_eq_false (by omega);rw [hdf,hlen,List.take_length] at hPX;obtain⟨⟨v,hrd⟩,h2,h3,⟨u,h4⟩,h5,h6⟩:=hPX;have hbv:=HB.out;have hsz7:=HSZ.out;have r0:=(h5.block p0 (by omega)).trans HR0.out;have r1:=(h5.block (p0+1) (by omega)).trans HR1.out;have r2:=(h5.block (p0+1+1) (by omega)).trans HR2.out;have c2:X.cell? ⟨b+1+1,0,none⟩=some (.bool false):=h3.cell;have c1:=h2.cell;obtain⟨Ta,Tc,hvT,_,_⟩:=zar hrd.T;obtain⟨Ma,Mc,hvM,_,_⟩:=zar hrd.M;obtain⟨Ea,Ec,hvE,_,_⟩:=zar hrd.E;have kb:=hrd.blk;have e0:=zaa kb 0;have e1:=zaa kb 1;have e2:=zaa kb 2;have e3:=zaa kb 3;have d0:=zaa r0 0;have d1:=zaa r0 1;have d2:=zaa r0 2;have d3:=zaa r0 3;have f0:=zab r0 0;have f1:=zab r0 1;have f2:=zab r0 2;have f3:=zab r0 3;have d4:=zaa r1 0;have d5:=zaa r2 0;have f4:=zab r1 0;have f5:=zab r2 0;obtain⟨F,hF⟩:∃ F,F=((X.setCells p0 0 [qI (St.none.run L).r,v.T,v.M,v.E]).setCell ⟨p0+1,0,none⟩ (qI 0)).setCell ⟨p0+1+1,0,none⟩ (qI 0):=⟨_,rfl⟩;have k0:F.heap[p0]? =some (.cells #[qI (St.none.run L).r,v.T,v.M,v.E] 26 (0,0)):=by
   rw [hF,Below.heap_setCell _ _ _ _ (by show p0≠p0+1+1;omega),Below.heap_setCell _ _ _ _ (by show p0≠p0+1;omega)];exact zdc p0 26 [qI (St.none.run L).r,v.T,v.M,v.E] [] [qI 0,.slice none 0 0,.slice none 0 0,.slice none 0 0] X r0 rfl
  have q1:Boxed (X.setCells p0 0 [qI (St.none.run L).r,v.T,v.M,v.E]) (p0+1) 3 (qI 0):=by
   refine Eq.trans ?_ r1;simp only [World.setCells]
   repeat rw [Below.heap_setCell _ _ _ _ (by show p0+1≠p0;omega)]
  have q2:Boxed (X.setCells p0 0 [qI (St.none.run L).r,v.T,v.M,v.E]) (p0+1+1) 35 (qI 0):=by
   refine Eq.trans ?_ r2;simp only [World.setCells]
   repeat rw [Below.heap_setCell _ _ _ _ (by show p0+1+1≠p0;omega)]
  have k1:Boxed F (p0+1) 3 (qI 0):=by rw [hF];exact (q1.set _).other (by omega) _
  have k2:Boxed F (p0+1+1) 35 (qI 0):=by rw [hF];exact (q2.other (by omega) _).set _
  have hT:∀ k,k≠p0→k≠p0+1→k≠p0+1+1→F.heap[k]? =X.heap[k]?:=fun k z1 z2 z3=>by
   rw [hF,Below.heap_setCell _ _ _ _ z3,Below.heap_setCell _ _ _ _ z2];simp only [World.setCells]
   repeat rw [Below.heap_setCell _ _ _ _ z1]
  have hrF:RdAt (b+4) b F (St.none.run L) P v:=by
   have s1:∀ {Y:World} (n o:Nat) (x:Value),n < b→RdAt (b+4) b Y (St.none.run L) P v→n < Y.heap.size→RdAt (b+4) b (Y.setCell ⟨n,o,none⟩ x) (St.none.run L) P v:=fun {Y} n o x hn h hne=>
    h.grown (zbu Y ⟨n,o,none⟩ x) fun g e=>by cases e;exact⟨by show n≠b;omega,Y.heap[n],Array.getElem?_eq_getElem hne,.inr (by show n < b+4;omega)⟩
   rw [hF];simp only [World.setCells];refine s1 _ _ _ (by omega) (s1 _ _ _ (by omega) (s1 _ _ _ (by omega) (s1 _ _ _ (by omega) (s1 _ _ _ (by omega) (s1 _ _ _ (by omega) hrd ?_) ?_) ?_) ?_) ?_) ?_<;>first|omega|(simp only [nblk_setCell];omega)
  have hbF:Below p0 W7 F:=by
   rw [hF];simp only [World.setCells];exact ((((((h5.mono (show p0≤b by omega)).setCell (by simp) _).setCell (by simp) _).setCell (by simp) _).setCell (by simp) _).setCell (by simp) _).setCell (by simp;omega) _
  have hK8:F.heap[D]? =some (.deferred (some [])):=by
   rw [hT D (by omega) (by omega) (by omega)];exact hK
  have ht:X.there p0 0 4:=fun j hj=>by
   refine⟨?_,zab r0 _⟩;rw [zaa r0,Nat.zero_add,Array.getElem?_eq_getElem (by exact hj)];rfl
  obtain⟨U1,hU1⟩:∃ Y,Y=X.setCell ⟨p0,0,none⟩ (qI (St.none.run L).r):=⟨_,rfl⟩;obtain⟨U2,hU2⟩:∃ Y,Y=U1.setCell ⟨p0,1,none⟩ v.T:=⟨_,rfl⟩;obtain⟨U3,hU3⟩:∃ Y,Y=U2.setCell ⟨p0,2,none⟩ v.M:=⟨_,rfl⟩;have b1:U1.heap[p0]? =some (.cells #[qI (St.none.run L).r,.slice none 0 0,.slice none 0 0,.slice none 0 0] 26 (0,0)):=by rw [hU1];exact zbh r0
  have b2:U2.heap[p0]? =some (.cells #[qI (St.none.run L).r,v.T,.slice none 0 0,.slice none 0 0] 26 (0,0)):=by rw [hU2];exact zbh b1
  have b3:U3.heap[p0]? =some (.cells #[qI (St.none.run L).r,v.T,v.M,.slice none 0 0] 26 (0,0)):=by rw [hU3];exact zbh b2
  have x1:=zaa b1 1;have x2:=zaa b2 2;have x3:=zaa b3 3;have y1:=zab b1 1;have y2:=zab b2 2;have y3:=zab b3 3;rw [hU3,hU2,hU1] at x3 y3;rw [hU2,hU1] at x2 y2;rw [hU1] at x1 y1;have n1:=q1.cell;have n2:=(show Boxed _ (p0+1+1) 35 (qI 0) from q2.other (show p0+1+1≠p0+1 by omega) (qI 0)).cell;have o1:=q1.frozen;have o2:=(show Boxed _ (p0+1+1) 35 (qI 0) from q2.other (show p0+1+1≠p0+1 by omega) (qI 0)).frozen;clear b1 b2 b3 hU1 hU2 hU3;simp only [World.setCells] at hF n1 n2 o1 o2;clear q1 q2;rw [hvT,hvM,hvE] at n1 n2 o1 o2 hF;rw [hvT,hvM] at x3 y3;rw [hvT] at x2 y2;have e1':=e1;rw [hvT] at e1;rw [hvM] at e2;rw [hvE] at e3;go_wp2;rw [←hF];clear hF x1 x2 x3 y1 y2 y3 n1 n2 o1 o2;simp only [Exit.noGoto];refine⟨by simp,.inl ⟨_,_,rfl,run_takeDeferred hK8,?_⟩⟩;have hgr:F.grownBy (F.putObj D (.deferred none)) (some D):=⟨rfl,rfl,rfl,by simp,fun k _ hne=>World.putObj_heap_other (fun e=>hne (by rw [e]))⟩;have hDs:D < F.heap.size:=(qLt hK8);refine⟨.tuple #[.agg #[qI (St.none.run L).r,v.T,v.M,v.E],qI 0,qI 0],?_,b+4,b,P,v,rfl,hrF.grown hgr (fun g e=>by cases e;exact⟨by omega,_,hK8,.inl rfl⟩),by have:=HP0.out;omega,?_⟩
  ·have z0:=zaa (show (F.putObj D (.deferred none)).heap[p0]? =some (.cells #[qI (St.none.run L).r,v.T,v.M,v.E] 26 (0,0)) from (World.putObj_heap_other (by omega)).trans k0)
   have z00:=z0 0;have z01:=z0 1;have z02:=z0 2;have z03:=z0 3;have z2:=(show Boxed (F.putObj D (.deferred none)) (p0+1) 3 (qI 0) from (World.putObj_heap_other (by omega)).trans k1).cell;have z3:=(show Boxed (F.putObj D (.deferred none)) (p0+1+1) 35 (qI 0) from (World.putObj_heap_other (by omega)).trans k2).cell;clear z0 hgr hDs hK8 k0 k1 k2 hrF hbF;generalize F.putObj D (.deferred none)=Z at z00 z01 z02 z03 z2 z3 ⊢;have r0:=HP0.out;simp [results,Tryz.results29,go_sem,z00,z01,z02,z03,z2,z3]
  ·have hp:=HP0.out
   rw [HP0.out];have hb7:=HB7.out;rw [HP0.out] at hb7;exact (hb7.trans hbF).trans (belowK_b (w:=w) (by have:=HP0.out;omega) F D _ _ (by omega) hK8 rfl rfl)
end Go.Proofs.YtpbmmoneeoijaaaGreatDoor
namespace Go.Proofs.YtpbmmoneeoijaaaGreatDoor
open Go.RowKit Go.Deep Go.Shelf
set_option maxRecDepth 100000
set_option maxHeartbeats 8000000
attribute [local go_sem] Oper.semAt_some zaq
set_option maxRecDepth 100000
theorem zl2 {f f':Nat→TT} {n:Nat} (h:∀ i,i < n→f i=f' i):zc5 f n=zc5 f' n:=by
 induction n with
 |zero=>rfl
 |succ n ih=>rw [zfd,zfd,ih (fun i hi=>h i (by omega)),h n (by omega)]
theorem zxb (f:Nat→TT) (n:Nat) (x:TT):zc5 f n ++ [qI x.p,qI x.c,qI x.o,qI x.k]=zc5 (fun i=>if i=n then x else f i) (n+1):=by
 rw [zfd,zl2 (f:=f) (f':=fun i=>if i=n then x else f i) (fun i hi=>by rw [if_neg (by omega)])];simp
theorem KpW.appended {W w1:World} {n₀ m B:Nat} {v v':Value} {k:Nat} {xs:List Value} {tmp:Obj} (hv:Boxed W B 357 v) (hrow:W.ownsRow m 361 4 v k xs) (hgrow:(W.alloc tmp).grownBy w1 v.ownBlock)
  (hb:Below n₀ W (w1.setCell ⟨B,0,none⟩ v')):KpW n₀ W (w1.setCell ⟨B,0,none⟩ v'):=⟨hb,fun b cs t ht hc=>by
 have hlt:=(qLt hc);have h1:(W.alloc tmp).heap[b]? =some (.cells cs t (0,0)):=(Below.heap_alloc W tmp b hlt).trans hc;have hB:b≠B:=by
  rintro rfl;have:=(show W.heap[b]? =_ from hv).symm.trans hc;rcases ht with rfl|rfl<;>simp at this
 have hne:some b≠v.ownBlock:=by
  rcases hrow.2 with ⟨rfl,_⟩|⟨g,cap,cur,rfl,_,hgb,_⟩
  ·simp [Value.ownBlock]
  ·intro e
   obtain rfl:b=g:=by simpa [Value.ownBlock] using e
   rw [hgb] at hc;rcases ht with rfl|rfl<;>simp at hc
 exact (Below.heap_setCell w1 ⟨B,0,none⟩ v' b hB).trans ((hgrow.block b (qLt h1) hne).trans h1)⟩
end Go.Proofs.YtpbmmoneeoijaaaGreatDoor
namespace Go.Proofs.YtpbmmoneeoijaaaGreatDoor
open Go.RowKit Go.Deep Go.Shelf
set_option maxRecDepth 100000
set_option maxHeartbeats 8000000
attribute [local go_sem] zaq
set_option maxRecDepth 100000
theorem wpTs_3 {P:Program} {ops:Array Oper} {C:World→Prop} {Q:Act→World→Prop} {m:Nat} {rem rem1 rem2 rem3:List Nat} {i j k:Nat} {o o2 o3:Oper} {a:Act} {w:World}
  (hr:rem.filter (rdyB ops rem)=[i,j,k]) (he:rem.erase i=rem1) (he2:rem.erase j=rem2) (he3:rem.erase k=rem3) (ho:ops[i]? =some o) (ho2:ops[j]? =some o2) (ho3:ops[k]? =some o3) (h:∀ K:Exit→Act→World→Prop,(∀ a' w',C w'→wpTs P ops C Q m rem1 a' w'→K .normal a' w')→wpList P ops K [o] a w)
  (h2:∀ K:Exit→Act→World→Prop,(∀ a' w',C w'→wpTs P ops C Q m rem2 a' w'→K .normal a' w')→wpList P ops K [o2] a w)
  (h3:∀ K:Exit→Act→World→Prop,(∀ a' w',C w'→wpTs P ops C Q m rem3 a' w'→K .normal a' w')→wpList P ops K [o3] a w):wpTs P ops C Q (m+1) rem a w:=fun n hk hb=>by
 have:n∈rem.filter (rdyB ops rem):=List.mem_filter.2 ⟨hk,hb⟩;rw [hr] at this;subst he he2 he3;rcases (by simpa using this:n=i∨n=j∨n=k) with rfl|rfl|rfl
 ·exact⟨o,ho,h _ fun _ _ h1 h2=>⟨rfl,.inr h1,h2⟩⟩
 ·exact⟨o2,ho2,h2 _ fun _ _ h1 h2=>⟨rfl,.inr h1,h2⟩⟩
 ·exact⟨o3,ho3,h3 _ fun _ _ h1 h2=>⟨rfl,.inr h1,h2⟩⟩
end Go.Proofs.YtpbmmoneeoijaaaGreatDoor
namespace Go.Proofs.YtpbmmoneeoijaaaGreatDoor
open Go.RowKit Go.Deep Go.Shelf
set_option maxRecDepth 100000
set_option maxHeartbeats 8000000
attribute [local go_sem] Oper.semAt_some
set_option maxRecDepth 100000
theorem zkn {F:Fence} {n:Nat} {P:Program} {ops:Array Oper} {rest:List Oper} {op:Oper} {a:Act} {w:World} {Q:Exit→Act→World→Prop} (hgd:op.guard=none) (ty:TypeId) (x:Operand) (ho:op.op=.load ty x)
  (b o:Nat) (hx:a.eval x=.pointer (some ⟨b,o,none⟩)) (cs:List Value) (d:TypeDesc) (hc:w.rangeAt b o cs)
  (hu:P.underlying ty=some d) (hd:d.isRow=true) (hi:(P.info? ty).map (·.size)=some cs.length)
  (h:wpListIn F n P ops Q rest (a.put op.dst (.agg cs.toArray)) w):wpListIn F n P ops Q (op :: rest) a w:=
 wpListIn_plain hgd fun K hK=>by
  unfold Oper.wpIn;refine⟨?_,?_⟩
  ·simp [Oper.about,ho]
  ·rw [Oper.semAt_plain F _ _ (by rw [ho];intro c hc';cases hc')]
   unfold execOp;simp only [ho,hx,Instr.loadAt,Instr.sureAddr,Sem.run_bind,Sem.run_pure,Result.andThen_ok,run_loadVar_mid w b o ty cs d hc hu hd hi];exact hK _ _ h
theorem zp1 {P:Program} {C:World→Prop} {o:Oper} {a:Act} (t:TypeId) (x:Operand) (ho:o.op=.load t x) (b off:Nat) (hx:a.eval x=.pointer (some ⟨b,off,none⟩)) (L:List Value) (d:TypeDesc)
  (hr:∀ w,C w→w.rangeAt b off L) (hu:P.underlying t=some d) (hrow:d.isRow=true) (hi:(P.info? t).map (·.size)=some L.length):zaq P C o a (.agg L.toArray):=fun w hw=>by
 unfold execOp;simp only [ho,hx,Instr.loadAt,Instr.sureAddr,Sem.run_bind,Sem.run_pure,Result.andThen_ok,run_loadVar_mid w b off t L d (hr w hw) hu hrow hi]
structure SpC (B p:Nat) (v:Int) (W Y:World):Prop where
 b:Below B W Y
 c:Boxed Y p 3 (qI v)
theorem zxz {W:World} {p q:Nat} {a b c:Value} (hP:W.heap[p]? =some (qC #[a,b] 154)) (hK:W.heap[q]? =some (qC #[c] 4)) (hpq:p≠q) (u v k:Value):
  ((((W.setCell ⟨p,0,none⟩ u).setCell ⟨p,1,none⟩ v).setCell ⟨q,0,none⟩ k).heap[p]? =some (qC #[u,v] 154))∧
   ((((W.setCell ⟨p,0,none⟩ u).setCell ⟨p,1,none⟩ v).setCell ⟨q,0,none⟩ k).heap[q]? =some (qC #[k] 4)):=by
 have h1:=zad (i:=0) (u:=u) hP;have h2:=zad (i:=1) (u:=v) h1;have k1:=(heap_setCell_other W ⟨p,0,none⟩ q u (Ne.symm hpq)).trans hK;have k2:=(heap_setCell_other (W.setCell ⟨p,0,none⟩ u) ⟨p,1,none⟩ q v (Ne.symm hpq)).trans k1;have k3:=zad (i:=0) (u:=k) k2;have h3:=(heap_setCell_other ((W.setCell ⟨p,0,none⟩ u).setCell ⟨p,1,none⟩ v) ⟨q,0,none⟩ p k hpq).trans h2;refine⟨h3.trans (by simp),k3.trans (by simp)⟩
theorem zCw {W:World} {p q:Nat} (hP:W.heap[p]? =some (qC #[qI 0,qI 0] 154)) (hK:W.heap[q]? =some (qC #[.bool false] 4)) (hpq:p≠q):
  ((((W.setCell ⟨p,0,none⟩ (qI 0)).setCell ⟨p,1,none⟩ (qI 0)).setCell ⟨q,0,none⟩ (.bool false)).heap[p]? =some (qC #[qI 0,qI 0] 154))∧
   ((((W.setCell ⟨p,0,none⟩ (qI 0)).setCell ⟨p,1,none⟩ (qI 0)).setCell ⟨q,0,none⟩ (.bool false)).heap[q]? =some (qC #[.bool false] 4)):=by
 have h1:=zad (i:=0) (u:=qI 0) hP;have h2:=zad (i:=1) (u:=qI 0) h1;have k1:=(heap_setCell_other W ⟨p,0,none⟩ q (qI 0) (Ne.symm hpq)).trans hK;have k2:=(heap_setCell_other (W.setCell ⟨p,0,none⟩ (qI 0)) ⟨p,1,none⟩ q (qI 0) (Ne.symm hpq)).trans k1;have k3:=zad (i:=0) (u:=.bool false) k2;have h3:=(heap_setCell_other ((W.setCell ⟨p,0,none⟩ (qI 0)).setCell ⟨p,1,none⟩ (qI 0)) ⟨q,0,none⟩ p (.bool false) hpq).trans h2;refine⟨h3.trans (by simp),k3.trans (by simp)⟩
end Go.Proofs.YtpbmmoneeoijaaaGreatDoor
