/-
  A part of the proof: ReaderFn ImgCheck PartsV.
-/
import Derived.Test.YtpbmmoneeoijaaaGreatDoorP16
namespace Go.Proofs.YtpbmmoneeoijaaaGreatDoor
open Go.RowKit Go.Deep Go.Shelf
set_option maxRecDepth 100000
set_option maxHeartbeats 8000000
attribute [local go_sem] zaq
set_option maxRecDepth 100000
section
variable {base b:Nat} {W:World} {s:St} {P:List (List UInt8)} {v:RdV}
theorem RdAt.cell4 (h:RdAt base b W s P v):W.cell? ⟨b,4,none⟩=some v.P:=by rw [zaa h.blk];rfl
theorem RdAt.pieces (h:RdAt base b W s P v) (hP:0 < P.length):∃ g cap,v.P=.slice (some ⟨g,0,none⟩) P.length cap∧P.length≤cap∧cap≤maxLen∧∀ j p,P[j]? =some p→W.cell? ⟨g,j,none⟩=some (.string (bs p)):=by
 obtain⟨g,cap,e,hb,_,hc,hcell,_⟩:=own_form h.P hP;refine⟨g,cap,e,hc,?_,fun j p hp=>?_⟩
 ·rcases h.P.2 with ⟨e2,_⟩|⟨_,c2,_,e2,_,_,_,h3,_⟩
  ·rw [e] at e2;cases e2
  ·rw [e] at e2;cases e2;exact h3
 ·rw [hcell j (List.getElem?_eq_some_iff.1 hp).1]
  unfold strC;rw [List.getElem?_map,hp];rfl
theorem RdAt.setR (h:RdAt base b W s P v) (x:Int):RdAt base b (W.setCell ⟨b,0,none⟩ (qI x)) { s with r:=x } P v:=
 ⟨(zbh h.blk).trans rfl,RdAt.cell h.blk (by decide) h.T,RdAt.cell h.blk (by decide) h.M,h.ql,fun i m u h1 h2=>RdAt.cell h.blk (by decide) (h.Q i m u h1 h2),h.ap,RdAt.cell h.blk (by decide) h.E,RdAt.cell h.blk (by decide) h.P,h.hb⟩
end
def zpw (base b:Nat) (W:World) (s':St) (P:List (List UInt8)) (e:Ending) (w':World):Prop:=e=.returned (.bool true)∧(∃ v',RdAt base b w' s' P v')∧Frm2 base b W w'
theorem res_val (base b:Nat) (W:World) (s:St) (v:RdV) (x:Int) (h:RdAt base b W s [wRes,tk x] v) (h0:0≤x) (h1:x < 2147483648):
  Calls Tryz.prog 146 #[qP b] W (zpw base b W { s with r:=x } [wRes,tk x]):=by
 obtain⟨g,cap,e0,hc1,hc2,hcell⟩:=h.pieces (by simp);have e:v.P=.slice (some ⟨g,0,none⟩) 2 cap:=e0;have c0:W.cell? ⟨b,0,none⟩=some (qI s.r):=by rw [zaa h.blk];rfl
 have c4:=h.cell4;rw [e] at c4;have p1:=hcell 1 _ rfl;have HN:=hid (zex b g 1 2 cap x W h0 h1 (by omega) (by omega) c4 p1);have f0:=zab h.blk 0;have c4':(W.setCell ⟨b,0,none⟩ (qI x)).cell? ⟨b,4,none⟩=some (.slice (some ⟨g,0,none⟩) 2 cap):=by rw [←e];exact (h.setR x).cell4
 have HR:=hid (h.setR x);have HF:=hid (Frm2.set (base:=base) W 0 (qI x) h.blk);clear h e e0 hcell p1 hc1;go_enter Tryz.func146,Tryz.ntmps146
 go_wp2_with (go_at_call 215;refine (HN.out).mono ?_;rintro e w2 ⟨rfl,rfl⟩)
 go_ret;exact⟨rfl,⟨_,HR.out⟩,HF.out⟩
structure Two2 (X:World) (b tb:Nat) (o1 o2:Obj):Prop where
 h1:X.heap[b]? =some o1
 h2:X.heap[tb]? =some o2
def upd (y:Nat→Int) (j:Nat) (x:Int):Nat→Int:=fun k=>if k=j then x else y k
theorem zxw {X:World} {tb:Nat} {y:Nat→Int} {j:Nat} (x:Int) (h:X.heap[tb]? =some (zaj y)) (hj:j < 11):(X.setCell ⟨tb,j,none⟩ (qI x)).heap[tb]? =some (zaj (upd y j x)):=by
 unfold zaj at h;rw [zbh h];rcases j with _|_|_|_|_|_|_|_|_|_|_|j
 all_goals first|rfl|omega
theorem zb6 {X:World} {tb:Nat} {y:Nat→Int} (h:X.heap[tb]? =some (zaj y)) {j:Nat} (hj:j < 11):X.cell? ⟨tb,j,none⟩=some (qI (y j)):=by
 unfold zaj at h;rw [zaa h];rcases j with _|_|_|_|_|_|_|_|_|_|_|j
 all_goals first|rfl|omega
def pidx (F:Nat→Int) (K:Nat):List Nat:=(List.range K).filter fun i=>!decide (F i=0)
theorem zj4 (sg:UInt8) (F:Nat→Int) (K:Nat):zbl sg F K=(pidx F K).map fun i=>txt i ++ sg :: tk (F i):=by
 induction K with
 |zero=>rfl
 |succ K ih=>
  have e:pidx F (K+1)=pidx F K ++ (if F K=0 then [] else [K]):=by
   unfold pidx;rw [List.range_succ,List.filter_append];by_cases h:F K=0<;>simp [h]
  rw [zh8,ih,e,List.map_append]
  split<;>rfl
theorem zr4 {F:Nat→Int} {K i:Nat}:i∈pidx F K↔i < K∧F i≠0:=by simp [pidx]
theorem zkx (F:Nat→Int) (K:Nat):(pidx F K).Nodup:=List.Pairwise.filter _ List.nodup_range
def yP (y f:Nat→Int) (o:Nat) (T:List Nat):Nat→Int:=fun j=>if T.contains (j - o) && decide (o≤j) then f j else y j
theorem zva {y f:Nat→Int} {o:Nat} {l:List Nat} {k i:Nat} (h:l[k]? =some i):upd (yP y f o (l.take k)) (o+i) (f (o+i))=yP y f o (l.take (k+1)):=by
 funext j;unfold upd yP;rw [List.take_add_one,h];by_cases hj:j=o+i
 ·subst hj
  simp
 ·rw [if_neg hj]
  by_cases ho:o≤j
  ·have:(j - o == i)=false:=by simp;omega
   have h2:¬ (i=j - o):=by omega
   simp [ho,Option.toList,h2,eq_comm]
  ·simp [ho]
theorem zu9 {y f:Nat→Int} {o:Nat} {l:List Nat} (hn:l.Nodup) {k i:Nat} (h:l[k]? =some i):yP y f o (l.take k) (o+i)=y (o+i):=by
 unfold yP;rw [if_neg];intro hc;simp only [Nat.add_sub_cancel_left,Bool.and_eq_true,List.contains_iff_mem] at hc;obtain⟨j,hj,hji⟩:=List.mem_take_iff_getElem.1 hc.1;have hk:=List.getElem?_eq_some_iff.1 h;obtain⟨hk1,hk2⟩:=hk;have hjl:j < l.length:=by omega
 exact (List.pairwise_iff_getElem.1 hn) j k hjl hk1 (by omega) (by rw [hji,hk2])
def ptrB (tb:Nat):Obj:=.cells #[qP tb,.pointer (some ⟨tb,1,none⟩),.pointer (some ⟨tb,2,none⟩)] 344
theorem ptr_cell {X:World} {pb tb:Nat} (h:X.heap[pb]? =some (ptrB tb)) {i:Nat} (hi:i < 3):X.cell? ⟨pb,i,none⟩=some (.pointer (some ⟨tb,i,none⟩)):=by
 unfold ptrB at h;rw [zaa h];rcases i with _|_|_|i
 all_goals first|rfl|omega
theorem zrf {X:World} {tb:Nat} {y:Nat→Int} (h:X.heap[tb]? =some (zaj y)) (j:Nat):X.frozen? ⟨tb,j,none⟩=false:=by
 unfold zaj at h;exact zab h j
theorem ztc {y f:Nat→Int} (h:∀ j,j < 11→y j=f j):zaj y=zaj f:=by
 unfold zaj;rw [h 0 (by decide),h 1 (by decide),h 2 (by decide),h 3 (by decide),h 4 (by decide),h 5 (by decide),h 6 (by decide),h 7 (by decide),h 8 (by decide),h 9 (by decide),h 10 (by decide)]
theorem task_val (base b:Nat) (W:World) (s:St) (v:RdV) (f:Nat→Int) (hbase:base≤W.heap.size) (h:RdAt base b W s (zfz f) v) (hf:∀ j,j < 11→0≤f j∧f j < 2147483648) (hn:s.ts.length≤1000):
  Calls Tryz.prog 147 #[qP b] W (zpw base b W { s with ts:=s.ts ++ [f] } (zfz f)):=by
 obtain⟨Q,hQ⟩:∃ Q,zbl 58 (fun j=>f (3+j)) 8=Q:=⟨_,rfl⟩;have hPQ:zfz f=[zrm,tk (f 0),tk (f 1),tk (f 2)] ++ Q:=by unfold zfz;rw [hQ]
 have hQl:Q.length≤8:=by rw [←hQ,zj4,List.length_map];exact Nat.le_trans (List.length_filter_le _ _) (by simp)
 obtain⟨g,cap,e,hc1,hc2,hcell⟩:=h.pieces (by rw [hPQ];simp);have hlen:(zfz f).length=Q.length+4:=by rw [hPQ];simp
 rw [hlen] at e hc1;have c4:=h.cell4;rw [e] at c4;have hcl:∀ i,i < 3→W.cell? ⟨g,1+i,none⟩=some (.string (bs (tk (f i)))):=fun i hi=>hcell (1+i) _ (by
  rw [hPQ];rcases i with _|_|_|i
  all_goals first|rfl|omega)
 have HN:=hid fun (X:World) (hX:Below W.heap.size W X) (i:Nat) (hi:i < 3)=>(show Calls Tryz.prog 215 #[qP b,qI (1+(i:Int))] X fun e w'=>e=.returned (.tuple #[qI (f i),.bool true])∧X=w' by
  have:=zex b g (1+i) (Q.length+4) cap (f i) X (hf i (by omega)).1 (hf i (by omega)).2 (by omega) (by omega) (kept c4 hX) (kept (hcl i hi) hX)
  rwa [show ((1+i:Nat):Int)=1+(i:Int) by omega] at this)
 have HH:=hid h;have hB1:Below W.heap.size W (W.alloc (zaj fun _=>0)):=qBr _;have bT:=heap_alloc_new W (zaj fun _=>0);have hB2:=hB1.alloc hB1.size (ptrB W.heap.size);have bT2:=zac bT (ptrB W.heap.size);have bP:=heap_alloc_new (W.alloc (zaj fun _=>0)) (ptrB W.heap.size);rw [World.size_alloc] at bP;unfold zaj ptrB at hB2 bT2 bP;clear hB1 bT;go_enter Tryz.func147,Tryz.ntmps147;go_wp2;obtain⟨W2,hW2⟩:∃ X,X=(W.alloc (qC qZ11 165)).alloc (qC #[qP W.heap.size,.pointer (some ⟨W.heap.size,1,none⟩),.pointer (some ⟨W.heap.size,2,none⟩)] 344):=⟨_,rfl⟩;rw [←hW2] at hB2 bT2 bP ⊢;have HB2:=hid hB2;have HT0:=hid (show W2.heap[W.heap.size]? =some (zaj fun j=>if j < 0 then f j else 0) from bT2);have HP0:=hid (show W2.heap[W.heap.size+1]? =some (ptrB W.heap.size) from bP);obtain⟨tb,htb⟩:∃ n,W.heap.size=n:=⟨_,rfl⟩;have HTB:=hid htb;rw [htb] at HT0 HP0 ⊢;have HF:=hid hf;have HCL:=hid hcl;have HCC:=hid hcell;have HPQ:=hid hPQ;have HE:=hid e;have HC4:=hid c4;clear hW2 hB2 bT2 bP htb hf hcl h c4 e hPQ hcell hlen
 go_loopw [16] (fun i_ wr=>∃ i:Nat,i≤3∧i_=qI i∧Hid (wr.heap[tb]? =some (zaj fun j=>if j < i then f j else 0))∧Hid (wr.heap[tb+1]? =some (ptrB tb))∧Hid (Below W.heap.size W wr)) (fun i_ _=>3 - (intOf i_).toNat)
 case atStart=>exact⟨0,by omega,by go_num,HT0,HP0,HB2⟩
 case round=>
  clear HT0 HP0 HB2;obtain⟨i,hi,rfl,HT,HP,HB⟩:=hrel;by_cases hlt:i < 3
  ·have t0:decide ((i:Int) < 3)=true:=by simp;omega
   have k0:(0:Int)≤(i:Int):=by omega
   have k1:(i:Int) < 3:=by omega
   have cp:=ptr_cell HP.out hlt;have ct:=zb6 HT.out (show i < 11 by omega);have ft:=zrf HT.out i;have HT2:=hid (show (wr.setCell ⟨tb,i,none⟩ (qI (f i))).heap[tb]? =some (zaj fun j=>if j < i+1 then f j else 0) by
    rw [zxw (f i) HT.out (by omega)]
    congr 2
    funext j;unfold upd;by_cases hj:j=i
    ·rw [if_pos hj,if_pos (by omega),hj]
    ·rw [if_neg hj]
     show (if j < i then f j else 0)=if j < i+1 then f j else 0
     by_cases h2:j < i
     ·rw [if_pos h2,if_pos (by omega)]
     ·rw [if_neg h2,if_neg (by omega)])
   have HP2:=hid (show (wr.setCell ⟨tb,i,none⟩ (qI (f i))).heap[tb+1]? =some (ptrB tb) from (Below.heap_setCell wr ⟨tb,i,none⟩ _ (tb+1) (by simp)).trans HP.out);have HB3:=hid (HB.out.setCell (p:=⟨tb,i,none⟩) (by rw [HTB.out];exact Nat.le_refl _) (qI (f i)));clear HT HP
   go_wp2_with (go_at_call 215;refine (HN.out _ HB.out i hlt).mono ?_;rintro e w2 ⟨rfl,rfl⟩)
   go_roundw
   case rel=>exact⟨i+1,by omega,by go_num,HT2,HP2,HB3⟩
   case measure=>simp [intOf];omega
  ·have hi3:(i:Int)=3:=by omega
   have h3:i=3:=by omega
   rw [hi3];rw [h3] at HT;clear hi3 h3 hi hlt HP;have c4':=kept HC4.out HB.out;obtain⟨l,hl⟩:∃ l,pidx (fun j=>f (3+j)) 8=l:=⟨_,rfl⟩;have HND:=hid (show l.Nodup by rw [←hl];exact zkx _ _);have HM:=hid (show ∀ i,i∈l↔i < 8∧f (3+i)≠0 from fun i=>by rw [←hl];exact zr4);have HQL:=hid (show Q=l.map fun i=>txt i ++ 58 :: tk (f (3+i)) by rw [←hQ,zj4,hl]);have HT0:=hid (show wr.heap[tb]? =some (zaj (yP (fun j=>if j < 3 then f j else 0) f 3 (l.take 0))) by rw [HT.out];congr 2);clear hl hQ HT;go_wp2
   all_goals
    go_loopw [40] (fun i_ wr=>∃ k:Nat,k≤Q.length∧i_=qI k∧Hid (wr.heap[tb]? =some (zaj (yP (fun j=>if j < 3 then f j else 0) f 3 (l.take k))))∧Hid (Below W.heap.size W wr)) (fun i_ _=>Q.length - (intOf i_).toNat)
    case atStart=>exact⟨0,by omega,by go_num,HT0,HB⟩
    case round=>
     clear HT0 HB c4';obtain⟨k,hk,rfl,HT,HB⟩:=hrel;by_cases hlt:k < Q.length
     ·first
      |(exfalso;omega)
      |(
       have t1:decide ((k:Int) < (Q.length:Int))=true:=by simp;omega
       obtain⟨i,hi⟩:∃ i,l[k]? =some i:=⟨_,List.getElem?_eq_getElem (by have:=HQL.out;rw [this,List.length_map] at hlt;exact hlt)⟩;have him:=(HM.out i).1 (List.mem_of_getElem? hi);have cq:=kept (HCC.out (4+k) (txt i ++ 58 :: tk (f (3+i))) (by rw [HPQ.out,List.getElem?_append_right (by simp),HQL.out];simp [hi])) HB.out;have hz:yP (fun j=>if j < 3 then f j else 0) f 3 (l.take k) (3+i)=0:=by rw [zu9 HND.out hi,if_neg (by omega)]
       have ct:=zb6 HT.out (show 3+i < 11 by omega);rw [hz] at ct;have hfi:=HF.out (3+i) (by omega);have HPV:=hid (zr7 i tb 3 8 8 (f (3+i)) 58 wr him.1 (by omega) (by omega) hfi.2 (by decide) ct (zrf HT.out _));have HT2:=hid (show (wr.setCell ⟨tb,3+i,none⟩ (qI (f (3+i)))).heap[tb]? =some (zaj (yP (fun j=>if j < 3 then f j else 0) f 3 (l.take (k+1)))) by rw [zxw _ HT.out (by omega),zva hi]);have HB3:=hid (HB.out.setCell (p:=⟨tb,3+i,none⟩) (by rw [HTB.out];exact Nat.le_refl _) (qI (f (3+i))));have k0:(0:Int)≤(k:Int):=by omega
       have k1:(k:Int) < (Q.length:Int):=by omega
       generalize bs (txt i ++ 58 :: tk (f (3+i)))=SP at cq HPV;clear hz ct hi
       go_wp2_with (go_at_call 216;refine (HPV.out).mono ?_;rintro e w2 ⟨rfl,rfl⟩)
       go_roundw
       case rel=>exact⟨k+1,by omega,by go_num,HT2,HB3⟩
       case measure=>simp [intOf];omega)
     ·have hkq:k=Q.length:=by omega
      have t1:decide (k < Q.length)=false:=by simp;omega
      have HTF:=hid (show wr.heap[tb]? =some (zaj f) by
       rw [HT.out]
       congr 1
       refine ztc fun j hj=>?_;have hkl:k=l.length:=by rw [hkq,HQL.out,List.length_map]
       rw [hkl,List.take_length];unfold yP;dsimp only;by_cases h3:j < 3
       ·rw [if_neg (by simp;omega),if_pos h3]
       ·rw [if_neg h3]
        by_cases h4:f j=0
        ·rw [h4];simp
        ·rw [if_pos]
         simp only [Bool.and_eq_true,decide_eq_true_iff,List.contains_iff_mem];exact⟨(HM.out (j - 3)).2 ⟨by omega,by rw [show 3+(j - 3)=j by omega];exact h4⟩,by omega⟩)
      clear hkq hk;obtain⟨i0,hi,hz0,hz1,hz2⟩:=info_parts infoTk
      go_upto_region 16 with fail
      have HRr:=HH.out.below HB.out;have hcb:=HRr.blk;have hbs:=HRr.hb;have hwr:=HB.out.size;refine zan [7,8,9,10,11,12] (fun X=>Two2 X b tb (rdB s.r v) (zaj f)) (by kernel_rfl) (by kernel_rfl) (show Two2 wr.drew b tb (rdB s.r v) (zaj f) from ⟨hcb,HTF.out⟩) ?_;refine qFs fun K hK=>?_;go_simp;refine⟨_,fun _ _=>rfl,hK _ ?_⟩;clear hK K;refine qFs fun K hK=>?_;go_simp;refine⟨_,fun _ _=>rfl,hK _ ?_⟩;clear hK K;refine qFs fun K hK=>?_;go_simp;refine⟨_,fun _ _=>rfl,hK _ ?_⟩;clear hK K;refine qFs fun K hK=>?_;go_simp;refine⟨_,fun _ _=>rfl,hK _ ?_⟩;clear hK K;refine qFs fun K hK=>?_;go_simp;refine⟨_,fun _ _=>rfl,hK _ ?_⟩;clear hK K;refine qFs fun K hK=>?_;go_simp;refine⟨v.T,fun X hX=>?_,hK _ ?_⟩
      ·have z:X.cell? ⟨b,1,none⟩=some v.T:=by rw [zaa hX.h1];rfl
       go_simp
      clear hK K;refine qFs fun K hK=>?_;go_simp;refine⟨tv f,fun X hX=>?_,hK _ ?_⟩
      ·have z0:=zb6 hX.h2 (show 0 < 11 by decide)
       have z1:=zb6 hX.h2 (show 1 < 11 by decide);have z2:=zb6 hX.h2 (show 2 < 11 by decide);have z3:=zb6 hX.h2 (show 3 < 11 by decide);have z4:=zb6 hX.h2 (show 4 < 11 by decide);have z5:=zb6 hX.h2 (show 5 < 11 by decide);have z6:=zb6 hX.h2 (show 6 < 11 by decide);have z7:=zb6 hX.h2 (show 7 < 11 by decide);have z8:=zb6 hX.h2 (show 8 < 11 by decide);have z9:=zb6 hX.h2 (show 9 < 11 by decide);have z10:=zb6 hX.h2 (show 10 < 11 by decide);go_simp
      clear hK K;refine qFc ?_;refine qFc ?_;refine qFc ?_;refine qFc ?_;refine qFc ?_;refine qFc ?_;refine za9 ?_;have hBA:Below wr.heap.size wr (wr.alloc (Obj.cells ((List.range 11).map fun j=>qI (f j)).toArray 165)).drew:=((qBr _)).drew;have hRA:=HRr.below hBA;have HTA:=hid ((hBA.block tb (qLt HTF.out)).trans HTF.out);have hn63:s.ts.length+1≤maxLen:=by unfold maxLen;omega
      refine qT1 7 [8,9,10,11,12] fun K hK=>?_
      go_wp2_with fail
      refine hK _ _ (show Two2 (wr.alloc (Obj.cells ((List.range 11).map fun j=>qI (f j)).toArray 165)).drew b tb (rdB s.r v) (zaj f) from ⟨hRA.blk,HTA.out⟩) ?_;clear hK K;refine qT1 8 [9,10,11,12] fun K hK=>?_;dsimp only [List.getElem_toArray,List.getElem_cons_succ,List.getElem_cons_zero];refine wpList_append_own _ rfl _ _ 22 rfl base 165 i0 (.agg qZ11) 11 88 Tryz.underlying22 hi hz0 hz1 hz2 rfl (by decide) v.T (s.ts.length) _ rfl hRA.T ⟨wr.heap.size,0,none⟩ 1 1 ((List.range 11).map fun j=>qI (f j)) rfl (by simp) (fun j u hj=>by rw [zbn,Nat.zero_add];exact (World.cell?_alloc_new _ _ _ j).trans (by rw [List.getElem?_toArray];exact hj)) (by exact (fun u hu=>by obtain⟨j,_,rfl⟩:=List.mem_map.1 hu;rfl)) hn63 (by omega) (Nat.le_trans hbase (Nat.le_trans hwr hBA.size)) ?_;intro v5 w5 h5 g5 _;have hF5:=(Frm2.below (base:=base) (b:=b) HB.out).trans ((Frm2.below (base:=base) (b:=b) hBA).trans (Frm2.own hRA.T g5));have hb5:=zdo hRA.blk g5 fun g hg=>by have:=(zbj hRA.T hg).1;omega
      have ht5:w5.heap[tb]? =some (zaj f):=(g5.block tb (qLt HTA.out) fun e=>by
       have h9:=(HRr.T.lt tb e.symm).2;have h8:=(HH.out.T.lt tb e.symm).2;have:=HTB.out;omega).trans HTA.out
      have hA5:=hRA.addT f (by rw [zn0,List.length_append];exact h5) g5;obtain⟨va,vc,rfl,_,_⟩:=zar h5;have hS5:=Frm2.set (base:=base) w5 1 (.slice va (s.ts.length+1) vc) hb5;have c5:w5.cell? ⟨b,1,none⟩=some v.T:=by rw [zaa hb5];rfl
      have f5:=zab hb5 1;have hC5:Two2 w5 b tb (rdB s.r v) (zaj f):=⟨hb5,ht5⟩
      go_wp2_with fail
      refine hK _ _ hC5 ?_;clear hK K;refine qT1 9 [10,11,12] fun K hK=>?_
      go_wp2_with fail
      refine hK _ _ hC5 ?_;clear hK K;refine qT1 10 [11,12] fun K hK=>?_
      go_wp2_with fail
      refine hK _ _ hC5 ?_;clear hK K;refine qT1 11 [12] fun K hK=>?_
      go_wp2_with fail
      refine hK _ _ hC5 ?_;clear hK K;refine zby (m:=0) (i:=12) (rem1:=[]) (by kernel_rfl) (by rfl) (by rfl) (by kernel_rfl) (fun K hK=>?_)
      go_wp2_with fail
      refine za2 ?_;go_wp2;go_ret;exact⟨rfl,⟨_,hA5⟩,hF5.trans hS5⟩
end Go.Proofs.YtpbmmoneeoijaaaGreatDoor
namespace Go.Proofs.YtpbmmoneeoijaaaGreatDoor
open Go.RowKit Go.Deep Go.Shelf
set_option maxRecDepth 100000
set_option maxHeartbeats 8000000
structure OkX (x:Img) (g:Nat→Nat→Int) (M:Nat→zas) (q:Nat→Nat→Nat→Int) (h:Nat→Nat→Int):Prop where
 r1:0≤x.r
 r2:x.r≤8
 n1:1≤x.n
 n2:x.n≤16
 tasks:∀ i,i < x.n→zE1 (g i) x.r
 m1:1≤x.mn
 m2:x.mn≤8
 mt:∀ i,i < x.mn→(M i).t < 2 ^ x.n
 mq:∀ i,i < x.mn→(M i).qn≤4∧∀ j,j < (M i).qn→OkQ (q i j)
 e:x.en≤24
 edges:∀ i,i < x.en→OkE x (h i)
structure VT (x:Nat→Int) (res:Int):Prop where
 o:zE1 x res
 z:∀ j:Nat,j < 8→res≤(j:Int)→x (3+j)=0
structure VE (x:Img) (M:Nat→zas) (h:Nat→Nat→Int) (i:Nat):Prop where
 o:OkE x (h i)
 ne:h i 0≠h i 1
 first:∀ k,k < i→¬ (h k 0=h i 0∧h k 1=h i 1)
 mp:zhk (fun j=>h i (19+j)) (M (h i 0).toNat).qn (M (h i 1).toNat).qn 4 0=true
 of:zhe (h i) (zcl (zai x M (h i 1)) (zai x M (h i 0))) 16=true
structure VX (x:Img) (g:Nat→Nat→Int) (M:Nat→zas) (q:Nat→Nat→Nat→Int) (h:Nat→Nat→Int):Prop where
 o:OkX x g M q h
 tasks:∀ i,i < x.n→VT (g i) x.r
 edges:∀ i,i < x.en→VE x M h i
theorem zB0 (x:Nat→Int) (res:Int) (w:World) (hv:VT x res):Calls Tryz.prog 151 #[tv x,qI res] w fun e w'=>e=.returned (.bool true)∧Below w.heap.size w w':=by
 unfold tv;have HV:=hid fun (k:Nat) (hk:k < 8)=>And.intro (hv.o.l k hk) (hv.z k hk);have HP:=hid hv.o;clear hv;have hb1:=qBr (w:=w) (zaj x);have hblk:=heap_alloc_new w (zaj x);unfold zaj at hb1 hblk;have h1:¬ (x 0 < 1):=by have:=HP.out.p1;have:=HP.out.p2;have:=HP.out.d1;have:=HP.out.d2;have:=HP.out.c1;have:=HP.out.c2;omega
 have t0:decide (x 0 < 1)=false:=by simp [h1]
 have h2:¬ (4096 < x 0):=by have:=HP.out.p1;have:=HP.out.p2;have:=HP.out.d1;have:=HP.out.d2;have:=HP.out.c1;have:=HP.out.c2;omega
 have t1:decide (4096 < x 0)=false:=by simp [h2]
 have h3:¬ (x 1 < 1):=by have:=HP.out.p1;have:=HP.out.p2;have:=HP.out.d1;have:=HP.out.d2;have:=HP.out.c1;have:=HP.out.c2;omega
 have t2:decide (x 1 < 1)=false:=by simp [h3]
 have h4:¬ (x 0 < x 1):=by have:=HP.out.p1;have:=HP.out.p2;have:=HP.out.d1;have:=HP.out.d2;have:=HP.out.c1;have:=HP.out.c2;omega
 have t3:decide (x 0 < x 1)=false:=by simp [h4]
 have h5:¬ (x 2 < 1):=by have:=HP.out.p1;have:=HP.out.p2;have:=HP.out.d1;have:=HP.out.d2;have:=HP.out.c1;have:=HP.out.c2;omega
 have t4:decide (x 2 < 1)=false:=by simp [h5]
 have h6:¬ (x 1 < x 2):=by have:=HP.out.p1;have:=HP.out.p2;have:=HP.out.d1;have:=HP.out.d2;have:=HP.out.c1;have:=HP.out.c2;omega
 have t5:decide (x 1 < x 2)=false:=by simp [h6]
 go_enter Tryz.func151,Tryz.ntmps151;go_wp2;obtain⟨W0,hW0⟩:∃ W,W=(w.alloc (qC (qF11 x) 165)):=⟨_,rfl⟩;rw [←hW0] at hb1 hblk ⊢;have HB:=hid hb1;have c2:=zaa hblk 2;clear hW0 hb1 hblk h1 h2 h3 h4 h5 h6 t0 t1 t2 t3 t4 t5
 go_loopw [41] (fun i_ wr=>∃ i:Nat,i≤8∧i_=qI i∧W0=wr) (fun i_ _=>8 - (intOf i_).toNat)
 case atStart=>exact⟨0,by omega,rfl,rfl⟩
 case round=>
  obtain⟨i,hi,rfl,rfl⟩:=hrel;by_cases hlt:i < 8
  ·have t0:decide ((i:Int) < 8)=true:=by simp;omega
   obtain⟨l,hl⟩:∃ l,x (3+i)=l:=⟨_,rfl⟩;have HVi:=HV.out i hlt;rw [hl] at HVi;have HVi:=hid HVi;have hix:(#[qI (x 3),qI (x 4),qI (x 5),qI (x 6),qI (x 7),qI (x 8),qI (x 9),qI (x 10)]:Array Value)[i]? =some (qI l):=by
    rw [←hl];rcases i with _|_|_|_|_|_|_|_|i
    all_goals first|rfl|omega
   have i0':(0:Int)≤(i:Int):=by omega
   have i1:(i:Int) < 8:=by omega
   have hrun:=zcv (w:=W0) 56 3 8 _ .i64 i l .i64 Tryz.underlying56 Tryz.underlying3 (by kernel_rfl) hlt hix
   go_upto_region 6 with (rw [hrun];simp only [Result.andThen];rw [Oper.upon_value])
   clear hrun hix;have k1:¬ l < 0:=by have:=HVi.out;omega
   have u1:decide (l < 0)=false:=by simp [k1]
   have k2:¬ x 2 < l:=by have:=HVi.out;omega
   have u2:decide (x 2 < l)=false:=by simp [k2]
   by_cases k3:res≤(i:Int)
   ·have u3:decide (res≤(i:Int))=true:=by simp [k3]
    have k4:l=0:=HVi.out.2 k3;have u4:(l == 0)=true:=by simp [k4]
    clear HVi;go_wp2;go_roundw
    case rel=>exact⟨i+1,by omega,by go_num,trivial⟩
    case measure=>simp [intOf];omega
   ·have u3:decide (res≤(i:Int))=false:=by simp [k3]
    clear HVi;go_wp2;go_roundw
    case rel=>exact⟨i+1,by omega,by go_num,trivial⟩
    case measure=>simp [intOf];omega
  ·obtain rfl:i=8:=by omega
   go_wp2;go_ret;exact⟨rfl,HB.out⟩
theorem zud (qo:Option Addr) (qn qc:Nat) (q:Nat→Nat→Int) (w:World) (hF:zb9 w qo qn 2 q) (h4:qn≤4) (hq:∀ j,j < qn→OkQ (q j)):Calls Tryz.prog 153 #[.slice qo qn qc] w fun e w'=>e=.returned (.bool true)∧Below w.heap.size w w':=by
 have HQ:=hid hq;clear hq;have HF:=hid hF;clear hF;have t4:decide ((4:Int) < (qn:Int))=false:=by simp;omega
 have HB:=hid (Below.refl w.heap.size w);go_enter Tryz.func153,Tryz.ntmps153;go_wp2
 go_loopw [10] (fun i_ wr=>∃ i:Nat,i≤qn∧i_=qI i∧Hid (Below w.heap.size w wr)) (fun i_ _=>qn - (intOf i_).toNat)
 case atStart=>exact⟨0,by omega,rfl,HB⟩
 case round=>
  clear HB;obtain⟨i,hi,rfl,HB⟩:=hrel;by_cases hlt:i < qn
  ·have t0:decide ((i:Int) < (qn:Int))=true:=by simp;omega
   obtain⟨b,o,rfl,hc⟩:=HF.out i hlt;have c0:=kept (hc 0 (by decide)) HB.out;have c1:=kept (hc 1 (by decide)) HB.out;rw [Nat.add_zero] at c0;clear hc;have i0':(0:Int)≤(i:Int):=by omega
   have i1:(i:Int) < (qn:Int):=by omega
   have HO:Hid (1≤q i 0∧q i 0≤16∧1≤q i 1∧q i 1≤3):=⟨(HQ.out i hlt).c1,(HQ.out i hlt).c2,(HQ.out i hlt).p1,(HQ.out i hlt).p2⟩;have HB2:=hid (HB.out.alloc HB.out.size (qC #[qI (q i 0),qI (q i 1)] 74));generalize q i 0=u at c0 HO HB2;generalize q i 1=v at c1 HO HB2;have k1:¬ (u < 1):=by have:=HO.out;omega
   have u1:decide (u < 1)=false:=by simp [k1]
   have k2:¬ (16 < u):=by have:=HO.out;omega
   have u2:decide (16 < u)=false:=by simp [k2]
   have k3:¬ (v < 1):=by have:=HO.out;omega
   have u3:decide (v < 1)=false:=by simp [k3]
   have k4:¬ (3 < v):=by have:=HO.out;omega
   have u4:decide (3 < v)=false:=by simp [k4]
   go_wp2;go_roundw
   case rel=>exact⟨i+1,by omega,by go_num,HB2⟩
   case measure=>simp [intOf];omega
  ·obtain rfl:i=qn:=by omega
   have t0:decide ((i:Int) < (i:Int))=false:=by simp
   go_wp2;go_ret;exact⟨rfl,HB.out⟩
theorem zCb (x:Img) (h:Nat→Nat→Int) (p q:Int) (I:Nat) (w:World) (hE:zb9 w x.eo x.en 23 h) (hen:x.en≤maxLen) (hI:I < x.en) (hp:h I 0=p) (hq:h I 1=q) (h1:∀ k,k < I→¬ (h k 0=p∧h k 1=q)):Calls Tryz.prog 122 #[iv x,qI p,qI q] w fun e w'=>e=.returned (.tuple #[qI I,.bool true])∧Below w.heap.size w w':=by
 have HI:Hid (h I 0=p∧h I 1=q∧∀ k,k < I→¬ (h k 0=p∧h k 1=q)):=⟨hp,hq,h1⟩;clear hp hq h1;have HE:=hid hE;clear hE;obtain⟨r,ao,n,cap,mo,mn,mc,eo,en,ec⟩:=x;unfold iv;dsimp only at hen HE hI ⊢;unfold maxLen at hen;have hb:=qBr (w:=w) (qC #[qI r,.slice ao n cap,.slice mo mn mc,.slice eo en ec] 26);have hblk:(w.alloc (qC #[qI r,.slice ao n cap,.slice mo mn mc,.slice eo en ec] 26)).heap[w.heap.size]? =some (qC #[qI r,.slice ao n cap,.slice mo mn mc,.slice eo en ec] 26):=heap_alloc_new w _;have c3:=zaa hblk 3;have HB:=hid hb;clear hb hblk;go_enter Tryz.func122,Tryz.ntmps122;go_wp2;obtain⟨W0,hW0⟩:∃ W,W=(w.alloc (qC #[qI r,.slice ao n cap,.slice mo mn mc,.slice eo en ec] 26)):=⟨_,rfl⟩;rw [←hW0] at HB ⊢;clear hW0 c3
 go_loopw [13] (fun i_ wr=>∃ i:Nat,i≤I∧i_=qI i∧Hid (Below w.heap.size w wr)) (fun i_ _=>en - (intOf i_).toNat)
 case atStart=>exact⟨0,by omega,rfl,HB⟩
 case round=>
  clear HB;obtain⟨i,hi,rfl,HB⟩:=hrel;have hlt:i < en:=by omega
  ·have t0:decide ((i:Int) < (en:Int))=true:=by simp;omega
   obtain⟨b,o,rfl,hc⟩:=HE.out i hlt;have hr1:=zce fun j hj=>kept (hc j hj) HB.out;have i0':(0:Int)≤(i:Int):=by omega
   have i1:(i:Int) < (en:Int):=by omega
   go_upto_region 3 with fail
   refine wp_region_lit ?_;refine wpList_plain rfl fun K hK=>?_;go_simp;refine hK _ _ ?_;clear hK K;refine wpList_plain rfl fun K hK=>?_;go_simp;refine hK _ _ ?_;clear hK K;refine wpList_load_mid rfl 176 _ rfl b (o+i * 23) rfl (zbf (h i)) _ hr1 Tryz.underlying176 rfl (za4 _) ?_;refine wpList_plain rfl fun K hK=>?_;go_simp;refine hK _ _ ?_;clear hK K;refine wpList_plain rfl fun K hK=>?_;go_simp;refine hK _ _ ?_;clear hK K;refine wpList_store_mid rfl 176 _ _ rfl wr.heap.size 0 (zbf (h i)).toArray rfl rfl (zdh wr (h i)) (by simpa using za4 (h i)) (zfb _) ?_;have hbx:=zg1 wr (h i);unfold zd6 at hbx;obtain⟨W2,hW2⟩:∃ X,X=((wr.alloc zd6).setCells wr.heap.size 0 (zbf (h i)).toArray.toList):=⟨_,rfl⟩;unfold zd6 at hW2;rw [←hW2] at hbx;show Exit.then _ _ _ _ _
   rw [←hW2];clear hW2 hr1 hc;go_simp;have e0:=hbx.cell 0 (by decide);have e1:=hbx.cell 1 (by decide);have HB2:=hid (HB.out.trans (hbx.below.mono HB.out.size));have HF:Hid (h i 0=p∧h i 1=q→i=I):=fun e=>by
    rcases (show i < I∨i=I by omega) with h2|h2
    ·exact absurd e (HI.out.2.2 i h2)
    ·exact h2
   have HG:Hid (i=I→h i 0=p∧h i 1=q):=fun e=>by rw [e];exact⟨HI.out.1,HI.out.2.1⟩
   clear hbx;generalize h i 0=y0 at e0 HF HG;generalize h i 1=y1 at e1 HF HG;by_cases h0:y0=p
   ·have t1:(y0 == p)=true:=by simp [h0]
    by_cases h1:y1=q
    ·have t2:(y1 == q)=true:=by simp [h1]
     go_wp2;go_ret2;exact⟨by rw [HF.out ⟨h0,h1⟩];rfl,HB2.out⟩
    ·have t2:(y1 == q)=false:=by simp [h1]
     have k9:i≠I:=fun e=>h1 (HG.out e).2;go_wp2;go_roundw
     case rel=>exact⟨i+1,by omega,by go_num,HB2⟩
     case measure=>simp [intOf];omega
   ·have t1:(y0 == p)=false:=by simp [h0]
    have k9:i≠I:=fun e=>h0 (HG.out e).1;go_wp2;go_roundw
    case rel=>exact⟨i+1,by omega,by go_num,HB2⟩
    case measure=>simp [intOf];omega
theorem zy5:∀ {n:Nat},n≤16→∀ {i:Nat},i < n→(allF n).testBit i=true
 |n+1,h,i,hi=>by
  show (allF n |||bitN (n:Int)).testBit i=true;rw [Nat.testBit_or];rcases (show i < n∨i=n by omega) with h1|rfl
  ·rw [zy5 (by omega) h1];rfl
  ·rw [zih];simp;omega
theorem zBy {t n:Nat} (hn:n≤16) (ht:t < 2 ^ n):zcl t (allF n)=0:=by
 have ht2:t < 4294967296:=Nat.lt_trans ht (zyc (by omega));refine Nat.eq_of_testBit_eq fun i=>?_;rw [zub t _ i ht2,Nat.zero_testBit];by_cases h:i < n
 ·rw [zy5 hn h];simp
 ·rw [Nat.testBit_lt_two_pow (Nat.lt_of_lt_of_le ht (Nat.pow_le_pow_right (by decide) (by omega)))];rfl
end Go.Proofs.YtpbmmoneeoijaaaGreatDoor
