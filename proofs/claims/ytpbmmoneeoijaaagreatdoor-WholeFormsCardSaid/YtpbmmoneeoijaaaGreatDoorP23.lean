/-
  A part of the proof: ReaderEdge ReaderLine PiecesFn.
-/
import Derived.Test.YtpbmmoneeoijaaaGreatDoorP19
import Derived.Test.YtpbmmoneeoijaaaGreatDoorP22
namespace Go.Proofs.YtpbmmoneeoijaaaGreatDoor
open Go.RowKit Go.Deep Go.Shelf
set_option maxRecDepth 100000
set_option maxHeartbeats 8000000
attribute [local go_sem] zaq
set_option maxRecDepth 100000
theorem zdc (b:Nat) (t:TypeId):∀ (vs pre post:List Value) (X:World),X.heap[b]? =some (.cells (pre ++ post).toArray t (0,0))→post.length=vs.length→(X.setCells b pre.length vs).heap[b]? =some (.cells (pre ++ vs).toArray t (0,0))
 | [],pre,post,X,h,hl=>by
  obtain rfl:=List.eq_nil_of_length_eq_zero hl;exact h
 |v :: vs,pre,[],X,h,hl=>by simp at hl
 |v :: vs,pre,p :: post,X,h,hl=>by
  rw [World.setCells];have h1:=zbh (j:=pre.length) (u:=v) h;rw [List.setIfInBounds_toArray,List.set_append_right _ _ (Nat.le_refl _),Nat.sub_self,List.set_cons_zero] at h1;have:=zdc b t vs (pre ++ [v]) post _ (by rw [List.append_assoc];exact h1) (by simpa using hl);rw [List.length_append,List.length_singleton,List.append_assoc] at this;exact this
theorem zy0 (W:World) (f:Nat→Int):((W.alloc zd6).setCells W.heap.size 0 (zbf f).toArray.toList).heap[W.heap.size]? =some (zcj f):=by
 have:=zdc W.heap.size 176 (zbf f) [] (List.replicate 23 (qI 0)) (W.alloc zd6) (heap_alloc_new W zd6) (by rw [zcb];simp);unfold zcj;exact this
theorem zsq {X:World} {tb:Nat} {y:Nat→Int} {j:Nat} (x:Int) (h:X.heap[tb]? =some (zcj y)) (hj:j < 23):(X.setCell ⟨tb,j,none⟩ (qI x)).heap[tb]? =some (zcj (upd y j x)):=by
 unfold zcj at h ⊢;rw [zbh h]
 congr 3
 rw [List.setIfInBounds_toArray]
 congr 1
 apply List.ext_getElem?;intro k;rw [List.getElem?_set];unfold zbf upd;by_cases hk:j=k
 ·subst hk;simp [hj]
 ·rw [if_neg hk]
  by_cases h23:k < 23
  ·have:¬ k=j:=fun e=>hk e.symm
   simp [h23,this]
  ·rw [List.getElem?_eq_none (by simpa using h23),List.getElem?_eq_none (by simpa using h23)]
theorem zw1 {y f:Nat→Int} (h:∀ j,j < 23→y j=f j):zcj y=zcj f:=by
 unfold zcj zbf
 congr 2
 apply List.map_congr_left;intro j hj;rw [h j (List.mem_range.1 hj)]
theorem zjf {X:World} {tb:Nat} {y:Nat→Int} (h:X.heap[tb]? =some (zcj y)) (j:Nat):X.frozen? ⟨tb,j,none⟩=false:=by
 unfold zcj at h;exact zab h j
theorem protW_eq {p q:Int} (h1:1≤p) (h2:p≤3) (h3:1≤q) (h4:q≤3):zgr p=zgr q↔p=q:=by
 obtain rfl|rfl|rfl:p=1∨p=2∨p=3:=by omega
 all_goals
  obtain rfl|rfl|rfl:q=1∨q=2∨q=3:=by omega
  all_goals simp [zgr]
theorem zvl {P:Program} {o:Oper} {a:Act} {C:World→Prop} (t:TypeId) (x:Operand) (ho:o.op=.load t x) (b off:Nat) (hx:a.eval x=.pointer (some ⟨b,off,none⟩)) (L:List Value) (d:TypeDesc)
  (hr:∀ w,C w→w.rangeAt b off L) (hu:P.underlying t=some d) (hrow:d.isRow=true) (hi:(P.info? t).map (·.size)=some L.length):zaq P C o a (.agg L.toArray):=fun w hw=>by
 unfold execOp;simp only [ho,hx,Instr.loadAt,Instr.sureAddr,Sem.run_bind,Sem.run_pure,Result.andThen_ok,run_loadVar_mid w b off t L d (hr w hw) hu hrow hi]
def yE (a c:Int):Nat→Int:=fun j=>if j=0 then a else if j=1 then c else 0
def yQ (a c z p:Int):Nat→Int:=fun j=>if j=2 then (if z < p then z else 0) else yE a c j
theorem yQ_start {a c z:Int} (h:1≤z):yQ a c z 1=yE a c:=by
 funext j;unfold yQ yE;by_cases hj:j=2
 ·subst hj;rw [if_pos rfl,if_neg (by omega)];rfl
 ·rw [if_neg hj]
theorem yQ_hit (a c z:Int):upd (yQ a c z z) 2 z=yQ a c z (z+1):=by
 funext j;unfold upd yQ;by_cases hj:j=2
 ·subst hj;rw [if_pos rfl,if_pos rfl,if_pos (by omega)]
 ·rw [if_neg hj,if_neg hj,if_neg hj]
theorem yQ_miss {a c z p:Int} (h:p≠z):yQ a c z (p+1)=yQ a c z p:=by
 funext j;unfold yQ;by_cases hz:z < p
 ·rw [if_pos hz,if_pos (show z < p+1 by omega)]
 ·rw [if_neg hz,if_neg (show ¬ z < p+1 by omega)]
theorem zxr (y f:Nat→Int) (o:Nat):yP y f o []=y:=by
 funext j;unfold yP;simp
theorem zxs {y f:Nat→Int} {o:Nat} {l:List Nat} {j:Nat} (h:j < o):yP y f o l j=y j:=by
 unfold yP;rw [if_neg];simp;omega
theorem yP_in {y f:Nat→Int} {o:Nat} {l:List Nat} {j:Nat} (h:o≤j) (hm:j - o∈l):yP y f o l j=f j:=by
 unfold yP;rw [if_pos];simp only [Bool.and_eq_true,decide_eq_true_iff,List.contains_iff_mem];exact⟨hm,h⟩
theorem zCl {y f:Nat→Int} {o:Nat} {l:List Nat} {j:Nat} (hm:j - o ∉ l):yP y f o l j=y j:=by
 unfold yP;rw [if_neg];simp only [Bool.and_eq_true,List.contains_iff_mem];exact fun h=>hm h.1
theorem zrj {a c z p:Int} {j:Nat} (h:3≤j):yQ a c z p j=0:=by
 unfold yQ yE;rw [if_neg (by omega),if_neg (by omega),if_neg (by omega)]
theorem zCa (base b:Nat) (W:World) (s:St) (v:RdV) (f:Nat→Int) (hbase:base≤W.heap.size) (h:RdAt base b W s (zfj f) v) (hf:∀ j,j < 23→0≤f j∧f j < 2147483648) (h2:1≤f 2) (h3:f 2≤3) (hn:s.es.length≤1000):
  Calls Tryz.prog 150 #[qP b] W (zpw base b W { s with es:=s.es ++ [f] } (zfj f)):=by
 obtain⟨Q,hQ⟩:∃ Q,zbl 62 (fun j=>f (19+j)) 4 ++ zbl 58 (fun j=>f (3+j)) 16=Q:=⟨_,rfl⟩;have hPQ:zfj f=[zmu,tk (f 0),tk (f 1),zgr (f 2)] ++ Q:=by unfold zfj;rw [hQ]
 obtain⟨l1,hl1⟩:∃ l,pidx (fun j=>f (19+j)) 4=l:=⟨_,rfl⟩;obtain⟨l2,hl2⟩:∃ l,pidx (fun j=>f (3+j)) 16=l:=⟨_,rfl⟩;have hQ2:Q=(l1.map fun i=>txt i ++ 62 :: tk (f (19+i))) ++ l2.map fun i=>txt i ++ 58 :: tk (f (3+i)):=by rw [←hQ,zj4,zj4,hl1,hl2]
 have hn1:l1.length≤4:=by rw [←hl1];exact Nat.le_trans (List.length_filter_le _ _) (by simp)
 have hn2:l2.length≤16:=by rw [←hl2];exact Nat.le_trans (List.length_filter_le _ _) (by simp)
 have HD1:=hid (show l1.Nodup by rw [←hl1];exact zkx _ _);have HD2:=hid (show l2.Nodup by rw [←hl2];exact zkx _ _);have HM1:=hid (show ∀ i,i∈l1↔i < 4∧f (19+i)≠0 from fun i=>by rw [←hl1];exact zr4);have HM2:=hid (show ∀ i,i∈l2↔i < 16∧f (3+i)≠0 from fun i=>by rw [←hl2];exact zr4);have hQn:Q.length=l1.length+l2.length:=by rw [hQ2];simp
 obtain⟨N1,hN1⟩:∃ n,l1.length=n:=⟨_,rfl⟩;obtain⟨N2,hN2⟩:∃ n,l2.length=n:=⟨_,rfl⟩;rw [hN1] at hn1 hQn;rw [hN2] at hn2 hQn;obtain⟨g,cap,e,hc1,hc2,hcell⟩:=h.pieces (by rw [hPQ];simp);have hlen:(zfj f).length=N1+N2+4:=by rw [hPQ];simp;omega
 rw [hlen] at e hc1;have c4:=h.cell4;rw [e] at c4;have p3:=hcell 3 _ (show (zfj f)[3]? =some (zgr (f 2)) by rw [hPQ];rfl);have HNA:=hid (zex b g 1 (N1+N2+4) cap (f 0) W (hf 0 (by omega)).1 (hf 0 (by omega)).2 (by omega) (by omega) c4 (hcell 1 _ (by rw [hPQ];rfl)));have HNB:=hid (zex b g 2 (N1+N2+4) cap (f 1) W (hf 1 (by omega)).1 (hf 1 (by omega)).2 (by omega) (by omega) c4 (hcell 2 _ (by rw [hPQ];rfl)));have HH:=hid h;have HF:=hid hf;have HCC:=hid (show ∀ k p,Q[k]? =some p→W.cell? ⟨g,4+k,none⟩=some (.string (bs p)) from fun k p hp=>hcell (4+k) p (by rw [hPQ,List.getElem?_append_right (by simp)];simpa using hp));have HQ2:=hid hQ2;have HN1:=hid hN1;have HN2:=hid hN2;have t9:decide ((N1:Int)+(N2:Int)+4 < 4)=false:=by simp;omega
 clear hQ hPQ hl1 hl2 hQ2 hcell h hf e hlen hQn hN1 hN2;obtain⟨A,hA⟩:∃ a,f 0=a:=⟨_,rfl⟩;obtain⟨B,hB⟩:∃ a,f 1=a:=⟨_,rfl⟩;rw [hA] at HNA;rw [hB] at HNB;have HA:=hid hA;have HB:=hid hB;clear hA hB;go_enter Tryz.func150,Tryz.ntmps150
 go_upto_region 2 with (go_at_call 215;refine (HNA.out).mono ?_;rintro e w2 ⟨rfl,rfl⟩)
 go_upto_region 3 with (go_at_call 215;refine (HNB.out).mono ?_;rintro e w2 ⟨rfl,rfl⟩)
 go_upto_region 5 with fail
 refine wp_region_lit ?_;refine wpList_plain rfl fun K hK=>?_;go_simp;refine hK _ _ ?_;clear hK K;refine wpList_plain rfl fun K hK=>?_;go_simp;refine hK _ _ ?_;clear hK K;refine zqg rfl (v:=.agg (zbf (yE A B)).toArray) (by kernel_rfl) ?_;refine wpList_plain rfl fun K hK=>?_;go_simp;refine hK _ _ ?_;clear hK K;refine wpList_store_mid rfl 176 _ _ rfl W.heap.size 0 (zbf (yE A B)).toArray rfl rfl (zdh W (yE A B)) (by simpa using za4 (yE A B)) (zfb _) ?_;have hbx:=zg1 W (yE A B);have hbk:=zy0 W (yE A B);obtain⟨W2,hW2⟩:∃ X,X=((W.alloc zd6).setCells W.heap.size 0 (zbf (yE A B)).toArray.toList):=⟨_,rfl⟩;rw [←hW2] at hbx hbk;unfold zd6 at hW2;show Exit.then _ _ _ _ _
 rw [←hW2];have HB2:=hid hbx.below;have HT0:=hid (show W2.heap[W.heap.size]? =some (zcj (yQ A B (f 2) 1)) by rw [hbk,yQ_start h2]);obtain⟨tb,htb⟩:∃ n,W.heap.size=n:=⟨_,rfl⟩;have HTB:=hid htb;clear hbx hbk hW2 HNA HNB t9;rw [htb] at HT0 ⊢;clear htb;go_simp
 go_upto_region 6 with fail
 go_wp2
 go_loopw [8] (fun p_ wr=>∃ p:Int,1≤p∧p≤4∧p_=qI p∧Hid (wr.heap[tb]? =some (zcj (yQ A B (f 2) p)))∧Hid (Below W.heap.size W wr)) (fun p_ _=>4 - (intOf p_).toNat)
 case atStart=>exact⟨1,by omega,by omega,by go_num,HT0,HB2⟩
 case round=>
  clear HT0 HB2;obtain⟨p,hp1,hp2,rfl,HT,HW⟩:=hrel;by_cases hlt:p≤3
  ·have t0:decide (p≤3)=true:=by simp [hlt]
   have C4:=Cls.cell (kept c4 HW.out);have C5:=Cls.cell (kept p3 HW.out);have HPO:=hid fun (X:Cls wr)=>Calls.below (zlp p X.wd hp1 hlt);by_cases heq:p=f 2
   ·subst heq
    obtain⟨S1,hS1⟩:∃ S,bs (zgr (f 2))=S:=⟨_,rfl⟩;have hqe:(S1.toList == S1.toList)=true:=by simp
    rw [hS1] at HPO C5;clear hS1;go_wp2;refine zag (by kernel_rfl) (by kernel_rfl) ?_
    repeat (go_big_quiet_step ((first|(go_at_call 73;exact Calls.cls _ (HPO.out _)))))
    refine wpQuiet_nil ?_;intro _ hw';obtain⟨cq,rfl⟩:=hw';have HB4:=hid (HW.out.trans (cq.below.mono HW.out.size));have ht4:=(cq.below.block tb (qLt HT.out)).trans HT.out;have HT5:=hid (show (cq.wd.setCell ⟨tb,2,none⟩ (qI (f 2))).heap[tb]? =some (zcj (yQ A B (f 2) (f 2+1))) by rw [zsq _ ht4 (by omega),yQ_hit]);have HB5:=hid (HB4.out.setCell (p:=⟨tb,2,none⟩) (by rw [HTB.out];exact Nat.le_refl _) (qI (f 2)));have ct:=zaz ht4 (j:=2) (by decide);have ft:=zjf ht4 2;clear HPO C4 C5 ht4;go_wp2;go_roundw
    case rel=>exact⟨f 2+1,by omega,by omega,by go_num,HT5,HB5⟩
    case measure=>simp [intOf];omega
   ·have hqe:((bs (zgr p)).toList == (bs (zgr (f 2))).toList)=false:=by
     rw [za1,za1];simp;exact fun hz=>heq ((protW_eq hp1 hlt h2 h3).1 hz)
    obtain⟨S1,hS1⟩:∃ S,bs (zgr p)=S:=⟨_,rfl⟩;obtain⟨S2,hS2⟩:∃ S,bs (zgr (f 2))=S:=⟨_,rfl⟩;rw [hS1] at HPO hqe;rw [hS2] at C5 hqe;clear hS1 hS2;go_wp2;refine zag (by kernel_rfl) (by kernel_rfl) ?_
    repeat (go_big_quiet_step ((first|(go_at_call 73;exact Calls.cls _ (HPO.out _)))))
    refine wpQuiet_nil ?_;intro _ hw';obtain⟨cq,rfl⟩:=hw';have HB4:=hid (HW.out.trans (cq.below.mono HW.out.size));have HT5:=hid (show cq.wd.heap[tb]? =some (zcj (yQ A B (f 2) (p+1))) by rw [yQ_miss heq];exact (cq.below.block tb (qLt HT.out)).trans HT.out);clear HPO C4 C5;go_wp2;go_roundw
    case rel=>exact⟨p+1,by omega,by omega,by go_num,HT5,HB4⟩
    case measure=>simp [intOf];omega
  ·have hp4:p=4:=by omega
   have HT1:=hid (show wr.heap[tb]? =some (zcj (yP (yP (yQ A B (f 2) 4) f 19 (l1.take 0)) f 3 (l2.take (0 - N1)))) by rw [HT.out,hp4,List.take_zero,zxr,Nat.zero_sub,List.take_zero,zxr]);have t0:decide (p≤3)=false:=by simp;omega
   have c4':=kept c4 HW.out;clear hp4 HT;go_wp2
   all_goals
    go_loopw [59] (fun i_ wr=>∃ k:Nat,k≤N1+N2∧i_=qI k∧Hid (wr.heap[tb]? =some (zcj (yP (yP (yQ A B (f 2) 4) f 19 (l1.take k)) f 3 (l2.take (k - N1)))))∧Hid (Below W.heap.size W wr)) (fun i_ _=>N1+N2 - (intOf i_).toNat)
    case atStart=>exact⟨0,by omega,by go_num,HT1,HW⟩
    case round=>
     clear HT1 HW c4' t0;obtain⟨k,hk,rfl,HT,HW⟩:=hrel;by_cases hlt:k < N1+N2
     ·first
      |(exfalso;omega)
      |(
       have t1:decide ((k:Int) < (N1:Int)+(N2:Int))=true:=by simp;omega
       have k0:(0:Int)≤(k:Int):=by omega
       have k1:(k:Int) < (N1:Int)+(N2:Int):=by omega
       by_cases hk1:k < N1
       ·obtain⟨i,hi⟩:∃ i,l1[k]? =some i:=⟨_,List.getElem?_eq_getElem (by have:=HN1.out;omega)⟩
        have him:=(HM1.out i).1 (List.mem_of_getElem? hi);have cq:=kept (HCC.out k (txt i ++ 62 :: tk (f (19+i))) (by rw [HQ2.out,List.getElem?_append_left (by rw [List.length_map,HN1.out];exact hk1),List.getElem?_map,hi];rfl)) HW.out;have hT:=HT.out;rw [show k - N1=0 by omega,List.take_zero,zxr] at hT;have ct:=zaz hT (show 19+i < 23 by omega);rw [zu9 HD1.out hi,zrj (by omega)] at ct;have hfi:=HF.out (19+i) (by omega);have HPV:=hid (zr7 i tb 19 4 4 (f (19+i)) 62 wr him.1 (by omega) (by omega) hfi.2 (by decide) ct (zjf hT _));have HT2:=hid (show (wr.setCell ⟨tb,19+i,none⟩ (qI (f (19+i)))).heap[tb]? =some (zcj (yP (yP (yQ A B (f 2) 4) f 19 (l1.take (k+1))) f 3 (l2.take (k+1 - N1)))) by rw [zsq _ hT (by omega),zva hi,show k+1 - N1=0 by omega,List.take_zero,zxr]);have HB3:=hid (HW.out.setCell (p:=⟨tb,19+i,none⟩) (by rw [HTB.out];exact Nat.le_refl _) (qI (f (19+i))));generalize bs (txt i ++ 62 :: tk (f (19+i)))=SP at cq HPV;clear ct hi hT
        go_wp2_with (go_at_call 216;refine (HPV.out).mono ?_;rintro e w2 ⟨rfl,rfl⟩)
        go_roundw
        case rel=>exact⟨k+1,by omega,by go_num,HT2,HB3⟩
        case measure=>simp [intOf];omega
       ·obtain⟨i,hi⟩:∃ i,l2[k - N1]? =some i:=⟨_,List.getElem?_eq_getElem (by have:=HN2.out;omega)⟩
        have him:=(HM2.out i).1 (List.mem_of_getElem? hi);have cq:=kept (HCC.out k (txt i ++ 58 :: tk (f (3+i))) (by rw [HQ2.out,List.getElem?_append_right (by rw [List.length_map,HN1.out];omega),List.length_map,HN1.out,List.getElem?_map,hi];rfl)) HW.out;have hT:=HT.out;have ht1:l1.take (k+1)=l1.take k:=by rw [List.take_of_length_le (by have:=HN1.out;omega),List.take_of_length_le (by have:=HN1.out;omega)]
        have ct:=zaz hT (show 3+i < 23 by omega);rw [zu9 HD2.out hi,zxs (by omega),zrj (by omega)] at ct;have hfi:=HF.out (3+i) (by omega);have hno:(62:UInt8) ∉ txt i ++ 58 :: tk (f (3+i)):=by
         intro hc;rcases List.mem_append.1 hc with hc|hc
         ·exact zCz (by decide) _ hc
         ·rcases List.mem_cons.1 hc with hc|hc
          ·revert hc;decide
          ·exact zCz (by decide) _ hc
        have HPN:=hid (pair_no (txt i ++ 58 :: tk (f (3+i))) 62 (.slice (some ⟨tb,19,none⟩) 4 4) wr hno);have HPV:=hid (zr7 i tb 3 16 16 (f (3+i)) 58 wr him.1 (by omega) (by omega) hfi.2 (by decide) ct (zjf hT _));have HT2:=hid (show (wr.setCell ⟨tb,3+i,none⟩ (qI (f (3+i)))).heap[tb]? =some (zcj (yP (yP (yQ A B (f 2) 4) f 19 (l1.take (k+1))) f 3 (l2.take (k+1 - N1)))) by rw [zsq _ hT (by omega),zva hi,ht1,show k - N1+1=k+1 - N1 by omega]);have HB3:=hid (HW.out.setCell (p:=⟨tb,3+i,none⟩) (by rw [HTB.out];exact Nat.le_refl _) (qI (f (3+i))));generalize bs (txt i ++ 58 :: tk (f (3+i)))=SP at cq HPV HPN;clear ct hi hT hno ht1
        go_wp2_with fail
        refine (HPN.out).mono ?_;rintro e w2 ⟨rfl,rfl⟩
        go_wp2_with fail
        refine (HPV.out).mono ?_;rintro e w2 ⟨rfl,rfl⟩;go_wp2;go_roundw
        case rel=>exact⟨k+1,by omega,by go_num,HT2,HB3⟩
        case measure=>simp [intOf];omega)
     ·have hkq:k=N1+N2:=by omega
      have t1:decide ((k:Int) < (N1:Int)+(N2:Int))=false:=by simp;omega
      have HTF:=hid (show wr.heap[tb]? =some (zcj f) by
       rw [HT.out]
       congr 1
       refine zw1 fun j hj=>?_;rw [List.take_of_length_le (by have:=HN1.out;omega),List.take_of_length_le (by have:=HN2.out;omega)];by_cases h19:19≤j
       ·rw [zCl (l:=l2) (fun hm=>by have:=((HM2.out _).1 hm).1;omega)]
        by_cases hm:j - 19∈l1
        ·exact yP_in h19 hm
        ·rw [zCl hm,zrj (by omega)]
         have:=fun h=>hm ((HM1.out (j - 19)).2 ⟨by omega,h⟩);rw [show 19+(j - 19)=j by omega] at this;exact (Classical.not_not.1 this).symm
       ·by_cases h3':3≤j
        ·by_cases hm:j - 3∈l2
         ·exact yP_in h3' hm
         ·rw [zCl hm,zxs (by omega),zrj h3']
          have:=fun h=>hm ((HM2.out (j - 3)).2 ⟨by omega,h⟩);rw [show 3+(j - 3)=j by omega] at this;exact (Classical.not_not.1 this).symm
        ·rw [zxs (by omega),zxs (by omega)]
         unfold yQ yE;obtain rfl|rfl|rfl:j=0∨j=1∨j=2:=by omega
         ·exact HA.out.symm
         ·exact HB.out.symm
         ·rw [if_pos rfl,if_pos (by omega)])
      obtain⟨i0,hi,hz0,hz1,hz2⟩:=info_parts infoEg;clear hkq hk HT
      go_upto_region 17 with fail
      have HRr:=HH.out.below HW.out;have hcb:=HRr.blk;have hbs:=HRr.hb;have hwr:=HW.out.size;refine zan [7,8,9,10,11,12] (fun X=>Two2 X b tb (rdB s.r v) (zcj f)) (by kernel_rfl) (by kernel_rfl) (show Two2 wr.drew b tb (rdB s.r v) (zcj f) from ⟨hcb,HTF.out⟩) ?_;refine qFs fun K hK=>?_;go_simp;refine⟨_,fun _ _=>rfl,hK _ ?_⟩;clear hK K;refine qFs fun K hK=>?_;go_simp;refine⟨_,fun _ _=>rfl,hK _ ?_⟩;clear hK K;refine qFs fun K hK=>?_;go_simp;refine⟨_,fun _ _=>rfl,hK _ ?_⟩;clear hK K;refine qFs fun K hK=>?_;go_simp;refine⟨_,fun _ _=>rfl,hK _ ?_⟩;clear hK K;refine qFs fun K hK=>?_;go_simp;refine⟨_,fun _ _=>rfl,hK _ ?_⟩;clear hK K;refine qFs fun K hK=>?_;go_simp;refine⟨v.E,fun X hX=>?_,hK _ ?_⟩
      ·have z:X.cell? ⟨b,3,none⟩=some v.E:=by rw [zaa hX.h1];rfl
       go_simp
      clear hK K;refine qFs fun K hK=>?_;refine⟨.agg (qF23 f),show zaq _ _ _ _ (.agg (zbf f).toArray) from zvl 176 _ rfl tb 0 rfl (zbf f) _ (fun X hX j u hj=>by
       have hj2:j < 23:=by rw [←zcb f];exact (List.getElem?_eq_some_iff.1 hj).1
       rw [zgk _ hj2] at hj;cases hj;rw [Nat.zero_add];exact zaz hX.h2 hj2) Tryz.underlying176 rfl (za4 _),hK _ ?_⟩
      clear hK K;refine qFc ?_;refine qFc ?_;refine qFc ?_;refine qFc ?_;refine qFc ?_;refine qFc ?_;refine za9 ?_;have hBA:Below wr.heap.size wr (wr.alloc (Obj.cells ([qI (f 0),qI (f 1),qI (f 2),qI (f 3),qI (f 4),qI (f 5),qI (f 6),qI (f 7),qI (f 8),qI (f 9),qI (f 10),qI (f 11),qI (f 12),qI (f 13),qI (f 14),qI (f 15),qI (f 16),qI (f 17),qI (f 18),qI (f 19),qI (f 20),qI (f 21),qI (f 22)]).toArray 176)).drew:=((qBr _)).drew;have hRA:=HRr.below hBA;have HTA:=hid ((hBA.block tb (qLt HTF.out)).trans HTF.out);have hn63:s.es.length+1≤maxLen:=by unfold maxLen;omega
      refine qT1 7 [8,9,10,11,12] fun K hK=>?_
      go_wp2_with fail
      refine hK _ _ (show Two2 (wr.alloc (Obj.cells ([qI (f 0),qI (f 1),qI (f 2),qI (f 3),qI (f 4),qI (f 5),qI (f 6),qI (f 7),qI (f 8),qI (f 9),qI (f 10),qI (f 11),qI (f 12),qI (f 13),qI (f 14),qI (f 15),qI (f 16),qI (f 17),qI (f 18),qI (f 19),qI (f 20),qI (f 21),qI (f 22)]).toArray 176)).drew b tb (rdB s.r v) (zcj f) from ⟨hRA.blk,HTA.out⟩) ?_;clear hK K;refine qT1 8 [9,10,11,12] fun K hK=>?_;dsimp only [List.getElem_toArray,List.getElem_cons_succ,List.getElem_cons_zero];refine wpList_append_own _ rfl _ _ 24 rfl base 176 i0 (.agg qZ23) 23 184 Tryz.underlying24 hi hz0 hz1 hz2 rfl (by decide) v.E (s.es.length) _ rfl hRA.E ⟨wr.heap.size,0,none⟩ 1 1 ([qI (f 0),qI (f 1),qI (f 2),qI (f 3),qI (f 4),qI (f 5),qI (f 6),qI (f 7),qI (f 8),qI (f 9),qI (f 10),qI (f 11),qI (f 12),qI (f 13),qI (f 14),qI (f 15),qI (f 16),qI (f 17),qI (f 18),qI (f 19),qI (f 20),qI (f 21),qI (f 22)]) rfl (by simp) (fun j u hj=>by rw [zbn,Nat.zero_add];exact (World.cell?_alloc_new _ _ _ j).trans (by rw [List.getElem?_toArray];exact hj)) (by exact (show ∀ u∈zbf f,u.oneCell'=true from fun u hu=>by obtain⟨j,_,rfl⟩:=List.mem_map.1 hu;rfl)) hn63 (by omega) (Nat.le_trans hbase (Nat.le_trans hwr hBA.size)) ?_;intro v5 w5 h5 g5 _;have hF5:=(Frm2.below (base:=base) (b:=b) HW.out).trans ((Frm2.below (base:=base) (b:=b) hBA).trans (Frm2.own hRA.E g5));have hb5:=zdo hRA.blk g5 fun g hg=>by have:=(zbj hRA.E hg).1;omega
      have ht5:w5.heap[tb]? =some (zcj f):=(g5.block tb (qLt HTA.out) fun e=>by
       have h9:=(HRr.E.lt tb e.symm).2;have h8:=(HH.out.E.lt tb e.symm).2;have:=HTB.out;omega).trans HTA.out
      have hA5:=hRA.addE f (by rw [zpa,List.length_append];exact h5) g5;obtain⟨va,vc,rfl,_,_⟩:=zar h5;have hS5:=Frm2.set (base:=base) w5 3 (.slice va (s.es.length+1) vc) hb5;have c5:w5.cell? ⟨b,3,none⟩=some v.E:=by rw [zaa hb5];rfl
      have f5:=zab hb5 3;have hC5:Two2 w5 b tb (rdB s.r v) (zcj f):=⟨hb5,ht5⟩
      go_wp2_with fail
      refine hK _ _ hC5 ?_;clear hK K;refine qT1 9 [10,11,12] fun K hK=>?_
      go_wp2_with fail
      refine hK _ _ hC5 ?_;clear hK K;refine qT1 10 [11,12] fun K hK=>?_
      go_wp2_with fail
      refine hK _ _ hC5 ?_;clear hK K;refine qT1 11 [12] fun K hK=>?_
      go_wp2_with fail
      refine hK _ _ hC5 ?_;clear hK K;refine zby (m:=0) (i:=12) (rem1:=[]) (by kernel_rfl) (by rfl) (by rfl) (by kernel_rfl) (fun K hK=>?_)
      go_wp2_with fail
      refine za2 ?_;have ce:=zqb (zaz ht5 (j:=2) (by decide)) (.slice va (s.es.length+1) vc) (p:=⟨b,3,none⟩) (show b≠tb by have:=HTB.out;omega);have te:(f 2 != 0)=true:=by simp;omega
      go_wp2;go_ret;exact⟨rfl,⟨_,hA5⟩,hF5.trans hS5⟩
end Go.Proofs.YtpbmmoneeoijaaaGreatDoor
namespace Go.Proofs.YtpbmmoneeoijaaaGreatDoor
open Go.RowKit Go.Deep Go.Shelf
set_option maxRecDepth 100000
set_option maxHeartbeats 8000000
section
variable {base b:Nat} {W:World} {s:St} {v:RdV}
theorem line_res (x:Int) (h:RdAt base b W s [wRes,tk x] v) (h0:0≤x) (h1:x < 2147483648):
  Calls Tryz.prog 76 #[qP b,.bool true] W (zpw base b W { s with r:=x } [wRes,tk x]):=by
 obtain⟨g,cap,e,hc1,_,hcell⟩:=h.pieces (by simp [wRes]);have c4:=h.cell4;have p0:=hcell 0 wRes rfl;rw [e] at c4;have hp:0 < ([wRes,tk x]:List (List UInt8)).length:=by simp [wRes]
 have k1:(0:Int) < (([wRes,tk x]:List (List UInt8)).length:Int):=by omega
 clear hp;have q0:((bs wRes).toList == ([114,101,115]:List UInt8))=true:=by rw [za1];decide
 have HC:=hid (res_val base b W s v x h h0 h1);generalize ([wRes,tk x]).length=NP at c4 k1;generalize bs wRes=S at p0 q0;clear h e hcell hc1;go_enter Tryz.func76,Tryz.ntmps76
 go_wp2_with (go_at_call 146;refine (HC.out).mono ?_;rintro e w2 ⟨rfl,HR,HF⟩;replace HR:=hid HR;replace HF:=hid HF)
 go_ret;exact⟨rfl,HR.out,HF.out⟩
theorem zDl (f:Nat→Int) (hbase:base≤W.heap.size) (h:RdAt base b W s (zfz f) v) (hf:∀ j,j < 11→0≤f j∧f j < 2147483648) (hn:s.ts.length≤1000):
  Calls Tryz.prog 76 #[qP b,.bool false] W (zpw base b W { s with ts:=s.ts ++ [f] } (zfz f)):=by
 obtain⟨g,cap,e,hc1,_,hcell⟩:=h.pieces (by simp [zfz]);have c4:=h.cell4;have p0:=hcell 0 zrm rfl;rw [e] at c4;have hp:0 < ((zfz f):List (List UInt8)).length:=by simp [zfz]
 have k1:(0:Int) < (((zfz f):List (List UInt8)).length:Int):=by omega
 clear hp;have q0:((bs zrm).toList == ([114,101,115]:List UInt8))=false:=by rw [za1];decide
 have q1:((bs zrm).toList == ([116,97,115,107]:List UInt8))=true:=by rw [za1];decide
 have HC:=hid (task_val base b W s v f hbase h hf hn);generalize ((zfz f)).length=NP at c4 k1;generalize bs zrm=S at p0 q0 q1;clear h e hcell hc1;go_enter Tryz.func76,Tryz.ntmps76
 go_wp2_with (go_at_call 147;refine (HC.out).mono ?_;rintro e w2 ⟨rfl,HR,HF⟩;replace HR:=hid HR;replace HF:=hid HF)
 go_ret;exact⟨rfl,HR.out,HF.out⟩
theorem zDm (t:Nat) (hbase:base≤W.heap.size) (h:RdAt base b W s (zdz t) v) (ht:t < 4294967296) (hn:s.ms.length≤1000):
  Calls Tryz.prog 76 #[qP b,.bool false] W (zpw base b W { s with ms:=s.ms ++ [(t,[])] } (zdz t)):=by
 obtain⟨g,cap,e,hc1,_,hcell⟩:=h.pieces (by simp [zdz]);have c4:=h.cell4;have p0:=hcell 0 zff rfl;rw [e] at c4;have hp:0 < ((zdz t):List (List UInt8)).length:=by simp [zdz]
 have k1:(0:Int) < (((zdz t):List (List UInt8)).length:Int):=by omega
 clear hp;have q0:((bs zff).toList == ([114,101,115]:List UInt8))=false:=by rw [za1];decide
 have q1:((bs zff).toList == ([116,97,115,107]:List UInt8))=false:=by rw [za1];decide
 have q2:((bs zff).toList == ([109,111,100,101]:List UInt8))=true:=by rw [za1];decide
 have HC:=hid (zBi base b W s v t hbase h ht hn);generalize ((zdz t)).length=NP at c4 k1;generalize bs zff=S at p0 q0 q1 q2;clear h e hcell hc1;go_enter Tryz.func76,Tryz.ntmps76
 go_wp2_with (go_at_call 148;refine (HC.out).mono ?_;rintro e w2 ⟨rfl,HR,HF⟩;replace HR:=hid HR;replace HF:=hid HF)
 go_ret;exact⟨rfl,HR.out,HF.out⟩
theorem zBx (f:Nat→Int) (ms0:List (Nat×List (Nat→Int))) (m:Nat×List (Nat→Int)) (hbase:base≤W.heap.size) (h:RdAt base b W s (zdd f) v) (hm:s.ms=ms0 ++ [m]) (h0:0≤f 0) (h1:f 0 < 2147483648) (h2:1≤f 1) (h3:f 1≤3) (hn:s.ms.length≤1000) (hmn:m.2.length≤1000):
  Calls Tryz.prog 76 #[qP b,.bool false] W (zpw base b W { s with ms:=ms0 ++ [(m.1,m.2 ++ [f])] } (zdd f)):=by
 obtain⟨g,cap,e,hc1,_,hcell⟩:=h.pieces (by simp [zdd]);have c4:=h.cell4;have p0:=hcell 0 zg9 rfl;rw [e] at c4;have hp:0 < ((zdd f):List (List UInt8)).length:=by simp [zdd]
 have k1:(0:Int) < (((zdd f):List (List UInt8)).length:Int):=by omega
 clear hp;have q0:((bs zg9).toList == ([114,101,115]:List UInt8))=false:=by rw [za1];decide
 have q1:((bs zg9).toList == ([116,97,115,107]:List UInt8))=false:=by rw [za1];decide
 have q2:((bs zg9).toList == ([109,111,100,101]:List UInt8))=false:=by rw [za1];decide
 have q3:((bs zg9).toList == ([113,117,101,117,101]:List UInt8))=true:=by rw [za1];decide
 have HC:=hid (zvt base b W s v f ms0 m hbase h hm h0 h1 h2 h3 hn hmn);generalize ((zdd f)).length=NP at c4 k1;generalize bs zg9=S at p0 q0 q1 q2 q3;clear h e hcell hc1;go_enter Tryz.func76,Tryz.ntmps76
 go_wp2_with (go_at_call 149;refine (HC.out).mono ?_;rintro e w2 ⟨rfl,HR,HF⟩;replace HR:=hid HR;replace HF:=hid HF)
 go_ret;exact⟨rfl,HR.out,HF.out⟩
theorem zDn (f:Nat→Int) (hbase:base≤W.heap.size) (h:RdAt base b W s (zfj f) v) (hf:∀ j,j < 23→0≤f j∧f j < 2147483648) (h2:1≤f 2) (h3:f 2≤3) (hn:s.es.length≤1000):
  Calls Tryz.prog 76 #[qP b,.bool false] W (zpw base b W { s with es:=s.es ++ [f] } (zfj f)):=by
 obtain⟨g,cap,e,hc1,_,hcell⟩:=h.pieces (by simp [zfj]);have c4:=h.cell4;have p0:=hcell 0 zmu rfl;rw [e] at c4;have hp:0 < ((zfj f):List (List UInt8)).length:=by simp [zfj]
 have k1:(0:Int) < (((zfj f):List (List UInt8)).length:Int):=by omega
 clear hp;have q0:((bs zmu).toList == ([114,101,115]:List UInt8))=false:=by rw [za1];decide
 have q1:((bs zmu).toList == ([116,97,115,107]:List UInt8))=false:=by rw [za1];decide
 have q2:((bs zmu).toList == ([109,111,100,101]:List UInt8))=false:=by rw [za1];decide
 have q3:((bs zmu).toList == ([113,117,101,117,101]:List UInt8))=false:=by rw [za1];decide
 have q4:((bs zmu).toList == ([101,100,103,101]:List UInt8))=true:=by rw [za1];decide
 have HC:=hid (zCa base b W s v f hbase h hf h2 h3 hn);generalize ((zfj f)).length=NP at c4 k1;generalize bs zmu=S at p0 q0 q1 q2 q3 q4;clear h e hcell hc1;go_enter Tryz.func76,Tryz.ntmps76
 go_wp2_with (go_at_call 150;refine (HC.out).mono ?_;rintro e w2 ⟨rfl,HR,HF⟩;replace HR:=hid HR;replace HF:=hid HF)
 go_ret;exact⟨rfl,HR.out,HF.out⟩
end
structure zzb (s:St) (d:zb8):Prop where
 res:d.k=0→0≤d.f 0∧d.f 0 < 2147483648
 task:d.k=1→(∀ j,j < 11→0≤d.f j∧d.f j < 2147483648)∧s.ts.length≤1000
 mode:d.k=2→d.t < 4294967296∧s.ms.length≤1000
 queue:d.k=3→(0≤d.f 0∧d.f 0 < 2147483648∧1≤d.f 1∧d.f 1≤3)∧s.ms.length≤1000∧∃ ms0 m,s.ms=ms0 ++ [m]∧m.2.length≤1000
 edge:d.k=4→(∀ j,j < 23→0≤d.f j∧d.f j < 2147483648)∧(1≤d.f 2∧d.f 2≤3)∧s.es.length≤1000
 k4:d.k≤4
theorem line_val (base b:Nat) (W:World) (s:St) (v:RdV) (d:zb8) (hbase:base≤W.heap.size) (h:RdAt base b W s d.ps v) (ok:zzb s d):
  Calls Tryz.prog 76 #[qP b,.bool (decide (d.k=0))] W (zpw base b W (s.step d) d.ps):=by
 obtain⟨k,f,t⟩:=d;have hk:=ok.k4;dsimp only at hk;obtain rfl|rfl|rfl|rfl|rfl:k=0∨k=1∨k=2∨k=3∨k=4:=by omega
 ·exact line_res (f 0) h (ok.res rfl).1 (ok.res rfl).2
 ·exact zDl f hbase h (ok.task rfl).1 (ok.task rfl).2
 ·exact zDm t hbase h (ok.mode rfl).1 (ok.mode rfl).2
 ·obtain⟨⟨h0,h1,h2,h3⟩,hn,ms0,m,hm,hmn⟩:=ok.queue rfl
  have e:s.step ⟨3,f,t⟩= { s with ms:=ms0 ++ [(m.1,m.2 ++ [f])] }:=by
   unfold St.step;simp [hm,zpu]
  rw [e];exact zBx f ms0 m hbase h hm h0 h1 h2 h3 hn hmn
 ·exact zDn f hbase h (ok.edge rfl).1 (ok.edge rfl).2.1.1 (ok.edge rfl).2.1.2 (ok.edge rfl).2.2
attribute [local go_sem] Oper.semAt_some
set_option maxRecDepth 100000
def KpB (b:Nat) (A C:World):Prop:=C.heap[b]? =A.heap[b]?
theorem KpB.t {b:Nat} {A C D:World} (h:KpB b A C) (k:KpB b C D):KpB b A D:=Eq.trans k h
theorem KpB.b {b n:Nat} (hb:b < n) (W:World) (l:Nat) (o o':Obj) (hl:n≤l) (_:W.heap[l]? =some o) (_:o.isCells=false) (_:o.isWalk=false):KpB b W (W.putObj l o'):=World.putObj_heap_other (by omega)
theorem KpB.below {b:Nat} {A C:World} (h:Below A.heap.size A C) (hb:b < A.heap.size):KpB b A C:=h.block b hb
def PcAt (l:List UInt8) (PS:List (List UInt8)) (i:Nat) (cur:List UInt8) (done:List (List UInt8)):Prop:=
 (i≤l.length∧PS=done ++ pcsF cur (l.drop i)∧cur.length≤i∧(l.drop (i - cur.length)).take cur.length=cur)∨(i=l.length+1∧PS=done∧cur=[])
def zwn (cur:List UInt8) (i:Nat):Int:=if cur=[] then -1 else (i:Int) - cur.length
theorem zw2 {l:List UInt8} {i:Nat} {c:UInt8} (h:l[i]? =some c):l.drop i=c :: l.drop (i+1):=by
 obtain⟨h1,h2⟩:=List.getElem?_eq_some_iff.1 h;rw [List.drop_eq_getElem_cons h1,h2]
theorem PcAt.word {l:List UInt8} {PS:List (List UInt8)} {i:Nat} {cur:List UInt8} {done:List (List UInt8)} (h:PcAt l PS i cur done) {c:UInt8} (hc:l[i]? =some c) (h32:c≠32):PcAt l PS (i+1) (cur ++ [c]) done:=by
 have hlt:=(List.getElem?_eq_some_iff.1 hc).1;rcases h with ⟨h1,h2,h3,h4⟩|⟨h1,_,_⟩
 ·rw [zw2 hc,pcsF,if_neg h32] at h2
  refine .inl ⟨hlt,h2,by simp;omega,?_⟩;rw [List.length_append,List.length_singleton,show i+1 - (cur.length+1)=i - cur.length by omega,List.take_add_one,h4,List.getElem?_drop,show i - cur.length+cur.length=i by omega,hc];rfl
 ·omega
theorem PcAt.gap {l:List UInt8} {PS:List (List UInt8)} {i:Nat} {done:List (List UInt8)} (h:PcAt l PS i [] done) (hc:l[i]? =some 32):PcAt l PS (i+1) [] done:=by
 have hlt:=(List.getElem?_eq_some_iff.1 hc).1;rcases h with ⟨h1,h2,h3,h4⟩|⟨h1,_,_⟩
 ·rw [zw2 hc,pcsF,if_pos rfl,if_pos rfl] at h2
  exact .inl ⟨hlt,h2,by simp,by simp⟩
 ·omega
theorem PcAt.piece {l:List UInt8} {PS:List (List UInt8)} {i:Nat} {cur:List UInt8} {done:List (List UInt8)} (h:PcAt l PS i cur done) (hc:l[i]? =some 32) (hn:cur≠[]):PcAt l PS (i+1) [] (done ++ [cur]):=by
 have hlt:=(List.getElem?_eq_some_iff.1 hc).1;rcases h with ⟨h1,h2,h3,h4⟩|⟨h1,_,_⟩
 ·rw [zw2 hc,pcsF,if_pos rfl,if_neg hn] at h2
  exact .inl ⟨hlt,by rw [h2];simp,by simp,by simp⟩
 ·omega
theorem PcAt.gapEnd {l:List UInt8} {PS:List (List UInt8)} {done:List (List UInt8)} (h:PcAt l PS l.length [] done):PcAt l PS (l.length+1) [] done:=by
 rcases h with ⟨h1,h2,h3,h4⟩|⟨h1,_,_⟩
 ·rw [List.drop_length,pcsF,if_pos rfl,List.append_nil] at h2
  exact .inr ⟨rfl,h2,rfl⟩
 ·omega
theorem PcAt.pieceEnd {l:List UInt8} {PS:List (List UInt8)} {cur:List UInt8} {done:List (List UInt8)} (h:PcAt l PS l.length cur done) (hn:cur≠[]):PcAt l PS (l.length+1) [] (done ++ [cur]):=by
 rcases h with ⟨h1,h2,h3,h4⟩|⟨h1,_,_⟩
 ·rw [List.drop_length,pcsF,if_neg hn] at h2
  exact .inr ⟨rfl,h2,rfl⟩
 ·omega
theorem PcAt.pre {l:List UInt8} {PS:List (List UInt8)} {i:Nat} {cur:List UInt8} {done:List (List UInt8)} (h:PcAt l PS i cur done):done <+:PS:=by
 rcases h with ⟨_,h2,_,_⟩|⟨_,h2,_⟩
 ·exact⟨_,h2.symm⟩
 ·rw [h2];exact List.prefix_rfl
def encP (x:Nat×List UInt8):Array Value:=#[qI (x.1:Nat),.string (bs x.2)]
def FitP (PS:List (List UInt8)) (pre:List (Nat×List UInt8)) (x:Nat×List UInt8):Prop:=x.1=pre.length∧(pre ++ [x]).map (·.2) <+:PS
theorem zvx (n:Nat) (hn:1≤n) (Bc:Nat) (l:List UInt8) (PS:List (List UInt8)) (hPS:pcsF [] l=PS) (hlen:l.length≤100000) (w:World) (hc:Boxed w Bc 9 (.string (bs l))):
  SeqA Fence.wide n Tryz.prog 145 #[qP Bc] encP (KpB Bc) (fun _ _=>False) (FitP PS) (fun xs=>xs.map (·.2)=PS) w:=by
 intro lb J W hW hoJ _ hY h0;have hcW:Boxed W Bc 9 (.string (bs l)):=(hW.block Bc hc.lt).trans hc;obtain⟨S,hS⟩:∃ S,bs l=S:=⟨_,rfl⟩;have HG:=hid fun (i:Nat) (c:UInt8) (h:l[i]? =some c)=>zy2 h;have HX:=hid fun i j=>zif l i j;have hsz:=zhw l;rw [hS] at HG HX hsz hcW;obtain⟨L,hL⟩:∃ L,l.length=L:=⟨_,rfl⟩;rw [hL] at hsz hlen;have HL:=hid hL;have HC:=hid hcW;have HP0:=hid (show PcAt l PS 0 [] [] from .inl ⟨Nat.zero_le _,by rw [←hPS];rfl,by simp,by simp⟩);clear hS hL hPS hc hcW;refine callsIn_of_wp Tryz.func145 rfl trivial ?_ rfl;simp only [Tryz.ntmps145,qPr,Nat.reduceAdd,Nat.reduceSub]
 gi_wp2
 gi_loopw [3,4,5] (fun n_ f_ i_ wr=>∃ (i:Nat) (cur:List UInt8) (pre:List (Nat×List UInt8)) (f:Int),i≤L+1∧i_=qI i∧n_=qI (pre.length:Nat)∧f_=qI f∧Hid (f=zwn cur i)∧Hid (PcAt l PS i cur (pre.map (·.2)))∧Hid (pre.length≤i)∧Hid (Boxed wr Bc 9 (.string S))∧Hid (J pre wr)) (fun _ _ i_ _=>L+2 - (intOf i_).toNat)
 case atStart=>exact⟨0,[],[],-1,by omega,by go_num,rfl,rfl,rfl,HP0,Nat.le_refl _,HC,h0⟩
 case round=>
  clear HP0 HC h0;obtain⟨i,cur,pre,f,hi,rfl,rfl,rfl,hf,HP,HN,HC,HJ⟩:=hrel;have hcell:=HC.out.cell;by_cases hle:i≤L
  ·have t0:decide ((i:Int)≤(L:Int))=true:=by simp;omega
   have hpn:=HN.out;by_cases hlt:i < L
   ·have t1:decide ((i:Int) < (L:Int))=true:=by simp;omega
    obtain⟨c,hc⟩:∃ c,l[i]? =some c:=⟨_,List.getElem?_eq_getElem (by rw [HL.out];exact hlt)⟩;have hgi:=HG.out i c hc;have k0:(0:Int)≤(i:Int):=by omega
    have k1:(i:Int) < (L:Int):=by omega
    by_cases h32:c=32
    ·subst h32
     have t2:(((32:UInt8).toNat:Int) != 32)=false:=by decide
     by_cases hcu:cur=[]
     ·subst hcu
      obtain rfl:f= -1:=hf.out;have HP1:=hid (HP.out.gap hc);clear hc
      gi_wp2
      go_roundw
      case rel=>exact⟨i+1,[],pre,-1,by omega,by go_num,rfl,rfl,rfl,HP1,by unfold Hid;omega,HC,HJ⟩
      case measure=>simp [intOf];omega
     ·obtain⟨f0,hf0⟩:∃ f0:Nat,i - cur.length=f0:=⟨_,rfl⟩
      have hcl:cur.length≤i∧(l.drop f0).take cur.length=cur:=by
       rcases HP.out with ⟨_,_,h3,h4⟩|⟨h1,_,_⟩
       ·rw [hf0] at h4;exact⟨h3,h4⟩
       ·have:=HL.out;omega
      have hcp:0 < cur.length:=List.length_pos_iff.2 hcu;have hff:f=(f0:Int):=by rw [hf.out];unfold zwn;rw [if_neg hcu];omega
      rw [hff];have hex:S.extract f0 i=bs cur:=by rw [HX.out f0 i,show i - f0=cur.length by omega,hcl.2]
      have HP1:=hid (HP.out.piece hc hcu);have HQ:=hid (show PcAt l PS (i+1) [] ((pre ++ [((pre.length,cur):Nat×List UInt8)]).map (·.2)) by rw [List.map_append];exact HP1.out);have t3:decide ((0:Int)≤(f0:Int))=true:=by simp
      have k2:(0:Int)≤(f0:Int):=by omega
      have k3:(f0:Int)≤(i:Int):=by omega
      have k4:(i:Int)≤(L:Int):=by omega
      obtain⟨fn,tmps,assign,body,hy,hR⟩:=hY pre (pre.length,cur) wr HJ.out ⟨rfl,HQ.out.pre⟩;unfold encP at hy;dsimp only at hy;obtain⟨P,hP⟩:∃ P,bs cur=P:=⟨_,rfl⟩;rw [hP] at hy hex;clear hP hcl hff hc hcp
      gi_wp2_with (refine hR.mono ?_;clear hR;rintro e W3 ⟨rfl,hJ3,hk3,hs3⟩;have HC3:=hid (show Boxed W3 Bc 9 (.string S) from (show W3.heap[Bc]? =wr.heap[Bc]? from hk3).trans HC.out);have hc3:=HC3.out.cell)
      go_roundw
      case rel=>exact⟨i+1,[],pre ++ [(pre.length,cur)],-1,by omega,by go_num,by simp,rfl,rfl,HQ,by unfold Hid;rw [List.length_append];exact Nat.succ_le_succ hpn,HC3,hJ3⟩
      case measure=>simp [intOf];omega
    ·have t2:((c.toNat:Int) != 32)=true:=by
      have:c.toNat≠32:=fun h=>h32 (UInt8.toNat_inj.1 h);simp;omega
     have HP1:=hid (HP.out.word hc h32);by_cases hcu:cur=[]
     ·subst hcu
      obtain rfl:f= -1:=hf.out;clear hc
      gi_wp2
      go_roundw
      case rel=>exact⟨i+1,[c],pre,(i:Int),by omega,by go_num,rfl,rfl,by unfold Hid;simp [zwn],HP1,by unfold Hid;omega,HC,HJ⟩
      case measure=>simp [intOf];omega
     ·have hcl:cur.length≤i:=by
       rcases HP.out with ⟨_,_,h3,_⟩|⟨h1,_,_⟩
       ·exact h3
       ·have:=HL.out;omega
      have hf2:=hid (show f=zwn (cur ++ [c]) (i+1) by rw [hf.out];unfold zwn;rw [if_neg hcu,if_neg (by simp)];simp;omega);have t3:decide (f < 0)=false:=by rw [hf.out];unfold zwn;rw [if_neg hcu];simp;omega
      clear hc hcl
      gi_wp2
      go_roundw
      case rel=>exact⟨i+1,cur ++ [c],pre,f,by omega,by go_num,rfl,rfl,hf2,HP1,by unfold Hid;omega,HC,HJ⟩
      case measure=>simp [intOf];omega
   ·have hiL:i=L:=by omega
    have t1:decide ((i:Int) < (L:Int))=false:=by simp;omega
    by_cases hcu:cur=[]
    ·subst hcu
     obtain rfl:f= -1:=hf.out;have HP1:=hid (show PcAt l PS (i+1) [] (pre.map (·.2)) by have:=HP.out;rw [hiL,←HL.out] at this ⊢;exact this.gapEnd);clear hiL
     gi_wp2
     go_roundw
     case rel=>exact⟨i+1,[],pre,-1,by omega,by go_num,rfl,rfl,rfl,HP1,by unfold Hid;omega,HC,HJ⟩
     case measure=>simp [intOf];omega
    ·have HPE:=hid (show PcAt l PS (i+1) [] (pre.map (·.2) ++ [cur]) by have:=HP.out;rw [hiL,←HL.out] at this ⊢;exact this.pieceEnd hcu)
     clear hiL;obtain⟨f0,hf0⟩:∃ f0:Nat,i - cur.length=f0:=⟨_,rfl⟩;have hcl:cur.length≤i∧(l.drop f0).take cur.length=cur:=by
      rcases HP.out with ⟨_,_,h3,h4⟩|⟨h1,_,_⟩
      ·rw [hf0] at h4;exact⟨h3,h4⟩
      ·have:=HL.out;omega
     have hcp:0 < cur.length:=List.length_pos_iff.2 hcu;have hff:f=(f0:Int):=by rw [hf.out];unfold zwn;rw [if_neg hcu];omega
     rw [hff];have hex:S.extract f0 i=bs cur:=by rw [HX.out f0 i,show i - f0=cur.length by omega,hcl.2]
     have HP1:=hid (HPE.out);have HQ:=hid (show PcAt l PS (i+1) [] ((pre ++ [((pre.length,cur):Nat×List UInt8)]).map (·.2)) by rw [List.map_append];exact HP1.out);have t3:decide ((0:Int)≤(f0:Int))=true:=by simp
     have k2:(0:Int)≤(f0:Int):=by omega
     have k3:(f0:Int)≤(i:Int):=by omega
     have k4:(i:Int)≤(L:Int):=by omega
     obtain⟨fn,tmps,assign,body,hy,hR⟩:=hY pre (pre.length,cur) wr HJ.out ⟨rfl,HQ.out.pre⟩;unfold encP at hy;dsimp only at hy;obtain⟨P,hP⟩:∃ P,bs cur=P:=⟨_,rfl⟩;rw [hP] at hy hex;clear hP hcl hff hcp
     gi_wp2_with (refine hR.mono ?_;clear hR;rintro e W3 ⟨rfl,hJ3,hk3,hs3⟩;have HC3:=hid (show Boxed W3 Bc 9 (.string S) from (show W3.heap[Bc]? =wr.heap[Bc]? from hk3).trans HC.out);have hc3:=HC3.out.cell)
     go_roundw
     case rel=>exact⟨i+1,[],pre ++ [(pre.length,cur)],-1,by omega,by go_num,by simp,rfl,rfl,HQ,by unfold Hid;rw [List.length_append];exact Nat.succ_le_succ hpn,HC3,hJ3⟩
     case measure=>simp [intOf];omega
  ·have t0:decide ((i:Int)≤(L:Int))=false:=by simp;omega
   have HE:=hid (show pre.map (·.2)=PS by
    rcases HP.out with ⟨h1,_,_,_⟩|⟨_,h2,_⟩
    ·have:=HL.out;omega
    ·exact h2.symm)
   gi_wp2
   go_end0
   exact⟨⟨_,rfl⟩,pre,HE.out,HJ.out⟩
end Go.Proofs.YtpbmmoneeoijaaaGreatDoor
