/-
  A part of the proof: MigMake MigSmall MigGreat MigWays MigAll MigMap.
-/
import Derived.Test.YtpbmmoneeoijaaaGreatDoorP29
import Derived.RangeFuncWrites
import Derived.Maps.Own
import Derived.Maps.OwnOps
import Derived.Maps.OwnSet
import Derived.Maps.OwnIn
import Derived.Maps.Views
import Derived.Sort.MapsRangeIn
namespace Go.Proofs.YtpbmmoneeoijaaaGreatDoor
open Go.RowKit
def fresh (g:Nat→Nat→Int) (i:Nat):QSt:=⟨(g i 0).toNat,g i 1,.slice none 0 0,[],0⟩
def zvz (g:Nat→Nat→Int) (n:Nat) (w:World) (e:Ending) (w':World):Prop:=
 ∃ P v,e=.returned (.tuple #[v,.int .i64 0])∧w'.ownsRow w.heap.size 160 1 v n (ptrs P n)∧Qs w' w.heap.size n P (fresh g)∧Below w.heap.size w w'
theorem QAt.base {W:World} {b b' p:Nat} {cap pol d:Int} {v:Value} {xs:List Int} (h:QAt W b p cap pol v xs d) (hb:b'≤b):QAt W b' p cap pol v xs d:=⟨h.blk,zkt h.row hb,Nat.le_trans hb h.low⟩
theorem one_val (W:World) (u:Value) (t:TypeId):∀ (j:Nat) (x:Value),[u][j]? =some x→(W.alloc (Obj.cells #[u] t)).cell? ((⟨W.heap.size,0,none⟩:Addr).add j)=some x:=fun j x hj=>by
 rw [za8,Nat.zero_add,World.cell?_alloc_at _ _ _ _ rfl];simpa using hj
set_option maxRecDepth 100000 in
set_option maxHeartbeats 1000000 in
theorem zqz (ao:Option Addr) (n ca:Nat) (g:Nat→Nat→Int) (w:World) (hT:Sets w ao n g) (hR:zvw n g):
  Calls Tryz.prog 107 #[.slice ao n ca] w fun e w'=>zvz g n w e w':=by
 obtain⟨i0,hi,hz0,hz1,hz2⟩:=info_parts infoQp;obtain⟨hn,hR⟩:=hR;have HT:=hid hT;have HR:=hid hR;have t9:decide ((4:Int) < (n:Int))=false:=by simp;omega
 have HQ0:Hid (Qs w w.heap.size 0 (fun _=>0) (fresh g)):=⟨fun i hi=>by omega,fun i j hi=>by omega,fun i j hi=>by omega⟩;clear hT hR;go_enter Tryz.func107,Tryz.ntmps107;go_wp2
 go_loopw [4,7,8,14] (fun v _ _ i wr=>∃ (k:Nat) (P:Nat→Nat),k≤n∧i=.int .i64 k∧Hid (wr.ownsRow w.heap.size 160 1 v k (ptrs P k))∧Hid (Qs wr w.heap.size k P (fresh g))∧Hid (Below w.heap.size w wr)) (fun _ _ _ i _=>n - (intOf i).toNat)
 case atStart=>exact⟨0,fun _=>0,by omega,rfl,World.ownsRow_nil _ _ _ _,HQ0,Below.refl _ _⟩
 case round=>
  clear HQ0;obtain⟨k,P,hk,rfl,HO,HQ,HB⟩:=hrel;by_cases hlt:k < n
  ·have t0:decide ((k:Int) < (n:Int))=true:=by simp;omega
   obtain⟨b,o,rfl,c0,c1⟩:=(HT.out.below HB.out) k hlt;have HRk:=HR.out k hlt;have hcap:=(zgk.1 HRk).1;have HF:Hid (((fresh g k).cap:Int)=g k 0):=by
    show (((g k 0).toNat:Nat):Int)=g k 0;omega
   have i0':(0:Int)≤(k:Int):=by omega
   have i1:(k:Int) < (n:Int):=by omega
   have BA:=HB.out.alloc HB.out.size (Obj.cells #[.int .i64 (g k 0),.int .i64 (g k 1)] 74);have HOA:=HO.out.alloc (Obj.cells #[.int .i64 (g k 0),.int .i64 (g k 1)] 74);have HQA:=HQ.out.below (((Below.refl wr.heap.size wr).alloc (Nat.le_refl _) (Obj.cells #[.int .i64 (g k 0),.int .i64 (g k 1)] 74)));have HBA:=hid BA;have HOA':=hid HOA;have HQA':=hid HQA;clear BA HOA HQA
   go_wp2_with fail
   refine (new_good (g k 0) (g k 1) _ HRk).mono ?_;rintro e w2 ⟨p,rfl,q2,b2⟩;have HB2:=hid (HBA.out.trans (b2.mono HBA.out.size));have HO2:=hid (zfv HOA'.out (Save.of_below b2 fun _=>False) fun _ _=>id);have HQ2:=HQA'.out.below b2;have HQ3:=HQ2.snoc (p:=p) (s:=fresh g k) (by
    show QAt w2 w.heap.size p ((fresh g k).cap:Int) (g k 1) (.slice none 0 0) [] 0;rw [HF.out];exact q2.base HBA.out.size) (fun i hi e=>by
     have h1:=(HQA'.out.at_ i hi).lt;have h2:=q2.low;omega) (fun i hi g' _ e=>by cases e)
   have HQ4:=hid (HQ3.congr (P':=putN P k p) (q':=fresh g) (fun _ _=>rfl) (fun i hi=>by
    by_cases hik:i=k
    ·subst hik;rw [zbm]
    ·rw [zbf _ _ hik]))
   have hsz:=HB2.out.size;clear q2 b2 HQ2 HQ3 HOA' HQA' HBA HO HQ HB
   go_wp2_with (at_builtin;refine wpList_append_own _ rfl _ _ 146 rfl w.heap.size 160 i0 (.pointer none) 1 8 Tryz.underlying146 hi hz0 hz1 hz2 rfl (by decide) u4 k _ rfl (HO2.out.alloc _) ⟨w2.heap.size,0,none⟩ 1 1 [.pointer (some ⟨p,0,none⟩)] rfl rfl (one_val _ _ _) (by simp [Value.oneCell']) (by unfold maxLen;omega) (by omega) (by simp;omega) ?_;intro v' w3 hown3 hgrow3 _;have HO3:=hid hown3;have HQ5:=hid (((HQ4.out.below ((Below.refl w2.heap.size w2).alloc (Nat.le_refl _) _)).grown (HO2.out.alloc _) (by decide) hgrow3));have HB3:=hid ((HB2.out.alloc hsz _).grown hgrow3 (by simp;omega) fun j hj=>(HO2.out.lt j hj).1);clear hown3 hgrow3)
   go_roundw
   case rel=>exact⟨k+1,putN P k p,by omega,by go_num,by rw [zzr];exact HO3.out,HQ5,HB3⟩
   case measure=>simp [intOf];omega
  ·obtain rfl:k=n:=by omega
   have t0:decide ((k:Int) < (k:Int))=false:=by simp
   go_wp2;go_ret2;exact⟨P,_,rfl,HO.out,HQ.out,HB.out⟩
def bec (m:Nat→Int) (tq9 i:Nat):Option Nat:=if i < 4∧1≤m i∧m i≤(tq9:Int) then some (m i - 1).toNat else none
def becI (m:Nat→Int) (tq9 i:Nat):Int:=match bec m tq9 i with|some j=>(j:Int)|none=>-1
def arr4 (m:Nat→Int):Value:=.agg #[.int .i64 (m 0),.int .i64 (m 1),.int .i64 (m 2),.int .i64 (m 3)]
def box4 (m:Nat→Int):Obj:=.cells #[.int .i64 (m 0),.int .i64 (m 1),.int .i64 (m 2),.int .i64 (m 3)] 174
theorem bec_some {m:Nat→Int} {tq9 i:Nat} (h:i < 4∧1≤m i∧m i≤(tq9:Int)):bec m tq9 i=some (m i - 1).toNat∧becI m tq9 i=m i - 1:=by
 have e:bec m tq9 i=some (m i - 1).toNat:=if_pos h;refine⟨e,?_⟩;unfold becI;rw [e];show (((m i - 1).toNat:Nat):Int)=_;omega
theorem zvo {m:Nat→Int} {tq9 i:Nat} (h:¬ (i < 4∧1≤m i∧m i≤(tq9:Int))):bec m tq9 i=none∧becI m tq9 i= -1:=by
 have e:bec m tq9 i=none:=if_neg h;refine⟨e,?_⟩;unfold becI;rw [e]
theorem zBk {m:Nat→Int} {tq9 i j:Nat} (h:bec m tq9 i=some j):j < tq9:=by
 unfold bec at h
 split at h
 ·rename_i h1
  cases h;omega
 ·cases h
def Dup (m:Nat→Int) (n tq9:Nat):Prop:=∃ i k j,k < i∧i < n∧bec m tq9 i=some j∧bec m tq9 k=some j
structure MRow where
 ao:Option Addr
 cap:Nat
 xs:List Int
def mv (r:MRow):Value:=.slice r.ao r.xs.length r.cap
end Go.Proofs.YtpbmmoneeoijaaaGreatDoor
namespace Go.Proofs.YtpbmmoneeoijaaaGreatDoor
open Go.RowKit Go.Shelf
attribute [local go_sem] Oper.semAt_some
abbrev Way (m:Nat→Int) (n tq9:Nat):={ x:Nat×Nat // bec m tq9 x.1=some x.2∧x.1 < n }
theorem zjc {m:Nat→Int} {tq9 i j:Nat} (h:bec m tq9 i=some j):i < 4:=by
 unfold bec at h
 split at h
 ·rename_i h1;exact h1.1
 ·cases h
def zcg (m:Nat→Int) (n tq9:Nat):Nat→List (Way m n tq9)
 |0=>[]
 |k+1=>zcg m n tq9 k ++ (if h:k < n∧(bec m tq9 k).isSome then [⟨(k,(bec m tq9 k).get h.2),by simp,h.1⟩] else [])
theorem zk6 {m:Nat→Int} {n tq9 k j:Nat} (hk:k < n) (hj:bec m tq9 k=some j):zcg m n tq9 (k+1)=zcg m n tq9 k ++ [⟨(k,j),hj,hk⟩]:=by
 rw [zcg,dif_pos ⟨hk,by rw [hj];rfl⟩]
 congr
 simp [hj]
theorem zif {m:Nat→Int} {n tq9 k:Nat} (h:¬ (k < n∧(bec m tq9 k).isSome)):zcg m n tq9 (k+1)=zcg m n tq9 k:=by
 rw [zcg,dif_neg h,List.append_nil]
theorem ziu {m:Nat→Int} {n tq9:Nat} (x:Way m n tq9) (k:Nat):x∈zcg m n tq9 k↔x.1.1 < k:=by
 induction k with
 |zero=>simp [zcg]
 |succ k ih=>
  by_cases h:k < n∧(bec m tq9 k).isSome
  ·obtain⟨hk,hs⟩:=h
   obtain⟨j,hj⟩:=Option.isSome_iff_exists.1 hs;rw [zk6 hk hj,List.mem_append,ih,List.mem_singleton];constructor
   ·rintro (h|rfl)
    ·omega
    ·exact Nat.lt_succ_self _
   ·intro h
    rcases (show x.1.1 < k∨x.1.1=k by omega) with h1|h1
    ·exact .inl h1
    ·right
     obtain⟨⟨a,b⟩,hx1,hx2⟩:=x;simp only at h1 hx1;subst h1;rw [hj] at hx1;cases hx1;rfl
  ·rw [zif h,ih]
   constructor
   ·omega
   ·intro h1
    rcases (show x.1.1 < k∨x.1.1=k by omega) with h2|h2
    ·exact h2
    ·exfalso
     refine h ⟨by have:=x.2.2;omega,?_⟩;rw [←h2,x.2.1];rfl
theorem ways_len (m:Nat→Int) (n tq9 k:Nat):(zcg m n tq9 k).length≤k:=by
 induction k with
 |zero=>exact Nat.le_refl _
 |succ k ih=>
  rw [zcg,List.length_append]
  split<;>simp<;>omega
theorem zr4 (m:Nat→Int) (n tq9 k:Nat):(zcg m n tq9 k).Pairwise fun a b=>a.1.1 < b.1.1:=by
 induction k with
 |zero=>exact List.Pairwise.nil
 |succ k ih=>
  by_cases h:k < n∧(bec m tq9 k).isSome
  ·obtain⟨j,hj⟩:=Option.isSome_iff_exists.1 h.2
   rw [zk6 h.1 hj];refine List.pairwise_append.2 ⟨ih,List.pairwise_singleton _ _,fun a ha b hb=>?_⟩;rw [List.mem_singleton] at hb;subst hb;exact (ziu a k).1 ha
  ·rw [zif h];exact ih
theorem zr5 (m:Nat→Int) (n tq9:Nat) {k l:Nat} (h:k≤l):zcg m n tq9 k <+:zcg m n tq9 l:=by
 induction l with
 |zero=>
      obtain rfl:k=0:=by omega
      exact List.prefix_refl _
 |succ l ih=>
  rcases (show k≤l∨k=l+1 by omega) with h1|rfl
  ·exact (ih h1).trans (by rw [zcg];exact List.prefix_append _ _)
  ·exact List.prefix_refl _
def KpB (bs:List Nat) (W W':World):Prop:=W.heap.size≤W'.heap.size∧∀ b,b∈bs→∀ o,W.heap[b]? =some o→o.isCells=true→W'.heap[b]? =some o
theorem KpB.t {bs:List Nat} {A B C:World} (h:KpB bs A B) (k:KpB bs B C):KpB bs A C:=⟨Nat.le_trans h.1 k.1,fun a e o ho hc=>k.2 a e o (h.2 a e o ho hc) hc⟩
theorem KpB.boxed {bs:List Nat} {A B:World} {b:Nat} {t:TypeId} {v:Value} (k:KpB bs A B) (hb:b∈bs) (h:Boxed A b t v):Boxed B b t v:=k.2 b hb _ h rfl
theorem kpB_b {n₀:Nat} {bs:List Nat} (W:World) (l:Nat) (o o':Obj) (_hl:n₀≤l) (h:W.heap[l]? =some o) (hc:o.isCells=false) (_hw:o.isWalk=false):KpB bs W (W.putObj l o'):=by
 refine⟨by simp [World.putObj],fun b _ x hx hxc=>?_⟩;by_cases e:b=l
 ·subst e;rw [h] at hx;cases hx;rw [hc] at hxc;cases hxc
 ·exact (World.putObj_heap_other e).trans hx
theorem ways_any (m:Nat→Int) (n tq9:Nat) (w:World):Calls Tryz.prog 263 #[arr4 m,.int .i64 n,.int .i64 tq9] w fun e w'=>e=.returned (.func (.func 301) #[] #[.pointer (some ⟨w.heap.size,0,none⟩),.pointer (some ⟨w.heap.size+1,0,none⟩),.pointer (some ⟨w.heap.size+1+1,0,none⟩)])∧((w.alloc (box4 m)).alloc (.cells #[.int .i64 n] 3)).alloc (.cells #[.int .i64 tq9] 3)=w':=by
 unfold arr4 box4;go_enter Tryz.func263,Tryz.ntmps263;go_wp2;go_ret;exact⟨rfl,rfl⟩
theorem zxz (m:Nat→Int) (k:Nat) (X:World) (h:k < 4):Sem.run Tryz.prog (Instr.index 174 (.agg #[.int .i64 (m 0),.int .i64 (m 1),.int .i64 (m 2),.int .i64 (m 3)]) (.int .i64 (k:Int))) X=.ok (.int .i64 (m k)) X:=by
 rcases k with _|_|_|_|k
 all_goals first|(exfalso;omega)|kernel_rfl
set_option maxRecDepth 100000 in
set_option maxHeartbeats 1000000 in
theorem ways1_in (f:Nat) (hf:2≤f) (B0 B1 B2:Nat) (m:Nat→Int) (n tq9:Nat) (w:World) (_hn:n≤1000) (hto:tq9≤1000) (hm:∀ i,(Lit.int .i64 (m i)).wf=true) (h0:w.heap[B0]? =some (box4 m)) (h1:Boxed w B1 3 (.int .i64 n)) (h2:Boxed w B2 3 (.int .i64 tq9)):
  SeqStopsK Fence.wide f Tryz.prog 301 #[.pointer (some ⟨B0,0,none⟩),.pointer (some ⟨B1,0,none⟩),.pointer (some ⟨B2,0,none⟩)] (fun x:Way m n tq9=>#[.int .i64 x.1.1,.int .i64 x.1.2]) (KpB [B0,B1,B2]) (fun ys=>ys=zcg m n tq9 4) (fun pre=>pre <+:zcg m n tq9 4) 4 w:=by
 intro l J Jx W hW hJ hJx hY hs0;refine callsIn_of_wp Tryz.func301 rfl trivial ?_ rfl;simp only [Tryz.ntmps301,List.size_toArray,List.length_cons,List.length_nil,Nat.reduceAdd,Nat.reduceSub,Array.replicate_succ,Array.replicate_zero,List.push_toArray,List.append_toArray,List.nil_append,List.cons_append];have hf1:1≤f:=by omega
 have g0:W.heap[B0]? =some (box4 m):=zaj h0 (Save.of_below hW fun _=>False) id;have g1:Boxed W B1 3 (.int .i64 n):=zaj h1 (Save.of_below hW fun _=>False) id;have g2:Boxed W B2 3 (.int .i64 tq9):=zaj h2 (Save.of_below hW fun _=>False) id;have HJ0:Hid (J (zcg m n tq9 0) W):=hs0;have G0:=hid g0;have G1:=hid g1;have G2:=hid g2;have a0:=zaa g0 0;have a1:=zaa g0 1;have a2:=zaa g0 2;have a3:=zaa g0 3;have a0:W.cell? ⟨B0,0,none⟩=some (.int .i64 (m 0)):=a0;have a1:W.cell? ⟨B0,1,none⟩=some (.int .i64 (m 1)):=a1;have a2:W.cell? ⟨B0,2,none⟩=some (.int .i64 (m 2)):=a2;have a3:W.cell? ⟨B0,3,none⟩=some (.int .i64 (m 3)):=a3;clear g0 g1 g2 hs0 h0 h1 h2
 gi_wp2
 clear a0 a1 a2 a3
 gi_loopw [5,6,8] (fun _ _ i wr=>∃ k:Nat,k≤4∧i=.int .i64 k∧Hid (J (zcg m n tq9 k) wr)∧Hid (Boxed wr B1 3 (.int .i64 n))∧Hid (Boxed wr B2 3 (.int .i64 tq9))∧W.heap.size≤wr.heap.size) (fun _ _ i _=>4 - (intOf i).toNat)
 case atStart=>exact⟨0,Nat.zero_le _,rfl,HJ0,G1,G2,Nat.le_refl _⟩
 case round=>
  clear HJ0 G1 G2;obtain⟨k,hk,rfl,HJ,G1,G2,hsz⟩:=hrel;by_cases hlt:k < 4
  ·have t0:decide ((k:Int) < 4)=true:=by simp;omega
   have c1:=G1.out.cell;have c2:=G2.out.cell;have hidx:=zxz m k wr hlt;have hwf:=hm k;have i0':(0:Int)≤(k:Int):=by omega
   by_cases hkn:k < n
   ·have t1:decide ((k:Int) < (n:Int))=true:=by simp;omega
    by_cases hm1:1≤m k
    ·by_cases hm2:m k≤(tq9:Int)
     ·have t3:decide (m k≤(tq9:Int))=true:=by simp;omega
      have hb:=(bec_some (m:=m) (tq9:=tq9) (i:=k) ⟨hlt,hm1,hm2⟩).1;have HU:=hid (zk6 (n:=n) hkn hb);have HP:Hid (zcg m n tq9 (k+1) <+:zcg m n tq9 4):=zr5 m n tq9 (by omega);have HL:(zcg m n tq9 k).length < 4:=by have:=ways_len m n tq9 k;omega
      obtain⟨x,hx⟩:∃ x:Way m n tq9,x=⟨(k,(m k - 1).toNat),hb,hkn⟩:=⟨_,rfl⟩;have hx1:x.1.1=k:=by rw [hx]
      have hx2:((x.1.2:Nat):Int)=m k - 1:=by rw [hx];show (((m k - 1).toNat:Nat):Int)=_;omega
      rw [←hx] at HU;obtain⟨fn,tmps,assign,body,hy,hR⟩:=hY _ x wr HJ.out HL;rw [hx1,hx2] at hy;have hw1:wrap64 (m k - 1)=m k - 1:=by unfold wrap64;omega
      clear hx hb hx1 hx2
      gi_wp2
      refine hR.mono ?_;rintro e W3 (⟨rfl,hJ3,hk3⟩|⟨rfl,hJx3⟩)
      ·have G1':=hid (hk3.boxed (by simp) G1.out)
       have G2':=hid (hk3.boxed (by simp) G2.out)
       gi_wp2
       go_roundw
       case rel=>exact⟨k+1,by omega,by go_num,by rw [HU.out];exact hJ3,G1',G2',Nat.le_trans hsz hk3.1⟩
       case measure=>simp [intOf];omega
      ·gi_wp2
       refine bodyPost_ret (results_none rfl _ _ _) rfl ?_;exact⟨⟨_,rfl⟩,.inr ⟨_,by rw [←HU.out];exact HP.out,hJx3⟩⟩
     ·have t3:decide (m k≤(tq9:Int))=false:=by simp;omega
      have HU:Hid (zcg m n tq9 (k+1)=zcg m n tq9 k):=zif (by rintro⟨_,h⟩;rw [(zvo (m:=m) (tq9:=tq9) (i:=k) (fun h=>hm2 h.2.2)).1] at h;cases h);clear hm2
      gi_wp2
      refine⟨fun f h=>(by cases h),?_⟩
      gi_wp2
      go_roundw
      case rel=>exact⟨k+1,by omega,by go_num,by rw [HU.out];exact HJ,G1,G2,hsz⟩
      case measure=>simp [intOf];omega
    ·have hm1':m k < 1:=by omega
     have t3:decide (1≤m k)=false:=by simp;omega
     have HU:Hid (zcg m n tq9 (k+1)=zcg m n tq9 k):=zif (by rintro⟨_,h⟩;rw [(zvo (m:=m) (tq9:=tq9) (i:=k) (fun h=>hm1 h.2.1)).1] at h;cases h);clear hm1
     gi_wp2
     refine⟨fun f h=>(by cases h),?_⟩
     gi_wp2
     go_roundw
     case rel=>exact⟨k+1,by omega,by go_num,by rw [HU.out];exact HJ,G1,G2,hsz⟩
     case measure=>simp [intOf];omega
   ·have t1:decide ((k:Int) < (n:Int))=false:=by simp;omega
    have HU:Hid (zcg m n tq9 (k+1)=zcg m n tq9 k):=zif (by rintro⟨h,_⟩;exact hkn h)
    gi_wp2
    refine⟨fun f h=>(by cases h),?_⟩
    gi_wp2
    go_roundw
    case rel=>exact⟨k+1,by omega,by go_num,by rw [HU.out];exact HJ,G1,G2,hsz⟩
    case measure=>simp [intOf];omega
  ·have HJ4:Hid (J (zcg m n tq9 4) wr):=by
    obtain rfl:k=4:=by omega
    exact HJ
   have t0:decide ((k:Int) < 4)=false:=by simp;omega
   gi_wp2
   go_end0
   exact⟨⟨_,rfl⟩,.inl ⟨_,rfl,HJ4.out⟩⟩
end Go.Proofs.YtpbmmoneeoijaaaGreatDoor
namespace Go.Proofs.YtpbmmoneeoijaaaGreatDoor
open Go.RowKit Go.Shelf
attribute [local go_sem] Oper.semAt_some
set_option maxRecDepth 100000 in
set_option maxHeartbeats 400000 in
theorem all1R_in (m:Nat) (hm:2≤m) (Bq p:Nat) (ao:Option Addr) (c:Nat) (xs:List Int) (w:World) (hn:xs.length≤1000) (hl:Boxed w Bq 160 (.pointer (some ⟨p,0,none⟩))) (h2:w.cell? ⟨p,2,none⟩=some (.slice ao xs.length c)) (hT:Row w ao xs.length (fun i=>.int .i64 (xs.getD i 0))):
  SeqStopsK Fence.wide m Tryz.prog 269 #[.pointer (some ⟨Bq,0,none⟩)] (fun x:Int=>#[.int .i64 x]) (KpR ao) (fun ys=>ys=xs) (fun pre=>pre <+:xs) xs.length w:=by
 intro l J Jx W hW hJ hJx hY h0;refine callsIn_of_wp Tryz.func269 rfl trivial ?_ rfl;simp only [Tryz.ntmps269,List.size_toArray,List.length_cons,List.length_nil,Nat.reduceAdd,Nat.reduceSub,Array.replicate_succ,Array.replicate_zero,List.push_toArray,List.append_toArray,List.nil_append,List.cons_append];have h1:1≤m:=by omega
 have hl':=(hW.cell (zal hl.cell)).trans hl.cell;have h2':=(hW.cell (zal h2)).trans h2;have hTW:=hT.below hW;obtain⟨n,hnn⟩:∃ n,xs.length=n:=⟨_,rfl⟩;have HN:=hid hnn;rw [hnn] at h2' hTW hn hY;clear hnn hT h2 hl
 gi_wp2
 gi_loopw [4,10] (fun _ i wr=>∃ k:Nat,k≤n∧i=.int .i64 k∧J (xs.take k) wr∧Row wr ao n (fun i=>.int .i64 (xs.getD i 0))∧W.heap.size≤wr.heap.size) (fun _ i _=>n - (intOf i).toNat)
 case atStart=>exact⟨0,Nat.zero_le _,rfl,h0,hTW,Nat.le_refl _⟩
 case round=>
  obtain⟨k,hk,rfl,hJs,hnx,hsz⟩:=hrel;by_cases hlt:k < n
  ·have t0:decide ((k:Int) < (n:Int))=true:=by simp;omega
   obtain⟨b,o,rfl,c00⟩:=hnx k hlt;have c1:wr.cell? ⟨b,o+k,none⟩=some (.int .i64 (xs.getD k 0)):=c00;clear c00;have HS:=hid (zp8 (xs:=xs) (k:=k) (by have:=HN.out;omega));have HNX:=hid hnx;clear hnx;obtain⟨x,hx⟩:∃ x,xs.getD k 0=x:=⟨_,rfl⟩;rw [hx] at HS c1;clear hx;have HP:=hid (show xs.take (k+1) <+:xs from List.take_prefix _ _);obtain⟨fn,tmps,assign,body,hy,hR⟩:=hY _ x wr hJs (by rw [List.length_take];have:=HN.out;omega)
   gi_wp2
   refine hR.mono ?_;rintro e W3 (⟨rfl,hJ3,hk3⟩|⟨rfl,hJx3⟩)
   ·gi_wp2
    go_roundw
    case rel=>exact⟨k+1,by omega,by simp,by rw [HS.out];exact hJ3,HNX.out.kpr hk3,Nat.le_trans hsz hk3.1⟩
    case measure=>simp [intOf];omega
   ·gi_wp2
    refine bodyPost_ret (results_none rfl _ _ _) rfl ?_;exact⟨⟨_,rfl⟩,.inr ⟨_,by rw [←HS.out];exact HP.out,hJx3⟩⟩
  ·obtain rfl:k=n:=by omega
   have t0:decide ((k:Int) < (k:Int))=false:=by simp
   gi_wp2
   go_end0
   exact⟨⟨_,rfl⟩,.inl ⟨_,rfl,by rw [List.take_of_length_le (by have:=HN.out;omega)] at hJs;exact hJs⟩⟩
theorem zAt (cap:Nat) (hc:1≤cap) (L:List Int):zde cap [] 0 L=(zd6 L cap,L.length - cap):=by
 rw [zvd cap hc [] (by simp) 0 _ L rfl,List.nil_append,ziy]
 congr 1
 omega
theorem zAs (base base' p pq Bq cap:Nat) (pol cap' pol' d':Int) (v':Value) (L:List Int) (w:World) (hf:QAt w base p (cap:Int) pol (.slice none 0 0) [] 0) (hcap:1≤cap∧cap≤16) (hb:base≤w.heap.size)
  (ho:QAt w base' pq cap' pol' v' L d') (hB:Boxed w Bq 160 (.pointer (some ⟨pq,0,none⟩))) (hL:L.length≤100):
  Calls Tryz.prog 265 #[.pointer (some ⟨p,0,none⟩),.func (.func 269) #[] #[.pointer (some ⟨Bq,0,none⟩)]] w fun e w'=>
   e=.returned (.int .i64 ((L.length - cap:Nat):Int))∧∃ u,QAt w' base p (cap:Int) pol u (zd6 L cap) (min (L.length - cap:Nat) 4096)∧Heir w (.slice none 0 0) u∧Save (fun k=>k=p) w w':=by
 obtain⟨ao,c,e,hc1,hc2,hrow,hpos⟩:=zgg ho.row;have h2:=ho.c2;rw [e] at h2;have hseq:=all1R_in 7 (by omega) Bq pq ao c L w (by omega) hB h2 hrow;obtain⟨lo',hlo'⟩:∃ lo':Option Addr,lo'=if L.length=0 then none else ao:=⟨_,rfl⟩
 have hsq:SeqStopsK Fence.wide 7 Tryz.prog 269 #[.pointer (some ⟨Bq,0,none⟩)] (fun x:Int=>#[.int .i64 x]) (KpR lo') (fun ys=>ys=L) (fun pre=>pre <+:L) L.length w:=by
  rw [hlo']
  split
  ·rename_i h0
   intro l J Jx W hW hJ hJx hY h1;exact hseq l J Jx W hW hJ hJx (fun pre x W1 _ hlt=>by omega) h1
  ·exact hseq
 have:=fill_any 269 #[.pointer (some ⟨Bq,0,none⟩)] base p cap pol 0 (.slice none 0 0) [] L lo' w hf hb hcap (by simp) (by omega) hL (fun a ha=>by
  rw [hlo'] at ha
  split at ha
  ·cases ha
  ·rename_i h0
   obtain⟨g,hg,hg2⟩:=hpos (by omega);rw [hg] at ha;cases ha;exact⟨(ho.row.lt g hg2).2,fun e2=>hf.not_row ho.row (hg2.trans (congrArg some e2)),fun e2=>by cases e2⟩) (enters_of Tryz.func269 (by kernel_rfl) rfl) hsq
 unfold zpw at this;rw [zAt cap hcap.1] at this;refine this.mono ?_;rintro e2 w2 ⟨rfl,u,h3,h4,h5⟩;refine⟨rfl,u,?_,h4,h5.mono fun k hk=>?_⟩
 ·have e3:min ((0:Int)+((L.length - cap:Nat):Int)) 4096=min (((L.length - cap:Nat):Nat):Int) 4096:=by omega
  rw [←e3];exact h3
 ·rcases hk with hk|hk
  ·exact hk
  ·cases hk
end Go.Proofs.YtpbmmoneeoijaaaGreatDoor
namespace Go.Proofs.YtpbmmoneeoijaaaGreatDoor
open Go.RowKit Go.Maps
abbrev DI:=DataW Unit
theorem znt:Maps.Keyed Tryz.prog 3:=Maps.int_keyed Tryz.underlying3
def kI (i:Int):Lit:=.int .i64 i
section
variable {m:Nat→Int} {n tq9:Nat}
structure Told (D:DI) (pre:List (Way m n tq9)):Prop where
 map:IsMap D
 has:∀ i:Nat,Maps.has D (kI i)=true↔∃ x∈pre,x.1.1=i
 only:∀ z:Int,Maps.has D (kI z)=true→∃ x∈pre,((x.1.1:Nat):Int)=z
 val:∀ x∈pre,∀ z,D.atKey (kI x.1.1) z=.lit (.int .i64 x.1.2)
theorem zxo:Told (.map []:DI) ([]:List (Way m n tq9)):=
 ⟨isMap_empty,fun i=>by simp [Maps.has],fun z h=>by simp [Maps.has] at h,fun x hx=>by cases hx⟩
theorem way_eq {x y:Way m n tq9} (h:x.1.1=y.1.1):x=y:=by
 obtain⟨⟨a,b⟩,h1,h2⟩:=x;obtain⟨⟨c,d⟩,h3,h4⟩:=y;simp only at h h1 h3;subst h;rw [h1] at h3;cases h3;rfl
theorem Told.put {D:DI} {pre:List (Way m n tq9)} (h:Told D pre) (x:Way m n tq9):Told (D.put (kI x.1.1) (.lit (.int .i64 x.1.2))) (pre ++ [x]):=by
 have hne:∀ i:Int,i≠(x.1.1:Int)→kI i≠kI x.1.1:=fun i hi e=>hi (by unfold kI at e;injection e);refine⟨h.map.put _ _,fun i=>?_,fun z hz=>?_,fun y hy z=>?_⟩
 ·by_cases hi:i=x.1.1
  ·subst hi
   rw [has_put_same h.map (by trivial)];simp
  ·rw [has_put_other (hne i (by omega)),h.has i]
   constructor
   ·rintro⟨y,hy,e⟩;exact⟨y,List.mem_append_left _ hy,e⟩
   ·rintro⟨y,hy,e⟩
    rcases List.mem_append.1 hy with h1|h1
    ·exact⟨y,h1,e⟩
    ·rw [List.mem_singleton] at h1;subst h1;exact absurd e.symm hi
 ·by_cases hi:z=(x.1.1:Int)
  ·exact⟨x,by simp,hi.symm⟩
  ·rw [has_put_other (hne z hi)] at hz
   obtain⟨y,hy,e⟩:=h.only z hz;exact⟨y,List.mem_append_left _ hy,e⟩
 ·by_cases hi:y.1.1=x.1.1
  ·have:=way_eq hi
   subst this;exact atKey_put_same h.map (by trivial) _ _
  ·rw [atKey_put_other (hne _ (by omega))]
   rcases List.mem_append.1 hy with h1|h1
   ·exact h.val y h1 z
   ·rw [List.mem_singleton] at h1;subst h1;exact absurd rfl hi
theorem ztq {pre:List (Way m n tq9)} {x y:Way m n tq9} (hp:pre ++ [x] <+:zcg m n tq9 4) (hy:y∈pre) (e:y.1.2=x.1.2):Dup m n tq9:=by
 have hs:=(zr4 m n tq9 4).sublist hp.sublist;have:=(List.pairwise_append.1 hs).2.2 y hy x (by simp);exact⟨x.1.1,y.1.1,x.1.2,this,x.2.2,x.2.1,by rw [←e];exact y.2.1⟩
theorem no_dup {L:List (Way m n tq9)} (h:∀ x∈L,∀ y∈L,x.1.1≠y.1.1→x.1.2≠y.1.2) (hL:L=zcg m n tq9 4):¬ Dup m n tq9:=by
 rintro⟨i,k,j,h1,h2,h3,h4⟩;subst hL;exact h ⟨(i,j),h3,h2⟩ ((ziu _ 4).2 (zjc h3)) ⟨(k,j),h4,by omega⟩ ((ziu _ 4).2 (zjc h4)) (by show i≠k;omega) rfl
end
def zh3 (g:Nat→Nat→Int) (m:Nat→Int) (tq9:Nat) (xs:Nat→List Int) (i:Nat):Nat:=match bec m tq9 i with|some j=>(xs i).length - (g j 0).toNat|none=>(xs i).length
def zbb (g:Nat→Nat→Int) (m:Nat→Int) (tq9:Nat) (xs:Nat→List Int):Nat→List (Nat×Nat)
 |0=>[]
 |i+1=>zbb g m tq9 xs i ++ (if 0 < zh3 g m tq9 xs i then [(i,zh3 g m tq9 xs i)] else [])
def zbx (g:Nat→Nat→Int) (m:Nat→Int) (tq9:Nat) (xs:Nat→List Int):Nat→Nat→List Int
 |0,_=>[]
 |i+1,j=>if bec m tq9 i=some j then zd6 (xs i) (g j 0).toNat else zbx g m tq9 xs i j
def zgx (L:List (Nat×Nat)):List Value:=L.flatMap fun x=>[.int .i64 (x.1:Int),.int .i64 (x.2:Int)]
theorem zi8 (L M:List (Nat×Nat)):zgx (L ++ M)=zgx L ++ zgx M:=by simp [zgx]
theorem zri (g:Nat→Nat→Int) (m:Nat→Int) (tq9:Nat) (xs:Nat→List Int) (i:Nat):(zbb g m tq9 xs i).length≤i:=by
 induction i with
 |zero=>exact Nat.le_refl _
 |succ i ih=>
  rw [zbb,List.length_append]
  split<;>simp<;>omega
end Go.Proofs.YtpbmmoneeoijaaaGreatDoor
