/-
  A part of the proof: DlKit DlDue.
-/
import Derived.Test.YtpbmmoneeoijaaaGreatDoorP02
import Derived.Test.YtpbmmoneeoijaaaGreatDoorP03
import Derived.Test.YtpbmmoneeoijaaaGreatDoorP04
import Derived.IntWalk
namespace Go.Proofs.YtpbmmoneeoijaaaGreatDoor.Dl
open Go.RowKit
theorem cset_ne {w:World} {a b:Addr} {v:Value} (h:a≠b):(w.setCell a v).cell? b=w.cell? b:=by
 exact World.cell?_setCell_other (h:=h) ..
theorem zd9 {w:World} {p a:Addr} {v:Value} (h:p.block≠a.block):(w.setCell p v).cell? a=w.cell? a:=
 World.cell?_of_block (w:=w) (Below.heap_setCell w p v a.block (fun e=>h e.symm))
@[reducible] def tO (x:Nat×Int×Int) (nx:Option Addr):Obj:=.cells #[.int .i64 x.2.1,.int .i64 x.2.2,.pointer nx] 343 (0,0)
def Ch (W:World):List (Nat×Int×Int)→Prop
 | []=>True
 |x :: l=>W.heap[x.1]? =some (tO x (zge l))∧Ch W l
theorem Ch.at_ {W:World}:∀ {L:List (Nat×Int×Int)} {k:Nat},Ch W L→∀ hk:k < L.length,W.heap[(L[k]).1]? =some (tO (L[k]) (zge (L.drop (k+1))))
 | [],k,_,hk=>by simp at hk
 |x :: l,0,h,_=>h.1
 |x :: l,k+1,h,hk=>by
  have:=Ch.at_ (k:=k) h.2 (by simpa using hk);simpa using this
theorem Ch.drop {W:World}:∀ {L:List (Nat×Int×Int)} (k:Nat),Ch W L→Ch W (L.drop k)
 |_L,0,h=>h
 | [],_k+1,h=>h
 |_x :: l,k+1,h=>Ch.drop (L:=l) k h.2
theorem Ch.frame {W W':World}:∀ {L:List (Nat×Int×Int)},Ch W L→(∀ x∈L,W'.heap[x.1]? =W.heap[x.1]?)→Ch W' L
 | [],_,_=>trivial
 |x :: l,h,hf=>⟨(hf x (by simp)).trans h.1,Ch.frame h.2 fun y hy=>hf y (by simp [hy])⟩
theorem Ch.relink {W W':World}:∀ (P R R':List (Nat×Int×Int)),((P ++ R).map (·.1)).Nodup→Ch W (P ++ R)→Ch W' R'→(∀ x∈P,P.getLast?≠some x→W'.heap[x.1]? =W.heap[x.1]?)→(∀ x,P.getLast? =some x→W'.heap[x.1]? =some (tO x (zge R')))→Ch W' (P ++ R')
 | [],R,R',_,_,h',_,_=>h'
 | [x],R,R',_,_,h',_,hl=>⟨hl x rfl,h'⟩
 |x :: y :: P,R,R',hn,h,h',hs,hl=>by
  have hlast:(x :: y :: P).getLast? =(y :: P).getLast?:=by simp [List.getLast?_cons_cons]
  have hn2:=List.nodup_cons.1 (by simpa using hn:(x.1 :: ((y :: P ++ R).map (·.1))).Nodup);refine⟨?_,Ch.relink (y :: P) R R' (by simpa using hn2.2) h.2 h' (fun z hz hne=>hs z (by simp [hz]) (by rw [hlast];exact hne)) fun z hz=>hl z (by rw [hlast];exact hz)⟩;have hxl:(x :: y :: P).getLast?≠some x:=fun e=>by
   rw [hlast] at e;have hm:=List.mem_of_getLast? e;exact hn2.1 (List.mem_map.2 ⟨x,List.mem_append_left _ hm,rfl⟩)
  exact (hs x (by simp) hxl).trans h.1
structure DQ (W:World) (base qb qo:Nat) (L:List (Nat×Int×Int)):Prop where
 first:W.cell? ⟨qb,qo,none⟩=some (.pointer (zge L))
 many:W.cell? ⟨qb,qo+1,none⟩=some (.int .i64 (L.length:Int))
 f0:W.frozen? ⟨qb,qo,none⟩=false
 f1:W.frozen? ⟨qb,qo+1,none⟩=false
 ch:Ch W L
 nd:(L.map (·.1)).Nodup
 nq:∀ x∈L,x.1≠qb
 low:base≤qb∧∀ x∈L,base≤x.1
theorem blk_put0 {w:World} {b i:Nat} {c:Array Value} {u:Value} {t:TypeId} (h:w.heap[b]? =some (.cells c t (0,0))):(w.setCell ⟨b,i,none⟩ u).heap[b]? =some (.cells (c.setIfInBounds i u) t (0,0)):=by
 have hlt:=(Array.getElem?_eq_some_iff.1 h).1;have h':w.heap[b]=.cells c t (0,0):=(Array.getElem?_eq_some_iff.1 h).2;show (w.heap.modify b _)[b]? =_;rw [Array.getElem?_eq_getElem (by simpa using hlt),Array.getElem_modify_self,h'];rfl
def Typ (w w':World) (b:Nat):Prop:=∀ cur ty,w.heap[b]? =some (.cells cur ty (0,0))→∃ cur',w'.heap[b]? =some (.cells cur' ty (0,0))
theorem Typ.of_eq {w w':World} {b:Nat} (h:w'.heap[b]? =w.heap[b]?):Typ w w' b:=fun cur _ty hc=>⟨cur,h.trans hc⟩
theorem Typ.trans {a b c:World} {k:Nat} (h:Typ a b k) (g:Typ b c k):Typ a c k:=fun cur ty hc=>by
 obtain⟨cur',h1⟩:=h cur ty hc;exact g cur' ty h1
theorem Typ.set (w:World) (p i b:Nat) (v:Value):Typ w (w.setCell ⟨p,i,none⟩ v) b:=by
 by_cases h:b=p
 ·subst h
  exact fun cur ty hc=>⟨_,blk_put0 hc⟩
 ·exact .of_eq (heap_setCell_other _ _ _ _ h)
structure zeb (qb qo:Nat) (L:List (Nat×Int×Int)) (w w':World):Prop where
 s:Save (fun k=>k=qb∨∃ x∈L,x.1=k) w w'
 c:∀ o,o≠qo→o≠qo+1→w'.cell? ⟨qb,o,none⟩=w.cell? ⟨qb,o,none⟩
 f:∀ o,w'.frozen? ⟨qb,o,none⟩=w.frozen? ⟨qb,o,none⟩
 t:Typ w w' qb
theorem DQ.lt {W:World} {base qb qo:Nat} {L:List (Nat×Int×Int)} (h:DQ W base qb qo L):qb < W.heap.size:=zal h.first
theorem Ch.lt {W:World} {L:List (Nat×Int×Int)} (h:Ch W L):∀ x∈L,x.1 < W.heap.size:=fun x hx=>by
 obtain⟨k,hk,rfl⟩:=List.getElem_of_mem hx;exact (Array.getElem?_eq_some_iff.1 (h.at_ hk)).1
theorem DQ.below {W W':World} {base qb qo:Nat} {L:List (Nat×Int×Int)} (h:DQ W base qb qo L) (hb:Below W.heap.size W W'):DQ W' base qb qo L:=
 ⟨(hb.cell (zal h.first)).trans h.first,(hb.cell (zal h.many)).trans h.many,(hb.frozen (zal h.first)).trans h.f0,(hb.frozen (zal h.many)).trans h.f1,
  h.ch.frame fun x hx=>hb.block _ (h.ch.lt x hx),h.nd,h.nq,h.low⟩
def zg5 (qb qo:Nat) (L:List (Nat×Int×Int)) (k pb po:Nat):Prop:=(k=0∧pb=qb∧po=qo)∨(∃ j,∃ h:j < L.length,k=j+1∧pb=(L[j]).1∧po=2)
theorem zfr {W:World} {x:Nat×Int×Int} {nx:Option Addr} (h:W.heap[x.1]? =some (tO x nx)):W.cell? ⟨x.1,0,none⟩=some (.int .i64 x.2.1)∧W.cell? ⟨x.1,1,none⟩=some (.int .i64 x.2.2)∧W.cell? ⟨x.1,2,none⟩=some (.pointer nx)∧(∀ o,W.frozen? ⟨x.1,o,none⟩=false):=
 ⟨by simp [World.cell?,h],by simp [World.cell?,h],by simp [World.cell?,h],fun o=>by simp [World.frozen?,h]⟩
theorem zg5.cell {W:World} {base qb qo:Nat} {L:List (Nat×Int×Int)} (hq:DQ W base qb qo L) {k pb po:Nat} (h:zg5 qb qo L k pb po):W.cell? ⟨pb,po,none⟩=some (.pointer (zge (L.drop k)))∧W.frozen? ⟨pb,po,none⟩=false:=by
 rcases h with ⟨rfl,rfl,rfl⟩|⟨j,hj,rfl,rfl,rfl⟩
 ·exact⟨hq.first,hq.f0⟩
 ·obtain⟨_,_,h3,h4⟩:=zfr (hq.ch.at_ hj)
  exact⟨h3,h4 2⟩
theorem zg5.next {qb qo:Nat} {L:List (Nat×Int×Int)} {k:Nat} (h:k < L.length):zg5 qb qo L (k+1) (L[k]).1 2:=.inr ⟨k,h,rfl,rfl,rfl⟩
def posV (qb:Nat) (L:List (Nat×Int×Int)):Value→Nat
 | .pointer (some a)=>if a.block=qb then 0 else idxB a.block L+1
 |_=>0
theorem zjm {W:World} {base qb qo:Nat} {L:List (Nat×Int×Int)} (hq:DQ W base qb qo L) {k pb po:Nat} (h:zg5 qb qo L k pb po):posV qb L (.pointer (some ⟨pb,po,none⟩))=k:=by
 rcases h with ⟨rfl,rfl,rfl⟩|⟨j,hj,rfl,rfl,rfl⟩
 ·simp [posV]
 ·simp only [posV]
  rw [if_neg (hq.nq _ (List.getElem_mem hj)),zo8 hq.nd hj]
theorem zex {L:List (Nat×Int×Int)} {j:Nat} (hj:j < L.length):(L.take (j+1)).getLast? =some L[j]:=by
 rw [List.take_succ_eq_append_getElem hj,List.getLast?_append];rfl
theorem zqw {A B C:List (Nat×Int×Int)} (h:A≠[]):zge (A ++ B)=zge (A ++ C):=by
 cases A with
 |nil=>exact absurd rfl h
 |cons x l=>rfl
theorem DQ.relink {W Wa:World} {base qb qo:Nat} {L:List (Nat×Int×Int)} (hq:DQ W base qb qo L) {k pb po:Nat} (hk:k≤L.length) (hp:zg5 qb qo L k pb po) (R':List (Nat×Int×Int)) {S:Nat→Prop} (hs:Save S W Wa) (hS1:¬ S qb) (hS2:∀ x∈L.take k,¬ S x.1)
  (hR:Ch Wa R') (hnd:((L.take k ++ R').map (·.1)).Nodup) (hnq:∀ x∈R',x.1≠qb) (hlow:∀ x∈R',base≤x.1) (n:Int) (hn:n=((L.take k ++ R').length:Int)):
  DQ ((Wa.setCell ⟨pb,po,none⟩ (.pointer (zge R'))).setCell ⟨qb,qo+1,none⟩ (.int .i64 n)) base qb qo (L.take k ++ R'):=by
 have hqb:Wa.heap[qb]? =W.heap[qb]?:=hs.block qb hq.lt hS1;have cq:∀ o,Wa.cell? ⟨qb,o,none⟩=W.cell? ⟨qb,o,none⟩:=fun o=>World.cell?_of_block (w:=W) (w':=Wa) (a:=⟨qb,o,none⟩) hqb;have fq:∀ o,Wa.frozen? ⟨qb,o,none⟩=W.frozen? ⟨qb,o,none⟩:=fun o=>by simp [World.frozen?,hqb]
 have hPl:∀ x∈L.take k,x.1 < W.heap.size:=fun x hx=>hq.ch.lt x (List.mem_of_mem_take hx);have hWa:∀ x∈L.take k,Wa.heap[x.1]? =W.heap[x.1]?:=fun x hx=>hs.block _ (hPl x hx) (hS2 x hx);have hpb:pb=qb∨∃ x∈L.take k,x.1=pb:=by
  rcases hp with ⟨_,h,_⟩|⟨j,hj,rfl,rfl,_⟩
  ·exact .inl h
  ·exact .inr ⟨_,List.mem_of_getLast? (zex hj),rfl⟩
 have hdis:∀ x∈L.take k,∀ y∈R',x.1≠y.1:=fun x hx y hy e=>by
  rw [List.map_append] at hnd;exact (List.nodup_append.1 hnd).2.2 x.1 (List.mem_map.2 ⟨x,hx,rfl⟩) y.1 (List.mem_map.2 ⟨y,hy,rfl⟩) e
 have hRp:∀ y∈R',y.1≠pb:=fun y hy e=>by
  rcases hpb with h|⟨x,hx,h⟩
  ·exact hnq y hy (e.trans h)
  ·exact hdis x hx y hy (h.trans e.symm)
 have hRw:Ch ((Wa.setCell ⟨pb,po,none⟩ (.pointer (zge R'))).setCell ⟨qb,qo+1,none⟩ (.int .i64 n)) R':=hR.frame fun y hy=>by
  rw [heap_setCell_other _ _ _ _ (hnq y hy),heap_setCell_other _ _ _ _ (hRp y hy)]
 refine⟨?_,?_,?_,?_,?_,hnd,fun x hx=>?_,hq.low.1,fun x hx=>?_⟩
 ·rw [cset_ne (by intro e;cases e)]
  rcases hp with ⟨rfl,rfl,rfl⟩|⟨j,hj,rfl,rfl,rfl⟩
  ·rw [World.cell?_setCell_same' _ _ _ (by rw [cq,hq.first];rfl)];simp
  ·rw [zd9 (hq.nq _ (List.getElem_mem hj)),cq,hq.first]
   have hne:L.take (j+1)≠[]:=fun e=>by
    have:=congrArg List.length e;rw [List.length_take,List.length_nil] at this;omega
   rw [zqw (C:=L.drop (j+1)) hne,List.take_append_drop]
 ·rw [World.cell?_setCell_same' _ _ _ ?_,hn]
  rcases hp with ⟨rfl,rfl,rfl⟩|⟨j,hj,rfl,rfl,rfl⟩
  ·rw [cset_ne (by intro e;cases e),cq,hq.many];rfl
  ·rw [zd9 (hq.nq _ (List.getElem_mem hj)),cq,hq.many];rfl
 ·simp only [World.frozen?_setCell];rw [fq];exact hq.f0
 ·simp only [World.frozen?_setCell];rw [fq];exact hq.f1
 ·refine Ch.relink (W:=W) (L.take k) (L.drop k) R' (by rw [List.take_append_drop];exact hq.nd) (by rw [List.take_append_drop];exact hq.ch) hRw (fun x hx hne=>?_) fun x hx=>?_
  ·have h1:x.1≠qb:=hq.nq x (List.mem_of_mem_take hx)
   have h2:x.1≠pb:=by
    rcases hp with ⟨rfl,_,_⟩|⟨j,hj,rfl,rfl,_⟩
    ·simp at hx
    ·intro e
     rw [zex hj] at hne;obtain⟨i,hi,rfl⟩:=List.getElem_of_mem (List.mem_of_mem_take hx);have:i=j:=by
      by_cases hij:i=j
      ·exact hij
      ·exact absurd e (zf5 hq.nd hi hj hij)
     subst this;exact hne rfl
   rw [heap_setCell_other _ _ _ _ h1,heap_setCell_other _ _ _ _ h2,hWa x hx]
  ·rcases hp with ⟨rfl,_,_⟩|⟨j,hj,rfl,rfl,rfl⟩
   ·simp at hx
   ·rw [zex hj] at hx
    cases hx;rw [heap_setCell_other _ _ _ _ (hq.nq _ (List.getElem_mem hj))];have hm:=List.mem_of_getLast? (zex hj);exact heap_setCell_same Wa _ 2 _ _ _ ((hWa _ hm).trans (hq.ch.at_ hj))
 ·rcases List.mem_append.1 hx with h|h
  ·exact hq.nq x (List.mem_of_mem_take h)
  ·exact hnq x h
 ·rcases List.mem_append.1 hx with h|h
  ·exact hq.low.2 x (List.mem_of_mem_take h)
  ·exact hlow x h
theorem zpr {W:World} {x:Nat×Int×Int} {l:List (Nat×Int×Int)} (h:Ch W (x :: l)) (hn:∀ y∈l,y.1≠x.1) (t:Int):Ch (W.setCell ⟨x.1,1,none⟩ (.int .i64 (x.2.2 - t))) (bump t (x :: l)):=by
 obtain⟨b,i,c⟩:=x;exact⟨heap_setCell_same W b 1 _ _ _ h.1,h.2.frame fun y hy=>heap_setCell_other _ _ _ _ (hn y hy)⟩
theorem zcp {W Wa:World} {base qb qo:Nat} {L:List (Nat×Int×Int)} (hq:DQ W base qb qo L) {k pb po:Nat} (hp:zg5 qb qo L k pb po) {S:Nat→Prop} (hs:Save S W Wa) (hS1:¬ S qb) (hS2:∀ b,b < W.heap.size→S b→∃ x∈L,x.1=b) (u v:Value):
  zeb qb qo L W ((Wa.setCell ⟨pb,po,none⟩ u).setCell ⟨qb,qo+1,none⟩ v):=by
 have hqb:Wa.heap[qb]? =W.heap[qb]?:=hs.block qb hq.lt hS1;have hpb:pb=qb∨∃ x∈L,x.1=pb:=by
  rcases hp with ⟨_,h,_⟩|⟨j,hj,_,rfl,_⟩
  ·exact .inl h
  ·exact .inr ⟨_,List.getElem_mem hj,rfl⟩
 refine⟨(((Save.refl (fun k=>k=qb∨∃ x∈L,x.1=k) W).trans hs fun i hi h=>.inr (hS2 i hi h)).trans (Save.set Wa pb po u) fun i _ e=>by rw [e];exact hpb).trans (Save.set _ qb (qo+1) v) fun i _ e=>.inl e,fun o h1 h2=>?_,fun o=>?_,((Typ.of_eq hqb).trans (Typ.set Wa pb po qb u)).trans (Typ.set _ qb (qo+1) qb v)⟩
 ·rw [cset_ne (by intro e;cases e;exact h2 rfl)]
  have:(⟨pb,po,none⟩:Addr)≠⟨qb,o,none⟩:=fun e=>by
   cases e;rcases hp with ⟨_,_,rfl⟩|⟨j,hj,_,rfl,rfl⟩
   ·exact h1 rfl
   ·exact hq.nq _ (List.getElem_mem hj) rfl
  rw [cset_ne this];exact World.cell?_of_block (w:=W) (w':=Wa) (a:=⟨qb,o,none⟩) hqb
 ·simp only [World.frozen?_setCell]
  simp [World.frozen?,hqb]
theorem zg5.ne {W:World} {base qb qo:Nat} {L:List (Nat×Int×Int)} (hq:DQ W base qb qo L) {k pb po:Nat} (h:zg5 qb qo L k pb po):(⟨pb,po,none⟩:Addr)≠⟨qb,qo+1,none⟩:=fun e=>by
 cases e;rcases h with ⟨_,_,h⟩|⟨j,hj,_,h,_⟩
 ·omega
 ·exact hq.nq _ (List.getElem_mem hj) h.symm
theorem zg5.behind {W:World} {base qb qo:Nat} {L:List (Nat×Int×Int)} (hq:DQ W base qb qo L) {k pb po:Nat} (h:zg5 qb qo L k pb po) {j:Nat} (hj:j < L.length) (hkj:k≤j):pb≠(L[j]).1:=fun e=>by
 rcases h with ⟨_,h,_⟩|⟨i,hi,rfl,h,_⟩
 ·exact hq.nq _ (List.getElem_mem hj) (e.symm.trans h)
 ·exact zf5 hq.nd hi hj (by omega) (h.symm.trans e)
theorem DQ.drewN {W:World} {base qb qo:Nat} {L:List (Nat×Int×Int)} (h:DQ W base qb qo L) (n:Nat):DQ (W.drewN n) base qb qo L:=
 ⟨h.first,h.many,h.f0,h.f1,h.ch.frame fun _ _=>rfl,h.nd,h.nq,h.low⟩
theorem zeb.from_drewN {w w':World} {qb qo n:Nat} {L:List (Nat×Int×Int)} (h:zeb qb qo L (w.drewN n) w'):zeb qb qo L w w':=
 ⟨h.s.from_drewN,h.c,h.f,h.t⟩
def zy2 (base qb qo:Nat) (L:List (Nat×Int×Int)) (id:Int) (w:World) (e:Ending) (w':World):Prop:=
 ∃ L':List (Nat×Int×Int),e=.returned (.bool (za1 id (tlOf L)).2)∧DQ w' base qb qo L'∧tlOf L'=(za1 id (tlOf L)).1∧(∀ x∈L',∃ y∈L,y.1=x.1)∧zeb qb qo L w w'
attribute [local go_sem] Oper.quietS Oper.effS zgv zne
set_option maxRecDepth 100000 in
set_option maxHeartbeats 1000000 in
theorem zmd (base qb qo:Nat) (L:List (Nat×Int×Int)) (id:Int) (w:World) (hq:DQ w base qb qo L) (hb:∀ x∈L,0≤x.2.2∧x.2.2≤65536) (hn:L.length≤64):
  Calls Tryz.prog 268 #[.pointer (some ⟨qb,qo,none⟩),.int .i64 id] w fun e w'=>zy2 base qb qo L id w e w':=by
 obtain⟨n,hnn⟩:∃ n,L.length=n:=⟨_,rfl⟩;have HN:=hid hnn;have hn64:n≤64:=by omega
 go_enter Tryz.func268,Tryz.ntmps268;go_wp2
 go_loop [5] (fun at_=>∃ k pb po:Nat,at_=.pointer (some ⟨pb,po,none⟩)∧k≤n∧Hid (zg5 qb qo L k pb po)∧Hid (∀ j,j < k→∀ h:j < L.length,(L[j]).2.1≠id)) (fun at_=>n - posV qb L at_)
 case atStart=>exact⟨0,qb,qo,rfl,Nat.zero_le _,.inl ⟨rfl,rfl,rfl⟩,fun j hj=>by omega⟩
 case round=>
  obtain⟨k,pb,po,rfl,hk,HP,HNO⟩:=hrel;obtain⟨ca,fa⟩:=HP.out.cell hq;by_cases hlt:k < n
  ·have hkl:k < L.length:=by omega
   rw [zed hkl] at ca;obtain⟨t0,t1,t2,tf⟩:=zfr (hq.ch.at_ hkl);obtain⟨x,hx⟩:∃ x,L[k]=x:=⟨_,rfl⟩;have HX:=hid hx;have HKL:=hid hkl;rw [hx] at ca t0 t1 t2 tf;obtain⟨b,i,c⟩:=x;dsimp only at ca t0 t1 t2 tf;by_cases hi:i=id
   ·subst hi
    have ti:(i != i)=false:=by simp
    have HC:=hid (zyy (L:=L) (id:=i) hkl (fun j hj h=>HNO.out j hj h) (by rw [hx]));have HCL:=hid (show cutL k L=L.take k ++ bump (-c) (L.drop (k+1)) by
     unfold cutL;rw [List.drop_eq_getElem_cons hkl,hx])
    have hc:=hb _ (List.getElem_mem hkl);rw [hx] at hc;dsimp only at hc;have cm:=hq.many;have fm:=hq.f1;rw [hnn] at cm;have hne:=HP.out.ne hq;by_cases h2:k+1 < n
    ·have hk2:k+1 < L.length:=by omega
     rw [zed hk2] at t2;obtain⟨n0,n1,n2,nf⟩:=zfr (hq.ch.at_ hk2);have hbn:b≠(L[k+1]).1:=fun e=>zf5 hq.nd hkl hk2 (by omega) (by rw [hx];exact e);have hpn:=HP.out.behind hq hk2 (by omega);have hqn:=hq.nq _ (List.getElem_mem hk2);have hc2:=hb _ (List.getElem_mem hk2);have hdr:L.drop (k+1)=L[k+1] :: L.drop (k+1+1):=List.drop_eq_getElem_cons hk2;have hxm:∃ x∈L,x.1=(L[k+1]).1:=⟨_,List.getElem_mem hk2,rfl⟩;have hct:∀ x∈L.take k,x.1≠(L[k+1]).1:=fun x hx e=>by
      obtain⟨j,hj,rfl⟩:=List.getElem_of_mem hx;rw [List.length_take] at hj;rw [List.getElem_take] at e;exact zf5 hq.nd (by omega) hk2 (by omega) e
     obtain⟨y,hy⟩:∃ y,L[k+1]=y:=⟨_,rfl⟩;rw [hy] at t2 n0 n1 n2 nf hbn hpn hqn hc2 hdr hxm hct;obtain⟨b2,i2,c2⟩:=y;dsimp only at t2 n0 n1 n2 nf hbn hpn hqn hc2 hct;have he:IntKind.i64.wrap (c2+c)=c2+c:=IntWalk.i64_in _ (by omega);have HDR:=hid hdr;have HCT:=hid hct;have HY:=hid hy;clear hnn hx hdr hct hy hxm;go_wp2;refine zgf 14 (zne fun _=>w) (by kernel_rfl) (by kernel_rfl) (zne.start _ _ rfl) ?_;simp only [List.take_succ_cons,List.take_zero,List.drop_succ_cons,List.drop_zero]
     repeat (refine zhw (by rfl) (by rfl) (fun K hK=>?_);go_simp;(refine hK _ ?_;clear hK K))
     refine zk4 ?_;rintro _ ⟨nq,rfl⟩;have hqd:=hq.drewN nq;obtain⟨Wd,hWd⟩:∃ Wd,Wd=w.drewN nq:=⟨_,rfl⟩;have d1:Wd.cell? ⟨b2,1,none⟩=some (.int .i64 c2):=by rw [hWd];exact n1
     have d2:Wd.cell? ⟨b,2,none⟩=some (.pointer (some ⟨b2,0,none⟩)):=by rw [hWd];exact t2
     have dp:Wd.cell? ⟨pb,po,none⟩=some (.pointer (some ⟨b,0,none⟩)):=by rw [hWd];exact ca
     have dm:Wd.cell? ⟨qb,qo+1,none⟩=some (.int .i64 (n:Int)):=by rw [hWd];exact cm
     have df1:Wd.frozen? ⟨b2,1,none⟩=false:=by rw [hWd];exact nf 1
     have dfp:Wd.frozen? ⟨pb,po,none⟩=false:=by rw [hWd];exact fa
     have dfm:Wd.frozen? ⟨qb,qo+1,none⟩=false:=by rw [hWd];exact fm
     rw [←hWd] at hqd ⊢;have HWD:=hid hWd;clear hWd t0 t1 t2 n0 n1 n2 ca cm fa fm tf nf;have g2:(Wd.setCell ⟨b2,1,none⟩ (.int .i64 (c2+c))).cell? ⟨b,2,none⟩=some (.pointer (some ⟨b2,0,none⟩)):=(zd9 (Ne.symm hbn)).trans d2;have gp:(Wd.setCell ⟨b2,1,none⟩ (.int .i64 (c2+c))).cell? ⟨pb,po,none⟩=some (.pointer (some ⟨b,0,none⟩)):=(zd9 (Ne.symm hpn)).trans dp;have gm:(Wd.setCell ⟨b2,1,none⟩ (.int .i64 (c2+c))).cell? ⟨qb,qo+1,none⟩=some (.int .i64 (n:Int)):=(zd9 hqn).trans dm;have gm2:((Wd.setCell ⟨b2,1,none⟩ (.int .i64 (c2+c))).setCell ⟨pb,po,none⟩ (.pointer (some ⟨b2,0,none⟩))).cell? ⟨qb,qo+1,none⟩=some (.int .i64 (n:Int)):=(cset_ne hne).trans gm;have HB:Hid (bump (-c) (L.drop (k+1))=(b2,i2,c2+c) :: L.drop (k+1+1)):=by
      show _=_;rw [HDR.out];simp only [bump];rw [show c2 - -c=c2+c by omega]
     have hnd2:=hqd.nd;have hsp:L=L.take k ++ (b,i,c) :: (b2,i2,c2) :: L.drop (k+1+1):=by
      have h1:=List.drop_eq_getElem_cons hkl;rw [HX.out,HDR.out] at h1;rw [←h1,List.take_append_drop]
     have HSP:=hid hsp;have hch:Ch (Wd.setCell ⟨b2,1,none⟩ (.int .i64 (c2+c))) ((b2,i2,c2+c) :: L.drop (k+1+1)):=by
      have h1:=hqd.ch.drop (k+1);rw [HDR.out] at h1;have h2:=zpr h1 (fun y hy e=>by
       have h3:=hnd2;rw [hsp,List.map_append] at h3;have h4:=(List.nodup_append.1 h3).2.1;have h5:=(List.nodup_cons.1 (List.nodup_cons.1 (by simpa using h4:(b :: b2 :: (L.drop (k+1+1)).map (·.1)).Nodup)).2).1;exact h5 (List.mem_map.2 ⟨y,hy,e⟩)) (-c)
      simp only [bump] at h2
      rwa [show c2 - -c=c2+c by omega] at h2
     have hblk:((L.take k ++ (b2,i2,c2+c) :: L.drop (k+1+1)).map (·.1)).Nodup:=by
      have h3:=hnd2;rw [hsp] at h3;have h4:((L.take k).map (·.1) ++ b :: b2 :: (L.drop (k+1+1)).map (·.1)).Nodup:=by simpa using h3
      have h5:=h4.sublist (List.Sublist.append_left (List.sublist_cons_self b (b2 :: (L.drop (k+1+1)).map (·.1))) ((L.take k).map (·.1)));simpa using h5
     have hmem:∀ x∈(b2,i2,c2+c) :: L.drop (k+1+1),∃ y∈L,y.1=x.1:=fun x hx=>by
      rcases List.mem_cons.1 hx with rfl|hx
      ·exact⟨(b2,i2,c2),by rw [hsp];simp,rfl⟩
      ·exact⟨x,List.mem_of_mem_drop hx,rfl⟩
     have hR:=hqd.relink (Nat.le_of_lt hkl) HP.out ((b2,i2,c2+c) :: L.drop (k+1+1)) (Save.set Wd b2 1 (.int .i64 (c2+c))) (fun e=>hqn e.symm) (fun x hx e=>HCT.out x hx e) hch hblk
      (fun x hx=>by obtain⟨y,hy,e⟩:=hmem x hx;rw [←e];exact hqd.nq y hy) (fun x hx=>by obtain⟨y,hy,e⟩:=hmem x hx;rw [←e];exact hqd.low.2 y hy) ((n:Int) - 1) (by have:=HN.out;simp;omega)
     have HR:=hid hR;have HS0:=zcp hqd HP.out (Save.set Wd b2 1 (.int .i64 (c2+c))) (fun e=>hqn e.symm) (fun d _ e=>⟨(b2,i2,c2),by rw [hsp];simp,e.symm⟩) (.pointer (some ⟨b2,0,none⟩)) (.int .i64 ((n:Int) - 1));rw [HWD.out] at HS0;have HS:=hid HS0.from_drewN;rw [←HWD.out] at HS;have HM:Hid (∀ x∈L.take k ++ (b2,i2,c2+c) :: L.drop (k+1+1),∃ y∈L,y.1=x.1):=fun x hx=>by
      rcases List.mem_append.1 hx with h|h
      ·exact⟨x,List.mem_of_mem_take h,rfl⟩
      ·exact hmem x h
     clear hsp hch hblk hmem hR HS0 hnd2 hne HCT HY HX HSP HWD hpn hqn hbn;go_wp2;go_ret;exact⟨L.take k ++ (b2,i2,c2+c) :: L.drop (k+1+1),by rw [HC.out];rfl,HR.out,by rw [HC.out,HCL.out,HB.out],HM.out,HS.out⟩
    ·have hke:k+1=n:=by omega
     rw [zeh (by omega)] at t2;have HKE:=hid hke;have cm2:(w.setCell ⟨pb,po,none⟩ (.pointer none)).cell? ⟨qb,qo+1,none⟩=some (.int .i64 (n:Int)):=(cset_ne hne).trans cm;have hR:=hq.relink (Nat.le_of_lt hkl) HP.out [] (Save.refl (fun _=>False) w) id (fun _ _=>id) trivial (by rw [List.append_nil];exact (hq.nd.sublist (List.Sublist.map _ (List.take_sublist k L)))) (fun x hx=>by cases hx) (fun x hx=>by cases hx) ((n:Int) - 1) (by simp;omega);have HR:=hid hR;have HS:=hid (zcp hq HP.out (Save.refl (fun _=>False) w) id (fun b _ h=>h.elim) (.pointer none) (.int .i64 ((n:Int) - 1)));have HL:Hid (cutL k L=L.take k ++ []):=by
      show _=_;rw [HCL.out,List.drop_eq_nil_of_le (by omega)];rfl
     have HM:Hid (∀ x∈L.take k ++ [],∃ y∈L,y.1=x.1):=fun x hx=>⟨x,List.mem_of_mem_take (by simpa using hx),rfl⟩;clear hnn hx hke hR hne HCL;go_wp2;go_ret;exact⟨L.take k ++ [],by rw [HC.out];rfl,HR.out,by rw [HC.out,HL.out],HM.out,HS.out⟩
   ·have ti:(i != id)=true:=by simpa using hi
    have HP2:=hid (zg5.next (qb:=qb) (qo:=qo) hkl);rw [hx] at HP2;have HNO2:Hid (∀ j,j < k+1→∀ h:j < L.length,(L[j]).2.1≠id):=fun j hj h=>by
     rcases (show j < k∨j=k by omega) with e|rfl
     ·exact HNO.out j e h
     ·rw [hx];exact hi
    have HV:=hid (zjm hq HP.out);have HV2:=hid (zjm hq HP2.out);clear hnn hx;go_wp2
    go_round
    case rel=>exact⟨k+1,b,2,rfl,by omega,HP2,HNO2⟩
    case measure=>rw [HV.out,HV2.out];omega
  ·obtain rfl:k=n:=by omega
   rw [zeh (by omega)] at ca;have HE:=hid (zrr (L:=L) (id:=id) fun j h=>HNO.out j (by omega) h);clear hnn;go_wp2;go_ret;exact⟨L,by rw [HE.out];rfl,hq,by rw [HE.out],fun x hx=>⟨x,hx,rfl⟩,Save.refl _ _,fun _ _ _=>rfl,fun _=>rfl,.of_eq rfl⟩
end Go.Proofs.YtpbmmoneeoijaaaGreatDoor.Dl
namespace Go.Proofs.YtpbmmoneeoijaaaGreatDoor.Dl
open Go.RowKit Go.Shelf
attribute [local go_sem] Oper.semAt_some
theorem zp9:∀ {L:List (Nat×Int×Int)} {k:Nat} (hk:k < L.length),sumB (k+1) L=sumB k L+(L[k]).2.2
 | [],k,hk=>by simp at hk
 |(b,i,c) :: l,0,_=>by simp [sumB]
 |(b,i,c) :: l,k+1,hk=>by
  have:=zp9 (L:=l) (k:=k) (by simpa using hk);simp only [sumB,List.getElem_cons_succ] at this ⊢;omega
theorem znh:∀ {L:List (Nat×Int×Int)} (k:Nat),(∀ x∈L,0≤x.2.2∧x.2.2≤65536)→0≤sumB k L∧sumB k L≤k * 65536
 |L,0,_=>by cases L<;>simp [sumB]
 | [],k+1,_=>by simp [sumB];omega
 |(b,i,c) :: l,k+1,h=>by
  have h1:=znh (L:=l) k fun x hx=>h x (by simp [hx]);have h2:=h (b,i,c) (by simp);simp only [sumB] at h2 ⊢;omega
theorem zvs:∀ {L:List (Nat×Int×Int)} {k:Nat} (acc:Int) (hk:k < L.length),(absL acc (tlOf L)).take (k+1)=(absL acc (tlOf L)).take k ++ [((L[k]).2.1,acc+sumB (k+1) L)]
 | [],k,_,hk=>by simp at hk
 |(b,i,c) :: l,0,acc,_=>by simp [tlOf,absL,sumB]
 |(b,i,c) :: l,k+1,acc,hk=>by
  have:=zvs (L:=l) (k:=k) (acc+c) (by simpa using hk);simp only [tlOf,List.map_cons,absL,List.take_succ_cons,List.getElem_cons_succ,List.cons_append] at this ⊢;rw [this];simp only [sumB];rw [show acc+c+sumB (k+1) l=acc+(c+sumB (k+1) l) by omega]
theorem zBn (acc:Int) (L:List (Nat×Int×Int)):(absL acc (tlOf L)).length=L.length:=by rw [zmt,zco]
def posT (L:List (Nat×Int×Int)):Value→Nat
 | .pointer (some a)=>idxB a.block L
 |_=>L.length
theorem posT_at {L:List (Nat×Int×Int)} (hn:(L.map (·.1)).Nodup) {k:Nat} (hk:k≤L.length):posT L (.pointer (zge (L.drop k)))=k:=by
 by_cases h:k < L.length
 ·rw [zed h];exact zo8 hn h
 ·rw [zeh (by omega)];show L.length=k;omega
theorem zaq (W:World) (v:Value) (t:TypeId):(W.alloc (.cells #[v] t)).cell? ⟨W.heap.size,0,none⟩=some v∧(W.alloc (.cells #[v] t)).frozen? ⟨W.heap.size,0,none⟩=false:=
 ⟨World.cell?_alloc_at _ _ _ _ rfl,World.frozen?_alloc_at _ _ _ _ rfl⟩
theorem zay {W:World} {a:Addr} {v:Value} (o:Obj) (h:W.cell? a=some v):(W.alloc o).cell? a=some v:=cell_kept h (World.grownBy_alloc W o none) (fun r e=>by cases e)
theorem zbs {W:World} {a:Addr} {v:Value} (o:Obj) (h:W.cell? a=some v) (hf:W.frozen? a=false):(W.alloc o).frozen? a=false:=(frozen_kept h (World.grownBy_alloc W o none) (fun r e=>by cases e)).trans hf
def enc2 (x:Int×Int):Array Value:=#[.int .i64 x.1,.int .i64 x.2]
set_option maxRecDepth 100000 in
set_option maxHeartbeats 1000000 in
theorem dall1_in (m:Nat) (hm:2≤m) (Bq base qb qo:Nat) (L:List (Nat×Int×Int)) (w0 w:World) (hn:L.length≤64) (hb0:Below w0.heap.size w0 w) (hl:Boxed w Bq 341 (.pointer (some ⟨qb,qo,none⟩))) (hq:DQ w0 base qb qo L) (hb:∀ x∈L,0≤x.2.2∧x.2.2≤65536):
  SeqStopsK Fence.wide m Tryz.prog 310 #[.pointer (some ⟨Bq,0,none⟩)] enc2 (Below w0.heap.size) (fun ys=>ys=absL 0 (tlOf L)) (fun pre=>pre <+:absL 0 (tlOf L)) L.length w:=by
 intro l J Jx W hW hJ hJx hY h0;refine callsIn_of_wp Tryz.func310 rfl trivial ?_ rfl;simp only [Tryz.ntmps310,List.size_toArray,List.length_cons,List.length_nil,Nat.reduceAdd,Nat.reduceSub,Array.replicate_succ,Array.replicate_zero,List.push_toArray,List.append_toArray,List.nil_append,List.cons_append];have h1:1≤m:=by omega
 have hl':=(hW.cell (zal hl.cell)).trans hl.cell;have hbW:=hb0.trans (hW.mono hb0.size);have hf':=(hbW.cell (zal hq.first)).trans hq.first;obtain⟨n,hnn⟩:∃ n,L.length=n:=⟨_,rfl⟩;have HN:=hid hnn;have hn64:n≤64:=by omega
 have HPT:=hid (fun k (hk:k≤n)=>posT_at hq.nd (k:=k) (by omega));have hst:zge L=zge (L.drop 0):=by simp
 rw [hst] at hf';rw [hnn] at hY;clear hnn hst
 gi_wp2
 gi_loopw [3,4] (fun tk t wr=>∃ k:Nat,k≤n∧t=.pointer (zge (L.drop k))∧tk=.int .i64 (sumB k L)∧J ((absL 0 (tlOf L)).take k) wr∧Below w0.heap.size w0 wr) (fun _ t _=>n - posT L t)
 case atStart=>exact⟨0,Nat.zero_le _,rfl,rfl,h0,hbW⟩
 case round=>
  obtain⟨k,hk,rfl,rfl,hJs,hnx⟩:=hrel;by_cases hlt:k < n
  ·have hkl:k < L.length:=by have:=HN.out;omega
   obtain⟨t0,t1,t2,_⟩:=zfr (hq.ch.at_ hkl);have HV:=hid (HPT.out k hk);have HV2:=hid (HPT.out (k+1) hlt);have hc:=hb _ (List.getElem_mem hkl);have hsb:=znh k hb;have HSU:=hid (zp9 hkl);have HTK:=hid (zvs 0 hkl);rw [zed hkl] at HV ⊢;obtain⟨x,hx⟩:∃ x,L[k]=x:=⟨_,rfl⟩;rw [hx] at t0 t1 t2 hc HSU HTK HV ⊢;obtain⟨b,i,c⟩:=x;dsimp only at t0 t1 t2 hc HSU HTK HV ⊢;rw [HSU.out,Int.zero_add] at HTK;obtain⟨s,hs⟩:∃ s,sumB k L=s:=⟨_,rfl⟩;rw [hs] at hsb HSU HTK ⊢;have e0:=(hnx.cell (zal t0)).trans t0;have e1:=(hnx.cell (zal t1)).trans t1;obtain⟨nx,hnxp⟩:∃ nx,zge (L.drop (k+1))=nx:=⟨_,rfl⟩;have HNX:=hid hnxp;rw [hnxp] at t2 HV2;have HP:=hid (show (absL 0 (tlOf L)).take (k+1) <+:absL 0 (tlOf L) from List.take_prefix _ _);obtain⟨fn,tmps,assign,body,hy,hR⟩:=hY _ (i,s+c) wr hJs (by rw [List.length_take,zBn];omega);dsimp only [enc2] at hy;have T2:=hid t2;clear hx hs hnxp t0 t1 t2
   gi_wp2
   refine hR.mono ?_;rintro e W3 (⟨rfl,hJ3,hk3⟩|⟨rfl,hJx3⟩)
   ·have hn3:=hnx.trans hk3
    have e2:=(hn3.cell (zal T2.out)).trans T2.out
    gi_wp2
    go_roundw
    case rel=>exact⟨k+1,by omega,by rw [HNX.out],by rw [HSU.out],by rw [HTK.out];exact hJ3,hn3⟩
    case measure=>rw [HV.out,HV2.out];omega
   ·gi_wp2
    refine bodyPost_ret (results_none rfl _ _ _) rfl ?_;exact⟨⟨_,rfl⟩,.inr ⟨_,by rw [←HTK.out];exact HP.out,hJx3⟩⟩
  ·obtain rfl:k=n:=by omega
   rw [zeh (by have:=HN.out;omega)]
   gi_wp2
   go_end0
   exact⟨⟨_,rfl⟩,.inl ⟨_,rfl,by rw [List.take_of_length_le (by rw [zBn];have:=HN.out;omega)] at hJs;exact hJs⟩⟩
theorem dall_any (qb qo:Nat) (w:World):Calls Tryz.prog 303 #[.pointer (some ⟨qb,qo,none⟩)] w fun e w'=>e=.returned (.func (.func 310) #[] #[.pointer (some ⟨w.heap.size,0,none⟩)])∧w.alloc (.cells #[.pointer (some ⟨qb,qo,none⟩)] 341)=w':=by
 go_enter Tryz.func303,Tryz.ntmps303;go_wp2;go_ret;exact⟨rfl,rfl⟩
def dR2:Option Int→Int×Bool
 |some t=>(t,true)
 |none=>(0,false)
theorem zs1 {id t:Int} {pre l:TL} (hp:pre ++ [(id,t)] <+:l) (hn:∀ x∈pre,x.1≠id):look id l=some t:=by
 obtain⟨r,rfl⟩:=hp;unfold look;rw [List.append_assoc,List.find?_append,List.find?_eq_none.2 (fun x hx=>by simpa using hn x hx)];simp
set_option maxRecDepth 100000 in
set_option maxHeartbeats 1000000 in
theorem ddue_any (base qb qo:Nat) (L:List (Nat×Int×Int)) (id:Int) (w:World) (hq:DQ w base qb qo L) (hb:∀ x∈L,0≤x.2.2∧x.2.2≤65536) (hn:L.length≤64):
  Calls Tryz.prog 267 #[.pointer (some ⟨qb,qo,none⟩),.int .i64 id] w fun e w'=>e=.returned (.tuple #[.int .i64 (dR2 (dueF id 0 (tlOf L))).1,.bool (dR2 (dueF id 0 (tlOf L))).2])∧Below w.heap.size w w':=by
 have c0:=zaq w (.int .i64 id) 3;have c1:=zaq (w.alloc (.cells #[.int .i64 id] 3)) (.int .i64 0) 3;have c2:=zaq ((w.alloc (.cells #[.int .i64 id] 3)).alloc (.cells #[.int .i64 0] 3)) (.bool false) 4;simp only [World.size_alloc] at c1 c2;have hB0:Below w.heap.size w (((w.alloc (.cells #[.int .i64 id] 3)).alloc (.cells #[.int .i64 0] 3)).alloc (.cells #[.bool false] 4)):=(((Below.refl _ w).alloc (Nat.le_refl _) _).alloc (by simp) _).alloc (by simp;omega) _;obtain⟨W0,hW0⟩:∃ W0,W0=((w.alloc (.cells #[.int .i64 id] 3)).alloc (.cells #[.int .i64 0] 3)).alloc (.cells #[.bool false] 4):=⟨_,rfl⟩;have hsz:W0.heap.size=w.heap.size+3:=by rw [hW0];simp
 have b0:W0.cell? ⟨w.heap.size,0,none⟩=some (.int .i64 id):=by rw [hW0];exact zay _ (zay _ c0.1)
 have b1:W0.cell? ⟨w.heap.size+1,0,none⟩=some (.int .i64 0):=by rw [hW0];exact zay _ c1.1
 have b2:W0.cell? ⟨w.heap.size+1+1,0,none⟩=some (.bool false):=by rw [hW0];exact c2.1
 have f1:W0.frozen? ⟨w.heap.size+1,0,none⟩=false:=by rw [hW0];exact zbs _ c1.1 c1.2
 have f2:W0.frozen? ⟨w.heap.size+1+1,0,none⟩=false:=by rw [hW0];exact c2.2
 rw [←hW0] at hB0;have hbx:=Boxed.new W0 341 (.pointer (some ⟨qb,qo,none⟩));have hBX:Below W0.heap.size W0 (W0.alloc (.cells #[.pointer (some ⟨qb,qo,none⟩)] 341)):=(Below.refl _ _).alloc (Nat.le_refl _) _;have hB1:=hB0.trans (hBX.mono hB0.size);have HSQ:=hid (dall1_in 9 (by omega) W0.heap.size base qb qo L w (W0.alloc (.cells #[.pointer (some ⟨qb,qo,none⟩)] 341)) hn hB1 hbx hq hb);have HD:=hid (zmc id (tlOf L) 0);obtain⟨Y,hY⟩:∃ Y,absL 0 (tlOf L)=Y:=⟨_,rfl⟩;rw [hY] at HSQ HD;obtain⟨R,hR⟩:∃ R,dueF id 0 (tlOf L)=R:=⟨_,rfl⟩;rw [hR] at HD ⊢;obtain⟨N,hN⟩:∃ N,L.length=N:=⟨_,rfl⟩;rw [hN] at HSQ;clear hY hR hN hq hb hn c0 c1 c2;refine (callsIn_wide (n:=10)).1 ?_;refine callsIn_of_wp_marks Tryz.func267 rfl trivial ?_ rfl;simp only [Tryz.ntmps267,List.size_toArray,List.length_cons,List.length_nil,Nat.reduceAdd,Nat.reduceSub,Array.replicate_succ,Array.replicate_zero,List.push_toArray,List.append_toArray,List.nil_append,List.cons_append]
 gi_wp2
 rw [←hW0];refine⟨trivial,?_⟩;refine (callsIn_wide.2 (dall_any qb qo W0)).mono ?_;rintro e w1 ⟨rfl,rfl⟩;clear hW0;have hszh:=hid hsz;clear hsz
 gi_wp2
 refine wpIn_rangeFunc_ownF rfl (by omega) (gf:=310) (lb:=#[.pointer (some ⟨W0.heap.size,0,none⟩)]) rfl trivial (enters_of Tryz.func310 (by kernel_rfl) rfl) HSQ.out belowK_t (belowK_b (by have:=hszh.out;simp;omega)) (Below.refl _ _) (fun _=>rfl)
  (fun pre W=>((∀ x∈pre,x.1≠id)∧W.cell? ⟨w.heap.size,0,none⟩=some (.int .i64 id)∧W.cell? ⟨w.heap.size+1,0,none⟩=some (.int .i64 0)∧W.frozen? ⟨w.heap.size+1,0,none⟩=false∧W.cell? ⟨w.heap.size+1+1,0,none⟩=some (.bool false)∧W.frozen? ⟨w.heap.size+1+1,0,none⟩=false)∧Below w.heap.size w W)
  (fun c pre W=>(∃ (p:TL) (t:Int),c=.ret∧pre=p ++ [(id,t)]∧(∀ x∈p,x.1≠id)∧W.cell? ⟨w.heap.size+1,0,none⟩=some (.int .i64 t)∧W.cell? ⟨w.heap.size+1+1,0,none⟩=some (.bool true))∧Below w.heap.size w W)
  (OwnFrom.and (Own.from (fun s A B row hs hg hr=>⟨hs.1,cell_kept hs.2.1 hg hr,cell_kept hs.2.2.1 hg hr,(frozen_kept hs.2.2.1 hg hr).trans hs.2.2.2.1,cell_kept hs.2.2.2.2.1 hg hr,(frozen_kept hs.2.2.2.2.1 hg hr).trans hs.2.2.2.2.2⟩) _) (ownFrom_below (Nat.le_refl _) (by have:=hszh.out;simp;omega)))
  (fun c=>OwnFrom.and (Own.from (fun s A B row hs hg hr=>by
   obtain⟨p,t,h1,h2,h3,h4,h5⟩:=hs;exact⟨p,t,h1,h2,h3,cell_kept h4 hg hr,cell_kept h5 hg hr⟩) _) (ownFrom_below (Nat.le_refl _) (by have:=hszh.out;simp;omega)))
  ⟨⟨fun x hx=>(by cases hx),zay _ b0,zay _ b1,zbs _ b1 f1,zay _ b2,zbs _ b2 f2⟩,hB1⟩
  (fun x=>{ tmps:=#[.pointer (some ⟨qb,qo,none⟩),.int .i64 id,undef,.pointer (some ⟨w.heap.size,0,none⟩),.pointer (some ⟨w.heap.size+1,0,none⟩),.pointer (some ⟨w.heap.size+1+1,0,none⟩),.int .i64 x.1,.int .i64 x.2,.pointer (some ⟨qb,qo,none⟩),.func (.func 310) #[] #[.pointer (some ⟨W0.heap.size,0,none⟩)],.int .i64 x.1,.int .i64 x.2,undef,undef,undef,undef],defers:=[] }) ?assign ?body ?done ?stop
 case assign=>
  intro l x W K hK;simp only [enc2]
  gi_wp2
  exact hK
 case body=>
  rintro l pre ⟨i,t⟩ W ⟨⟨h1,h2,h3,h4,h5,h6⟩,hB⟩ _;have h0:(1:Nat)≤10 - 1 - 1:=by omega
  by_cases hi:i=id
  ·subst hi
   have ti:(i == i)=true:=by simp
   have H1:=hid h1;clear h1
   gi_wp2
   exact⟨(KeepsOthers.setCell _ _ _).trans (KeepsOthers.setCell _ _ _),⟨pre,t,rfl,rfl,H1.out,by simp [go_sem,h3],by simp [go_sem,h5]⟩,(hB.setCell (p:=⟨w.heap.size+1,0,none⟩) (by simp) _).setCell (p:=⟨w.heap.size+1+1,0,none⟩) (by simp;omega) _⟩
  ·have ti:(i == id)=false:=by simpa using hi
   have H1:Hid (∀ x∈pre ++ [(i,t)],x.1≠id):=fun x hx=>by
    rcases List.mem_append.1 hx with h|h
    ·exact h1 x h
    ·simp only [List.mem_singleton] at h;subst h;exact hi
   clear h1
   gi_wp2
   exact⟨KeepsOthers.refl _,Below.refl _ _,⟨H1.out,h2,h3,h4,h5,h6⟩,hB⟩
 case done=>
  rintro D ys W hD rfl ⟨⟨h1,h2,h3,h4,h5,h6⟩,hB⟩ hK;have hRn:R=none:=by rw [HD.out];exact zlv.2 h1
  have hD2:w.heap.size≤D:=by have:=hszh.out;simp at hD;omega
  clear h1
  gi_wp2
  have hK':=((KeepsOthers.setCell W ⟨w.heap.size+1,0,none⟩ (.int .i64 0)).trans (KeepsOthers.setCell _ ⟨w.heap.size+1+1,0,none⟩ (.bool false))).same D _ hK rfl;refine⟨by simp,.inl ⟨_,_,rfl,run_takeDeferred hK',?_⟩⟩;have e0:((W.setCell ⟨w.heap.size+1,0,none⟩ (.int .i64 0)).setCell ⟨w.heap.size+1+1,0,none⟩ (.bool false)).cell? ⟨w.heap.size+1,0,none⟩=some (.int .i64 0):=by simp [go_sem,h3]
  have e1:((W.setCell ⟨w.heap.size+1,0,none⟩ (.int .i64 0)).setCell ⟨w.heap.size+1+1,0,none⟩ (.bool false)).cell? ⟨w.heap.size+1+1,0,none⟩=some (.bool false):=by simp [go_sem,h5]
  have g0:=cell_kept e0 (grownBy_putObj' _ D (.deferred none)) (fun r e=>by cases e;exact⟨_,hK',rfl⟩);have g1:=cell_kept e1 (grownBy_putObj' _ D (.deferred none)) (fun r e=>by cases e;exact⟨_,hK',rfl⟩);refine⟨.tuple #[.int .i64 0,.bool false],?_,by rw [hRn];rfl,((hB.setCell (p:=⟨w.heap.size+1,0,none⟩) (by simp) _).setCell (p:=⟨w.heap.size+1+1,0,none⟩) (by simp;omega) _).trans (belowK_b (w:=w) (Nat.le_refl _) _ D _ _ hD2 hK' rfl rfl)⟩;simp [results,Tryz.f267,go_sem,g0,g1]
 case stop=>
  rintro D c pre W hD hpre ⟨⟨p,t,rfl,rfl,h1,h2,h3⟩,hB⟩ hK;have hRs:R=some t:=by rw [HD.out];exact zs1 hpre h1
  have hD2:w.heap.size≤D:=by have:=hszh.out;simp at hD;omega
  clear h1
  gi_wp2
  refine⟨by simp,.inl ⟨_,_,rfl,run_takeDeferred hK,?_⟩⟩;have g0:=cell_kept h2 (grownBy_putObj' _ D (.deferred none)) (fun r e=>by cases e;exact⟨_,hK,rfl⟩);have g1:=cell_kept h3 (grownBy_putObj' _ D (.deferred none)) (fun r e=>by cases e;exact⟨_,hK,rfl⟩);refine⟨.tuple #[.int .i64 t,.bool true],?_,by rw [hRs];rfl,hB.trans (belowK_b (w:=w) (Nat.le_refl _) W D _ _ hD2 hK rfl rfl)⟩;simp [results,Tryz.f267,go_sem,g0,g1]
end Go.Proofs.YtpbmmoneeoijaaaGreatDoor.Dl
