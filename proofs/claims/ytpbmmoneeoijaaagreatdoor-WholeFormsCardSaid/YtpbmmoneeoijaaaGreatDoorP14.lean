/-
  A part of the proof: Chain.
-/
import Derived.Test.YtpbmmoneeoijaaaGreatDoorP13
namespace Go.Proofs.YtpbmmoneeoijaaaGreatDoor
open Go.RowKit
section
variable {P:Program} {ops:Array Oper}
def only (K:Act→World→Prop):Exit→Act→World→Prop:=fun e a w=>e=.normal∧K a w
theorem zgc {K:Act→World→Prop}:¬ LetsOut (only K):=fun ⟨_,_,h,_⟩=>by cases h
def zaq (P:Program) (C:World→Prop) (o:Oper) (a:Act) (v:Value):Prop:=∀ w,C w→(execOp a.eval o).run P w=.ok (.value v) w
def wpFl (P:Program) (ops:Array Oper) (C:World→Prop) (T:List Nat) (Q:Act→Prop):Nat→List Oper→Act→Prop
 |_,[],a=>Q a
 |k,o :: rest,a=>if T.contains k=true then wpFl P ops C T Q (k+1) rest a
   else if Region.wanted o (yielded ops a.tmps) then ∃ v,zaq P C o a v∧wpFl P ops C T Q (k+1) rest (a.put o.dst v)
   else wpFl P ops C T Q (k+1) rest (a.put o.dst undef)
def wpTl (P:Program) (ops:Array Oper) (C:World→Prop) (Q:Act→World→Prop):List Nat→Act→World→Prop
 | [],a,w=>Q a w
 |i :: rest,a,w=>∃ o,ops[i]? =some o∧wpList P ops (only fun a' w'=>C w'∧wpTl P ops C Q rest a' w') [o] a w
def flo (T:List Nat) (j:Nat):Bool:=!T.contains j
def FlOk (P:Program) (ops:Array Oper) (C:World→Prop) (T:List Nat) (a0:Act) (V:Nat→Value) (k:Nat) (o:Oper):Prop:=
 (Region.wanted o (yielded ops (FF ops V (flo T) a0 k).tmps)=true∧zaq P C o (FF ops V (flo T) a0 k) (V k))∨
 (Region.wanted o (yielded ops (FF ops V (flo T) a0 k).tmps)=false∧V k=undef)
theorem zm6 {T:List Nat} {C:World→Prop} {Q:Act→Prop} (a0:Act):∀ (l:List Oper) (k:Nat) (a:Act) (V0:Nat→Value),(∀ j,j < l.length→ops[k+j]? =l[j]?)→a=FF ops V0 (flo T) a0 k→
  wpFl P ops C T Q k l a→∃ V,(∀ j,j < k→V j=V0 j)∧(∀ j o,k≤j→j < k+l.length→T.contains j=false→ops[j]? =some o→FlOk P ops C T a0 V j o)∧Q (FF ops V (flo T) a0 (k+l.length))
 | [],k,a,V0,_,ha,h=>⟨V0,fun _ _=>rfl,fun j o h1 h2=>by simp at h2;omega,by subst ha;exact h⟩
 |o :: rest,k,a,V0,hl,ha,h=>by
  have hok:ops[k]? =some o:=by have:=hl 0 (by simp);simpa using this
  have hl':∀ j,j < rest.length→ops[k+1+j]? =rest[j]?:=fun j hj=>by
   have:=hl (j+1) (by simp;omega);rw [show k+1+j=k+(j+1) by omega,this];simp
  unfold wpFl at h;by_cases hT:T.contains k=true
  ·rw [if_pos hT] at h
   obtain⟨V,h1,h2,h3⟩:=zm6 a0 rest (k+1) a V0 hl' (by
    subst ha;simp only [FF,flo,hT,Bool.not_true,Bool.false_eq_true,if_false]) h
   refine⟨V,fun j hj=>h1 j (by omega),fun j o' hj1 hj2 hjT ho'=>?_,?_⟩
   ·by_cases hjk:j=k
    ·subst hjk;rw [hT] at hjT;cases hjT
    ·exact h2 j o' (by omega) (by simp at hj2;omega) hjT ho'
   ·rw [show k+(o :: rest).length=k+1+rest.length by simp;omega];exact h3
  ·rw [if_neg hT] at h
   have hT':T.contains k=false:=by simpa using hT
   have go:∀ (v:Value),(∀ V:Nat→Value,(∀ j,j < k→V j=V0 j)→V k=v→FlOk P ops C T a0 V k o)→wpFl P ops C T Q (k+1) rest (a.put o.dst v)→
     ∃ V,(∀ j,j < k→V j=V0 j)∧(∀ j o',k≤j→j < k+(o :: rest).length→T.contains j=false→ops[j]? =some o'→FlOk P ops C T a0 V j o')∧Q (FF ops V (flo T) a0 (k+(o :: rest).length)):=fun v hstep hrest=>by
    obtain⟨V,h1,h2,h3⟩:=zm6 a0 rest (k+1) (a.put o.dst v) (fun j=>if j=k then v else V0 j) hl' (by
      subst ha;simp only [FF,flo,hT',Bool.not_false,if_true];have e1:zfc ops k=o.dst:=by unfold zfc;rw [hok];rfl
      rw [e1]
      congr 1
      exact FF_V _ _ _ fun j hj=>by rw [if_neg (by omega)]) hrest
    have hv:V k=v:=by rw [h1 k (by omega)];simp
    have hlt:∀ j,j < k→V j=V0 j:=fun j hj=>by rw [h1 j (by omega),if_neg (by omega)]
    refine⟨V,hlt,fun j o' hj1 hj2 hjT ho'=>?_,?_⟩
    ·by_cases hjk:j=k
     ·subst hjk
      obtain rfl:o'=o:=Option.some.inj (ho'.symm.trans hok);exact hstep V hlt hv
     ·exact h2 j o' (by omega) (by simp at hj2;omega) hjT ho'
    ·rw [show k+(o :: rest).length=k+1+rest.length by simp;omega];exact h3
   have hfr:∀ V:Nat→Value,(∀ j,j < k→V j=V0 j)→FF ops V (flo T) a0 k=a:=fun V hV=>by rw [ha];exact FF_V _ _ _ hV
   by_cases hw:Region.wanted o (yielded ops a.tmps)=true
   ·rw [if_pos hw] at h
    obtain⟨v,hv,hK⟩:=h;refine go v (fun V hV hVk=>.inl ?_) hK;rw [hfr V hV,hVk];exact⟨hw,hv⟩
   ·rw [if_neg hw] at h
    refine go undef (fun V hV hVk=>.inr ?_) h;rw [hfr V hV];exact⟨by simpa using hw,hVk⟩
theorem LK_cut (V:Nat→Value) (c:Nat→Bool) (a0:Act) (t k m:Nat) (hk:k≤m):LK ops V (fun j=>decide (j < k) && c j) a0 t m=LK ops V c a0 t k:=by
 induction m with
 |zero=>
      obtain rfl:k=0:=by omega
      rfl
 |succ m ih=>
  by_cases h:k=m+1
  ·subst h;exact zfw V a0 t _ fun j hj _=>by simp [hj]
  ·simp only [LK]
   rw [if_neg (by simp;omega)];exact ih (by omega)
theorem LK_V {V V':Nat→Value} (c:Nat→Bool) (a0:Act) (t m:Nat) (h:∀ j,j < m→c j=true→V j=V' j):LK ops V c a0 t m=LK ops V' c a0 t m:=by
 induction m with
 |zero=>rfl
 |succ m ih=>
  simp only [LK];rw [ih fun j hj=>h j (by omega)];by_cases hc:c m=true
  ·rw [h m (by omega) hc]
  ·simp [hc]
theorem FF_Vc {V V':Nat→Value} (c:Nat→Bool) (a0:Act) (m:Nat) (h:∀ j,j < m→c j=true→V j=V' j):FF ops V c a0 m=FF ops V' c a0 m:=
 zs4 (fun t=>by rw [zdi,zdi];exact LK_V c a0 t m h) (by rw [zdq,zdq])
theorem zpx (V:Nat→Value) (c:Nat→Bool) (a0:Act) (ds:List Deferred) (t m:Nat):LK ops V c { a0 with defers:=ds } t m=LK ops V c a0 t m:=by
 induction m with
 |zero=>rfl
 |succ m ih=>simp only [LK];rw [ih]
theorem zkl (V:Nat→Value) (c:Nat→Bool) (a0:Act) (ds:List Deferred) (m:Nat):FF ops V c { a0 with defers:=ds } m= { FF ops V c a0 m with defers:=ds }:=
 zs4 (fun t=>by rw [zdi,zpx,←zdi]) (by rw [zdq])
def zlz (ops:Array Oper):List Nat→Prop
 | []=>True
 | [_]=>True
 |x :: y :: r=>wf ops y x∧zlz ops (y :: r)
theorem zxa {x:Nat} {r:List Nat} (h:zlz ops (x :: r)):zlz ops r:=by
 cases r with
 |nil=>trivial
 |cons y r=>exact h.2
theorem zph:∀ (r:List Nat) (x:Nat),zlz ops (x :: r)→∀ i,i∈r→∃ p,p∈x :: r∧wf ops i p
 | [],_,_,i,hi=>by cases hi
 |y :: r,x,h,i,hi=>by
  rcases List.mem_cons.1 hi with rfl|hi
  ·exact⟨x,by simp,h.1⟩
  ·obtain⟨p,hp,hw⟩:=zph r y h.2 i hi
   exact⟨p,List.mem_cons_of_mem _ hp,hw⟩
structure zs3 (ops:Array Oper) (T:List Nat):Prop where
 lx:zqf ops ops.size
 flo:∀ k ok,T.contains k=false→ops[k]? =some ok→∀ e∈ok.after,Region.binds .any e=true→T.contains e.on=false
 chain:zlz ops T
theorem wf_lt {T:List Nat} (ck:zs3 ops T) {j i:Nat} (h:wf ops j i):i < j:=by
 obtain⟨oj,hoj,e,he,hb,rfl⟩:=h;exact ck.lx.back j oj (qLt hoj) hoj e he hb
theorem zut {T:List Nat} (ck:zs3 ops T):∀ (r:List Nat) (x:Nat),zlz ops (x :: r)→∀ i,i∈r→x < i
 | [],_,_,i,hi=>by cases hi
 |y :: r,x,h,i,hi=>by
  have h1:=wf_lt ck h.1;rcases List.mem_cons.1 hi with rfl|hi
  ·exact h1
  ·have:=zut ck r y h.2 i hi
   omega
def zei (listed:Array Bool) (T:List Nat) (n:Nat):Array Bool:=((List.range n).map fun j=>listed.getD j false || flo T j).toArray
theorem zbb {listed:Array Bool} {T:List Nat} {n j:Nat} (hj:j < n) (b:Bool):(zei listed T n).getD j b=(listed.getD j false || flo T j):=by
 unfold zei;simp [hj]
theorem ziw {T:List Nat} (ck:zs3 ops T) {C:World→Prop} {Q':Exit→Act→World→Prop} {a0:Act} {V:Nat→Value} (hstep:∀ j o,T.contains j=false→ops[j]? =some o→FlOk P ops C T a0 V j o):
  ∀ (u:Nat) (listed:Array Bool) (w:World) (rem:List Nat) (V':Nat→Value) (ds:List Deferred),left listed ops.size=u→HeadInv .any ops ops.size listed→C w→(∀ j,flo T j=true→V' j=V j)→
   (∀ j,j < ops.size→T.contains j=true→(listed.getD j false=false↔j∈rem))→(∀ j,j∈rem→j < ops.size∧T.contains j=true)→zlz ops rem→
   wpTl P ops C (fun a w=>Q' .normal a w) rem (FF ops V' (fun j=>listed.getD j false || flo T j) { a0 with defers:=ds } ops.size) w→
   wpAny P .any ops Q' u listed (FF ops V' (fun j=>listed.getD j false) { a0 with defers:=ds } ops.size) w
 |0,listed,w,rem,V',ds,hu,inv,hC,hV,hrem,hin,hch,h=>by
  have hall:=zhl hu;have hrr:Region.ready .any ops listed=[]:=by
   cases hr:Region.ready .any ops listed with
   |nil=>rfl
   |cons i r=>
    have hi:i∈Region.ready .any ops listed:=by rw [hr];simp
    obtain⟨hun,o,ho,_⟩:=mem_ready.1 hi;have:=hall i (qLt ho);rw [getD_both hun] at this;cases this
  refine⟨hrr,?_⟩
  cases rem with
  |nil=>
   have e:FF ops V' (fun j=>listed.getD j false || flo T j) { a0 with defers:=ds } ops.size=FF ops V' (fun j=>listed.getD j false) { a0 with defers:=ds } ops.size:=zcz _ _ _ fun j hj=>by rw [hall j hj];rfl
   rw [e] at h;exact h
  |cons r0 rs=>
   have h1:=hin r0 (by simp);have h2:=(hrem r0 h1.1 h1.2).2 (by simp);rw [hall r0 h1.1] at h2;cases h2
 |u+1,listed,w,rem,V',ds,hu,inv,hC,hV,hrem,hin,hch,h=>by
  have lx:=ck.lx;have hsel:∀ (j:Nat) (o:Oper) (cs:Array SelectCase) (b:Bool),ops[j]? =some o→o.op≠.select cs b:=fun j o cs b h=>Region.noSelect_spec lx.sel j o cs b h;obtain⟨r,hrN,hrl,hrb⟩:=zj7 (listed:=listed) (m:=ops.size) (by omega);have hrr:r∈Region.ready .any ops listed:=by
   have hro:ops[r]? =some ops[r]:=Array.getElem?_eq_getElem (by omega);refine mem_ready.2 ⟨getD_in (by rw [inv.size];omega) hrl,_,hro,fun e he hb=>hrb _ (lx.back r _ hrN hro e he hb)⟩
  refine⟨fun h0=>(by rw [h0] at hrr;cases hrr),fun i hi=>?_⟩;obtain⟨hun,o,ho,hall⟩:=mem_ready.1 hi;have hiN:i < ops.size:=(qLt ho);have his:i < listed.size:=by rw [inv.size];omega
  have hleft:left (listed.setIfInBounds i true) ops.size=u:=by
   have:left listed ops.size=left (listed.setIfInBounds i true) ops.size+1:=by
    refine zpd _ _ i ops.size hiN ?_ ?_ fun j hj=>?_
    ·simp only [za0 his,decide_true,Bool.true_or,Bool.not_true]
    ·simp only [getD_both hun,Bool.not_false]
    ·simp only [za0 his,hj,decide_false,Bool.false_or]
   omega
  have hinv':=inv.set hi hiN;have hdst:zfc ops i=o.dst:=by unfold zfc;rw [ho];rfl
  have at_dst:∀ {j t:Nat},zfc ops j=some t→∃ oj,ops[j]? =some oj∧oj.dst=some t:=fun {j t} hd=>by
   unfold zfc at hd
   cases h:ops[j]? with
   |none=>rw [h] at hd;cases hd
   |some oj=>rw [h] at hd;exact⟨oj,rfl,hd⟩
  cases hT:T.contains i with
  |false=>
   have hfi:flo T i=true:=by unfold flo;rw [hT];rfl
   have hagree:∀ t,t∈o.looksAt ops→(FF ops V' (fun j=>listed.getD j false) { a0 with defers:=ds } ops.size).tmps[t]? =(FF ops V (flo T) a0 i).tmps[t]?:=fun t ht=>by
    rw [zdi,zdi,agree lx inv V' _ hiN ho hi ht,zpx];rw [show LK ops V (flo T) a0 t i=LK ops V' (flo T) a0 t i from LK_V _ _ _ _ fun j _ hj=>(hV j hj).symm,←LK_cut V' (flo T) a0 t i ops.size (by omega)];refine zfw V' a0 t ops.size fun j hj hd=>?_;by_cases hji:j < i
    ·simp only [hji,decide_true,Bool.true_and]
     cases hf:flo T j with
     |true=>rfl
     |false=>
      exfalso;obtain⟨oj,hoj,hdj⟩:=at_dst hd;have hjT:T.contains j=true:=by unfold flo at hf;simpa using hf
      rcases lx.pair j i oj o hji hiN hoj ho with ⟨o',ho',e,he,hb,hon⟩|hap
      ·obtain rfl:o'=o:=Option.some.inj (ho'.symm.trans ho)
       have:=ck.flo i o' hT ho e he hb;rw [hon,hjT] at this;cases this
      ·exact absurd ht ((Oper.apart_spec hap).1 t hdj)
    ·simp only [hji,decide_false,Bool.false_and]
   have hwant:=zbg (ops:=ops) hagree;have hexec:=zbz (ops:=ops) (hsel i o · · ho) hagree;have hput:=zlo lx inv V' { a0 with defers:=ds } hiN ho hi;have next:wpAny P .any ops Q' u (listed.setIfInBounds i true) ((FF ops V' (fun j=>listed.getD j false) { a0 with defers:=ds } ops.size).put o.dst (V i)) w:=by
    rw [←hV i hfi,hput];refine ziw ck hstep u _ w rem V' ds hleft hinv' hC hV (fun j hj hjT=>?_) hin hch ?_
    ·rw [za0 his]
     have:j≠i:=fun e=>by subst e;rw [hT] at hjT;cases hjT
     simp only [this,decide_false,Bool.false_or];exact hrem j hj hjT
    ·have e:FF ops V' (fun j=>(listed.setIfInBounds i true).getD j false || flo T j) { a0 with defers:=ds } ops.size=FF ops V' (fun j=>listed.getD j false || flo T j) { a0 with defers:=ds } ops.size:=zcz _ _ _ fun j hj=>by
      rw [za0 his];by_cases hji:j=i
      ·subst hji;rw [hfi];simp
      ·simp only [hji,decide_false,Bool.false_or]
     rw [e];exact h
   unfold wpOp;simp only [ho];rw [hwant];rcases hstep i o hT ho with ⟨hw,hyes⟩|⟨hw,hyes⟩
   ·rw [if_pos hw]
    left;unfold Oper.wp;rw [hexec,hyes w hC];exact next
   ·rw [if_neg (by rw [hw];simp),←hyes]
    exact next
  |true=>
   have hirem:i∈rem:=(hrem i hiN hT).1 (getD_both hun);obtain⟨r0,rs,rfl⟩:∃ r0 rs,rem=r0 :: rs:=by cases rem with|nil=>cases hirem|cons a b=>exact⟨a,b,rfl⟩
   obtain rfl:i=r0:=by
    rcases List.mem_cons.1 hirem with h1|h1
    ·exact h1
    ·obtain⟨p,hp,hw⟩:=zph rs r0 hch i h1
     have h2:=zfo hi hw;have h3:=hin p hp;rw [(hrem p h3.1 h3.2).2 hp] at h2;cases h2
   obtain⟨o',ho',h⟩:=h;obtain rfl:o'=o:=Option.some.inj (ho'.symm.trans ho);have hagree:∀ t,t∈o'.looksAt ops→(FF ops V' (fun j=>listed.getD j false) { a0 with defers:=ds } ops.size).tmps[t]? =(FF ops V' (fun j=>listed.getD j false || flo T j) { a0 with defers:=ds } ops.size).tmps[t]?:=fun t ht=>by
    rw [zdi,zdi];refine zfw V' _ t ops.size fun j hj hd=>?_
    cases hl:listed.getD j false with
    |true=>rfl
    |false=>
     cases hf:flo T j with
     |false=>rfl
     |true=>
      exfalso;have hjT:T.contains j=false:=by unfold flo at hf;simpa using hf
      obtain⟨oj,hoj,hdj⟩:=at_dst hd;rcases Nat.lt_trichotomy j i with h1|h1|h1
      ·rcases lx.pair j i oj o' h1 hiN hoj ho with hw|hap
       ·have:=zfo hi hw
        rw [hl] at this;cases this
       ·exact absurd ht ((Oper.apart_spec hap).1 t hdj)
      ·subst h1;rw [hT] at hjT;cases hjT
      ·rcases lx.pair i j o' oj h1 hj ho hoj with ⟨oj',hoj',e,he,hb,hon⟩|hap
       ·obtain rfl:oj'=oj:=Option.some.inj (hoj'.symm.trans hoj)
        have:=ck.flo j oj' hjT hoj e he hb;rw [hon,hT] at this;cases this
       ·exact absurd ht ((Oper.apart_spec hap).2.2 t hdj)
   have hwant:=zbg (ops:=ops) hagree;have hexec:=zbz (ops:=ops) (hsel i o' · · ho) hagree;have inv2:HeadInv .any ops ops.size (zei listed T ops.size):=by
    refine⟨by simp [zei],fun j oj hoj hlj e he hb=>?_,fun t h1 h2=>by omega⟩;have hj:j < ops.size:=(qLt hoj);have hej:e.on < ops.size:=by have:=lx.back j oj hj hoj e he hb;omega
    rw [zbb hj] at hlj;rw [zbb hej]
    cases hl:listed.getD j false with
    |true=>rw [inv.closed j oj hoj hl e he hb];rfl
    |false=>
     rw [hl,Bool.false_or] at hlj;have hjT:T.contains j=false:=by unfold flo at hlj;simpa using hlj
     have:=ck.flo j oj hjT hoj e he hb;unfold flo;rw [this];simp
   have hi2:i∈Region.ready .any ops (zei listed T ops.size):=by
    refine mem_ready.2 ⟨?_,o',ho,fun e he hb=>?_⟩
    ·rw [zbb hiN,getD_both hun];unfold flo;rw [hT];rfl
    ·have hej:e.on < ops.size:=by have:=lx.back i o' hiN ho e he hb;omega
     rw [zbb hej,hall e he hb];rfl
   have next:∀ (v:Value) (w':World) (ds':List Deferred),(C w'∧wpTl P ops C (fun a w=>Q' .normal a w) rs ((FF ops V' (fun j=>listed.getD j false || flo T j) { a0 with defers:=ds' } ops.size).put o'.dst v) w')→
     wpAny P .any ops Q' u (listed.setIfInBounds i true) ((FF ops V' (fun j=>listed.getD j false) { a0 with defers:=ds' } ops.size).put o'.dst v) w':=fun v w' ds' hK=>by
    obtain⟨V2,hV2⟩:∃ V2:Nat→Value,V2=fun j=>if j=i then v else V' j:=⟨_,rfl⟩
    have hne:∀ j,j≠i→V' j=V2 j:=fun j hj=>by rw [hV2];simp [hj]
    have hvi:V2 i=v:=by rw [hV2];simp
    have e1:FF ops V' (fun j=>listed.getD j false) { a0 with defers:=ds' } ops.size=FF ops V2 (fun j=>listed.getD j false) { a0 with defers:=ds' } ops.size:=FF_Vc _ _ _ fun j hj hl=>hne j fun e=>by subst e;rw [getD_both hun] at hl;cases hl
    have e2:FF ops V' (fun j=>listed.getD j false || flo T j) { a0 with defers:=ds' } ops.size=FF ops V2 (fun j=>(zei listed T ops.size).getD j false) { a0 with defers:=ds' } ops.size:=by
     rw [FF_Vc (V:=V') (V':=V2) _ _ _ fun j hj hl=>hne j fun e=>by
      subst e;rw [getD_both hun] at hl;unfold flo at hl;rw [hT] at hl;cases hl]
     exact zcz _ _ _ fun j hj=>(zbb hj _).symm
    have p1:=zlo lx inv V2 { a0 with defers:=ds' } hiN ho hi;have p2:=zlo lx inv2 V2 { a0 with defers:=ds' } hiN ho hi2;rw [hvi] at p1 p2;rw [e1,p1];rw [e2,p2] at hK;refine ziw ck hstep u _ w' rs V2 ds' hleft hinv' hK.1 (fun j hj=>?_) (fun j hj hjT=>?_) (fun j hj=>hin j (List.mem_cons_of_mem _ hj)) (zxa hch) ?_
    ·rw [←hV j hj,hne j fun e=>by subst e;unfold flo at hj;rw [hT] at hj;cases hj]
    ·rw [za0 his]
     by_cases hji:j=i
     ·subst hji
      simp only [decide_true,Bool.true_or,Bool.true_eq_false,false_iff];intro hm;have:=zut ck rs j hch j hm;omega
     ·simp only [hji,decide_false,Bool.false_or]
      rw [hrem j hj hjT];simp [hji]
    ·have e3:FF ops V2 (fun j=>(listed.setIfInBounds i true).getD j false || flo T j) { a0 with defers:=ds' } ops.size=FF ops V2 (fun j=>((zei listed T ops.size).setIfInBounds i true).getD j false) { a0 with defers:=ds' } ops.size:=zcz _ _ _ fun j hj=>by
      rw [za0 his,za0 (by rw [inv2.size];exact hiN),zbb hj,Bool.or_assoc]
     rw [e3];exact hK.2
   unfold wpOp;simp only [ho];rw [hwant];unfold wpList at h;by_cases hw:Region.wanted o' (yielded ops (FF ops V' (fun j=>listed.getD j false || flo T j) { a0 with defers:=ds } ops.size).tmps)=true
   ·rw [if_pos hw] at h ⊢
    left;rcases h with h|⟨_,h⟩
    rotate_left
    ·exact (zgc h).elim
    unfold Oper.wp at h ⊢;rw [hexec];generalize (execOp (FF ops V' (fun j=>listed.getD j false || flo T j) { a0 with defers:=ds } ops.size).eval o').run P w=res at h ⊢
    cases res with
    |ok n w'=>
     cases n with
     |value v=>exact next _ _ _ h.2
     |skip=>exact next _ _ _ h.2
     |defer d=>
      have e:=h.2;simp only [Oper.upon];rw [←zkl] at e ⊢;rw [zdq] at e ⊢;exact next _ _ _ e
     |enter f args=>
      refine Calls.mono h ?_;intro e w'' he
      cases e with
      |returned v=>exact next _ _ _ he.2
      |panicked ch=>exact absurd he.1 (by simp)
      |outgrown=>exact (zgc he).elim
     |row row args=>
      refine Rows.mono h ?_;intro v w'' he;exact next _ _ _ he.2
     |_=>exact h.elim
    |halt x w'=>
     cases x with
     |panic v=>exact absurd h.1 (by simp)
     |_=>exact h.elim
   ·rw [if_neg hw] at h ⊢
    exact next _ _ _ h.2
end
def zsu (ops:Array Oper):List Nat→Bool
 | []=>true
 | [_]=>true
 |x :: y :: r=>(ops[y]?).any (zg8 x) && zsu ops (y :: r)
def zDv (T:List Nat):Nat→List Oper→Bool
 |_,[]=>true
 |k,o :: rest=>(T.contains k || o.after.all fun e=>!Region.binds .any e || !T.contains e.on) && zDv T (k+1) rest
def zst (l:List Oper) (T:List Nat):Bool:=
 Region.noSelect l.toArray && zov l.toArray 0 l && zDv T 0 l && zsu l.toArray T && T.all fun j=>decide (j < l.length)
theorem zk6 {T:List Nat}:∀ (l:List Oper) (k:Nat),zDv T k l=true→∀ j o,l[j]? =some o→T.contains (k+j)=false→∀ e∈o.after,Region.binds .any e=true→T.contains e.on=false
 | [],_,_,j,o,ho,_,_,_,_=>by simp at ho
 |x :: rest,k,h,j,o,ho,hT,e,he,hb=>by
  simp only [zDv,Bool.and_eq_true] at h
  cases j with
  |zero=>
   simp only [List.getElem?_cons_zero,Option.some.injEq] at ho;subst ho;have h1:=h.1;rw [Nat.add_zero] at hT;rw [hT,Bool.false_or] at h1;have:=Array.all_eq_true_iff_forall_mem.1 h1 e he;rw [hb] at this;simpa using this
  |succ j=>exact zk6 rest (k+1) h.2 j o (by simpa using ho) (by rw [show k+1+j=k+(j+1) by omega];exact hT) e he hb
theorem zl0 {ops:Array Oper}:∀ T:List Nat,zsu ops T=true→zlz ops T
 | [],_=>trivial
 | [_],_=>trivial
 |x :: y :: r,h=>by
  simp only [zsu,Bool.and_eq_true] at h;refine⟨?_,zl0 (y :: r) h.2⟩
  cases hy:ops[y]? with
  |none=>rw [hy] at h;simp at h
  |some z=>rw [hy] at h;exact zbs hy (by simpa using h.1)
theorem zjj {P:Program} {Q:Exit→Act→World→Prop} {a:Act} {w:World} {l:List Oper} (T:List Nat) (C:World→Prop) (hB:zst l T=true) (h0:C w.drew)
  (h:wpFl P l.toArray C T (fun a'=>wpTl P l.toArray C (fun a w=>Q .normal a w) T a' w.drew) 0 l a):wpAny P .any l.toArray Q l.toArray.size (Array.replicate l.toArray.size false) a w.drew:=by
 simp only [zst,Bool.and_eq_true] at hB;obtain⟨⟨⟨⟨hsel,hlex⟩,hflo⟩,hchain⟩,hin⟩:=hB;have hls:l.toArray.size=l.length:=by simp
 have lx:zqf l.toArray l.toArray.size:=by
  refine⟨Nat.le_refl _,hsel,fun k ok hk hok e he hb=>?_,fun k j ok oj hkj hj hok hoj=>?_⟩
  ·have:=zgf l 0 hlex k ok (by simpa using hok) e he hb
   omega
  ·rcases zge l 0 hlex k j ok oj hkj (by simpa using hok) (by simpa using hoj) with h1|h1
   ·left;rw [Nat.zero_add] at h1;exact zbs hoj h1
   ·exact .inr h1
 have ck:zs3 l.toArray T:=⟨lx,fun k ok hT hok e he hb=>zk6 l 0 hflo k ok (by simpa using hok) (by rw [Nat.zero_add];exact hT) e he hb,zl0 T hchain⟩;obtain⟨V,_,hstep,hfin⟩:=zm6 (P:=P) (ops:=l.toArray) (C:=C) (T:=T) a l 0 a (fun _=>undef) (fun j hj=>by rw [Nat.zero_add];simp) rfl h;have inv0:HeadInv .any l.toArray l.toArray.size (Array.replicate l.toArray.size false):=
  ⟨Array.size_replicate,fun j oj _ hl=>(by rw [getD_replicate_false] at hl;cases hl),fun t _ ht=>getD_in (by rw [Array.size_replicate];exact ht) (getD_replicate_false _ _)⟩
 have hleft:left (Array.replicate l.toArray.size false) l.toArray.size=l.toArray.size:=by
  have:∀ m,left (Array.replicate l.toArray.size false) m=m:=fun m=>by
   induction m with
   |zero=>rfl
   |succ m ih=>unfold left at ih ⊢;simp only [cnt];rw [ih];simp only [getD_replicate_false,Bool.not_false,if_true]
  exact this _
 have hff:FF l.toArray V (fun j=>(Array.replicate l.toArray.size false).getD j false) { a with defers:=a.defers } l.toArray.size=a:=by
  have:∀ m,FF l.toArray V (fun j=>(Array.replicate l.toArray.size false).getD j false) a m=a:=fun m=>by
   induction m with
   |zero=>rfl
   |succ m ih=>simp only [FF,getD_replicate_false,Bool.false_eq_true,if_false];simpa only [getD_replicate_false] using ih
  exact this _
 have:=ziw (P:=P) (Q':=Q) (a0:=a) (V:=V) (C:=C) ck (fun j o hT ho=>hstep j o (Nat.zero_le _) (by have:=(qLt ho);rw [hls] at this;omega) hT ho) l.toArray.size _ w.drew T V a.defers hleft inv0 h0 (fun _ _=>rfl)
  (fun j hj hT=>⟨fun _=>by simpa using hT,fun _=>getD_replicate_false _ _⟩) (fun j hj=>⟨by have:=List.all_eq_true.1 hin j hj;rw [hls];simpa using this,by simpa using hj⟩) ck.chain (by
   have e:FF l.toArray V (fun j=>(Array.replicate l.toArray.size false).getD j false || flo T j) { a with defers:=a.defers } l.toArray.size=FF l.toArray V (flo T) a (0+l.length):=by
    rw [Nat.zero_add,←hls];exact zcz _ _ _ fun j hj=>by rw [getD_replicate_false,Bool.false_or]
   rw [e];exact hfin)
 rw [hff] at this;exact this
theorem ze0 {P:Program} {id:Nat} {Q:Exit→Act→World→Prop} {a:Act} {w:World} {l:List Oper} (T:List Nat) (C:World→Prop) (hm:P.follows .mixedOrders=true) (hB:zst l T=true) (h0:C w.drew)
  (h:wpFl P l.toArray C T (fun a'=>wpTl P l.toArray C (fun a w=>Q .normal a w) T a' w.drew) 0 l a):(Code.region id l.toArray true).wp P Q a w:=
 wp_region_any hm (zjj T C hB h0 h)
section
variable {P:Program} {ops:Array Oper} {C:World→Prop} {T:List Nat} {Q:Act→Prop} {k:Nat} {o:Oper} {rest:List Oper} {a:Act}
theorem zAw (hT:T.contains k=true) (h:wpFl P ops C T Q (k+1) rest a):wpFl P ops C T Q k (o :: rest) a:=by
 unfold wpFl;rw [if_pos hT];exact h
theorem zAv (hT:T.contains k=false) (hw:Region.wanted o (yielded ops a.tmps)=true) (h:∀ K:Act→Prop,(∀ a,wpFl P ops C T Q (k+1) rest a→K a)→∃ v,zaq P C o a v∧K (a.put o.dst v)):wpFl P ops C T Q k (o :: rest) a:=by
 unfold wpFl;rw [if_neg (by rw [hT];simp),if_pos hw];exact h _ fun _ h=>h
theorem za9 (h:Q a):wpFl P ops C T Q k [] a:=h
theorem zeg {Q:Act→World→Prop} {i:Nat} {rest:List Nat} {w:World} (ho:ops[i]? =some o) (h:∀ K:Exit→Act→World→Prop,(∀ a' w',C w'→wpTl P ops C Q rest a' w'→K .normal a' w')→wpList P ops K [o] a w):wpTl P ops C Q (i :: rest) a w:=
 ⟨o,ho,h _ fun _ _ h1 h2=>⟨rfl,h1,h2⟩⟩
theorem zrk {Q:Act→World→Prop} {w:World} (h:Q a w):wpTl P ops C Q [] a w:=h
end
end Go.Proofs.YtpbmmoneeoijaaaGreatDoor
