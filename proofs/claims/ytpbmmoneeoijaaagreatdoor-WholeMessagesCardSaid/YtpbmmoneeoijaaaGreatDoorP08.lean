/-
  A part of the proof: Free Edge10 EdgeFn TaskFn QueuesFn MapsFn.
-/
import Derived.Test.YtpbmmoneeoijaaaGreatDoorP07
import Derived.Deep.CutBlock
import Derived.Deep.MidRow
namespace Go.Proofs.YtpbmmoneeoijaaaGreatDoor
open Go.RowKit
section
variable {P:Program} {ops:Array Oper}
def rdyB (ops:Array Oper) (rem:List Nat) (i:Nat):Bool:=rem.all fun r=>!(ops[i]?).any (zes r)
def allB (ops:Array Oper) (i:Nat):Bool:=(List.range ops.size).all fun j=>(j == i) || (ops[i]?).any fun o=>zes j o || o.after.any fun e=>Region.binds .any e && (ops[e.on]?).any (zes j)
def wpTs (P:Program) (ops:Array Oper) (C:World→Prop) (Q:Act→World→Prop):Nat→List Nat→Act→World→Prop
 |0,_,a,w=>Q a w
 |m+1,rem,a,w=>∀ i,i∈rem→rdyB ops rem i=true→∃ o,ops[i]? =some o∧wpList P ops (only fun a' w'=>(allB ops i=true∨C w')∧wpTs P ops C Q m (rem.erase i) a' w') [o] a w
structure FreeOk (ops:Array Oper) (T:List Nat):Prop where
 lx:znc ops ops.size
 flo:∀ k ok,T.contains k=false→ops[k]? =some ok→∀ e∈ok.after,Region.binds .any e=true→T.contains e.on=false
theorem zjj {T:List Nat} (ck:FreeOk ops T) {C:World→Prop} {Q':Exit→Act→World→Prop} {a0:Act} {V:Nat→Value} (hstep:∀ j o,T.contains j=false→ops[j]? =some o→FlOk P ops C T a0 V j o):
  ∀ (u:Nat) (listed:Array Bool) (w:World) (rem:List Nat) (V':Nat→Value) (ds:List Deferred),left listed ops.size=u→HeadInv .any ops ops.size listed→(u≠0→C w)→(∀ j,flo T j=true→V' j=V j)→
   (∀ j,j < ops.size→T.contains j=true→(listed.getD j false=false↔j∈rem))→(∀ j,j∈rem→j < ops.size∧T.contains j=true)→rem.Nodup→
   wpTs P ops C (fun a w=>Q' .normal a w) rem.length rem (FF ops V' (fun j=>listed.getD j false || flo T j) { a0 with defers:=ds } ops.size) w→
   wpAny P .any ops Q' u listed (FF ops V' (fun j=>listed.getD j false) { a0 with defers:=ds } ops.size) w
 |0,listed,w,rem,V',ds,hu,inv,hC,hV,hrem,hin,hch,h=>by
  have hall:=zgn hu;have hrr:Region.ready .any ops listed=[]:=by
   cases hr:Region.ready .any ops listed with
   |nil=>rfl
   |cons i r=>
    have hi:i∈Region.ready .any ops listed:=by rw [hr];simp
    obtain⟨hun,o,ho,_⟩:=mem_ready.1 hi;have:=hall i (Array.getElem?_eq_some_iff.1 ho).1;rw [getD_both hun] at this;cases this
  refine⟨hrr,?_⟩
  cases rem with
  |nil=>
   have e:FF ops V' (fun j=>listed.getD j false || flo T j) { a0 with defers:=ds } ops.size=FF ops V' (fun j=>listed.getD j false) { a0 with defers:=ds } ops.size:=zcf _ _ _ fun j hj=>by rw [hall j hj];rfl
   rw [e] at h;exact h
  |cons r0 rs=>
   have h1:=hin r0 (by simp);have h2:=(hrem r0 h1.1 h1.2).2 (by simp);rw [hall r0 h1.1] at h2;cases h2
 |u+1,listed,w,rem,V',ds,hu,inv,hC,hV,hrem,hin,hch,h=>by
  have lx:=ck.lx;have hsel:∀ (j:Nat) (o:Oper) (cs:Array SelectCase) (b:Bool),ops[j]? =some o→o.op≠.select cs b:=fun j o cs b h=>Region.noSelect_spec lx.sel j o cs b h;obtain⟨r,hrN,hrl,hrb⟩:=zix (listed:=listed) (m:=ops.size) (by omega);have hrr:r∈Region.ready .any ops listed:=by
   have hro:ops[r]? =some ops[r]:=Array.getElem?_eq_getElem (by omega);refine mem_ready.2 ⟨getD_in (by rw [inv.size];omega) hrl,_,hro,fun e he hb=>hrb _ (lx.back r _ hrN hro e he hb)⟩
  refine⟨fun h0=>(by rw [h0] at hrr;cases hrr),fun i hi=>?_⟩;obtain⟨hun,o,ho,hall⟩:=mem_ready.1 hi;have hiN:i < ops.size:=(Array.getElem?_eq_some_iff.1 ho).1;have his:i < listed.size:=by rw [inv.size];omega
  have hleft:left (listed.setIfInBounds i true) ops.size=u:=by
   have:left listed ops.size=left (listed.setIfInBounds i true) ops.size+1:=by
    refine zme _ _ i ops.size hiN ?_ ?_ fun j hj=>?_
    ·simp only [zav his,decide_true,Bool.true_or,Bool.not_true]
    ·simp only [getD_both hun,Bool.not_false]
    ·simp only [zav his,hj,decide_false,Bool.false_or]
   omega
  have hinv':=inv.set hi hiN;have hdst:zem ops i=o.dst:=by unfold zem;rw [ho];rfl
  have at_dst:∀ {j t:Nat},zem ops j=some t→∃ oj,ops[j]? =some oj∧oj.dst=some t:=fun {j t} hd=>by
   unfold zem at hd
   cases h:ops[j]? with
   |none=>rw [h] at hd;cases hd
   |some oj=>rw [h] at hd;exact⟨oj,rfl,hd⟩
  cases hT:T.contains i with
  |false=>
   have hfi:flo T i=true:=by unfold flo;rw [hT];rfl
   have hagree:∀ t,t∈o.looksAt ops→(FF ops V' (fun j=>listed.getD j false) { a0 with defers:=ds } ops.size).tmps[t]? =(FF ops V (flo T) a0 i).tmps[t]?:=fun t ht=>by
    rw [zcv,zcv,agree lx inv V' _ hiN ho hi ht,zmw];rw [show LK ops V (flo T) a0 t i=LK ops V' (flo T) a0 t i from LK_V _ _ _ _ fun j _ hj=>(hV j hj).symm,←LK_cut V' (flo T) a0 t i ops.size (by omega)];refine ze2 V' a0 t ops.size fun j hj hd=>?_;by_cases hji:j < i
    ·simp only [hji,decide_true,Bool.true_and]
     cases hf:flo T j with
     |true=>rfl
     |false=>
      exfalso;obtain⟨oj,hoj,hdj⟩:=at_dst hd;have hjT:T.contains j=true:=by unfold flo at hf;simpa using hf
      rcases lx.pair j i oj o hji hiN hoj ho with ⟨o',ho',e,he,hb,hon⟩|hap
      ·obtain rfl:o'=o:=Option.some.inj (ho'.symm.trans ho)
       have:=ck.flo i o' hT ho e he hb;rw [hon,hjT] at this;cases this
      ·exact absurd ht ((Oper.apart_spec hap).1 t hdj)
    ·simp only [hji,decide_false,Bool.false_and]
   have hwant:=za6 (ops:=ops) hagree;have hexec:=zbn (ops:=ops) (hsel i o · · ho) hagree;have hput:=zj6 lx inv V' { a0 with defers:=ds } hiN ho hi;have next:wpAny P .any ops Q' u (listed.setIfInBounds i true) ((FF ops V' (fun j=>listed.getD j false) { a0 with defers:=ds } ops.size).put o.dst (V i)) w:=by
    rw [←hV i hfi,hput];refine zjj ck hstep u _ w rem V' ds hleft hinv' (fun _=>hC (by omega)) hV (fun j hj hjT=>?_) hin hch ?_
    ·rw [zav his]
     have:j≠i:=fun e=>by subst e;rw [hT] at hjT;cases hjT
     simp only [this,decide_false,Bool.false_or];exact hrem j hj hjT
    ·have e:FF ops V' (fun j=>(listed.setIfInBounds i true).getD j false || flo T j) { a0 with defers:=ds } ops.size=FF ops V' (fun j=>listed.getD j false || flo T j) { a0 with defers:=ds } ops.size:=zcf _ _ _ fun j hj=>by
      rw [zav his];by_cases hji:j=i
      ·subst hji;rw [hfi];simp
      ·simp only [hji,decide_false,Bool.false_or]
     rw [e];exact h
   unfold wpOp;simp only [ho];rw [hwant];rcases hstep i o hT ho with ⟨hw,hyes⟩|⟨hw,hyes⟩
   ·rw [if_pos hw]
    left;unfold Oper.wp;rw [hexec,hyes w (hC (by omega))];exact next
   ·rw [if_neg (by rw [hw];simp),←hyes]
    exact next
  |true=>
   have hirem:i∈rem:=(hrem i hiN hT).1 (getD_both hun);have hrl:rem.length=(rem.length - 1)+1:=by have:=List.length_pos_of_mem hirem;omega
   have hlen:(rem.erase i).length=rem.length - 1:=List.length_erase_of_mem hirem;rw [hrl] at h;have hrdy:rdyB ops rem i=true:=List.all_eq_true.2 fun r hr=>by
    cases hw:(ops[i]?).any (zes r) with
    |false=>rfl
    |true=>
     exfalso;rw [ho] at hw;have h2:=zeu hi (zbq ho (by simpa using hw));have h3:=hin r hr;rw [(hrem r h3.1 h3.2).2 hr] at h2;cases h2
   obtain⟨o',ho',h⟩:=h i hirem hrdy;obtain rfl:o'=o:=Option.some.inj (ho'.symm.trans ho);have hagree:∀ t,t∈o'.looksAt ops→(FF ops V' (fun j=>listed.getD j false) { a0 with defers:=ds } ops.size).tmps[t]? =(FF ops V' (fun j=>listed.getD j false || flo T j) { a0 with defers:=ds } ops.size).tmps[t]?:=fun t ht=>by
    rw [zcv,zcv];refine ze2 V' _ t ops.size fun j hj hd=>?_
    cases hl:listed.getD j false with
    |true=>rfl
    |false=>
     cases hf:flo T j with
     |false=>rfl
     |true=>
      exfalso;have hjT:T.contains j=false:=by unfold flo at hf;simpa using hf
      obtain⟨oj,hoj,hdj⟩:=at_dst hd;rcases Nat.lt_trichotomy j i with h1|h1|h1
      ·rcases lx.pair j i oj o' h1 hiN hoj ho with hw|hap
       ·have:=zeu hi hw
        rw [hl] at this;cases this
       ·exact absurd ht ((Oper.apart_spec hap).1 t hdj)
      ·subst h1;rw [hT] at hjT;cases hjT
      ·rcases lx.pair i j o' oj h1 hj ho hoj with ⟨oj',hoj',e,he,hb,hon⟩|hap
       ·obtain rfl:oj'=oj:=Option.some.inj (hoj'.symm.trans hoj)
        have:=ck.flo j oj' hjT hoj e he hb;rw [hon,hT] at this;cases this
       ·exact absurd ht ((Oper.apart_spec hap).2.2 t hdj)
   have hwant:=za6 (ops:=ops) hagree;have hexec:=zbn (ops:=ops) (hsel i o' · · ho) hagree;have inv2:HeadInv .any ops ops.size (zdx listed T ops.size):=by
    refine⟨by simp [zdx],fun j oj hoj hlj e he hb=>?_,fun t h1 h2=>by omega⟩;have hj:j < ops.size:=(Array.getElem?_eq_some_iff.1 hoj).1;have hej:e.on < ops.size:=by have:=lx.back j oj hj hoj e he hb;omega
    rw [za2 hj] at hlj;rw [za2 hej]
    cases hl:listed.getD j false with
    |true=>rw [inv.closed j oj hoj hl e he hb];rfl
    |false=>
     rw [hl,Bool.false_or] at hlj;have hjT:T.contains j=false:=by unfold flo at hlj;simpa using hlj
     have:=ck.flo j oj hjT hoj e he hb;unfold flo;rw [this];simp
   have hi2:i∈Region.ready .any ops (zdx listed T ops.size):=by
    refine mem_ready.2 ⟨?_,o',ho,fun e he hb=>?_⟩
    ·rw [za2 hiN,getD_both hun];unfold flo;rw [hT];rfl
    ·have hej:e.on < ops.size:=by have:=lx.back i o' hiN ho e he hb;omega
     rw [za2 hej,hall e he hb];rfl
   have hzero:allB ops i=true→u=0:=fun hall=>by
    rw [←hleft];have hl:∀ j,j < ops.size→(listed.setIfInBounds i true).getD j false=true:=fun j hj=>by
     rw [zav his];have h1:=List.all_eq_true.1 hall j (List.mem_range.2 hj);rw [ho] at h1;by_cases hji:j=i
     ·simp [hji]
     ·have h2:zes j o'=true∨(o'.after.any fun e=>Region.binds .any e && (ops[e.on]?).any (zes j))=true:=by simpa [hji] using h1
      rcases h2 with h2|h2
      ·rw [zeu hi (zbq ho h2)];simp
      ·obtain⟨e,he,hb⟩:=Array.any_eq_true'.1 h2
       simp only [Bool.and_eq_true] at hb
       cases hz:ops[e.on]? with
       |none=>rw [hz] at hb;simp at hb
       |some z=>
        rw [hz] at hb;have h3:=zeu hi ⟨o',ho,e,he,hb.1,rfl⟩;rw [zgm inv h3 (zbq hz hb.2)];simp
    have:∀ m,m≤ops.size→left (listed.setIfInBounds i true) m=0:=fun m=>by
     induction m with
     |zero=>intro _;rfl
     |succ m ih=>intro hm;have:=ih (by omega);unfold left at this ⊢;simp only [cnt];rw [this];simp only [hl m (by omega),Bool.not_true,Bool.false_eq_true,if_false]
    exact this _ (Nat.le_refl _)
   have next:∀ (v:Value) (w':World) (ds':List Deferred),((allB ops i=true∨C w')∧wpTs P ops C (fun a w=>Q' .normal a w) (rem.length - 1) (rem.erase i) ((FF ops V' (fun j=>listed.getD j false || flo T j) { a0 with defers:=ds' } ops.size).put o'.dst v) w')→
     wpAny P .any ops Q' u (listed.setIfInBounds i true) ((FF ops V' (fun j=>listed.getD j false) { a0 with defers:=ds' } ops.size).put o'.dst v) w':=fun v w' ds' hK=>by
    obtain⟨V2,hV2⟩:∃ V2:Nat→Value,V2=fun j=>if j=i then v else V' j:=⟨_,rfl⟩
    have hne:∀ j,j≠i→V' j=V2 j:=fun j hj=>by rw [hV2];simp [hj]
    have hvi:V2 i=v:=by rw [hV2];simp
    have e1:FF ops V' (fun j=>listed.getD j false) { a0 with defers:=ds' } ops.size=FF ops V2 (fun j=>listed.getD j false) { a0 with defers:=ds' } ops.size:=FF_Vc _ _ _ fun j hj hl=>hne j fun e=>by subst e;rw [getD_both hun] at hl;cases hl
    have e2:FF ops V' (fun j=>listed.getD j false || flo T j) { a0 with defers:=ds' } ops.size=FF ops V2 (fun j=>(zdx listed T ops.size).getD j false) { a0 with defers:=ds' } ops.size:=by
     rw [FF_Vc (V:=V') (V':=V2) _ _ _ fun j hj hl=>hne j fun e=>by
      subst e;rw [getD_both hun] at hl;unfold flo at hl;rw [hT] at hl;cases hl]
     exact zcf _ _ _ fun j hj=>(za2 hj _).symm
    have p1:=zj6 lx inv V2 { a0 with defers:=ds' } hiN ho hi;have p2:=zj6 lx inv2 V2 { a0 with defers:=ds' } hiN ho hi2;rw [hvi] at p1 p2;rw [e1,p1];rw [e2,p2] at hK;refine zjj ck hstep u _ w' (rem.erase i) V2 ds' hleft hinv' (fun hu=>hK.1.resolve_left fun hall=>hu (hzero hall)) (fun j hj=>?_) (fun j hj hjT=>?_) (fun j hj=>hin j (List.mem_of_mem_erase hj)) (hch.erase i) ?_
    ·rw [←hV j hj,hne j fun e=>by subst e;unfold flo at hj;rw [hT] at hj;cases hj]
    ·rw [zav his]
     by_cases hji:j=i
     ·subst hji
      simp only [decide_true,Bool.true_or,Bool.true_eq_false,false_iff];exact fun hm=>(hch.mem_erase_iff.1 hm).1 rfl
     ·simp only [hji,decide_false,Bool.false_or]
      rw [hrem j hj hjT,hch.mem_erase_iff];simp [hji]
    ·have e3:FF ops V2 (fun j=>(listed.setIfInBounds i true).getD j false || flo T j) { a0 with defers:=ds' } ops.size=FF ops V2 (fun j=>((zdx listed T ops.size).setIfInBounds i true).getD j false) { a0 with defers:=ds' } ops.size:=zcf _ _ _ fun j hj=>by
      rw [zav his,zav (by rw [inv2.size];exact hiN),za2 hj,Bool.or_assoc]
     rw [e3,hlen];exact hK.2
   unfold wpOp;simp only [ho];rw [hwant];unfold wpList at h;by_cases hw:Region.wanted o' (yielded ops (FF ops V' (fun j=>listed.getD j false || flo T j) { a0 with defers:=ds } ops.size).tmps)=true
   ·rw [if_pos hw] at h ⊢
    left;rcases h with h|⟨_,h⟩
    rotate_left
    ·exact (zfd h).elim
    unfold Oper.wp at h ⊢;rw [hexec];generalize (execOp (FF ops V' (fun j=>listed.getD j false || flo T j) { a0 with defers:=ds } ops.size).eval o').run P w=res at h ⊢
    cases res with
    |ok n w'=>
     cases n with
     |value v=>exact next _ _ _ h.2
     |skip=>exact next _ _ _ h.2
     |defer d=>
      have e:=h.2;simp only [Oper.upon];rw [←zjf] at e ⊢;rw [zc7] at e ⊢;exact next _ _ _ e
     |enter f args=>
      refine Calls.mono h ?_;intro e w'' he
      cases e with
      |returned v=>exact next _ _ _ he.2
      |panicked ch=>exact absurd he.1 (by simp)
      |outgrown=>exact (zfd he).elim
     |row row args=>
      refine Rows.mono h ?_;intro v w'' he;exact next _ _ _ he.2
     |_=>exact h.elim
    |halt x w'=>
     cases x with
     |panic v=>exact absurd h.1 (by simp)
     |_=>exact h.elim
   ·rw [if_neg hw] at h ⊢
    exact next _ _ _ h.2
end
def zo9 (l:List Oper) (T:List Nat):Bool:=
 Region.noSelect l.toArray && zlw l.toArray 0 l && zAo T 0 l && decide T.Nodup && T.all fun j=>decide (j < l.length)
theorem ze8 {P:Program} {Q:Exit→Act→World→Prop} {a:Act} {w:World} {l:List Oper} (T:List Nat) (C:World→Prop) (hB:zo9 l T=true) (h0:C w.drew)
  (h:wpFl P l.toArray C T (fun a'=>wpTs P l.toArray C (fun a w=>Q .normal a w) T.length T a' w.drew) 0 l a):wpAny P .any l.toArray Q l.toArray.size (Array.replicate l.toArray.size false) a w.drew:=by
 simp only [zo9,Bool.and_eq_true,decide_eq_true_iff] at hB;obtain⟨⟨⟨⟨hsel,hlex⟩,hflo⟩,hnd⟩,hin⟩:=hB;have hls:l.toArray.size=l.length:=by simp
 have lx:znc l.toArray l.toArray.size:=by
  refine⟨Nat.le_refl _,hsel,fun k ok hk hok e he hb=>?_,fun k j ok oj hkj hj hok hoj=>?_⟩
  ·have:=zfh l 0 hlex k ok (by simpa using hok) e he hb
   omega
  ·rcases zfg l 0 hlex k j ok oj hkj (by simpa using hok) (by simpa using hoj) with h1|h1
   ·left;rw [Nat.zero_add] at h1;exact zbq hoj h1
   ·exact .inr h1
 have ck:FreeOk l.toArray T:=⟨lx,fun k ok hT hok e he hb=>zjr l 0 hflo k ok (by simpa using hok) (by rw [Nat.zero_add];exact hT) e he hb⟩;obtain⟨V,_,hstep,hfin⟩:=zkx (P:=P) (ops:=l.toArray) (C:=C) (T:=T) a l 0 a (fun _=>undef) (fun j hj=>by rw [Nat.zero_add];simp) rfl h;have inv0:HeadInv .any l.toArray l.toArray.size (Array.replicate l.toArray.size false):=
  ⟨Array.size_replicate,fun j oj _ hl=>(by rw [getD_replicate_false] at hl;cases hl),fun t _ ht=>getD_in (by rw [Array.size_replicate];exact ht) (getD_replicate_false _ _)⟩
 have hleft:left (Array.replicate l.toArray.size false) l.toArray.size=l.toArray.size:=by
  have:∀ m,left (Array.replicate l.toArray.size false) m=m:=fun m=>by
   induction m with
   |zero=>rfl
   |succ m ih=>unfold left at ih ⊢;simp only [cnt];rw [ih];simp only [getD_replicate_false,Bool.not_false,if_true]
  exact this _
 have hff:FF l.toArray V (fun j=>(Array.replicate l.toArray.size false).getD j false) { a with defers:=a.defers } l.toArray.size=a:=by
  have:∀ m,FF l.toArray V (fun j=>(Array.replicate l.toArray.size false).getD j false) a m=a:=fun m=>by
   induction m with
   |zero=>rfl
   |succ m ih=>simp only [FF,getD_replicate_false,Bool.false_eq_true,if_false];simpa only [getD_replicate_false] using ih
  exact this _
 have:=zjj (P:=P) (Q':=Q) (a0:=a) (V:=V) (C:=C) ck (fun j o hT ho=>hstep j o (Nat.zero_le _) (by have:=(Array.getElem?_eq_some_iff.1 ho).1;rw [hls] at this;omega) hT ho) l.toArray.size _ w.drew T V a.defers hleft inv0 (fun _=>h0) (fun _ _=>rfl)
  (fun j hj hT=>⟨fun _=>by simpa using hT,fun _=>getD_replicate_false _ _⟩) (fun j hj=>⟨by have:=List.all_eq_true.1 hin j hj;rw [hls];simpa using this,by simpa using hj⟩) hnd (by
   have e:FF l.toArray V (fun j=>(Array.replicate l.toArray.size false).getD j false || flo T j) { a with defers:=a.defers } l.toArray.size=FF l.toArray V (flo T) a (0+l.length):=by
    rw [Nat.zero_add,←hls];exact zcf _ _ _ fun j hj=>by rw [getD_replicate_false,Bool.false_or]
   rw [e];exact hfin)
 rw [hff] at this;exact this
theorem zah {P:Program} {id:Nat} {Q:Exit→Act→World→Prop} {a:Act} {w:World} {l:List Oper} (T:List Nat) (C:World→Prop) (hm:P.follows .mixedOrders=true) (hB:zo9 l T=true) (h0:C w.drew)
  (h:wpFl P l.toArray C T (fun a'=>wpTs P l.toArray C (fun a w=>Q .normal a w) T.length T a' w.drew) 0 l a):(Code.region id l.toArray true).wp P Q a w:=
 wp_region_any hm (ze8 T C hB h0 h)
section
variable {P:Program} {ops:Array Oper} {C:World→Prop} {Q:Act→World→Prop} {m:Nat} {rem rem1 rem2:List Nat} {i j:Nat} {o o2:Oper} {a:Act} {w:World}
theorem wpTs_1 (hr:rem.filter (rdyB ops rem)=[i]) (he:rem.erase i=rem1) (ho:ops[i]? =some o) (h:∀ K:Exit→Act→World→Prop,(∀ a' w',C w'→wpTs P ops C Q m rem1 a' w'→K .normal a' w')→wpList P ops K [o] a w):wpTs P ops C Q (m+1) rem a w:=fun k hk hb=>by
 have:k∈rem.filter (rdyB ops rem):=List.mem_filter.2 ⟨hk,hb⟩;rw [hr] at this;obtain rfl:k=i:=by simpa using this
 subst he;exact⟨o,ho,h _ fun _ _ h1 h2=>⟨rfl,.inr h1,h2⟩⟩
theorem zb0 (hr:rem.filter (rdyB ops rem)=[i,j]) (he:rem.erase i=rem1) (he2:rem.erase j=rem2) (ho:ops[i]? =some o) (ho2:ops[j]? =some o2) (h:∀ K:Exit→Act→World→Prop,(∀ a' w',C w'→wpTs P ops C Q m rem1 a' w'→K .normal a' w')→wpList P ops K [o] a w)
  (h2:∀ K:Exit→Act→World→Prop,(∀ a' w',C w'→wpTs P ops C Q m rem2 a' w'→K .normal a' w')→wpList P ops K [o2] a w):wpTs P ops C Q (m+1) rem a w:=fun k hk hb=>by
 have:k∈rem.filter (rdyB ops rem):=List.mem_filter.2 ⟨hk,hb⟩;rw [hr] at this;subst he he2;rcases (by simpa using this:k=i∨k=j) with rfl|rfl
 ·exact⟨o,ho,h _ fun _ _ h1 h2=>⟨rfl,.inr h1,h2⟩⟩
 ·exact⟨o2,ho2,h2 _ fun _ _ h1 h2=>⟨rfl,.inr h1,h2⟩⟩
theorem zcy (hr:rem.filter (rdyB ops rem)=[i]) (he:rem.erase i=rem1) (ho:ops[i]? =some o) (ha:allB ops i=true) (h:∀ K:Exit→Act→World→Prop,(∀ a' w',wpTs P ops C Q m rem1 a' w'→K .normal a' w')→wpList P ops K [o] a w):wpTs P ops C Q (m+1) rem a w:=fun k hk hb=>by
 have:k∈rem.filter (rdyB ops rem):=List.mem_filter.2 ⟨hk,hb⟩;rw [hr] at this;obtain rfl:k=i:=by simpa using this
 subst he;exact⟨o,ho,h _ fun _ _ h2=>⟨rfl,.inl ha,h2⟩⟩
theorem zan (h:Q a w):wpTs P ops C Q 0 rem a w:=h
end
section
variable {P:Program} {ops:Array Oper} {C:World→Prop} {T:List Nat} {QF:Act→Prop} {k:Nat} {o:Oper} {rest:List Oper} {a:Act}
theorem qFc (h:wpFl P ops C T QF (k+1) rest a) (hT:T.contains k=true:=by rfl):wpFl P ops C T QF k (o :: rest) a:=zxl hT h
theorem qFs (h:∀ K:Act→Prop,(∀ a,wpFl P ops C T QF (k+1) rest a→K a)→∃ v,zch P C o a v∧K (a.put o.dst v)) (hT:T.contains k=false:=by rfl) (hw:Region.wanted o (yielded ops a.tmps)=true:=by rfl):wpFl P ops C T QF k (o :: rest) a:=zxk hT hw h
variable {Q:Act→World→Prop} {m:Nat} {rem:List Nat} {w:World}
theorem qT1 (i:Nat) (rem1:List Nat) (h:∀ K:Exit→Act→World→Prop,(∀ a' w',C w'→wpTs P ops C Q m rem1 a' w'→K .normal a' w')→wpList P ops K [o] a w) (hr:rem.filter (rdyB ops rem)=[i]:=by kernel_rfl) (he:rem.erase i=rem1:=by rfl) (ho:ops[i]? =some o:=by rfl):wpTs P ops C Q (m+1) rem a w:=wpTs_1 hr he ho h
end
end Go.Proofs.YtpbmmoneeoijaaaGreatDoor
namespace Go.Proofs.YtpbmmoneeoijaaaGreatDoor
open Go.RowKit Go.Shelf
attribute [local go_sem] zch
theorem zak {n b:Nat} {w0:World} (hn:n≤b):∀ (vs:List Value) (o:Nat) (X:World),Below n w0 X→Below n w0 (X.setCells b o vs)
 | [],_,_,h=>h
 |v :: r,o,X,h=>by
  rw [World.setCells];exact zak hn r (o+1) _ (h.setCell (p:=⟨b,o,none⟩) hn v)
theorem zhh {n:Nat} {w X:World} (h:Below n w X):Below n w X.drew:=⟨h.os,h.tape,h.output,h.size,h.block⟩
theorem zac {W:World} {b:Nat} {o:Obj} (h:W.heap[b]? =some o) (o':Obj):(W.alloc o').heap[b]? =some o:=(Below.heap_alloc _ _ _ (Array.getElem?_eq_some_iff.1 h).1).trans h
end Go.Proofs.YtpbmmoneeoijaaaGreatDoor
namespace Go.Proofs.YtpbmmoneeoijaaaGreatDoor
open Go.RowKit Go.Deep
set_option maxRecDepth 100000
def zc3 (f:Nat→Int):List Value:=(List.range 23).map fun j=>.int .i64 (f j)
theorem ze1 (f:Nat→Int):(zc3 f).length=23:=by simp [zc3]
theorem zi6 (f:Nat→Int) {j:Nat} (hj:j < 23):(zc3 f)[j]? =some (.int .i64 (f j)):=by simp [zc3,hj]
theorem zi5 (f:Nat→Int):(zc3 f).toArray.all (·.oneCell')=true:=all_oneCell_toArray fun v hv=>by
 unfold zc3 at hv;obtain⟨j,_,rfl⟩:=List.mem_map.1 hv;rfl
theorem zcd (f:Nat→Int):(Tryz.prog.info? 176).map (·.size)=some (zc3 f).length:=by rw [ze1];kernel_rfl
def zgw:Obj:=.cells #[.int .i64 0,.int .i64 0,.int .i64 0,.int .i64 0,.int .i64 0,.int .i64 0,.int .i64 0,.int .i64 0,.int .i64 0,.int .i64 0,.int .i64 0,.int .i64 0,.int .i64 0,.int .i64 0,.int .i64 0,.int .i64 0,.int .i64 0,.int .i64 0,.int .i64 0,.int .i64 0,.int .i64 0,.int .i64 0,.int .i64 0] 176
theorem zf4 {W:World} {b o i:Nat} {h:Nat→Nat→Int} (hc:∀ j,j < 23→W.cell? ⟨b,o+i * 23+j,none⟩=some (.int .i64 (h i j))):W.rangeAt b (o+i * 23) (zc3 (h i)):=fun j v hv=>by
 have hj:j < 23:=by rw [←ze1 (h i)];exact (List.getElem?_eq_some_iff.1 hv).1
 rw [zi6 _ hj] at hv;cases hv;exact hc j hj
theorem zfl (W:World) (f:Nat→Int):(W.alloc zgw).there W.heap.size 0 (zc3 f).toArray.size:=fun j hj=>by
 have hj:j < 23:=by rw [←ze1 f];simpa using hj
 have bZ:=heap_alloc_new W zgw;unfold zgw at bZ ⊢;refine⟨?_,zab bZ _⟩;rw [zaa bZ];simp only [Nat.zero_add];rw [Array.getElem?_eq_getElem (by simpa using hj)];rfl
theorem zj4 (b:Nat):∀ (vs:List Value) (o:Nat) (w:World),(w.setCells b o vs).heap.size=w.heap.size
 | [],_,_=>rfl
 |v :: r,o,w=>by rw [World.setCells,zj4 b r];simp
structure EdgeBox (W:World) (f:Nat→Int) (X:World):Prop where
 cell:∀ j,j < 23→X.cell? ⟨W.heap.size,j,none⟩=some (.int .i64 (f j))
 below:Below W.heap.size W X
 size:X.heap.size=W.heap.size+1
theorem zkz (W:World) (f:Nat→Int):EdgeBox W f ((W.alloc zgw).setCells W.heap.size 0 (zc3 f).toArray.toList):=by
 refine⟨fun j hj=>?_,zak (Nat.le_refl _) _ 0 _ ((Below.refl _ _).alloc (Nat.le_refl _) _),by rw [zj4];simp⟩;have:=World.rangeAt_setCells_same (W.alloc zgw) W.heap.size 0 (zc3 f) (by have:=zfl W f;simpa using this) j _ (zi6 f hj)
 rwa [Nat.zero_add] at this
set_option maxHeartbeats 1000000 in
theorem zpl (x:Img) (h:Nat→Nat→Int) (p q:Int) (w:World) (hE:zbj w x.eo x.en 23 h) (hen:x.en≤maxLen):Calls Tryz.prog 122 #[iv x,.int .i64 p,.int .i64 q] w fun e w'=>∃ (i:Int) (ok:Bool),e=.returned (.tuple #[.int .i64 i,.bool ok])∧(ok=true→0≤i∧i < x.en∧h i.toNat 0=p∧h i.toNat 1=q)∧Below w.heap.size w w':=by
 have HE:=hid hE;clear hE;obtain⟨r,ao,n,cap,mo,mn,mc,eo,en,ec⟩:=x;unfold iv;dsimp only at hen HE ⊢;unfold maxLen at hen;have hb:=(Below.refl w.heap.size w).alloc (Nat.le_refl _) (Obj.cells #[.int .i64 r,.slice ao n cap,.slice mo mn mc,.slice eo en ec] 26);have hblk:(w.alloc (Obj.cells #[.int .i64 r,.slice ao n cap,.slice mo mn mc,.slice eo en ec] 26)).heap[w.heap.size]? =some (Obj.cells #[.int .i64 r,.slice ao n cap,.slice mo mn mc,.slice eo en ec] 26):=heap_alloc_new w _;have c3:=zaa hblk 3;have HB:=hid hb;clear hb hblk;go_enter Tryz.func122,Tryz.ntmps122;go_wp2;obtain⟨W0,hW0⟩:∃ W,W=(w.alloc (Obj.cells #[.int .i64 r,.slice ao n cap,.slice mo mn mc,.slice eo en ec] 26)):=⟨_,rfl⟩;rw [←hW0] at HB ⊢;clear hW0 c3
 go_loopw [13] (fun i_ wr=>∃ i:Nat,i≤en∧i_=.int .i64 i∧Hid (Below w.heap.size w wr)) (fun i_ _=>en - (intOf i_).toNat)
 case atStart=>exact⟨0,by omega,rfl,HB⟩
 case round=>
  clear HB;obtain⟨i,hi,rfl,HB⟩:=hrel;by_cases hlt:i < en
  ·have t0:decide ((i:Int) < (en:Int))=true:=by simp;omega
   obtain⟨b,o,rfl,hc⟩:=HE.out i hlt;have hr1:=zf4 fun j hj=>kept (hc j hj) HB.out;have i0':(0:Int)≤(i:Int):=by omega
   have i1:(i:Int) < (en:Int):=by omega
   go_upto_region 3 with fail
   refine wp_region_lit ?_;refine wpList_plain rfl fun K hK=>?_;go_simp;refine hK _ _ ?_;clear hK K;refine wpList_plain rfl fun K hK=>?_;go_simp;refine hK _ _ ?_;clear hK K;refine wpList_load_mid rfl 176 _ rfl b (o+i * 23) rfl (zc3 (h i)) _ hr1 Tryz.underlying176 rfl (zcd _) ?_;refine wpList_plain rfl fun K hK=>?_;go_simp;refine hK _ _ ?_;clear hK K;refine wpList_plain rfl fun K hK=>?_;go_simp;refine hK _ _ ?_;clear hK K;refine wpList_store_mid rfl 176 _ _ rfl wr.heap.size 0 (zc3 (h i)).toArray rfl rfl (zfl wr (h i)) (by simpa using zcd (h i)) (zi5 _) ?_;have hbx:=zkz wr (h i);unfold zgw at hbx;obtain⟨W2,hW2⟩:∃ X,X=((wr.alloc zgw).setCells wr.heap.size 0 (zc3 (h i)).toArray.toList):=⟨_,rfl⟩;unfold zgw at hW2;rw [←hW2] at hbx;show Exit.then _ _ _ _ _
   rw [←hW2];clear hW2 hr1 hc;go_simp;have e0:=hbx.cell 0 (by decide);have e1:=hbx.cell 1 (by decide);have HB2:=hid (HB.out.trans (hbx.below.mono HB.out.size));have HF:Hid (h i 0=p→h i 1=q→h (i:Int).toNat 0=p∧h (i:Int).toNat 1=q):=fun h1 h2=>⟨h1,h2⟩;clear hbx;generalize h i 0=y0 at e0 HF;generalize h i 1=y1 at e1 HF;by_cases h0:y0=p
   ·have t1:(y0 == p)=true:=by simp [h0]
    by_cases h1:y1=q
    ·have t2:(y1 == q)=true:=by simp [h1]
     go_wp2;go_ret2;exact⟨i,true,rfl,fun _=>⟨i0',i1,HF.out h0 h1⟩,HB2.out⟩
    ·have t2:(y1 == q)=false:=by simp [h1]
     go_wp2;go_roundw
     case rel=>exact⟨i+1,by omega,by go_num,HB2⟩
     case measure=>simp [intOf];omega
   ·have t1:(y0 == p)=false:=by simp [h0]
    go_wp2;go_roundw
    case rel=>exact⟨i+1,by omega,by go_num,HB2⟩
    case measure=>simp [intOf];omega
  ·obtain rfl:i=en:=by omega
   have t0:decide ((i:Int) < (i:Int))=false:=by simp
   go_wp2;go_ret2;exact⟨0,false,rfl,fun h=>(by cases h),HB.out⟩
end Go.Proofs.YtpbmmoneeoijaaaGreatDoor
namespace Go.Proofs.YtpbmmoneeoijaaaGreatDoor
open Go.RowKit
set_option maxRecDepth 100000
def AnsB (T:Prop) (w:World) (e:Ending) (w':World):Prop:=∃ r:Bool,e=.returned (.bool r)∧(r=true→T)∧Below w.heap.size w w'
theorem AnsB.no {T:Prop} {w w':World} (h:Below w.heap.size w w'):AnsB T w (.returned (.bool false)) w':=⟨false,rfl,by simp,h⟩
theorem AnsB.yes {T:Prop} {w w':World} (h:Below w.heap.size w w') (ht:T):AnsB T w (.returned (.bool true)) w':=⟨true,rfl,fun _=>ht,h⟩
theorem zc0 {P:Program} {w:World} (t e:TypeId) (n:Nat) (cs:Array Value) (k:IntKind) (i:Nat) (y:Int) (ke:IntKind) (ht:P.underlying t=some (.array n e)) (he:P.underlying e=some (.int ke)) (hs:(P.info? e).map (·.size)=some 1) (hi:i < n) (hc:cs[i]? =some (.int .i64 y)):(Instr.index t (.agg cs) (.int k i)).run P w=.ok (.int .i64 y) w:=by
 obtain⟨inf,hinf,hsz⟩:∃ inf,P.info? e=some inf∧inf.size=1:=by
  cases h:P.info? e with
  |none=>rw [h] at hs;cases hs
  |some inf=>rw [h] at hs;exact⟨inf,rfl,by simpa using hs⟩
 have hn:(0:Int)≤(i:Int)∧(i:Int) < (n:Int):=by omega
 have hil:i < cs.size:=(Array.getElem?_eq_some_iff.1 hc).1;have hce:cs[i]=.int .i64 y:=(Array.getElem?_eq_some_iff.1 hc).2;simp [Instr.index,run_underlying ht,run_underlying he,asIntOf,hn,sizeOf,typeInfo,hinf,hsz,part,isAgg,Sem.run_bind,hil,hce];exact fun h=>absurd h (by omega)
set_option maxHeartbeats 4000000 in
theorem zs9 (x:Nat→Int) (res:Int) (w:World):Calls Tryz.prog 151 #[tv x,.int .i64 res] w (AnsB (zkk x res) w):=by
 unfold tv;have hb1:=(Below.refl w.heap.size w).alloc (Nat.le_refl _) (zih x);have hblk:=heap_alloc_new w (zih x);unfold zih at hb1 hblk;by_cases h1:x 0 < 1
 ·have t0:decide (x 0 < 1)=true:=by simp [h1]
  go_enter Tryz.func151,Tryz.ntmps151;go_wp2;go_ret;exact .no hb1
 have t0:decide (x 0 < 1)=false:=by simp [h1]
 by_cases h2:4096 < x 0
 ·have t1:decide (4096 < x 0)=true:=by simp [h2]
  go_enter Tryz.func151,Tryz.ntmps151;go_wp2;go_ret;exact .no hb1
 have t1:decide (4096 < x 0)=false:=by simp [h2]
 by_cases h3:x 1 < 1
 ·have t2:decide (x 1 < 1)=true:=by simp [h3]
  go_enter Tryz.func151,Tryz.ntmps151;go_wp2;go_ret;exact .no hb1
 have t2:decide (x 1 < 1)=false:=by simp [h3]
 by_cases h4:x 0 < x 1
 ·have t3:decide (x 0 < x 1)=true:=by simp [h4]
  go_enter Tryz.func151,Tryz.ntmps151;go_wp2;go_ret;exact .no hb1
 have t3:decide (x 0 < x 1)=false:=by simp [h4]
 by_cases h5:x 2 < 1
 ·have t4:decide (x 2 < 1)=true:=by simp [h5]
  go_enter Tryz.func151,Tryz.ntmps151;go_wp2;go_ret;exact .no hb1
 have t4:decide (x 2 < 1)=false:=by simp [h5]
 by_cases h6:x 1 < x 2
 ·have t5:decide (x 1 < x 2)=true:=by simp [h6]
  go_enter Tryz.func151,Tryz.ntmps151;go_wp2;go_ret;exact .no hb1
 have t5:decide (x 1 < x 2)=false:=by simp [h6]
 go_enter Tryz.func151,Tryz.ntmps151;go_wp2;obtain⟨W0,hW0⟩:∃ W,W=(w.alloc (Obj.cells #[.int .i64 (x 0),.int .i64 (x 1),.int .i64 (x 2),.int .i64 (x 3),.int .i64 (x 4),.int .i64 (x 5),.int .i64 (x 6),.int .i64 (x 7),.int .i64 (x 8),.int .i64 (x 9),.int .i64 (x 10)] 165)):=⟨_,rfl⟩;rw [←hW0] at hb1 hblk ⊢;have HB:=hid hb1;have c2:=zaa hblk 2;have HA0:Hid (∀ k,k < 0→0≤x (3+k)∧x (3+k)≤x 2):=fun k hk=>by omega
 have HO:=hid (show (∀ k,k < 8→0≤x (3+k)∧x (3+k)≤x 2)→zkk x res from fun h=>⟨by omega,by omega,by omega,by omega,by omega,by omega,h⟩);clear hW0 hb1 hblk h1 h2 h3 h4 h5 h6 t0 t1 t2 t3 t4 t5
 go_loopw [41] (fun i_ wr=>∃ i:Nat,i≤8∧i_=.int .i64 i∧Hid (∀ k,k < i→0≤x (3+k)∧x (3+k)≤x 2)∧W0=wr) (fun i_ _=>8 - (intOf i_).toNat)
 case atStart=>exact⟨0,by omega,rfl,HA0,rfl⟩
 case round=>
  clear HA0;obtain⟨i,hi,rfl,HA,rfl⟩:=hrel;by_cases hlt:i < 8
  ·have t0:decide ((i:Int) < 8)=true:=by simp;omega
   obtain⟨l,hl⟩:∃ l,x (3+i)=l:=⟨_,rfl⟩;have HA2:Hid (0≤l∧l≤x 2→∀ k,k < i+1→0≤x (3+k)∧x (3+k)≤x 2):=fun h k hk=>by
    rcases (show k < i∨k=i by omega) with h1|rfl
    ·exact HA.out k h1
    ·rw [hl];exact h
   have hix:(#[Value.int .i64 (x 3),.int .i64 (x 4),.int .i64 (x 5),.int .i64 (x 6),.int .i64 (x 7),.int .i64 (x 8),.int .i64 (x 9),.int .i64 (x 10)]:Array Value)[i]? =some (.int .i64 l):=by
    rw [←hl];rcases i with _|_|_|_|_|_|_|_|i
    all_goals first|rfl|omega
   have i0':(0:Int)≤(i:Int):=by omega
   have i1:(i:Int) < 8:=by omega
   have hrun:=zc0 (w:=W0) 56 3 8 _ .i64 i l .i64 Tryz.underlying56 Tryz.underlying3 (by kernel_rfl) hlt hix
   go_upto_region 6 with (rw [hrun];simp only [Result.andThen];rw [Oper.upon_value])
   clear hrun hix;by_cases k1:l < 0
   ·have u1:decide (l < 0)=true:=by simp [k1]
    go_wp2;go_ret;exact .no HB.out
   ·have u1:decide (l < 0)=false:=by simp [k1]
    by_cases k2:x 2 < l
    ·have u2:decide (x 2 < l)=true:=by simp [k2]
     go_wp2;go_ret;exact .no HB.out
    ·have u2:decide (x 2 < l)=false:=by simp [k2]
     have HA3:=hid (HA2.out ⟨by omega,by omega⟩);by_cases k3:res≤(i:Int)
     ·have u3:decide (res≤(i:Int))=true:=by simp [k3]
      by_cases k4:l=0
      ·have u4:(l == 0)=true:=by simp [k4]
       go_wp2;go_roundw
       case rel=>exact⟨i+1,by omega,by go_num,HA3,trivial⟩
       case measure=>simp [intOf];omega
      ·have u4:(l == 0)=false:=by simp [k4]
       go_wp2;go_ret;exact .no HB.out
     ·have u3:decide (res≤(i:Int))=false:=by simp [k3]
      go_wp2;go_roundw
      case rel=>exact⟨i+1,by omega,by go_num,HA3,trivial⟩
      case measure=>simp [intOf];omega
  ·obtain rfl:i=8:=by omega
   go_wp2;go_ret;exact .yes HB.out (HO.out HA.out)
structure OkQ (x:Nat→Int):Prop where
 c1:1≤x 0
 c2:x 0≤16
 p1:1≤x 1
 p2:x 1≤3
set_option maxHeartbeats 4000000 in
theorem zo7 (qo:Option Addr) (qn qc:Nat) (q:Nat→Nat→Int) (w:World) (hF:zbj w qo qn 2 q):Calls Tryz.prog 153 #[.slice qo qn qc] w (AnsB (qn≤4∧∀ j,j < qn→OkQ (q j)) w):=by
 have HF:=hid hF;clear hF;by_cases h4:4 < qn
 ·have t4:decide ((4:Int) < (qn:Int))=true:=by simp;omega
  go_enter Tryz.func153,Tryz.ntmps153;go_wp2;go_ret;exact .no (.refl _ _)
 have t4:decide ((4:Int) < (qn:Int))=false:=by simp;omega
 have HQ:=hid (show (∀ j,j < qn→OkQ (q j))→qn≤4∧∀ j,j < qn→OkQ (q j) from fun h=>⟨by omega,h⟩);have HA0:Hid (∀ j,j < 0→OkQ (q j)):=fun j hj=>by omega
 have HB:=hid (Below.refl w.heap.size w);go_enter Tryz.func153,Tryz.ntmps153;go_wp2
 go_loopw [10] (fun i_ wr=>∃ i:Nat,i≤qn∧i_=.int .i64 i∧Hid (∀ j,j < i→OkQ (q j))∧Hid (Below w.heap.size w wr)) (fun i_ _=>qn - (intOf i_).toNat)
 case atStart=>exact⟨0,by omega,rfl,HA0,HB⟩
 case round=>
  clear HA0 HB;obtain⟨i,hi,rfl,HA,HB⟩:=hrel;by_cases hlt:i < qn
  ·have t0:decide ((i:Int) < (qn:Int))=true:=by simp;omega
   obtain⟨b,o,rfl,hc⟩:=HF.out i hlt;have c0:=kept (hc 0 (by decide)) HB.out;have c1:=kept (hc 1 (by decide)) HB.out;rw [Nat.add_zero] at c0;clear hc;have i0':(0:Int)≤(i:Int):=by omega
   have i1:(i:Int) < (qn:Int):=by omega
   have HA2:Hid (OkQ (q i)→∀ k,k < i+1→OkQ (q k)):=fun h k hk=>by
    rcases (show k < i∨k=i by omega) with h1|rfl
    ·exact HA.out k h1
    ·exact h
   have HO:Hid (1≤q i 0→q i 0≤16→1≤q i 1→q i 1≤3→OkQ (q i)):=fun a b c d=>⟨a,b,c,d⟩;have HB2:=hid (HB.out.alloc HB.out.size (Obj.cells #[.int .i64 (q i 0),.int .i64 (q i 1)] 74));generalize q i 0=u at c0 HO HB2;generalize q i 1=v at c1 HO HB2;by_cases k1:u < 1
   ·have u1:decide (u < 1)=true:=by simp [k1]
    go_wp2;go_ret;exact .no HB2.out
   have u1:decide (u < 1)=false:=by simp [k1]
   by_cases k2:16 < u
   ·have u2:decide (16 < u)=true:=by simp [k2]
    go_wp2;go_ret;exact .no HB2.out
   have u2:decide (16 < u)=false:=by simp [k2]
   by_cases k3:v < 1
   ·have u3:decide (v < 1)=true:=by simp [k3]
    go_wp2;go_ret;exact .no HB2.out
   have u3:decide (v < 1)=false:=by simp [k3]
   by_cases k4:3 < v
   ·have u4:decide (3 < v)=true:=by simp [k4]
    go_wp2;go_ret;exact .no HB2.out
   have u4:decide (3 < v)=false:=by simp [k4]
   have HA3:=hid (HA2.out (HO.out (by omega) (by omega) (by omega) (by omega)));go_wp2;go_roundw
   case rel=>exact⟨i+1,by omega,by go_num,HA3,HB2⟩
   case measure=>simp [intOf];omega
  ·obtain rfl:i=qn:=by omega
   have t0:decide ((i:Int) < (i:Int))=false:=by simp
   go_wp2;go_ret;exact .yes HB.out (HQ.out HA.out)
theorem zzz {s:Nat} (hs:s < 4294967296) (n:Int):s |||bitN n < 4294967296:=Nat.or_lt_two_pow (n:=32) hs (zh9 n)
def zlt (x:Nat→Int) (p q:Int):Nat→Nat→Bool
 |0,_=>true
 |k+1,s=>if x (3 - k)=0 then zlt x p q k s else if x (3 - k) < 0∨q < x (3 - k)∨p≤((3 - k:Nat):Int)∨hasN s (x (3 - k))=true then false else zlt x p q k (s |||bitN (x (3 - k)))
theorem mapsR_at (x:Nat→Int) (p q:Int) {i:Nat} (hi:i < 4) (s:Nat):zlt x p q (4 - i) s=if x i=0 then zlt x p q (4 - (i+1)) s else if x i < 0∨q < x i∨p≤(i:Int)∨hasN s (x i)=true then false else zlt x p q (4 - (i+1)) (s |||bitN (x i)):=by
 have e:4 - i=(4 - (i+1))+1:=by omega
 rw [e]
 conv=>lhs;unfold zlt
 rw [show 3 - (4 - (i+1))=i by omega]
set_option maxHeartbeats 4000000 in
theorem zta (x:Nat→Int) (p q:Int) (w:World):Calls Tryz.prog 217 #[.agg #[.int .i64 (x 0),.int .i64 (x 1),.int .i64 (x 2),.int .i64 (x 3)],.int .i64 p,.int .i64 q] w fun e w'=>e=.returned (.bool (zlt x p q 4 0))∧Below w.heap.size w w':=by
 have hb1:=(Below.refl w.heap.size w).alloc (Nat.le_refl _) (Obj.cells #[.int .i64 (x 0),.int .i64 (x 1),.int .i64 (x 2),.int .i64 (x 3)] 174);have HL:=hid fun (i:Nat) (hi:i < 4) (s:Nat)=>mapsR_at x p q hi s;obtain⟨R,hR⟩:∃ R,zlt x p q 4 0=R:=⟨_,rfl⟩;rw [hR];have HR0:=hid (show zlt x p q (4 - 0) 0=R from hR);clear hR;go_enter Tryz.func217,Tryz.ntmps217;go_wp2;obtain⟨W0,hW0⟩:∃ W,W=(w.alloc (Obj.cells #[.int .i64 (x 0),.int .i64 (x 1),.int .i64 (x 2),.int .i64 (x 3)] 174)):=⟨_,rfl⟩;rw [←hW0] at hb1 ⊢;have HB:=hid hb1;clear hW0 hb1
 go_loopw [7,11] (fun s_ i_ wr=>∃ i s:Nat,i≤4∧s_=.int .u32 s∧i_=.int .i64 i∧Hid (s < 4294967296)∧Hid (zlt x p q (4 - i) s=R)∧W0=wr) (fun _ i_ _=>4 - (intOf i_).toNat)
 case atStart=>exact⟨0,0,by omega,rfl,rfl,hid (by decide),HR0,rfl⟩
 case round=>
  clear HR0;obtain⟨i,s,hi,rfl,rfl,HS,HR,rfl⟩:=hrel;by_cases hlt:i < 4
  ·have t0:decide ((i:Int) < 4)=true:=by simp;omega
   obtain⟨l,hl⟩:∃ l,x i=l:=⟨_,rfl⟩;have hix:(#[Value.int .i64 (x 0),.int .i64 (x 1),.int .i64 (x 2),.int .i64 (x 3)]:Array Value)[i]? =some (.int .i64 l):=by
    rw [←hl];rcases i with _|_|_|_|i
    all_goals first|rfl|omega
   have i0':(0:Int)≤(i:Int):=by omega
   have i1:(i:Int) < 4:=by omega
   have hrun:=zc0 (w:=W0) 174 3 4 _ .i64 i l .i64 Tryz.underlying174 Tryz.underlying3 (by kernel_rfl) hlt hix;have HS2:=hid (zzz HS.out l);have HRi:=HL.out i hlt s;rw [hl,HR.out] at HRi;clear HL
   go_upto_region 5 with (rw [hrun];simp only [Result.andThen];rw [Oper.upon_value])
   clear hrun hix;by_cases k0:l=0
   ·have u0:(l == 0)=true:=by simp [k0]
    have HR2:=hid (HRi.trans (if_pos k0)).symm;clear HRi;go_wp2;go_roundw
    case rel=>exact⟨i+1,s,by omega,rfl,by go_num,HS,HR2,trivial⟩
    case measure=>simp [intOf];omega
   rw [if_neg k0] at HRi;have u0:(l == 0)=false:=by simp [k0]
   by_cases k1:l < 0
   ·have u1:decide (l < 0)=true:=by simp [k1]
    have hR:=hid (HRi.trans (if_pos (.inl k1)));clear HRi;go_wp2;go_ret;exact⟨by rw [hR.out];rfl,HB.out⟩
   have u1:decide (l < 0)=false:=by simp [k1]
   by_cases k2:q < l
   ·have u2:decide (q < l)=true:=by simp [k2]
    have hR:=hid (HRi.trans (if_pos (.inr (.inl k2))));clear HRi;go_wp2;go_ret;exact⟨by rw [hR.out];rfl,HB.out⟩
   have u2:decide (q < l)=false:=by simp [k2]
   by_cases k3:p≤(i:Int)
   ·have u3:decide (p≤(i:Int))=true:=by simp [k3]
    have hR:=hid (HRi.trans (if_pos (.inr (.inr (.inl k3)))));clear HRi;go_wp2;go_ret;exact⟨by rw [hR.out];rfl,HB.out⟩
   have u3:decide (p≤(i:Int))=false:=by simp [k3]
   cases hh:hasN s l
   ·have HR2:=hid (HRi.trans (if_neg (by rw [hh];simp;omega))).symm
    clear HRi
    go_wp2_with (go_at_call 189;refine (zfx s HS.out l _).mono ?_;rw [hh];rintro e w2 ⟨rfl,rfl⟩)
    go_wp2_with (go_at_call 138;refine (zfq s HS.out l _).mono ?_;rintro e w2 ⟨rfl,rfl⟩)
    go_roundw
    case rel=>exact⟨i+1,_,by omega,rfl,by go_num,HS2,HR2,trivial⟩
    case measure=>simp [intOf];omega
   ·have hR:=hid (HRi.trans (if_pos (.inr (.inr (.inr hh)))))
    clear HRi
    go_wp2_with (go_at_call 189;refine (zfx s HS.out l _).mono ?_;rw [hh];rintro e w2 ⟨rfl,rfl⟩)
    go_ret;exact⟨by rw [hR.out];rfl,HB.out⟩
  ·obtain rfl:i=4:=by omega
   have hR:=hid HR.out.symm;go_wp2;go_ret;exact⟨by rw [hR.out];rfl,HB.out⟩
end Go.Proofs.YtpbmmoneeoijaaaGreatDoor
