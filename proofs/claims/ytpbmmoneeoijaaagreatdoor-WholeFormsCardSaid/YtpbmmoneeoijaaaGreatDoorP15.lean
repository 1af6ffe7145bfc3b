/-
  A part of the proof: Free Edge10 EdgeFn SeqA.
-/
import Derived.Test.YtpbmmoneeoijaaaGreatDoorP14
import Derived.Deep.CutBlock
namespace Go.Proofs.YtpbmmoneeoijaaaGreatDoor
open Go.RowKit
section
variable {P:Program} {ops:Array Oper}
def rdyB (ops:Array Oper) (rem:List Nat) (i:Nat):Bool:=rem.all fun r=>!(ops[i]?).any (zg8 r)
def zoh (ops:Array Oper):Nat→Nat→Nat→Bool
 |0,i,j=>(ops[i]?).any (zg8 j)
 |f+1,i,j=>(ops[i]?).any fun o=>zg8 j o || o.after.any fun e=>Region.binds .any e && zoh ops f e.on j
def allB (ops:Array Oper) (i:Nat):Bool:=(List.range ops.size).all fun j=>(j == i) || zoh ops 3 i j
def wpTs (P:Program) (ops:Array Oper) (C:World→Prop) (Q:Act→World→Prop):Nat→List Nat→Act→World→Prop
 |0,_,a,w=>Q a w
 |m+1,rem,a,w=>∀ i,i∈rem→rdyB ops rem i=true→∃ o,ops[i]? =some o∧wpList P ops (only fun a' w'=>(allB ops i=true∨C w')∧wpTs P ops C Q m (rem.erase i) a' w') [o] a w
structure FreeOk (ops:Array Oper) (T:List Nat):Prop where
 lx:zqf ops ops.size
 flo:∀ k ok,T.contains k=false→ops[k]? =some ok→∀ e∈ok.after,Region.binds .any e=true→T.contains e.on=false
theorem zlm {listed:Array Bool} (inv:HeadInv .any ops ops.size listed):∀ (f i j:Nat),listed.getD i false=true→zoh ops f i j=true→listed.getD j false=true
 |0,i,j,hl,h=>by
  unfold zoh at h
  cases hz:ops[i]? with
  |none=>rw [hz] at h;simp at h
  |some z=>rw [hz] at h;exact ze5 inv hl (zbs hz h)
 |f+1,i,j,hl,h=>by
  unfold zoh at h
  cases hz:ops[i]? with
  |none=>rw [hz] at h;simp at h
  |some z=>
   rw [hz] at h;simp only [Option.any_some,Bool.or_eq_true] at h;rcases h with h|h
   ·exact ze5 inv hl (zbs hz h)
   ·obtain⟨e,he,hb⟩:=Array.any_eq_true'.1 h
    simp only [Bool.and_eq_true] at hb;exact zlm inv f _ j (ze5 inv hl ⟨z,hz,e,he,hb.1,rfl⟩) hb.2
theorem zkp {T:List Nat} (ck:FreeOk ops T) {C:World→Prop} {Q':Exit→Act→World→Prop} {a0:Act} {V:Nat→Value} (hstep:∀ j o,T.contains j=false→ops[j]? =some o→FlOk P ops C T a0 V j o):
  ∀ (u:Nat) (listed:Array Bool) (w:World) (rem:List Nat) (V':Nat→Value) (ds:List Deferred),left listed ops.size=u→HeadInv .any ops ops.size listed→(u≠0→C w)→(∀ j,flo T j=true→V' j=V j)→
   (∀ j,j < ops.size→T.contains j=true→(listed.getD j false=false↔j∈rem))→(∀ j,j∈rem→j < ops.size∧T.contains j=true)→rem.Nodup→
   wpTs P ops C (fun a w=>Q' .normal a w) rem.length rem (FF ops V' (fun j=>listed.getD j false || flo T j) { a0 with defers:=ds } ops.size) w→
   wpAny P .any ops Q' u listed (FF ops V' (fun j=>listed.getD j false) { a0 with defers:=ds } ops.size) w
 |0,listed,w,rem,V',ds,hu,inv,hC,hV,hrem,hin,hch,h=>by
  have hall:=zhl hu;have hrr:Region.ready .any ops listed=[]:=by
   cases hr:Region.ready .any ops listed with
   |nil=>rfl
   |cons i r=>
    have hi:i∈Region.ready .any ops listed:=by rw [hr];simp
    obtain⟨hun,o,ho,_⟩:=mem_ready.1 hi;have:=hall i (qLt ho);rw [getD_both hun] at this;cases this
  refine⟨hrr,?_⟩
  cases rem with
  |nil=>
   have e:FF ops V' (fun j=>listed.getD j false || flo T j) { a0 with defers:=ds } ops.size=FF ops V' (fun j=>listed.getD j false) { a0 with defers:=ds } ops.size:=zcz _ _ _ fun j hj=>by rw [hall j hj];rfl
   rw [e] at h;exact h
  |cons r0 rs=>
   have h1:=hin r0 (by simp);have h2:=(hrem r0 h1.1 h1.2).2 (by simp);rw [hall r0 h1.1] at h2;cases h2
 |u+1,listed,w,rem,V',ds,hu,inv,hC,hV,hrem,hin,hch,h=>by
  have lx:=ck.lx;have hsel:∀ (j:Nat) (o:Oper) (cs:Array SelectCase) (b:Bool),ops[j]? =some o→o.op≠.select cs b:=fun j o cs b h=>Region.noSelect_spec lx.sel j o cs b h;obtain⟨r,hrN,hrl,hrb⟩:=zj7 (listed:=listed) (m:=ops.size) (by omega);have hrr:r∈Region.ready .any ops listed:=by
   have hro:ops[r]? =some ops[r]:=Array.getElem?_eq_getElem (by omega);refine mem_ready.2 ⟨getD_in (by rw [inv.size];omega) hrl,_,hro,fun e he hb=>hrb _ (lx.back r _ hrN hro e he hb)⟩
  refine⟨fun h0=>(by rw [h0] at hrr;cases hrr),fun i hi=>?_⟩;obtain⟨hun,o,ho,hall⟩:=mem_ready.1 hi;have hiN:i < ops.size:=(qLt ho);have his:i < listed.size:=by rw [inv.size];omega
  have hleft:left (listed.setIfInBounds i true) ops.size=u:=by
   have:left listed ops.size=left (listed.setIfInBounds i true) ops.size+1:=by
    refine zpd _ _ i ops.size hiN ?_ ?_ fun j hj=>?_
    ·simp only [za0 his,decide_true,Bool.true_or,Bool.not_true]
    ·simp only [getD_both hun,Bool.not_false]
    ·simp only [za0 his,hj,decide_false,Bool.false_or]
   omega
  have hinv':=inv.set hi hiN;have hdst:zfc ops i=o.dst:=by unfold zfc;rw [ho];rfl
  have at_dst:∀ {j t:Nat},zfc ops j=some t→∃ oj,ops[j]? =some oj∧oj.dst=some t:=fun {j t} hd=>by
   unfold zfc at hd
   cases h:ops[j]? with
   |none=>rw [h] at hd;cases hd
   |some oj=>rw [h] at hd;exact⟨oj,rfl,hd⟩
  cases hT:T.contains i with
  |false=>
   have hfi:flo T i=true:=by unfold flo;rw [hT];rfl
   have hagree:∀ t,t∈o.looksAt ops→(FF ops V' (fun j=>listed.getD j false) { a0 with defers:=ds } ops.size).tmps[t]? =(FF ops V (flo T) a0 i).tmps[t]?:=fun t ht=>by
    rw [zdi,zdi,agree lx inv V' _ hiN ho hi ht,zpx];rw [show LK ops V (flo T) a0 t i=LK ops V' (flo T) a0 t i from LK_V _ _ _ _ fun j _ hj=>(hV j hj).symm,←LK_cut V' (flo T) a0 t i ops.size (by omega)];refine zfw V' a0 t ops.size fun j hj hd=>?_;by_cases hji:j < i
    ·simp only [hji,decide_true,Bool.true_and]
     cases hf:flo T j with
     |true=>rfl
     |false=>
      exfalso;obtain⟨oj,hoj,hdj⟩:=at_dst hd;have hjT:T.contains j=true:=by unfold flo at hf;simpa using hf
      rcases lx.pair j i oj o hji hiN hoj ho with ⟨o',ho',e,he,hb,hon⟩|hap
      ·obtain rfl:o'=o:=Option.some.inj (ho'.symm.trans ho)
       have:=ck.flo i o' hT ho e he hb;rw [hon,hjT] at this;cases this
      ·exact absurd ht ((Oper.apart_spec hap).1 t hdj)
    ·simp only [hji,decide_false,Bool.false_and]
   have hwant:=zbg (ops:=ops) hagree;have hexec:=zbz (ops:=ops) (hsel i o · · ho) hagree;have hput:=zlo lx inv V' { a0 with defers:=ds } hiN ho hi;have next:wpAny P .any ops Q' u (listed.setIfInBounds i true) ((FF ops V' (fun j=>listed.getD j false) { a0 with defers:=ds } ops.size).put o.dst (V i)) w:=by
    rw [←hV i hfi,hput];refine zkp ck hstep u _ w rem V' ds hleft hinv' (fun _=>hC (by omega)) hV (fun j hj hjT=>?_) hin hch ?_
    ·rw [za0 his]
     have:j≠i:=fun e=>by subst e;rw [hT] at hjT;cases hjT
     simp only [this,decide_false,Bool.false_or];exact hrem j hj hjT
    ·have e:FF ops V' (fun j=>(listed.setIfInBounds i true).getD j false || flo T j) { a0 with defers:=ds } ops.size=FF ops V' (fun j=>listed.getD j false || flo T j) { a0 with defers:=ds } ops.size:=zcz _ _ _ fun j hj=>by
      rw [za0 his];by_cases hji:j=i
      ·subst hji;rw [hfi];simp
      ·simp only [hji,decide_false,Bool.false_or]
     rw [e];exact h
   unfold wpOp;simp only [ho];rw [hwant];rcases hstep i o hT ho with ⟨hw,hyes⟩|⟨hw,hyes⟩
   ·rw [if_pos hw]
    left;unfold Oper.wp;rw [hexec,hyes w (hC (by omega))];exact next
   ·rw [if_neg (by rw [hw];simp),←hyes]
    exact next
  |true=>
   have hirem:i∈rem:=(hrem i hiN hT).1 (getD_both hun);have hrl:rem.length=(rem.length - 1)+1:=by have:=List.length_pos_of_mem hirem;omega
   have hlen:(rem.erase i).length=rem.length - 1:=List.length_erase_of_mem hirem;rw [hrl] at h;have hrdy:rdyB ops rem i=true:=List.all_eq_true.2 fun r hr=>by
    cases hw:(ops[i]?).any (zg8 r) with
    |false=>rfl
    |true=>
     exfalso;rw [ho] at hw;have h2:=zfo hi (zbs ho (by simpa using hw));have h3:=hin r hr;rw [(hrem r h3.1 h3.2).2 hr] at h2;cases h2
   obtain⟨o',ho',h⟩:=h i hirem hrdy;obtain rfl:o'=o:=Option.some.inj (ho'.symm.trans ho);have hagree:∀ t,t∈o'.looksAt ops→(FF ops V' (fun j=>listed.getD j false) { a0 with defers:=ds } ops.size).tmps[t]? =(FF ops V' (fun j=>listed.getD j false || flo T j) { a0 with defers:=ds } ops.size).tmps[t]?:=fun t ht=>by
    rw [zdi,zdi];refine zfw V' _ t ops.size fun j hj hd=>?_
    cases hl:listed.getD j false with
    |true=>rfl
    |false=>
     cases hf:flo T j with
     |false=>rfl
     |true=>
      exfalso;have hjT:T.contains j=false:=by unfold flo at hf;simpa using hf
      obtain⟨oj,hoj,hdj⟩:=at_dst hd;rcases Nat.lt_trichotomy j i with h1|h1|h1
      ·rcases lx.pair j i oj o' h1 hiN hoj ho with hw|hap
       ·have:=zfo hi hw
        rw [hl] at this;cases this
       ·exact absurd ht ((Oper.apart_spec hap).1 t hdj)
      ·subst h1;rw [hT] at hjT;cases hjT
      ·rcases lx.pair i j o' oj h1 hj ho hoj with ⟨oj',hoj',e,he,hb,hon⟩|hap
       ·obtain rfl:oj'=oj:=Option.some.inj (hoj'.symm.trans hoj)
        have:=ck.flo j oj' hjT hoj e he hb;rw [hon,hT] at this;cases this
       ·exact absurd ht ((Oper.apart_spec hap).2.2 t hdj)
   have hwant:=zbg (ops:=ops) hagree;have hexec:=zbz (ops:=ops) (hsel i o' · · ho) hagree;have inv2:HeadInv .any ops ops.size (zei listed T ops.size):=by
    refine⟨by simp [zei],fun j oj hoj hlj e he hb=>?_,fun t h1 h2=>by omega⟩;have hj:j < ops.size:=(qLt hoj);have hej:e.on < ops.size:=by have:=lx.back j oj hj hoj e he hb;omega
    rw [zbb hj] at hlj;rw [zbb hej]
    cases hl:listed.getD j false with
    |true=>rw [inv.closed j oj hoj hl e he hb];rfl
    |false=>
     rw [hl,Bool.false_or] at hlj;have hjT:T.contains j=false:=by unfold flo at hlj;simpa using hlj
     have:=ck.flo j oj hjT hoj e he hb;unfold flo;rw [this];simp
   have hi2:i∈Region.ready .any ops (zei listed T ops.size):=by
    refine mem_ready.2 ⟨?_,o',ho,fun e he hb=>?_⟩
    ·rw [zbb hiN,getD_both hun];unfold flo;rw [hT];rfl
    ·have hej:e.on < ops.size:=by have:=lx.back i o' hiN ho e he hb;omega
     rw [zbb hej,hall e he hb];rfl
   have hzero:allB ops i=true→u=0:=fun hall=>by
    rw [←hleft];have hl:∀ j,j < ops.size→(listed.setIfInBounds i true).getD j false=true:=fun j hj=>by
     rw [za0 his];have h1:=List.all_eq_true.1 hall j (List.mem_range.2 hj);by_cases hji:j=i
     ·simp [hji]
     ·have h2:zoh ops 3 i j=true:=by simpa [hji] using h1
      unfold zoh at h2;rw [ho] at h2;simp only [Option.any_some,Bool.or_eq_true] at h2;rcases h2 with h2|h2
      ·rw [zfo hi (zbs ho h2)];simp
      ·obtain⟨e,he,hb⟩:=Array.any_eq_true'.1 h2
       simp only [Bool.and_eq_true] at hb;rw [zlm inv 2 _ j (zfo hi ⟨o',ho,e,he,hb.1,rfl⟩) hb.2];simp
    have:∀ m,m≤ops.size→left (listed.setIfInBounds i true) m=0:=fun m=>by
     induction m with
     |zero=>intro _;rfl
     |succ m ih=>intro hm;have:=ih (by omega);unfold left at this ⊢;simp only [cnt];rw [this];simp only [hl m (by omega),Bool.not_true,Bool.false_eq_true,if_false]
    exact this _ (Nat.le_refl _)
   have next:∀ (v:Value) (w':World) (ds':List Deferred),((allB ops i=true∨C w')∧wpTs P ops C (fun a w=>Q' .normal a w) (rem.length - 1) (rem.erase i) ((FF ops V' (fun j=>listed.getD j false || flo T j) { a0 with defers:=ds' } ops.size).put o'.dst v) w')→
     wpAny P .any ops Q' u (listed.setIfInBounds i true) ((FF ops V' (fun j=>listed.getD j false) { a0 with defers:=ds' } ops.size).put o'.dst v) w':=fun v w' ds' hK=>by
    obtain⟨V2,hV2⟩:∃ V2:Nat→Value,V2=fun j=>if j=i then v else V' j:=⟨_,rfl⟩
    have hne:∀ j,j≠i→V' j=V2 j:=fun j hj=>by rw [hV2];simp [hj]
    have hvi:V2 i=v:=by rw [hV2];simp
    have e1:FF ops V' (fun j=>listed.getD j false) { a0 with defers:=ds' } ops.size=FF ops V2 (fun j=>listed.getD j false) { a0 with defers:=ds' } ops.size:=FF_Vc _ _ _ fun j hj hl=>hne j fun e=>by subst e;rw [getD_both hun] at hl;cases hl
    have e2:FF ops V' (fun j=>listed.getD j false || flo T j) { a0 with defers:=ds' } ops.size=FF ops V2 (fun j=>(zei listed T ops.size).getD j false) { a0 with defers:=ds' } ops.size:=by
     rw [FF_Vc (V:=V') (V':=V2) _ _ _ fun j hj hl=>hne j fun e=>by
      subst e;rw [getD_both hun] at hl;unfold flo at hl;rw [hT] at hl;cases hl]
     exact zcz _ _ _ fun j hj=>(zbb hj _).symm
    have p1:=zlo lx inv V2 { a0 with defers:=ds' } hiN ho hi;have p2:=zlo lx inv2 V2 { a0 with defers:=ds' } hiN ho hi2;rw [hvi] at p1 p2;rw [e1,p1];rw [e2,p2] at hK;refine zkp ck hstep u _ w' (rem.erase i) V2 ds' hleft hinv' (fun hu=>hK.1.resolve_left fun hall=>hu (hzero hall)) (fun j hj=>?_) (fun j hj hjT=>?_) (fun j hj=>hin j (List.mem_of_mem_erase hj)) (hch.erase i) ?_
    ·rw [←hV j hj,hne j fun e=>by subst e;unfold flo at hj;rw [hT] at hj;cases hj]
    ·rw [za0 his]
     by_cases hji:j=i
     ·subst hji
      simp only [decide_true,Bool.true_or,Bool.true_eq_false,false_iff];exact fun hm=>(hch.mem_erase_iff.1 hm).1 rfl
     ·simp only [hji,decide_false,Bool.false_or]
      rw [hrem j hj hjT,hch.mem_erase_iff];simp [hji]
    ·have e3:FF ops V2 (fun j=>(listed.setIfInBounds i true).getD j false || flo T j) { a0 with defers:=ds' } ops.size=FF ops V2 (fun j=>((zei listed T ops.size).setIfInBounds i true).getD j false) { a0 with defers:=ds' } ops.size:=zcz _ _ _ fun j hj=>by
      rw [za0 his,za0 (by rw [inv2.size];exact hiN),zbb hj,Bool.or_assoc]
     rw [e3,hlen];exact hK.2
   unfold wpOp;simp only [ho];rw [hwant];unfold wpList at h;by_cases hw:Region.wanted o' (yielded ops (FF ops V' (fun j=>listed.getD j false || flo T j) { a0 with defers:=ds } ops.size).tmps)=true
   ·rw [if_pos hw] at h ⊢
    left;rcases h with h|⟨_,h⟩
    rotate_left
    ·exact (zgc h).elim
    unfold Oper.wp at h ⊢;rw [hexec];generalize (execOp (FF ops V' (fun j=>listed.getD j false || flo T j) { a0 with defers:=ds } ops.size).eval o').run P w=res at h ⊢
    cases res with
    |ok n w'=>
     cases n with
     |value v=>exact next _ _ _ h.2
     |skip=>exact next _ _ _ h.2
     |defer d=>
      have e:=h.2;simp only [Oper.upon];rw [←zkl] at e ⊢;rw [zdq] at e ⊢;exact next _ _ _ e
     |enter f args=>
      refine Calls.mono h ?_;intro e w'' he
      cases e with
      |returned v=>exact next _ _ _ he.2
      |panicked ch=>exact absurd he.1 (by simp)
      |outgrown=>exact (zgc he).elim
     |row row args=>
      refine Rows.mono h ?_;intro v w'' he;exact next _ _ _ he.2
     |_=>exact h.elim
    |halt x w'=>
     cases x with
     |panic v=>exact absurd h.1 (by simp)
     |_=>exact h.elim
   ·rw [if_neg hw] at h ⊢
    exact next _ _ _ h.2
end
def zsf (l:List Oper) (T:List Nat):Bool:=
 Region.noSelect l.toArray && zov l.toArray 0 l && zDv T 0 l && decide T.Nodup && T.all fun j=>decide (j < l.length)
theorem zf6 {P:Program} {Q:Exit→Act→World→Prop} {a:Act} {w:World} {l:List Oper} (T:List Nat) (C:World→Prop) (hB:zsf l T=true) (h0:C w.drew)
  (h:wpFl P l.toArray C T (fun a'=>wpTs P l.toArray C (fun a w=>Q .normal a w) T.length T a' w.drew) 0 l a):wpAny P .any l.toArray Q l.toArray.size (Array.replicate l.toArray.size false) a w.drew:=by
 simp only [zsf,Bool.and_eq_true,decide_eq_true_iff] at hB;obtain⟨⟨⟨⟨hsel,hlex⟩,hflo⟩,hnd⟩,hin⟩:=hB;have hls:l.toArray.size=l.length:=by simp
 have lx:zqf l.toArray l.toArray.size:=by
  refine⟨Nat.le_refl _,hsel,fun k ok hk hok e he hb=>?_,fun k j ok oj hkj hj hok hoj=>?_⟩
  ·have:=zgf l 0 hlex k ok (by simpa using hok) e he hb
   omega
  ·rcases zge l 0 hlex k j ok oj hkj (by simpa using hok) (by simpa using hoj) with h1|h1
   ·left;rw [Nat.zero_add] at h1;exact zbs hoj h1
   ·exact .inr h1
 have ck:FreeOk l.toArray T:=⟨lx,fun k ok hT hok e he hb=>zk6 l 0 hflo k ok (by simpa using hok) (by rw [Nat.zero_add];exact hT) e he hb⟩;obtain⟨V,_,hstep,hfin⟩:=zm6 (P:=P) (ops:=l.toArray) (C:=C) (T:=T) a l 0 a (fun _=>undef) (fun j hj=>by rw [Nat.zero_add];simp) rfl h;have inv0:HeadInv .any l.toArray l.toArray.size (Array.replicate l.toArray.size false):=
  ⟨Array.size_replicate,fun j oj _ hl=>(by rw [getD_replicate_false] at hl;cases hl),fun t _ ht=>getD_in (by rw [Array.size_replicate];exact ht) (getD_replicate_false _ _)⟩
 have hleft:left (Array.replicate l.toArray.size false) l.toArray.size=l.toArray.size:=by
  have:∀ m,left (Array.replicate l.toArray.size false) m=m:=fun m=>by
   induction m with
   |zero=>rfl
   |succ m ih=>unfold left at ih ⊢;simp only [cnt];rw [ih];simp only [getD_replicate_false,Bool.not_false,if_true]
  exact this _
 have hff:FF l.toArray V (fun j=>(Array.replicate l.toArray.size false).getD j false) { a with defers:=a.defers } l.toArray.size=a:=by
  have:∀ m,FF l.toArray V (fun j=>(Array.replicate l.toArray.size false).getD j false) a m=a:=fun m=>by
   induction m with
   |zero=>rfl
   |succ m ih=>simp only [FF,getD_replicate_false,Bool.false_eq_true,if_false];simpa only [getD_replicate_false] using ih
  exact this _
 have:=zkp (P:=P) (Q':=Q) (a0:=a) (V:=V) (C:=C) ck (fun j o hT ho=>hstep j o (Nat.zero_le _) (by have:=(qLt ho);rw [hls] at this;omega) hT ho) l.toArray.size _ w.drew T V a.defers hleft inv0 (fun _=>h0) (fun _ _=>rfl)
  (fun j hj hT=>⟨fun _=>by simpa using hT,fun _=>getD_replicate_false _ _⟩) (fun j hj=>⟨by have:=List.all_eq_true.1 hin j hj;rw [hls];simpa using this,by simpa using hj⟩) hnd (by
   have e:FF l.toArray V (fun j=>(Array.replicate l.toArray.size false).getD j false || flo T j) { a with defers:=a.defers } l.toArray.size=FF l.toArray V (flo T) a (0+l.length):=by
    rw [Nat.zero_add,←hls];exact zcz _ _ _ fun j hj=>by rw [getD_replicate_false,Bool.false_or]
   rw [e];exact hfin)
 rw [hff] at this;exact this
theorem zan {P:Program} {id:Nat} {Q:Exit→Act→World→Prop} {a:Act} {w:World} {l:List Oper} (T:List Nat) (C:World→Prop) (hm:P.follows .mixedOrders=true) (hB:zsf l T=true) (h0:C w.drew)
  (h:wpFl P l.toArray C T (fun a'=>wpTs P l.toArray C (fun a w=>Q .normal a w) T.length T a' w.drew) 0 l a):(Code.region id l.toArray true).wp P Q a w:=
 wp_region_any hm (zf6 T C hB h0 h)
section
variable {P:Program} {ops:Array Oper} {C:World→Prop} {Q:Act→World→Prop} {m:Nat} {rem rem1 rem2:List Nat} {i j:Nat} {o o2:Oper} {a:Act} {w:World}
theorem wpTs_1 (hr:rem.filter (rdyB ops rem)=[i]) (he:rem.erase i=rem1) (ho:ops[i]? =some o) (h:∀ K:Exit→Act→World→Prop,(∀ a' w',C w'→wpTs P ops C Q m rem1 a' w'→K .normal a' w')→wpList P ops K [o] a w):wpTs P ops C Q (m+1) rem a w:=fun k hk hb=>by
 have:k∈rem.filter (rdyB ops rem):=List.mem_filter.2 ⟨hk,hb⟩;rw [hr] at this;obtain rfl:k=i:=by simpa using this
 subst he;exact⟨o,ho,h _ fun _ _ h1 h2=>⟨rfl,.inr h1,h2⟩⟩
theorem wpTs_2 (hr:rem.filter (rdyB ops rem)=[i,j]) (he:rem.erase i=rem1) (he2:rem.erase j=rem2) (ho:ops[i]? =some o) (ho2:ops[j]? =some o2) (h:∀ K:Exit→Act→World→Prop,(∀ a' w',C w'→wpTs P ops C Q m rem1 a' w'→K .normal a' w')→wpList P ops K [o] a w)
  (h2:∀ K:Exit→Act→World→Prop,(∀ a' w',C w'→wpTs P ops C Q m rem2 a' w'→K .normal a' w')→wpList P ops K [o2] a w):wpTs P ops C Q (m+1) rem a w:=fun k hk hb=>by
 have:k∈rem.filter (rdyB ops rem):=List.mem_filter.2 ⟨hk,hb⟩;rw [hr] at this;subst he he2;rcases (by simpa using this:k=i∨k=j) with rfl|rfl
 ·exact⟨o,ho,h _ fun _ _ h1 h2=>⟨rfl,.inr h1,h2⟩⟩
 ·exact⟨o2,ho2,h2 _ fun _ _ h1 h2=>⟨rfl,.inr h1,h2⟩⟩
theorem zby (hr:rem.filter (rdyB ops rem)=[i]) (he:rem.erase i=rem1) (ho:ops[i]? =some o) (ha:allB ops i=true) (h:∀ K:Exit→Act→World→Prop,(∀ a' w',wpTs P ops C Q m rem1 a' w'→K .normal a' w')→wpList P ops K [o] a w):wpTs P ops C Q (m+1) rem a w:=fun k hk hb=>by
 have:k∈rem.filter (rdyB ops rem):=List.mem_filter.2 ⟨hk,hb⟩;rw [hr] at this;obtain rfl:k=i:=by simpa using this
 subst he;exact⟨o,ho,h _ fun _ _ h2=>⟨rfl,.inl ha,h2⟩⟩
theorem za2 (h:Q a w):wpTs P ops C Q 0 rem a w:=h
end
section
variable {P:Program} {ops:Array Oper} {C:World→Prop} {T:List Nat} {QF:Act→Prop} {k:Nat} {o:Oper} {rest:List Oper} {a:Act}
theorem qFc (h:wpFl P ops C T QF (k+1) rest a) (hT:T.contains k=true:=by rfl):wpFl P ops C T QF k (o :: rest) a:=zAw hT h
theorem qFs (h:∀ K:Act→Prop,(∀ a,wpFl P ops C T QF (k+1) rest a→K a)→∃ v,zaq P C o a v∧K (a.put o.dst v)) (hT:T.contains k=false:=by rfl) (hw:Region.wanted o (yielded ops a.tmps)=true:=by rfl):wpFl P ops C T QF k (o :: rest) a:=zAv hT hw h
variable {Q:Act→World→Prop} {m:Nat} {rem:List Nat} {w:World}
theorem qT1 (i:Nat) (rem1:List Nat) (h:∀ K:Exit→Act→World→Prop,(∀ a' w',C w'→wpTs P ops C Q m rem1 a' w'→K .normal a' w')→wpList P ops K [o] a w) (hr:rem.filter (rdyB ops rem)=[i]:=by kernel_rfl) (he:rem.erase i=rem1:=by rfl) (ho:ops[i]? =some o:=by rfl):wpTs P ops C Q (m+1) rem a w:=wpTs_1 hr he ho h
theorem qT2 (i j:Nat) (rem1 rem2:List Nat) {o2:Oper} (h:∀ K:Exit→Act→World→Prop,(∀ a' w',C w'→wpTs P ops C Q m rem1 a' w'→K .normal a' w')→wpList P ops K [o] a w) (h2:∀ K:Exit→Act→World→Prop,(∀ a' w',C w'→wpTs P ops C Q m rem2 a' w'→K .normal a' w')→wpList P ops K [o2] a w) (hr:rem.filter (rdyB ops rem)=[i,j]:=by kernel_rfl) (he:rem.erase i=rem1:=by rfl) (he2:rem.erase j=rem2:=by rfl) (ho:ops[i]? =some o:=by rfl) (ho2:ops[j]? =some o2:=by rfl):wpTs P ops C Q (m+1) rem a w:=wpTs_2 hr he he2 ho ho2 h h2
end
end Go.Proofs.YtpbmmoneeoijaaaGreatDoor
namespace Go.Proofs.YtpbmmoneeoijaaaGreatDoor
open Go.RowKit Go.Deep Go.Shelf
set_option maxRecDepth 100000
set_option maxHeartbeats 8000000
attribute [local go_sem] zaq
theorem zci {n b:Nat} {w0:World} (hn:n≤b):∀ (vs:List Value) (o:Nat) (X:World),Below n w0 X→Below n w0 (X.setCells b o vs)
 | [],_,_,h=>h
 |v :: r,o,X,h=>by
  rw [World.setCells];exact zci hn r (o+1) _ (h.setCell (p:=⟨b,o,none⟩) hn v)
theorem zaw {n:Nat} {w X:World} (h:Below n w X):Below n w X.drew:=⟨h.os,h.tape,h.output,h.size,h.block⟩
theorem zac {W:World} {b:Nat} {o:Obj} (h:W.heap[b]? =some o) (o':Obj):(W.alloc o').heap[b]? =some o:=(Below.heap_alloc _ _ _ (qLt h)).trans h
structure zzc (W:World) (A B:List Value) (pa pb:Value) (X:World):Prop where
 boxes:∃ ba bb,pa=qP ba∧pb=qP bb∧X.heap[ba]? =some (Obj.cells A.toArray 71)∧X.heap[bb]? =some (Obj.cells B.toArray 71)
 below:Below W.heap.size W X
end Go.Proofs.YtpbmmoneeoijaaaGreatDoor
namespace Go.Proofs.YtpbmmoneeoijaaaGreatDoor
open Go.RowKit Go.Deep Go.Shelf
set_option maxRecDepth 100000
set_option maxHeartbeats 8000000
def zbf (f:Nat→Int):List Value:=(List.range 23).map fun j=>qI (f j)
theorem zcb (f:Nat→Int):(zbf f).length=23:=by simp [zbf]
theorem zgk (f:Nat→Int) {j:Nat} (hj:j < 23):(zbf f)[j]? =some (qI (f j)):=by simp [zbf,hj]
theorem zfb (f:Nat→Int):(zbf f).toArray.all (·.oneCell')=true:=all_oneCell_toArray fun v hv=>by
 unfold zbf at hv;obtain⟨j,_,rfl⟩:=List.mem_map.1 hv;rfl
theorem za4 (f:Nat→Int):(Tryz.prog.info? 176).map (·.size)=some (zbf f).length:=by rw [zcb];kernel_rfl
def zd6:Obj:=.cells qZ23 176
theorem zce {W:World} {b o i:Nat} {h:Nat→Nat→Int} (hc:∀ j,j < 23→W.cell? ⟨b,o+i * 23+j,none⟩=some (qI (h i j))):W.rangeAt b (o+i * 23) (zbf (h i)):=fun j v hv=>by
 have hj:j < 23:=by rw [←zcb (h i)];exact (List.getElem?_eq_some_iff.1 hv).1
 rw [zgk _ hj] at hv;cases hv;exact hc j hj
theorem zdh (W:World) (f:Nat→Int):(W.alloc zd6).there W.heap.size 0 (zbf f).toArray.size:=fun j hj=>by
 have hj:j < 23:=by rw [←zcb f];simpa using hj
 have bZ:=heap_alloc_new W zd6;unfold zd6 at bZ ⊢;refine⟨?_,zab bZ _⟩;rw [zaa bZ];simp only [Nat.zero_add];rw [Array.getElem?_eq_getElem (by simpa using hj)];rfl
theorem zlk (b:Nat):∀ (vs:List Value) (o:Nat) (w:World),(w.setCells b o vs).heap.size=w.heap.size
 | [],_,_=>rfl
 |v :: r,o,w=>by rw [World.setCells,zlk b r];simp
structure EdgeBox (W:World) (f:Nat→Int) (X:World):Prop where
 cell:∀ j,j < 23→X.cell? ⟨W.heap.size,j,none⟩=some (qI (f j))
 below:Below W.heap.size W X
 size:X.heap.size=W.heap.size+1
theorem zg1 (W:World) (f:Nat→Int):EdgeBox W f ((W.alloc zd6).setCells W.heap.size 0 (zbf f).toArray.toList):=by
 refine⟨fun j hj=>?_,zci (Nat.le_refl _) _ 0 _ (qBr _),by rw [zlk];simp⟩;have:=World.rangeAt_setCells_same (W.alloc zd6) W.heap.size 0 (zbf f) (by have:=zdh W f;simpa using this) j _ (zgk f hj)
 rwa [Nat.zero_add] at this
end Go.Proofs.YtpbmmoneeoijaaaGreatDoor
namespace Go.Proofs.YtpbmmoneeoijaaaGreatDoor
open Go.RowKit Go.Shelf
def goesOn {α:Type} (B:Nat) (Kp:World→World→Prop) (I:List α→World→Prop) (xs:List α) (W:World):Exit→Act→World→Prop
 | .normal,_,W'=>KeepsFrom B W W'∧Kp W W'∧I xs W'
 |_,_,_=>False
def SeqA {α:Type} (F:Fence) (n:Nat) (P:Program) (g:Nat) (lb:Array Value) (encs:α→Array Value) (Kp:World→World→Prop) (E:World→World→Prop) (Fit:List α→α→Prop) (S:List α→Prop) (w:World):Prop:=
 ∀ (l:Nat) (J:List α→World→Prop) (W:World),Below w.heap.size w W→OwnFrom W.heap.size J→(∀ X Y,E X Y→∀ s,J s X→J s Y)→
  (∀ pre x W1,J pre W1→Fit pre x→YieldAt F (n - 1) P l (encs x) W1 fun e W'=>e=.returned (.bool true)∧J (pre ++ [x]) W'∧Kp W1 W'∧KeepsFrom W.heap.size W1 W')→
  J [] W→CallsIn F n P g (#[.func (.yield l) #[] #[]] ++ lb) W fun e W'=>(∃ v,e=.returned v)∧∃ xs,S xs∧J xs W'
theorem a_up {β:Type} {d d':Nat} (hd:d≤d') {J:β→World→Prop} (h:OwnFrom d J):OwnFrom d' J:=fun s X Y row hs hg hr=>h s X Y row hs hg fun r e=>⟨by have:=(hr r e).1;omega,(hr r e).2⟩
theorem zf9 {F:Fence} {n:Nat} {P:Program} {α:Type} {g:Operand} {ps:Array Tmp} {assign body:Code} {Q:Exit→Act→World→Prop} {a:Act} {w:World}
  (hro:F.round=none) (h1:1≤n) {gf:Nat} {lb:Array Value} (hg:a.eval g=.func (.func gf) #[] lb) (hFg:F.fn gf) (eg:∀ args w,(callFunc gf args).run P w=.ok (.enter gf args) w)
  {encs:α→Array Value} {Kp:World→World→Prop} {E:World→World→Prop} {Fit:List α→α→Prop} {S:List α→Prop} {w0:World} (hseq:SeqA F (n - 1) P gf lb encs Kp E Fit S w0)
  (hKt:∀ {A B C:World},Kp A B→Kp B C→Kp A C) (hKb:∀ (W:World) (l:Nat) (o o':Obj),w.heap.size≤l→W.heap[l]? =some o→o.isCells=false→o.isWalk=false→Kp W (W.putObj l o')) (hb0:Below w0.heap.size w0 w) (hps:∀ x,(encs x).size=ps.size)
  (I:List α→World→Prop) (hI:OwnFrom w.heap.size I) (hEb:∀ X Y,E X Y→KeepsOthers X Y) (hIE:∀ X Y,E X Y→∀ s,I s X→I s Y) (h0:I [] w) (Ax:α→Act→World→Prop) (hAx:∀ x a',OwnFrom w.heap.size (fun (_:Unit) W=>Ax x a' W))
  (hassign:∀ (l:Nat) (pre:List α) (x:α) (W:World) (K:Act→World→Prop),I pre W→(∀ a' W',KeepsFrom w.heap.size W W'→Kp W W'→I pre W'→Ax x a' W'→K a' W')→
   assign.wpIn (F.inRound l) (n - 1 - 1) P (Exit.then K (fun _ _ _=>False)) { tmps:=(ps.zip (encs x)).foldl (fun t (p,v)=>t.setIfInBounds p v) a.tmps,defers:=[] } W)
  (hbody:∀ (l:Nat) (pre:List α) (x:α) (a':Act) (W:World),w.heap.size≤l→(∃ r,W.heap[l]? =some (.loop r))→I pre W→Ax x a' W→Fit pre x→body.wpIn (F.inRound l) (n - 1 - 1) P (goesOn w.heap.size Kp I (pre ++ [x]) W) a' W)
  (hdone:∀ (D:Nat) (xs:List α) (W:World),w.heap.size≤D→S xs→I xs W→W.heap[D]? =some (.deferred (some []))→Q .normal { a with defers:={ target:=.collected D,args:=#[] } :: a.defers } W):
  (Code.rangeFunc g ps assign body).wpIn F n P Q a w:=by
 refine wpIn_rangeFunc fun fn hfn=>?_;rw [hro]
 let d:=w.heap.size
 have hd:d=w.heap.size:=rfl
 let rd:LoopState→Option Code→Loop:=fun st pe=>{ state:=st,pending:=pe,fn,tmps:=a.tmps,params:=ps,assign,body,defers:=d }
 have hL1:((w.alloc (.deferred (some []))).alloc (.loop (rd .ready none))).heap[d+1]? =some (.loop (rd .ready none)):=by
  have:=World.alloc_heap_new (w.alloc (.deferred (some []))) (.loop (rd .ready none));rwa [World.size_alloc,←hd] at this
 have hK1:((w.alloc (.deferred (some []))).alloc (.loop (rd .ready none))).heap[d]? =some (.deferred (some [])):=by
  exact (Below.heap_alloc _ _ _ (by simp only [World.size_alloc];omega)).trans (World.alloc_heap_new w _)
 have hI1:I [] ((w.alloc (.deferred (some []))).alloc (.loop (rd .ready none))):=hI.alloc _ (hI.alloc _ h0);have hb1:Below w0.heap.size w0 ((w.alloc (.deferred (some []))).alloc (.loop (rd .ready none))):=
  hb0.trans (((qBr (w:=w) _).alloc (by simp) _).mono hb0.size)
 have hsz:((w.alloc (.deferred (some []))).alloc (.loop (rd .ready none))).heap.size=d+2:=by simp [hd]
 rw [←hd] at hI hAx hassign hbody hKb;have hJ:OwnFrom (d+2) (fun pre W=>(I pre W∧W.heap[d+1]? =some (.loop (rd .ready none)))∧W.heap[d]? =some (.deferred (some []))):=
  za6 (za6 (a_up (by omega) hI) (by omega)) (by omega)
 refine⟨d+1,[{ target:=.collected d,args:=#[] }],_,{ target:=.fn (.func gf) lb,args:=#[.func (.yield (d+1)) #[] #[]] },_,gf,#[.func (.yield (d+1)) #[] #[]] ++ lb,_,run_enterLoop_outer _ _ _ _ _,by simp only [resolve,hg];simp [go_sem];rfl,fun f' hf'=>by simp [Target.leads] at hf';subst hf';exact hFg,by simp [invoke,go_sem,eg];rfl,fun _=>h1,?_⟩;refine (hseq (d+1) (fun pre W=>(I pre W∧W.heap[d+1]? =some (.loop (rd .ready none)))∧W.heap[d]? =some (.deferred (some []))) ((w.alloc (.deferred (some []))).alloc (.loop (rd .ready none))) hb1 (by rw [hsz];exact hJ)
  (fun X Y hb s hs=>⟨⟨hIE X Y hb _ hs.1.1,(hEb X Y hb).same _ _ hs.1.2 rfl⟩,(hEb X Y hb).same _ _ hs.2 rfl⟩) ?_ ⟨⟨hI1,hL1⟩,hK1⟩).mono ?_
 ·rintro pre x W ⟨⟨hi,hl⟩,hk⟩ hlen
  rw [hsz];have hlt:d+1 < W.heap.size:=(qLt hl);refine⟨fn,_,assign,body,run_yield hl (hps x),roundIn_of_wpIn hfn (hassign _ pre x W _ hi fun a' W' hkf hkp hi' hax=>?_)⟩;have hl':=hkf.same _ _ (by omega) hl rfl;have hk':=hkf.same _ _ (by omega) hk rfl;refine⟨_,run_beginRound hl' rfl,?_⟩;have hlt':d+1 < W'.heap.size:=(qLt hl');have hl2:(W'.putObj (d+1) (.loop (rd .busy none))).heap[d+1]? =some (.loop (rd .busy none)):=World.putObj_heap_same hlt';have hk2:(W'.putObj (d+1) (.loop (rd .busy none))).heap[d]? =some (.deferred (some [])):=(World.putObj_heap_other (by omega)).trans hk';have hw2:Kp W (W'.putObj (d+1) (.loop (rd .busy none))):=hKt hkp (hKb _ _ _ _ (by omega) hl' rfl rfl);have far:∀ (X:World) (o:Obj),KeepsFrom (d+2) X (X.putObj (d+1) o):=fun X o=>KeepsFrom.of_grownBy (grownBy_putObj' X _ _) (fun j e=>by cases e;omega);have more:∀ {X Y:World},KeepsFrom d X Y→KeepsFrom (d+2) X Y:=fun h=>⟨h.size,fun k o hk=>h.same k o (by omega)⟩;have hf2:KeepsFrom (d+2) W (W'.putObj (d+1) (.loop (rd .busy none))):=(more hkf).trans (far _ _);refine wpIn_mono (hbody _ pre x a' _ (by omega) ⟨_,hl2⟩ (hI.putObj _ hi' (by omega) hl' rfl) ((hAx x a').putObj (s:=()) _ hax (by omega) hl' rfl) hlen) ?_;rintro e a3 W3 hp
  cases e with
  |normal=>
   obtain⟨hk3,hkp3,hi3⟩:=hp;have hl3:=hk3.same _ _ (by omega) hl2 rfl;exact⟨_,_,run_endRound (P:=P) none hl3,rfl,⟨⟨hI.putObj _ hi3 (by omega) hl3 rfl,World.putObj_heap_same (qLt hl3)⟩,(World.putObj_heap_other (by omega)).trans (hk3.same _ _ (Nat.le_refl _) hk2 rfl)⟩,hKt (hKt hw2 hkp3) (hKb _ _ _ _ (by omega) hl3 rfl rfl),(hf2.trans (more hk3)).trans (far _ _)⟩
  |ret=>exact hp.elim
  |exit id=>exact hp.elim
  |goto t=>exact hp.elim
  |panic ch=>exact hp.elim
  |outgrown=>exact hp.elim
 ·rintro e W2 ⟨⟨v,rfl⟩,xs,hS,⟨hi,hl⟩,hk⟩
  exact⟨none,_,run_endLoop (P:=P) hl (by simp [rd]),hdone d xs _ (by omega) hS (hI.putObj _ hi (by omega) hl rfl) ((World.putObj_heap_other (by omega)).trans hk)⟩
theorem zvs {F:Fence} {n:Nat} {P:Program} {α:Type} {g:Operand} {ps:Array Tmp} {assign body:Code} {Q:Exit→Act→World→Prop} {a:Act} {w:World}
  {l₀:Nat} {r₀:Loop} (hro:F.round=some l₀) (hl₀:w.heap[l₀]? =some (.loop r₀)) (h1:1≤n) {gf:Nat} {lb:Array Value} (hg:a.eval g=.func (.func gf) #[] lb) (hFg:F.fn gf) (eg:∀ args w,(callFunc gf args).run P w=.ok (.enter gf args) w)
  {encs:α→Array Value} {Kp:World→World→Prop} {E:World→World→Prop} {Fit:List α→α→Prop} {S:List α→Prop} {w0:World} (hseq:SeqA F (n - 1) P gf lb encs Kp E Fit S w0)
  (hKt:∀ {A B C:World},Kp A B→Kp B C→Kp A C) (hKb:∀ (W:World) (l:Nat) (o o':Obj),w.heap.size≤l→W.heap[l]? =some o→o.isCells=false→o.isWalk=false→Kp W (W.putObj l o')) (hb0:Below w0.heap.size w0 w) (hps:∀ x,(encs x).size=ps.size)
  (I:List α→World→Prop) (hI:OwnFrom w.heap.size I) (hEb:∀ X Y,E X Y→KeepsOthers X Y) (hIE:∀ X Y,E X Y→∀ s,I s X→I s Y) (h0:I [] w) (Ax:α→Act→World→Prop) (hAx:∀ x a',OwnFrom w.heap.size (fun (_:Unit) W=>Ax x a' W))
  (hassign:∀ (l:Nat) (pre:List α) (x:α) (W:World) (K:Act→World→Prop),I pre W→(∀ a' W',KeepsFrom w.heap.size W W'→Kp W W'→I pre W'→Ax x a' W'→K a' W')→
   assign.wpIn (F.inRound l) (n - 1 - 1) P (Exit.then K (fun _ _ _=>False)) { tmps:=(ps.zip (encs x)).foldl (fun t (p,v)=>t.setIfInBounds p v) a.tmps,defers:=[] } W)
  (hbody:∀ (l:Nat) (pre:List α) (x:α) (a':Act) (W:World),w.heap.size≤l→(∃ r,W.heap[l]? =some (.loop r))→I pre W→Ax x a' W→Fit pre x→body.wpIn (F.inRound l) (n - 1 - 1) P (goesOn w.heap.size Kp I (pre ++ [x]) W) a' W)
  (hdone:∀ (xs:List α) (W:World),S xs→I xs W→Q .normal a W):
  (Code.rangeFunc g ps assign body).wpIn F n P Q a w:=by
 refine wpIn_rangeFunc fun fn hfn=>?_;rw [hro]
 let d:=w.heap.size
 have hd:d=w.heap.size:=rfl
 let rd:LoopState→Option Code→Loop:=fun st pe=>{ state:=st,pending:=pe,fn,tmps:=a.tmps,params:=ps,assign,body,defers:=r₀.defers }
 have hL1:(w.alloc (.loop (rd .ready none))).heap[d]? =some (.loop (rd .ready none)):=World.alloc_heap_new w _;have hI1:I [] (w.alloc (.loop (rd .ready none))):=hI.alloc _ h0;have hb1:Below w0.heap.size w0 (w.alloc (.loop (rd .ready none))):=hb0.trans ((qBr (w:=w) _).mono hb0.size);have hsz:(w.alloc (.loop (rd .ready none))).heap.size=d+1:=by simp [hd]
 rw [←hd] at hI hAx hassign hbody hKb;have hJ:OwnFrom (d+1) (fun pre W=>I pre W∧W.heap[d]? =some (.loop (rd .ready none))):=za6 (a_up (by omega) hI) (by omega);refine⟨d,[],_,{ target:=.fn (.func gf) lb,args:=#[.func (.yield d) #[] #[]] },_,gf,#[.func (.yield d) #[] #[]] ++ lb,_,run_enterLoop_inner hl₀ _ _ _ _ _,by simp only [resolve,hg];simp [go_sem];rfl,fun f' hf'=>by simp [Target.leads] at hf';subst hf';exact hFg,by simp [invoke,go_sem,eg];rfl,fun _=>h1,?_⟩;refine (hseq d (fun pre W=>I pre W∧W.heap[d]? =some (.loop (rd .ready none))) (w.alloc (.loop (rd .ready none))) hb1 (by rw [hsz];exact hJ)
  (fun X Y hb s hs=>⟨hIE X Y hb _ hs.1,(hEb X Y hb).same _ _ hs.2 rfl⟩) ?_ ⟨hI1,hL1⟩).mono ?_
 ·rintro pre x W ⟨hi,hl⟩ hlen
  rw [hsz];have hlt:d < W.heap.size:=(qLt hl);refine⟨fn,_,assign,body,run_yield hl (hps x),roundIn_of_wpIn hfn (hassign _ pre x W _ hi fun a' W' hkf hkp hi' hax=>?_)⟩;have hl':=hkf.same _ _ (Nat.le_refl _) hl rfl;refine⟨_,run_beginRound hl' rfl,?_⟩;have hlt':d < W'.heap.size:=(qLt hl');have hl2:(W'.putObj d (.loop (rd .busy none))).heap[d]? =some (.loop (rd .busy none)):=World.putObj_heap_same hlt';have hw2:Kp W (W'.putObj d (.loop (rd .busy none))):=hKt hkp (hKb _ _ _ _ (Nat.le_refl _) hl' rfl rfl);have far:∀ (X:World) (o:Obj),KeepsFrom (d+1) X (X.putObj d o):=fun X o=>KeepsFrom.of_grownBy (grownBy_putObj' X _ _) (fun j e=>by cases e;omega);have more:∀ {X Y:World},KeepsFrom d X Y→KeepsFrom (d+1) X Y:=fun h=>⟨h.size,fun k o hk=>h.same k o (by omega)⟩;have hf2:KeepsFrom (d+1) W (W'.putObj d (.loop (rd .busy none))):=(more hkf).trans (far _ _);refine wpIn_mono (hbody _ pre x a' _ (Nat.le_refl _) ⟨_,hl2⟩ (hI.putObj _ hi' (Nat.le_refl _) hl' rfl) ((hAx x a').putObj (s:=()) _ hax (Nat.le_refl _) hl' rfl) hlen) ?_;rintro e a3 W3 hp
  cases e with
  |normal=>
   obtain⟨hk3,hkp3,hi3⟩:=hp;have hl3:=hk3.same _ _ (Nat.le_refl _) hl2 rfl;exact⟨_,_,run_endRound (P:=P) none hl3,rfl,⟨hI.putObj _ hi3 (Nat.le_refl _) hl3 rfl,World.putObj_heap_same (qLt hl3)⟩,hKt (hKt hw2 hkp3) (hKb _ _ _ _ (Nat.le_refl _) hl3 rfl rfl),(hf2.trans (more hk3)).trans (far _ _)⟩
  |ret=>exact hp.elim
  |exit id=>exact hp.elim
  |goto t=>exact hp.elim
  |panic ch=>exact hp.elim
  |outgrown=>exact hp.elim
 ·rintro e W2 ⟨⟨v,rfl⟩,xs,hS,hi,hl⟩
  exact⟨none,_,run_endLoop (P:=P) hl (by simp [rd]),hdone xs _ hS (hI.putObj _ hi (Nat.le_refl _) hl rfl)⟩
end Go.Proofs.YtpbmmoneeoijaaaGreatDoor
