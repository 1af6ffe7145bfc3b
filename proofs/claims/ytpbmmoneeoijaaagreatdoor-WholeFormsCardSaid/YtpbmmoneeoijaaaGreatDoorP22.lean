/-
  A part of the proof: StageR YieldN TermsW NewFn.
-/
import Derived.Test.YtpbmmoneeoijaaaGreatDoorP21
import Derived.Deep.Upon
import Derived.Laws.ResultCell
namespace Go.Proofs.YtpbmmoneeoijaaaGreatDoor
open Go.RowKit
theorem zir {n:Nat} {P:Program} {md:Region.Mode} {ops:Array Oper} {Q':Exit→Act→World→Prop}:∀ (l:List Oper) (k:Nat) (listed:Array Bool) (a:Act) (w:World),(∀ j,l[j]? =ops[k+j]?)→
  Region.seqB md ops l.length k listed=true→wpListIn Fence.wide n P ops Q' l a w→wpAnyIn Fence.wide n P md ops Q' l.length listed a w
 | [],_,_,_,_,_,hB,h=>⟨by simpa [Region.seqB] using hB,h⟩
 |o :: l,k,listed,a,w,hl,hB,h=>by
  have hk:ops[k]? =some o:=by simpa using (hl 0).symm
  simp only [List.length_cons,Region.seqB,Bool.and_eq_true,decide_eq_true_eq] at hB;refine⟨fun h1=>(by rw [hB.1] at h1;cases h1),fun i hi=>?_⟩;rw [hB.1] at hi;obtain rfl:i=k:=by simpa using hi
  have hw:wpOpIn Fence.wide n P ops Q' i (wpListIn Fence.wide n P ops Q' l) a w:=by unfold wpOpIn;simp only [hk];exact h
  exact wpOpIn_mono (fun a' w' h'=>zir l (i+1) _ a' w' (fun j=>by have:=hl (j+1);simpa [Nat.add_assoc,Nat.add_comm 1 j] using this) hB.2 h') hw
section
variable {P:Program} {ops:Array Oper}
theorem zjk {n N:Nat} (lx:zqf ops N) (ef:zFp ops N) (hs:N=ops.size∨Region.sinkB .any ops N=true∧Region.chainB .any ops N=true) (hq:Region.seqB .any ops (ops.size - N) N (ze3 ops.size N)=true)
  {C:Nat→World→Prop} {Q':Exit→Act→World→Prop} {a0:Act} {V:Nat→Value} (hstep:∀ j o,j < N→ops[j]? =some o→zu5 P ops C a0 V j o)
  (hfin:∀ w,C (cnt (zda ops) N) w→wpListIn Fence.wide n P ops Q' (ops.toList.drop N) (FF ops V (fun _=>true) a0 N) w):
  ∀ (u:Nat) (listed:Array Bool) (w:World),left listed N=u→HeadInv .any ops N listed→C (stg ops N listed) w→wpAnyIn Fence.wide n P .any ops Q' (u+(ops.size - N)) listed (FF ops V (fun j=>listed.getD j false) a0 N) w
 |0,listed,w,hu,inv,hC=>by
  have hall:=zhl hu;have hle:=lx.le;have hpref:listed=ze3 ops.size N:=by
   apply Array.ext (by simp [ze3,inv.size]);intro j h1 h2;have hj:j < ops.size:=by rw [←inv.size];exact h1
   have e2:(ze3 ops.size N)[j]=decide (j < N):=by simp [ze3]
   rw [e2];by_cases hjN:j < N
   ·have:=hall j hjN
    simp [h1] at this;rw [this];simp [hjN]
   ·have:=inv.tail j (by omega) hj
    simp [h1] at this;rw [this];simp [hjN]
  have hst:stg ops N listed=cnt (zda ops) N:=zgl N fun j hj=>by simp only [hall j hj,Bool.and_true]
  have hf:FF ops V (fun j=>listed.getD j false) a0 N=FF ops V (fun _=>true) a0 N:=zcz V a0 N fun j hj=>hall j hj;rw [hf,Nat.zero_add];have hlen:(ops.toList.drop N).length=ops.size - N:=by simp
  have:=zir (n:=n) (P:=P) (md:=.any) (ops:=ops) (Q':=Q') (ops.toList.drop N) N listed (FF ops V (fun _=>true) a0 N) w (fun j=>by simp) (by rw [hlen,hpref];exact hq) (hfin w (hst▸hC));rw [hlen] at this;exact this
 |u+1,listed,w,hu,inv,hC=>by
  have hle:=lx.le;have hsel:∀ (j:Nat) (o:Oper) (cs:Array SelectCase) (b:Bool),ops[j]? =some o→o.op≠.select cs b:=fun j o cs b h=>Region.noSelect_spec lx.sel j o cs b h;obtain⟨r,hrN,hrl,hrb⟩:=zj7 (listed:=listed) (m:=N) (by omega);have hrr:r∈Region.ready .any ops listed:=by
   have hro:ops[r]? =some ops[r]:=Array.getElem?_eq_getElem (by omega);refine mem_ready.2 ⟨getD_in (by rw [inv.size];omega) hrl,_,hro,fun e he hb=>hrb _ (lx.back r _ hrN hro e he hb)⟩
  rw [show u+1+(ops.size - N)=(u+(ops.size - N))+1 by omega];refine⟨fun h0=>(by rw [h0] at hrr;cases hrr),fun i hi=>?_⟩;have hiN:i < N:=by
   rcases hs with hs|⟨hs,hc⟩
   ·obtain⟨_,o,ho,_⟩:=mem_ready.1 hi
    have:=(qLt ho);omega
   ·rcases Nat.lt_or_ge i N with h|h
    ·exact h
    ·by_cases hNs:N < ops.size
     ·exact absurd hi (tail_waits hs hc hNs inv _ r rfl hrN (getD_in (by rw [inv.size];omega) hrl) i h)
     ·obtain⟨_,o,ho,_⟩:=mem_ready.1 hi
      have:=(qLt ho);omega
  obtain⟨hun,o,ho,_⟩:=mem_ready.1 hi;have his:i < listed.size:=by rw [inv.size];omega
  have hleft:left (listed.setIfInBounds i true) N=u:=by
   have:left listed N=left (listed.setIfInBounds i true) N+1:=by
    refine zpd _ _ i N hiN ?_ ?_ fun j hj=>?_
    ·simp only [za0 his,decide_true,Bool.true_or,Bool.not_true]
    ·simp only [getD_both hun,Bool.not_false]
    ·simp only [za0 his,hj,decide_false,Bool.false_or]
   omega
  have hinv':=inv.set hi hiN;have hagree:∀ t,t∈o.looksAt ops→(FF ops V (fun j=>listed.getD j false) a0 N).tmps[t]? =(FF ops V (fun _=>true) a0 i).tmps[t]?:=fun t ht=>by
   rw [←zFo V a0 i N (by omega),zdi,zdi];exact agree lx inv V a0 hiN ho hi ht
  have hwant:=zbg (ops:=ops) hagree;have hexec:=zbz (ops:=ops) (hsel i o · · ho) hagree;have hput:=zlo lx inv V a0 hiN ho hi;have heff:zda ops i=ze7 o:=by unfold zda;rw [ho];rfl
  have next:∀ w',C (stg ops N (listed.setIfInBounds i true)) w'→wpAnyIn Fence.wide n P .any ops Q' (u+(ops.size - N)) (listed.setIfInBounds i true) ((FF ops V (fun j=>listed.getD j false) a0 N).put o.dst (V i)) w':=fun w' hw'=>by
   rw [hput];exact zjk lx ef hs hq hstep hfin u _ w' hleft hinv' hw'
  unfold wpOpIn;simp only [ho];rw [hwant];rcases hstep i o hiN ho with ⟨hw,he,hyes⟩|⟨hw,he,hyes⟩|⟨hw,he,hyes⟩
  ·rw [if_pos hw]
   have h3:=hyes w (by rw [←zxy ef inv hiN hi (heff.trans he)];exact hC);unfold Oper.wpIn;refine⟨fun f _=>trivial,?_⟩;rw [show Oper.semAt Fence.wide.round (FF ops V (fun j=>listed.getD j false) a0 N).eval o=execOp (FF ops V (fun j=>listed.getD j false) a0 N).eval o from rfl];rw [hexec];generalize (execOp (FF ops V (fun _=>true) a0 i).eval o).run P w=r at h3 ⊢
   cases r with
   |ok nx w'=>
    cases nx<;>simp only [zjd] at h3<;>simp only [Oper.uponIn]
    obtain⟨rfl,h4⟩:=h3;refine next _ ?_;rw [zn3 his hiN hun (heff.trans he),zxy ef inv hiN hi (heff.trans he)];exact h4
   |halt x w'=>simp only [zjd] at h3
  ·rw [if_pos hw]
   have hsame:stg ops N (listed.setIfInBounds i true)=stg ops N listed:=zgp his (heff.trans he);have h3:=hyes (stg ops N listed) w hC;unfold Oper.quietAt at h3;unfold Oper.wpIn;refine⟨fun f _=>trivial,?_⟩;rw [show Oper.semAt Fence.wide.round (FF ops V (fun j=>listed.getD j false) a0 N).eval o=execOp (FF ops V (fun j=>listed.getD j false) a0 N).eval o from rfl];rw [hexec];generalize (execOp (FF ops V (fun _=>true) a0 i).eval o).run P w=r at h3 ⊢
   cases r with
   |ok nx w'=>
    cases nx<;>simp only [Oper.quietUpon] at h3<;>simp only [Oper.uponIn]
    case value x=>
     obtain⟨rfl,rfl⟩:=h3;exact next _ (hsame.symm▸hC)
    case skip=>
     obtain⟨rfl,h4⟩:=h3;rw [←h4];exact next _ (hsame.symm▸hC)
    case enter f args=>
     obtain⟨rfl,hc⟩:=h3;refine⟨fun e=>(by cases e),callsIn_wide.2 (hc.mono ?_)⟩;rintro e w'' ⟨rfl,hw''⟩;exact next _ (hsame.symm▸hw'')
   |halt x w'=>simp only [Oper.quietUpon] at h3
  ·rw [if_neg (by rw [hw];simp)]
   refine⟨fun f _=>trivial,?_⟩;rw [←hyes];exact next w ((zgp his (heff.trans he)).symm▸hC)
end
theorem zik {P:Program} {Q:Exit→Act→World→Prop} {a:Act} {w:World} {l:List Oper} {n:Nat} (N:Nat) (C:Nat→World→Prop) (hB:stgB l N=true) (h0:C 0 w.drew)
  (h:zl4 P l.toArray C (fun s a'=>∀ w',C s w'→wpListIn Fence.wide n P l.toArray Q (l.drop N) a' w') 0 (l.take N) a):wpAnyIn Fence.wide n P .any l.toArray Q l.toArray.size (Array.replicate l.toArray.size false) a w.drew:=by
 simp only [stgB,Bool.and_eq_true,decide_eq_true_iff] at hB;obtain⟨⟨⟨⟨⟨hsel,hN⟩,hlex⟩,heff⟩,htail⟩,hseq⟩:=hB;have htk:∀ j,j < N→(l.take N)[j]? =l.toArray[j]?:=fun j hj=>by simp [hj]
 have htl:(l.take N).length=N:=by simp;omega
 have lx:zqf l.toArray N:=by
  refine⟨by simpa using hN,hsel,fun k ok hk hok e he hb=>?_,fun k j ok oj hkj hj hok hoj=>?_⟩
  ·have:=zgf (l.take N) 0 hlex k ok ((htk k hk).trans hok) e he hb
   omega
  ·rcases zge (l.take N) 0 hlex k j ok oj hkj ((htk k (by omega)).trans hok) ((htk j hj).trans hoj) with h1|h1
   ·left;rw [Nat.zero_add] at h1;exact zbs hoj h1
   ·exact .inr h1
 have ef:zFp l.toArray N:=fun i j hij hj hi1 hj1=>by
  have hio:∃ x,l.toArray[i]? =some x∧ze7 x=true:=by
   unfold zda at hi1
   cases hx:l.toArray[i]? with
   |none=>rw [hx] at hi1;cases hi1
   |some x=>rw [hx] at hi1;exact⟨x,rfl,hi1⟩
  have hjo:∃ x,l.toArray[j]? =some x∧ze7 x=true:=by
   unfold zda at hj1
   cases hx:l.toArray[j]? with
   |none=>rw [hx] at hj1;cases hj1
   |some x=>rw [hx] at hj1;exact⟨x,rfl,hj1⟩
  obtain⟨x,hx,ex⟩:=hio;obtain⟨y,hy,ey⟩:=hjo;have:=zlc (ops:=l.toArray) (l.take N) 0 heff (fun m hm=>by rw [Nat.zero_add];exact (htk m (by omega)).symm) i j x y hij ((htk i (by omega)).trans hx) ((htk j hj).trans hy) ex ey;simpa only [Nat.zero_add] using this
 obtain⟨V,_,hstep,hfin⟩:=zn2 (P:=P) (ops:=l.toArray) (C:=C) a (l.take N) 0 0 a (fun _=>undef) (fun j hj=>by rw [Nat.zero_add];exact (htk j (by omega)).symm) rfl rfl h;rw [htl,Nat.zero_add] at hfin;have hls:l.toArray.size=l.length:=by simp
 have inv0:HeadInv .any l.toArray N (Array.replicate l.toArray.size false):=
  ⟨by simp,fun j oj _ hl=>(by rw [getD_replicate_false] at hl;cases hl),fun t _ ht=>getD_in (by simpa using ht) (getD_replicate_false _ _)⟩
 have hleft:left (Array.replicate l.toArray.size false) N=N:=by
  have:∀ m,left (Array.replicate l.toArray.size false) m=m:=fun m=>by
   induction m with
   |zero=>rfl
   |succ m ih=>unfold left at ih ⊢;simp only [cnt];rw [ih];simp only [getD_replicate_false,Bool.not_false,if_true]
  exact this N
 have hstg:stg l.toArray N (Array.replicate l.toArray.size false)=0:=by
  have:∀ m,cnt (fun j=>zda l.toArray j && (Array.replicate l.toArray.size false).getD j false) m=0:=fun m=>by
   induction m with
   |zero=>rfl
   |succ m ih=>simp only [cnt];rw [ih];simp only [getD_replicate_false,Bool.and_false,Bool.false_eq_true,if_false]
  exact this N
 have hff:FF l.toArray V (fun j=>(Array.replicate l.toArray.size false).getD j false) a N=a:=by
  have:∀ m,FF l.toArray V (fun j=>(Array.replicate l.toArray.size false).getD j false) a m=a:=fun m=>by
   induction m with
   |zero=>rfl
   |succ m ih=>simp only [FF,getD_replicate_false,Bool.false_eq_true,if_false];simpa only [getD_replicate_false] using ih
  exact this N
 have:=zjk (n:=n) (P:=P) (Q':=Q) (a0:=a) (V:=V) (C:=C) lx ef (by
   simp only [Bool.or_eq_true,decide_eq_true_iff,Bool.and_eq_true] at htail;rw [hls];exact htail) (by rw [hls];exact hseq) (fun j o hj ho=>hstep j o (by omega) (by rw [htl];omega) ho) (by simpa using hfin) N _ w.drew hleft inv0 (by rw [hstg];exact h0)
 rw [hff] at this;rw [show N+(l.toArray.size - N)=l.toArray.size by rw [hls];omega] at this;exact this
theorem zf4 {P:Program} {id:Nat} {Q:Exit→Act→World→Prop} {a:Act} {w:World} {l:List Oper} {k n:Nat} (N:Nat) (hm:P.follows .mixedOrders=true) (hB:stgB l N=true) (hne:(l.take N).all (fun o=>!ze7 o)=true) (hd:l.all (fun o=>match o.op with| .defer _=>false|_=>true)=true)
  (h:wpQuiet P l.toArray (fun w'=>∃ i:Cls w,w'=i.wd) (fun a'=>∀ w',(∃ i:Cls w,w'=i.wd)→wpListIn Fence.wide n P l.toArray Q (l.drop N) a' w') (l.take N) a):(Code.region id l.toArray true).wpIn (Fence.wide.inRound k) n P Q a w:=
 zf5 hm hd (zik N (fun _ w'=>∃ i:Cls w,w'=i.wd) hB ⟨⟨w.drew,(Below.refl _ _).drew⟩,rfl⟩ (zc3 _ 0 _ hne h))
end Go.Proofs.YtpbmmoneeoijaaaGreatDoor
namespace Go.Proofs.YtpbmmoneeoijaaaGreatDoor
open Go.RowKit Go.Shelf
def ownPostN {α:Type} (B:Nat) (Kp:World→World→Prop) (I:List α→World→Prop) (Ix:Code→List α→World→Prop) (xs:List α) (W:World):Exit→Act→World→Prop
 | .normal,_,W'=>KeepsFrom B W W'∧Kp W W'∧I xs W'
 | .ret,_,W'=>KeepsFrom B W W'∧Kp W W'∧Ix .ret xs W'
 | .exit id,_,W'=>KeepsFrom B W W'∧Kp W W'∧Ix (.exit id) xs W'
 | .goto t,_,W'=>KeepsFrom B W W'∧Kp W W'∧Ix (.goto t) xs W'
 | .panic _,_,_=>False
 | .outgrown,_,_=>False
def SeqN {α:Type} (F:Fence) (n:Nat) (P:Program) (g:Nat) (lb:Array Value) (encs:α→Array Value) (Kp:World→World→Prop) (S Sp:List α→Prop) (N:Nat) (w:World):Prop:=
 ∀ (l:Nat) (J Jx:List α→World→Prop) (W:World),Below w.heap.size w W→AbidesFrom W.heap.size J→AbidesFrom W.heap.size Jx→OwnFrom W.heap.size J→OwnFrom W.heap.size Jx→
  (∀ pre x W1,J pre W1→pre.length < N→YieldAt F (n - 1) P l (encs x) W1 fun e W'=>
   (e=.returned (.bool true)∧J (pre ++ [x]) W'∧Kp W1 W'∧KeepsFrom W.heap.size W1 W')∨(e=.returned (.bool false)∧Jx (pre ++ [x]) W'∧Kp W1 W'∧KeepsFrom W.heap.size W1 W'))→
  J [] W→
  CallsIn F n P g (#[.func (.yield l) #[] #[]] ++ lb) W fun e W'=>(∃ v,e=.returned v)∧((∃ xs,S xs∧J xs W')∨(∃ pre,Sp pre∧Jx pre W'))
theorem zqm {F:Fence} {n:Nat} {P:Program} {α:Type} {g:Operand} {ps:Array Tmp} {assign body:Code} {Q:Exit→Act→World→Prop} {a:Act} {w:World}
  (hro:F.round=none) (h1:1≤n) {gf:Nat} {lb:Array Value} (hg:a.eval g=.func (.func gf) #[] lb) (hFg:F.fn gf) (eg:∀ args w,(callFunc gf args).run P w=.ok (.enter gf args) w)
  {encs:α→Array Value} {Kp:World→World→Prop} {S Sp:List α→Prop} {N:Nat} {w0:World} (hseq:SeqN F (n - 1) P gf lb encs Kp S Sp N w0)
  (hKt:∀ {A B C:World},Kp A B→Kp B C→Kp A C) (hKb:∀ (W:World) (l:Nat) (o o':Obj),w.heap.size≤l→W.heap[l]? =some o→o.isCells=false→o.isWalk=false→Kp W (W.putObj l o')) (hb0:Below w0.heap.size w0 w) (hps:∀ x,(encs x).size=ps.size)
  (I:List α→World→Prop) (Ix:Code→List α→World→Prop) (hI:OwnFrom w.heap.size I) (hIx:∀ c,OwnFrom w.heap.size (Ix c)) (h0:I [] w) (Ax:α→Act→World→Prop) (hAx:∀ x a',OwnFrom w.heap.size (fun (_:Unit) W=>Ax x a' W))
  (hassign:∀ (l:Nat) (pre:List α) (x:α) (W:World) (K:Act→World→Prop),I pre W→(∀ a' W',KeepsFrom w.heap.size W W'→Kp W W'→I pre W'→Ax x a' W'→K a' W')→
   assign.wpIn (F.inRound l) (n - 1 - 1) P (Exit.then K (fun _ _ _=>False)) { tmps:=(ps.zip (encs x)).foldl (fun t (p,v)=>t.setIfInBounds p v) a.tmps,defers:=[] } W)
  (hbody:∀ (l:Nat) (pre:List α) (x:α) (a':Act) (W:World),I pre W→Ax x a' W→pre.length < N→body.wpIn (F.inRound l) (n - 1 - 1) P (ownPostN w.heap.size Kp I Ix (pre ++ [x]) W) a' W)
  (hdone:∀ (D:Nat) (xs:List α) (W:World),w.heap.size≤D→S xs→I xs W→W.heap[D]? =some (.deferred (some []))→Q .normal { a with defers:={ target:=.collected D,args:=#[] } :: a.defers } W)
  (hstop:∀ (D:Nat) (c:Code) (pre:List α) (W:World),w.heap.size≤D→Sp pre→Ix c pre W→W.heap[D]? =some (.deferred (some []))→c.wpIn F n P Q { a with defers:={ target:=.collected D,args:=#[] } :: a.defers } W):
  (Code.rangeFunc g ps assign body).wpIn F n P Q a w:=by
 refine wpIn_rangeFunc fun fn hfn=>?_;rw [hro]
 let d:=w.heap.size
 have hd:d=w.heap.size:=rfl
 let rd:LoopState→Option Code→Loop:=fun st pe=>{ state:=st,pending:=pe,fn,tmps:=a.tmps,params:=ps,assign,body,defers:=d }
 have hL1:((w.alloc (.deferred (some []))).alloc (.loop (rd .ready none))).heap[d+1]? =some (.loop (rd .ready none)):=by
  have:=World.alloc_heap_new (w.alloc (.deferred (some []))) (.loop (rd .ready none));rwa [World.size_alloc,←hd] at this
 have hK1:((w.alloc (.deferred (some []))).alloc (.loop (rd .ready none))).heap[d]? =some (.deferred (some [])):=by
  exact (Below.heap_alloc _ _ _ (by simp only [World.size_alloc];omega)).trans (World.alloc_heap_new w _)
 have hI1:I [] ((w.alloc (.deferred (some []))).alloc (.loop (rd .ready none))):=hI.alloc _ (hI.alloc _ h0);have hb1:Below w0.heap.size w0 ((w.alloc (.deferred (some []))).alloc (.loop (rd .ready none))):=
  hb0.trans (((qBr (w:=w) _).alloc (by simp) _).mono hb0.size)
 have hsz:((w.alloc (.deferred (some []))).alloc (.loop (rd .ready none))).heap.size=d+2:=by simp [hd]
 have up:∀ {β:Type} {J:β→World→Prop},OwnFrom d J→OwnFrom (d+2) J:=fun h s X Y row hs hg hr=>h s X Y row hs hg fun r e=>⟨by have:=(hr r e).1;omega,(hr r e).2⟩;have ab:∀ {β:Type} {J:β→World→Prop},OwnFrom (d+2) J→AbidesFrom (d+2) J:=fun h s X Y row hs hg hr=>h s X Y row hs hg fun r e=>by
  obtain⟨hB,o,ho,hw⟩:=hr r e;exact⟨hB,o,ho,Obj.not_cells_of_walk hw⟩
 rw [←hd] at hI hAx hassign hbody hKb;have hIx':∀ c,OwnFrom d (Ix c):=fun c=>hIx c;have hJ:OwnFrom (d+2) (fun pre W=>(I pre W∧W.heap[d+1]? =some (.loop (rd .ready none)))∧W.heap[d]? =some (.deferred (some []))):=
  za6 (za6 (up hI) (by omega)) (by omega)
 have hJx:OwnFrom (d+2) (fun pre W=>∃ c,(Ix c pre W∧W.heap[d+1]? =some (.loop (rd .done (some c))))∧W.heap[d]? =some (.deferred (some []))):=fun s X Y row hs hg hr=>by
  obtain⟨c,hs⟩:=hs;exact⟨c,za6 (za6 (up (hIx' c)) (by omega)) (by omega) s X Y row hs hg hr⟩
 refine⟨d+1,[{ target:=.collected d,args:=#[] }],_,{ target:=.fn (.func gf) lb,args:=#[.func (.yield (d+1)) #[] #[]] },_,gf,#[.func (.yield (d+1)) #[] #[]] ++ lb,_,run_enterLoop_outer _ _ _ _ _,by simp only [resolve,hg];simp [go_sem];rfl,fun f' hf'=>by simp [Target.leads] at hf';subst hf';exact hFg,by simp [invoke,go_sem,eg];rfl,fun _=>h1,?_⟩;refine (hseq (d+1) (fun pre W=>(I pre W∧W.heap[d+1]? =some (.loop (rd .ready none)))∧W.heap[d]? =some (.deferred (some []))) (fun pre W=>∃ c,(Ix c pre W∧W.heap[d+1]? =some (.loop (rd .done (some c))))∧W.heap[d]? =some (.deferred (some []))) ((w.alloc (.deferred (some []))).alloc (.loop (rd .ready none))) hb1 (by rw [hsz];exact ab hJ) (by rw [hsz];exact ab hJx) (by rw [hsz];exact hJ) (by rw [hsz];exact hJx) ?_ ⟨⟨hI1,hL1⟩,hK1⟩).mono ?_
 ·rintro pre x W ⟨⟨hi,hl⟩,hk⟩ hlen
  rw [hsz];have hlt:d+1 < W.heap.size:=(qLt hl);refine⟨fn,_,assign,body,run_yield hl (hps x),roundIn_of_wpIn hfn (hassign _ pre x W _ hi fun a' W' hkf hkp hi' hax=>?_)⟩;have hl':=hkf.same _ _ (by omega) hl rfl;have hk':=hkf.same _ _ (by omega) hk rfl;refine⟨_,run_beginRound hl' rfl,?_⟩;have hlt':d+1 < W'.heap.size:=(qLt hl');have hl2:(W'.putObj (d+1) (.loop (rd .busy none))).heap[d+1]? =some (.loop (rd .busy none)):=World.putObj_heap_same hlt';have hk2:(W'.putObj (d+1) (.loop (rd .busy none))).heap[d]? =some (.deferred (some [])):=(World.putObj_heap_other (by omega)).trans hk';have hw2:Kp W (W'.putObj (d+1) (.loop (rd .busy none))):=hKt hkp (hKb _ _ _ _ (by omega) hl' rfl rfl);have far:∀ (X:World) (o:Obj),KeepsFrom (d+2) X (X.putObj (d+1) o):=fun X o=>KeepsFrom.of_grownBy (grownBy_putObj' X _ _) (fun j e=>by cases e;omega);have more:∀ {X Y:World},KeepsFrom d X Y→KeepsFrom (d+2) X Y:=fun h=>⟨h.size,fun k o hk=>h.same k o (by omega)⟩;have hf2:KeepsFrom (d+2) W (W'.putObj (d+1) (.loop (rd .busy none))):=(more hkf).trans (far _ _);refine wpIn_mono (hbody _ pre x a' _ (hI.putObj _ hi' (by omega) hl' rfl) ((hAx x a').putObj (s:=()) _ hax (by omega) hl' rfl) hlen) ?_;have fin:∀ (jump:Option Code) (W3:World),KeepsFrom d (W'.putObj (d+1) (.loop (rd .busy none))) W3→
    (Instr.endRound (d+1) jump).run P W3=.ok (.bool jump.isNone) (W3.putObj (d+1) (.loop (rd (if jump.isNone then .ready else .done) jump)))∧
    W3.heap[d+1]? =some (.loop (rd .busy none))∧
    (W3.putObj (d+1) (.loop (rd (if jump.isNone then .ready else .done) jump))).heap[d+1]? =some (.loop (rd (if jump.isNone then .ready else .done) jump))∧
    (W3.putObj (d+1) (.loop (rd (if jump.isNone then .ready else .done) jump))).heap[d]? =some (.deferred (some []))∧
    KeepsFrom (d+2) W (W3.putObj (d+1) (.loop (rd (if jump.isNone then .ready else .done) jump))):=fun jump W3 hk3=>by
   have hl3:=hk3.same _ _ (by omega) hl2 rfl;exact⟨run_endRound (P:=P) jump hl3,hl3,World.putObj_heap_same (qLt hl3),(World.putObj_heap_other (by omega)).trans (hk3.same _ _ (Nat.le_refl _) hk2 rfl),(hf2.trans (more hk3)).trans (far _ _)⟩
  rintro e a3 W3 hp
  cases e with
  |normal=>
   obtain⟨hk3,hkp3,hi3⟩:=hp;obtain⟨hr,hl3,hl4,hk4,hf4⟩:=fin none W3 hk3;exact⟨_,_,hr,.inl ⟨rfl,⟨⟨hI.putObj _ hi3 (by omega) hl3 rfl,hl4⟩,hk4⟩,hKt (hKt hw2 hkp3) (hKb _ _ _ _ (by omega) hl3 rfl rfl),hf4⟩⟩
  |ret=>
   obtain⟨hk3,hkp3,hi3⟩:=hp;obtain⟨hr,hl3,hl4,hk4,hf4⟩:=fin (some .ret) W3 hk3;exact⟨_,_,hr,.inr ⟨rfl,⟨.ret,⟨(hIx' _).putObj _ hi3 (by omega) hl3 rfl,hl4⟩,hk4⟩,hKt (hKt hw2 hkp3) (hKb _ _ _ _ (by omega) hl3 rfl rfl),hf4⟩⟩
  |exit id=>
   obtain⟨hk3,hkp3,hi3⟩:=hp;obtain⟨hr,hl3,hl4,hk4,hf4⟩:=fin (some (.exit id)) W3 hk3;exact⟨_,_,hr,.inr ⟨rfl,⟨.exit id,⟨(hIx' _).putObj _ hi3 (by omega) hl3 rfl,hl4⟩,hk4⟩,hKt (hKt hw2 hkp3) (hKb _ _ _ _ (by omega) hl3 rfl rfl),hf4⟩⟩
  |goto t=>
   obtain⟨hk3,hkp3,hi3⟩:=hp;obtain⟨hr,hl3,hl4,hk4,hf4⟩:=fin (some (.goto t)) W3 hk3;exact⟨_,_,hr,.inr ⟨rfl,⟨.goto t,⟨(hIx' _).putObj _ hi3 (by omega) hl3 rfl,hl4⟩,hk4⟩,hKt (hKt hw2 hkp3) (hKb _ _ _ _ (by omega) hl3 rfl rfl),hf4⟩⟩
  |panic ch=>exact hp.elim
  |outgrown=>exact hp.elim
 ·rintro e W2 ⟨⟨v,rfl⟩,(⟨xs,hS,⟨hi,hl⟩,hk⟩|⟨pre,hSp,c,⟨hi,hl⟩,hk⟩)⟩
  ·exact⟨none,_,run_endLoop (P:=P) hl (by simp [rd]),hdone d xs _ (by omega) hS (hI.putObj _ hi (by omega) hl rfl) ((World.putObj_heap_other (by omega)).trans hk)⟩
  ·exact⟨some c,_,run_endLoop (P:=P) hl (by simp [rd]),hstop d c pre _ (by omega) hSp ((hIx' c).putObj _ hi (by omega) hl rfl) ((World.putObj_heap_other (by omega)).trans hk)⟩
end Go.Proofs.YtpbmmoneeoijaaaGreatDoor
namespace Go.Proofs.YtpbmmoneeoijaaaGreatDoor
open Go.RowKit Go.Deep Go.Shelf
set_option maxRecDepth 100000
set_option maxHeartbeats 8000000
attribute [local go_sem] Oper.semAt_some zaq
set_option maxRecDepth 100000
def shB (z:ShR):Obj:=.cells (shL z).toArray 296 (0,0)
def ttV (x:TT):Value:=.agg #[qI x.p,qI x.c,qI x.o,qI x.k]
structure KpW (n₀:Nat) (A C:World):Prop where
 below:Below n₀ A C
 keep:∀ (b:Nat) (cs:Array Value) (t:TypeId),t=296∨t=436→A.heap[b]? =some (Obj.cells cs t (0,0))→C.heap[b]? =some (Obj.cells cs t (0,0))
theorem KpW.t {n₀:Nat} {A C D:World} (h:KpW n₀ A C) (k:KpW n₀ C D):KpW n₀ A D:=⟨h.below.trans k.below,fun b cs t ht hb=>k.keep b cs t ht (h.keep b cs t ht hb)⟩
theorem KpW.b {n₀:Nat} {w:World} (hn:n₀≤w.heap.size) (W:World) (l:Nat) (o o':Obj) (hl:w.heap.size≤l) (h:W.heap[l]? =some o) (hc:o.isCells=false) (hw:o.isWalk=false):KpW n₀ W (W.putObj l o'):=
 ⟨belowK_b hn W l o o' hl h hc hw,fun b _ _ _ hb=>(World.putObj_heap_other (by rintro rfl;rw [hb] at h;cases h;cases hc)).trans hb⟩
theorem KpW.alloc {n₀:Nat} {W:World} (h:n₀≤W.heap.size) (o:Obj):KpW n₀ W (W.alloc o):=⟨(Below.refl _ _).alloc h o,fun b _ _ _ hb=>(Below.heap_alloc W o b (qLt hb)).trans hb⟩
theorem zvn (z:ShR) (t:Nat) (w:World):Calls Tryz.prog 307 #[shV z,qI (t:Nat)] w fun e w'=>e=.returned (.func (.func 315) #[] #[qP w.heap.size,qP (w.heap.size+1)])∧w'=(w.alloc (shB z)).alloc (.cells #[qI (t:Nat)] 3):=by
 unfold shV shB shL;go_enter Tryz.func307,Tryz.ntmps307;go_wp2;go_ret;exact⟨rfl,rfl⟩
theorem zbr {W:World} {b o:Nat} {cs:List Value} (h:W.rangeAt b o cs) (w':World) (hw:∃ i:Cls W,w'=i.wd):w'.rangeAt b o cs:=fun j v hv=>by
 obtain⟨i,rfl⟩:=hw;have:=h j v hv;exact (i.below.cell (zcr this)).trans this
def tvL (x:Nat→Int):List Value:=[qI (x 0),qI (x 1),qI (x 2),qI (x 3),qI (x 4),qI (x 5),qI (x 6),qI (x 7),qI (x 8),qI (x 9),qI (x 10)]
theorem znx {W:World} {b o i:Nat} {x:Nat→Int} (hc:∀ j,j < 11→W.cell? ⟨b,o+i * 11+j,none⟩=some (qI (x j))):W.rangeAt b (o+i * 11) (tvL x):=fun j v hv=>by
 have hj:j < 11:=(List.getElem?_eq_some_iff.1 hv).1;rw [hc j hj,←hv];rcases j with _|_|_|_|_|_|_|_|_|_|_|j
 all_goals first|rfl|omega
theorem zrp (x:Nat→Int):(Tryz.prog.info? 165).map (·.size)=some (tvL x).length:=by rw [show (tvL x).length=11 from rfl];kernel_rfl
theorem zdj (z:ShR):(Tryz.prog.info? 296).map (·.size)=some (shL z).length:=by rw [show (shL z).length=31 from rfl];kernel_rfl
theorem zd9 {W:World} {b:Nat} {z:ShR} (h:W.heap[b]? =some (shB z)):W.rangeAt b 0 (shL z):=fun j v hv=>by
 unfold shB at h;rw [Nat.zero_add];have:=zaa h j;rw [this];simpa using hv
end Go.Proofs.YtpbmmoneeoijaaaGreatDoor
namespace Go.Proofs.YtpbmmoneeoijaaaGreatDoor
open Go.RowKit Go.Deep Go.Shelf
set_option maxRecDepth 100000
set_option maxHeartbeats 8000000
def offV (O:Nat→Int):Value:=.agg (qF16 O)
theorem ze1 {x:Img} {M:Nat→zas} (htb:∀ j,j < x.mn→(M j).t < 4294967296) (m:Int):zai x M m < 4294967296:=by
 unfold zai
 split
 ·rename_i hm;exact htb _ (by omega)
 ·decide
theorem zqg {P:Program} {w:World} {ops:Array Oper} {rest:List Oper} {o:Oper} {a:Act} {Q:Exit→Act→World→Prop} (hgd:o.guard=none) {v:Value} (hr:(execOp a.eval o).run P w=.ok (.value v) w)
  (h:wpList P ops Q rest (a.put o.dst v) w):wpList P ops Q (o :: rest) a w:=by
 refine wpList_plain hgd fun K hK=>?_;unfold Oper.wp;rw [hr];exact hK _ _ h
structure NewC (bi bo bc:Nat) (i o c:Obj) (X:World):Prop where
 i:X.heap[bi]? =some i
 o:X.heap[bo]? =some o
 c:X.heap[bc]? =some c
end Go.Proofs.YtpbmmoneeoijaaaGreatDoor
