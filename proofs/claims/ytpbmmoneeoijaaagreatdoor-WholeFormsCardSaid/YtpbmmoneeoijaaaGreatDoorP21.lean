/-
  A part of the proof: EvKn CeilFn Tail ClassFn FinAll StageIn TailIn CeilOf BlockFn Run Fix FreeIn Terms DemandRef RoundAny CheckGcd LoadRound LoadAlive LoadOverLaw RespFn BusyFn ShiftFn.
-/
import Derived.Test.YtpbmmoneeoijaaaGreatDoorP17
import Derived.Test.YtpbmmoneeoijaaaGreatDoorP20
import Derived.OrdersIn
namespace Go.Proofs.YtpbmmoneeoijaaaGreatDoor.Ev
open Go Go.RowKit Go.Shelf
def tzN:Nat→Nat→Nat
 |0,_=>0
 |f+1,x=>bif (x % 2).beq 1 then 0 else tzN f (x / 2)+1
theorem tzN_eq:∀ (f x:Nat),tzN f x=Lib.ctzFrom f x
 |0,_=>rfl
 |f+1,x=>by
  unfold tzN Lib.ctzFrom;rw [tzN_eq f]
  cases h:(x % 2).beq 1 with
  |true=>rw [if_pos (Nat.eq_of_beq_eq_true h)];rfl
  |false=>rw [if_neg (fun e=>by rw [e] at h;cases h)];simp only [cond_false];omega
def idxN (c:Nat):List UInt8→Nat→Int
 | [],_=>-1
 |x :: r,i=>bif x.toNat.beq c then .ofNat i else idxN c r (i+1)
theorem zDr (c:UInt8):∀ (l:List UInt8) (i:Nat),idxN c.toNat l i=if Lib.indexByte l c= -1 then -1 else Lib.indexByte l c+i
 | [],_=>by simp [idxN,Lib.indexByte]
 |x :: r,i=>by
  have hge:=Lib.indexByte_ge r c;unfold idxN Lib.indexByte;rw [zDr c r]
  cases h:x.toNat.beq c.toNat with
  |true=>
   have:x=c:=UInt8.toNat_inj.1 (Nat.eq_of_beq_eq_true h);subst this;simp
  |false=>
   have:x≠c:=fun e=>by subst e;rw [Nat.beq_refl] at h;cases h
   simp only [cond_false,beq_iff_eq,this,if_false];by_cases hm:Lib.indexByte r c= -1
   ·simp [hm]
   ·simp only [hm,if_false]
    rw [if_neg (by omega)];omega
def kn:Known:=fun g args H=>bif g.beq 222 then match args with
  | [.int .u32 (.ofNat n)]=>bif n.blt 4294967296 && Nat.blt 0 n then natK (tzN 32 n) fun k=>some (.int .i64 (.ofNat k),H) else none
  |_=>none
 else bif g.beq 304 then match args with
  | [.string s,.int .u8 (.ofNat c)]=>bif c.blt 256 then intK (idxN c s.data.toList 0) fun k=>some (.int .i64 k,H) else none
  |_=>none
 else none
def TabF (F:Frm):Prop:=F.K 0∧TabZ F.base
theorem zav:Lasts TabF:=fun F F' h hk=>by
 obtain⟨h1,h2⟩:=hk 0 h.1;refine⟨h1,fun j hj=>?_⟩;have h3:=h.2 j hj;simpa [World.cell?,h2] using h3
theorem zbd {w0:Frm} (hT:TabF w0):SndKnown Tryz.prog w0 kn:=by
 obtain⟨hK0,hT⟩:=hT;intro g args H v H' h;unfold kn at h
 cases h1:g.beq 222 with
 |true=>
  rw [h1] at h;obtain rfl:=Nat.eq_of_beq_eq_true h1;simp only [cond_true] at h
  split at h
  ·rename_i n
   cases hb:(n.blt 4294967296 && Nat.blt 0 n) with
   |false=>rw [hb] at h;cases h
   |true=>
    rw [hb] at h;simp only [cond_true,zco,Option.some.injEq,Prod.mk.injEq] at h;obtain⟨rfl,rfl⟩:=h;simp only [Bool.and_eq_true,blt_eq,decide_eq_true_eq] at hb;refine zls (by rfl) (by rfl) (fun w hs hk=>?_) H;have hw:TabZ w:=fun j hj=>by
     have h0:=hT j hj;have:w.heap[0]? =w0.base.heap[0]?:=hk 0 hK0;simpa [World.cell?,this] using h0
    have hz:=tzz_any n hb.1 (by omega) w hw;refine hz.mono ?_;rintro e w' ⟨rfl,rfl⟩;refine⟨?_,.refl _ _⟩;unfold Lib.ctz;rw [if_neg (by omega),tzN_eq];rfl
  ·cases h
 |false=>
  rw [h1] at h;simp only [cond_false] at h
  cases h2:g.beq 304 with
  |false=>rw [h2] at h;cases h
  |true=>
   rw [h2] at h;obtain rfl:=Nat.eq_of_beq_eq_true h2;simp only [cond_true] at h
   split at h
   ·rename_i s c
    cases hb:c.blt 256 with
    |false=>rw [hb] at h;cases h
    |true=>
     rw [hb] at h;simp only [cond_true,zDq,Option.some.injEq,Prod.mk.injEq] at h;obtain⟨rfl,rfl⟩:=h;rw [blt_eq] at hb;have hb:c < 256:=by simpa using hb
     refine zls (by rfl) (by rfl) (fun w hs hk=>?_) H;refine (idx_in s (.ofNat c) w).mono ?_;rintro e w' ⟨rfl,rfl⟩;refine⟨?_,.refl _ _⟩;have e1:(Int.ofNat c).toNat.toUInt8.toNat=c:=by simp;omega
     have e2:=zDr (Int.ofNat c).toNat.toUInt8 s.data.toList 0;rw [e1] at e2;rw [e2]
     congr 2
     split
     ·rename_i h;exact h
     ·simp
   ·cases h
end Go.Proofs.YtpbmmoneeoijaaaGreatDoor.Ev
namespace Go.Proofs.YtpbmmoneeoijaaaGreatDoor
open Go.RowKit Go.Deep Go.Shelf
set_option maxRecDepth 100000
set_option maxHeartbeats 8000000
theorem Ev.closed_calls {g:FuncId} {kn:Ev.Known} {fuel n:Nat} {args:List Value} {v:Value} (hargs:args.all (Ev.closedB 3)=true) (h:((Ev.recF Tryz.prog kn fuel n).2 g args Ev.AH.empty).map Prod.fst=some v) (hc:Ev.closedB 3 v=true) (hm:Tryz.prog.follows .mixedOrders=true) (w:World) (hk:Ev.SndKnown Tryz.prog (Ev.Frm.of w) kn):
  Calls Tryz.prog g ⟨args⟩ w fun e w'=>e=.returned v∧Below w.heap.size w w':=by
 intro cs
 cases hr:(Ev.recF Tryz.prog kn fuel n).2 g args Ev.AH.empty with
 |none=>rw [hr] at h;cases h
 |some y=>
  obtain⟨v1,H1⟩:=y;rw [hr] at h;simp only [Option.map_some,Option.some.injEq] at h;subst h;have same:∀ l:List Value,l.all (Ev.closedB 3)=true→Ev.All2 (Ev.RV Ev.Mu.empty) l l:=fun l=>by
   induction l with
   |nil=>exact fun _=>trivial
   |cons x xs ih=>
    intro hl;simp only [List.all_cons,Bool.and_eq_true] at hl;exact⟨(Ev.closed_iff 3 x x hl.1).2 rfl,ih hl.2⟩
  obtain⟨f,v',w',μ',s,m1,m2,m3,m4,⟨fn,m5,m6⟩,m7,m8,m9⟩:=(Ev.recF_sound hk hm fuel n).2 g args Ev.AH.empty v1 H1 hr Ev.Mu.empty w ⟨args⟩ (same args hargs) (Ev.R.empty w) .normal cs;have hv:=(Ev.closed_iff 3 v1 v' hc).1 m9;subst hv;exact⟨.returned v',w',f,⟨rfl,m7.same.os,m7.same.tape,m7.same.output,m7.size,m7.kept⟩,s,m4,m1,m2,m3,fn,by rw [m4];exact m5,m6⟩
theorem Ev.none_known {F:Ev.Frm}:Ev.SndKnown Tryz.prog F (fun _ _ _=>none):=fun _ _ _ _ _ h=>by cases h
theorem zsw (w:World):Calls Tryz.prog 181 #[] w fun e w'=>e=.returned (.agg #[qI 16,qI 16,qI 16,qI 16,qI 16,qI 16,qI 16,qI 16])∧Below w.heap.size w w':=
 Ev.closed_calls (kn:=fun _ _ _=>none) (fuel:=1000) (n:=5) (args:=[]) rfl (by kernel_rfl) (by kernel_rfl) (by kernel_rfl) w Ev.none_known
end Go.Proofs.YtpbmmoneeoijaaaGreatDoor
namespace Go.Proofs.YtpbmmoneeoijaaaGreatDoor
open Go.RowKit
theorem zc3 {P:Program} {ops:Array Oper} {C:World→Prop} {Q:Act→Prop}:∀ (l:List Oper) (s:Nat) (a:Act),l.all (fun o=>!ze7 o)=true→wpQuiet P ops C Q l a→zl4 P ops (fun _=>C) (fun _=>Q) s l a
 | [],_,_,_,h=>h
 |o :: rest,s,a,hne,h=>by
  simp only [List.all_cons,Bool.and_eq_true,Bool.not_eq_true'] at hne;unfold wpQuiet at h;unfold zl4;by_cases hw:Region.wanted o (yielded ops a.tmps)=true
  ·rw [if_pos hw] at h ⊢
   rw [if_neg (by rw [hne.1];simp)];obtain⟨v,h1,h2⟩:=h;exact⟨v,fun _ w hC=>h1 w hC,zc3 rest s _ hne.2 h2⟩
  ·rw [if_neg hw] at h ⊢
   exact⟨hne.1,zc3 rest s _ hne.2 h⟩
theorem zfx {P:Program} {id:Nat} {Q:Exit→Act→World→Prop} {a:Act} {w:World} {l:List Oper} (N:Nat) (hm:P.follows .mixedOrders=true) (hB:stgB l N=true) (hne:(l.take N).all (fun o=>!ze7 o)=true)
  (h:wpQuiet P l.toArray (fun w'=>∃ i:Cls w,w'=i.wd) (fun a'=>∀ w',(∃ i:Cls w,w'=i.wd)→wpList P l.toArray Q (l.drop N) a' w') (l.take N) a):(Code.region id l.toArray true).wp P Q a w:=
 znc N (fun _ w'=>∃ i:Cls w,w'=i.wd) hm hB ⟨⟨w.drew,(Below.refl _ _).drew⟩,rfl⟩ (zc3 _ 0 _ hne h)
end Go.Proofs.YtpbmmoneeoijaaaGreatDoor
namespace Go.Proofs.YtpbmmoneeoijaaaGreatDoor
open Go.RowKit Go.Deep Go.Shelf
set_option maxRecDepth 100000
set_option maxHeartbeats 8000000
def cv (o n s:Nat):Value:=.agg #[qU (o:Nat),qU (n:Nat),qU (s:Nat)]
theorem zw8 (f t:Nat) (hf:f < 4294967296) (ht:t < 4294967296) (w:World):Calls Tryz.prog 227 #[qU (f:Nat),qU (t:Nat)] w fun e w'=>e=.returned (cv (zcl f t) (zcl t f) (f &&& t))∧Below w.heap.size w w':=by
 have h1:=zez hf ht;have h2:=zez ht hf;have h3:=zsy hf ht;unfold cv;go_enter Tryz.func227,Tryz.ntmps227;go_wp2;refine bodyPost_ret (v:=.agg #[qU (zcl f t:Nat),qU (zcl t f:Nat),qU ((f &&& t:Nat):Int)]) (by simp [results,Tryz.results227,go_sem]) rfl ?_;exact⟨rfl,qBr _⟩
theorem zlx (x:Img) (M:Nat→zas) (h:Nat→Nat→Int) (i:Nat) (w:World) (hM:zcu w x.mo x.mn M) (hE:zb9 w x.eo x.en 23 h) (htb:∀ j,j < x.mn→(M j).t < 4294967296) (hi:i < x.en):
  Calls Tryz.prog 163 #[iv x,qI i] w fun e w'=>e=.returned (cv (zcl (zai x M (h i 0)) (zai x M (h i 1))) (zcl (zai x M (h i 1)) (zai x M (h i 0))) (zai x M (h i 0) &&& zai x M (h i 1)))∧Below w.heap.size w w':=by
 have HT:=hid fun (m:Int) X (hX:Below w.heap.size w X)=>zjo x M m X (hM.below hX);have HTL:=hid fun (m:Int)=>show zai x M m < 4294967296 by
  unfold zai
  split
  ·rename_i hm;exact htb _ (by omega)
  ·decide
 obtain⟨T,hT⟩:∃ T:Int→Nat,zai x M=T:=⟨_,rfl⟩;rw [hT] at HT HTL ⊢;clear hT hM htb;obtain⟨r,ao,n,cap,mo,mn,mc,eo,en,ec⟩:=x;unfold iv at HT ⊢;dsimp only at hE HT hi ⊢;obtain⟨b,o,rfl,hc⟩:=hE i hi;have hb1:Below w.heap.size w (w.alloc (qC #[qI r,.slice ao n cap,.slice mo mn mc,.slice (some ⟨b,o,none⟩) en ec] 26)):=qBr _;have bI:=heap_alloc_new w (qC #[qI r,.slice ao n cap,.slice mo mn mc,.slice (some ⟨b,o,none⟩) en ec] 26);have d0:=kept (hc 0 (by decide)) hb1;have d1:=kept (hc 1 (by decide)) hb1;rw [Nat.add_zero] at d0;have c0:=zaa bI 0;have c1:=zaa bI 1;have c2:=zaa bI 2;have c3:=zaa bI 3;have u1:decide ((i:Int) < 0)=false:=by simp
 have u2:decide ((en:Int)≤(i:Int))=false:=by simp;omega
 have j0:(0:Int)≤(i:Int):=by omega
 have j1:(i:Int) < (en:Int):=by omega
 clear hE hc;unfold cv;go_enter Tryz.func163,Tryz.ntmps163
 go_upto_region 3 with fail
 have hb2:=hb1.alloc hb1.size (qC #[qU 0,qU 0,qU 0] 291);have hb3:=(Below.refl (w.alloc (qC #[qI r,.slice ao n cap,.slice mo mn mc,.slice (some ⟨b,o,none⟩) en ec] 26)).heap.size _).alloc (Nat.le_refl _) (qC #[qU 0,qU 0,qU 0] 291);have nb:=heap_alloc_new (w.alloc (qC #[qI r,.slice ao n cap,.slice mo mn mc,.slice (some ⟨b,o,none⟩) en ec] 26)) (qC #[qU 0,qU 0,qU 0] 291);rw [World.size_alloc] at nb;obtain⟨W1,hW1⟩:∃ X,X=(w.alloc (qC #[qI r,.slice ao n cap,.slice mo mn mc,.slice (some ⟨b,o,none⟩) en ec] 26)).alloc (qC #[qU 0,qU 0,qU 0] 291):=⟨_,rfl⟩;rw [←hW1] at hb2 hb3 nb ⊢;have C0:=Cls.cell (kept c0 hb3);have C1:=Cls.cell (kept c1 hb3);have C2:=Cls.cell (kept c2 hb3);have C3:=Cls.cell (kept c3 hb3);have D0:=Cls.cell (kept d0 hb3);have D1:=Cls.cell (kept d1 hb3);have HB:=hid hb2;have HTT:=hid fun (m:Int) (j:Cls W1)=>HT.out m j.wd (HB.out.trans (j.below.mono HB.out.size));obtain⟨f,hf⟩:∃ f,h i 0=f:=⟨_,rfl⟩;obtain⟨t,ht⟩:∃ t,h i 1=t:=⟨_,rfl⟩;have HO:=hid fun (j:Cls W1)=>zw8 (T f) (T t) (HTL.out f) (HTL.out t) j.wd;rw [hf] at D0;rw [ht] at D1;have HNB:=hid nb;unfold cv at HO;have HF:=hid hf;have HG:=hid ht;clear hW1 hb1 bI d0 d1 c0 c1 c2 c3 hb2 hb3 nb HT HTL hf ht;refine zfx 17 (by kernel_rfl) (by kernel_rfl) (by kernel_rfl) ?_;dsimp only [List.take,List.drop]
 repeat (go_big_quiet_step ((first|(go_at_call 89;exact Calls.cls _ (HTT.out _ _))|(go_at_call 227;exact Calls.cls _ (HO.out _)))))
 refine wpQuiet_nil ?_;intro _ hw';obtain⟨nq,rfl⟩:=hw';have nb:=(nq.below.block _ (qLt HNB.out)).trans HNB.out;have n0:=zaa nb 0;have n1:=zaa nb 1;have n2:=zaa nb 2;have z0:=zab nb 0;have z1:=zab nb 1;have z2:=zab nb 2;refine wpList_plain rfl fun K hK=>?_;go_simp;refine hK _ _ ?_;show Exit.then _ _ _ _ _
 have HB3:=HB.out.trans (nq.below.mono HB.out.size);have hb4:Below w.heap.size w (((nq.wd.setCell ⟨w.heap.size+1,0,none⟩ (Value.int .u32 (zcl (T f) (T t):Nat))).setCell ⟨w.heap.size+1,1,none⟩ (Value.int .u32 (zcl (T t) (T f):Nat))).setCell ⟨w.heap.size+1,2,none⟩ (Value.int .u32 ((T f &&& T t:Nat):Int))):=
  ((HB3.setCell (by simp) _).setCell (by simp) _).setCell (by simp) _
 go_wp2;refine bodyPost_ret (v:=.agg #[qU (zcl (T f) (T t):Nat),qU (zcl (T t) (T f):Nat),qU ((T f &&& T t:Nat):Int)]) (by simp [results,Tryz.results163,go_sem,n0,n1,n2]) rfl ?_;exact⟨by rw [HF.out,HG.out],hb4⟩
theorem zcx (o n s:Nat) (ho:o < 4294967296) (hn:n < 4294967296) (hs:s < 4294967296) (w:World):Calls Tryz.prog 167 #[cv o n s] w fun e w'=>e=.returned (qU ((o |||n |||s:Nat):Int))∧Below w.heap.size w w':=by
 have h1:=zoo ho hn;have h2:=zoo (Nat.or_lt_two_pow (n:=32) ho hn) hs;have hb:=qBr (w:=w) (qC #[qU (o:Nat),qU (n:Nat),qU (s:Nat)] 291);unfold cv;go_enter Tryz.func167,Tryz.ntmps167;go_wp2;go_ret;exact⟨by rw [←h2];rfl,hb⟩
theorem zss (o n s:Nat) (ho:o < 4294967296) (hs:s < 4294967296) (w:World):Calls Tryz.prog 165 #[cv o n s] w fun e w'=>e=.returned (qU ((o |||s:Nat):Int))∧Below w.heap.size w w':=by
 have h2:=zoo ho hs;have hb:=qBr (w:=w) (qC #[qU (o:Nat),qU (n:Nat),qU (s:Nat)] 291);unfold cv;go_enter Tryz.func165,Tryz.ntmps165;go_wp2;go_ret;exact⟨by rw [←h2];rfl,hb⟩
theorem zpf (o n s:Nat) (hn:n < 4294967296) (hs:s < 4294967296) (w:World):Calls Tryz.prog 278 #[cv o n s] w fun e w'=>e=.returned (qU ((n |||s:Nat):Int))∧Below w.heap.size w w':=by
 have h2:=zoo hn hs;have hb:=qBr (w:=w) (qC #[qU (o:Nat),qU (n:Nat),qU (s:Nat)] 291);unfold cv;go_enter Tryz.func278,Tryz.ntmps278;go_wp2;go_ret;exact⟨by rw [←h2];rfl,hb⟩
theorem zi9 (x:Nat→Int) (w:World):Calls Tryz.prog 220 #[tv x] w fun e w'=>e=.returned (.func (.func 272) #[] #[qP w.heap.size])∧w'=w.alloc (zaj x):=by
 unfold tv zaj;go_enter Tryz.func220,Tryz.ntmps220;go_wp2;go_ret;exact⟨rfl,rfl⟩
end Go.Proofs.YtpbmmoneeoijaaaGreatDoor
namespace Go.Proofs.YtpbmmoneeoijaaaGreatDoor
open Go.RowKit
theorem rows_in {n:Nat} {l:Nat} {P:Program} {row:String} {args:Array Value} {w:World} {R:Value→World→Prop} (h:Rows P row args w R):RowsIn (Fence.wide.inRound l) n P row args w R:=fun c cs _=>by
 obtain⟨v,w',hR,hs⟩:=h c cs;exact⟨v,w',hR,stepsIn_wide.2 hs⟩
theorem zlq {P:Program} {ops:Array Oper} {Q:Exit→Act→World→Prop} {l n:Nat} (hd:∀ o∈ops.toList,∀ c,o.op≠.defer c) (hQ:¬ LetsOut Q):
  ∀ is a w,wpOps P ops Q is a w→wpOpsIn (Fence.wide.inRound l) n P ops Q is a w:=by
 intro is
 induction is with
 |nil=>intro a w h;exact h
 |cons i rest ih=>
  intro a w h;unfold wpOps at h;unfold wpOpsIn
  cases ho:ops[i]? with
  |none=>rw [ho] at h;exact ih a w h
  |some o=>
   rw [ho] at h;simp only at h ⊢;by_cases hw:Region.wanted o (yielded ops a.tmps)=true
   ·rw [if_pos hw] at h ⊢
    rcases h with h|⟨_,h⟩
    ·refine⟨fun f _=>trivial,?_⟩
     have hm:o∈ops.toList:=by
      obtain⟨hlt,e⟩:=Array.getElem?_eq_some_iff.1 ho;rw [←e];simp
     rw [Fence.inRound_round,Oper.semAt_some l _ o (hd o hm)];unfold Oper.wp at h
     cases hr:(execOp a.eval o).run P w with
     |ok nx w'=>
      rw [hr] at h
      cases nx with
      |value v=>exact ih _ _ h
      |skip=>exact ih _ _ h
      |defer d=>exact ih _ _ h
      |enter f args=>
       refine⟨fun e=>(by cases e),CallsIn.inRound l (callsIn_wide.2 (Calls.mono h ?_))⟩;intro e w'' he
       cases e with
       |returned v=>exact ih _ _ he
       |panicked ch=>exact he
       |outgrown=>exact he
      |row row args=>
       refine⟨fun e=>(by cases e),rows_in (Rows.mono h ?_)⟩;intro v w'' he;exact ih _ _ he
      |_=>exact h.elim
     |halt x w'=>
      rw [hr] at h
      cases x with
      |panic v=>exact h
      |_=>exact h.elim
    ·exact (hQ h).elim
   ·rw [if_neg hw] at h ⊢
    exact⟨fun f _=>trivial,ih _ _ h⟩
theorem zko {P:Program} {id:Nat} {Q:Exit→Act→World→Prop} {a:Act} {w:World} {l:List Oper} {k n:Nat} (N:Nat) (C:Nat→World→Prop) (hm:P.follows .mixedOrders=true) (hB:stgB l N=true) (hd:l.all (fun o=>match o.op with| .defer _=>false|_=>true)=true) (hQ:¬ LetsOut Q) (h0:C 0 w.drew)
  (h:zl4 P l.toArray C (fun s a'=>∀ w',C s w'→wpList P l.toArray Q (l.drop N) a' w') 0 (l.take N) a):(Code.region id l.toArray true).wpIn (Fence.wide.inRound k) n P Q a w:=
 wpIn_region_draw fun t=>by
  refine zlq (fun o ho c e=>?_) hQ _ _ _ ?_
  ·have:=List.all_eq_true.1 hd o (by simpa using ho)
   rw [e] at this;cases this
  ·simp only [Region.schedule,hm,Bool.true_or,if_true]
   exact wpAny_sound l.toArray.size t _ a _ (zfm N C hB h0 h)
theorem zeh {P:Program} {id:Nat} {Q:Exit→Act→World→Prop} {a:Act} {w:World} {l:List Oper} {k n:Nat} (N:Nat) (hm:P.follows .mixedOrders=true) (hB:stgB l N=true) (hne:(l.take N).all (fun o=>!ze7 o)=true) (hd:l.all (fun o=>match o.op with| .defer _=>false|_=>true)=true) (hQ:¬ LetsOut Q)
  (h:wpQuiet P l.toArray (fun w'=>∃ i:Cls w,w'=i.wd) (fun a'=>∀ w',(∃ i:Cls w,w'=i.wd)→wpList P l.toArray Q (l.drop N) a' w') (l.take N) a):(Code.region id l.toArray true).wpIn (Fence.wide.inRound k) n P Q a w:=
 zko N (fun _ w'=>∃ i:Cls w,w'=i.wd) hm hB hd hQ ⟨⟨w.drew,(Below.refl _ _).drew⟩,rfl⟩ (zc3 _ 0 _ hne h)
end Go.Proofs.YtpbmmoneeoijaaaGreatDoor
namespace Go.Proofs.YtpbmmoneeoijaaaGreatDoor
open Go.RowKit Go.Deep Go.Shelf
set_option maxRecDepth 100000
set_option maxHeartbeats 8000000
attribute [local go_sem] Oper.semAt_some
set_option maxRecDepth 100000
def tabV (T:Nat→Int):Value:=.agg (qF8 T)
def tabB (T:Nat→Int):Obj:=.cells (qF8 T) 247
theorem zCu (T:Nat→Int) {i:Nat} (hi:i < 8):((qF8 T):Array Value)[i]? =some (qI (T i)):=by
 rcases i with _|_|_|_|_|_|_|_|i
 all_goals first|rfl|omega
theorem zbe {W:World} {b:Nat} {T:Nat→Int} (h:W.heap[b]? =some (tabB T)) {i:Nat} (hi:i < 8):W.cell? ⟨b,i,none⟩=some (qI (T i)):=by
 unfold tabB at h;rw [zaa h];exact zCu T hi
theorem zad {w:World} {b i:Nat} {c:Array Value} {u:Value} {t:TypeId} (h:w.heap[b]? =some (.cells c t (0,0))):(w.setCell ⟨b,i,none⟩ u).heap[b]? =some (.cells (c.setIfInBounds i u) t (0,0)):=by
 have hlt:=(qLt h);have h':w.heap[b]=.cells c t (0,0):=(Array.getElem?_eq_some_iff.1 h).2;show (w.heap.modify b _)[b]? =_;rw [Array.getElem?_eq_getElem (by simpa using hlt),Array.getElem_modify_self,h'];rfl
theorem tabB_set {W:World} {b:Nat} {T:Nat→Int} (h:W.heap[b]? =some (tabB T)) {i:Nat} (hi:i < 8) (v:Int):(W.setCell ⟨b,i,none⟩ (qI v)).heap[b]? =some (tabB fun j=>if j=i then v else T j):=by
 unfold tabB at h ⊢;rw [zad h];rcases i with _|_|_|_|_|_|_|_|i
 all_goals first|omega|simp
end Go.Proofs.YtpbmmoneeoijaaaGreatDoor
namespace Go.Proofs.YtpbmmoneeoijaaaGreatDoor
open Go.RowKit Go.Deep Go.Shelf
set_option maxRecDepth 100000
set_option maxHeartbeats 8000000
attribute [local go_sem] Oper.semAt_some
set_option maxRecDepth 100000
def Held (n:Nat) (g:Nat→Nat→Int):Prop:=∀ i,i < n→∀ j,j < 8→0≤g i (3+j)∧g i (3+j)≤4096
end Go.Proofs.YtpbmmoneeoijaaaGreatDoor
namespace Go.Proofs.YtpbmmoneeoijaaaGreatDoor
open Go.RowKit
def run (g:Int→Int×Bool) (most w:Int) (many:Nat):Option (Int×Nat):=
 if _h:w≤most then (if (g w).2 then (if _h2:(g w).1≤w then some (w,many+1) else run g most (g w).1 (many+1)) else none) else none
termination_by (most+1 - w).toNat
decreasing_by omega
theorem run_over {g:Int→Int×Bool} {most w:Int} {many:Nat} (h:most < w):run g most w many=none:=by
 rw [run,dif_neg (by omega)]
theorem run_none {g:Int→Int×Bool} {most w:Int} {many:Nat} (h:w≤most) (h2:(g w).2=false):run g most w many=none:=by
 rw [run,dif_pos h,if_neg (by rw [h2];simp)]
theorem run_some {g:Int→Int×Bool} {most w:Int} {many:Nat} (h:w≤most) (h2:(g w).2=true) (h3:(g w).1≤w):run g most w many=some (w,many+1):=by
 rw [run,dif_pos h,if_pos h2,dif_pos h3]
theorem run_on {g:Int→Int×Bool} {most w:Int} {many:Nat} (h:w≤most) (h2:(g w).2=true) (h3:w < (g w).1):run g most w many=run g most (g w).1 (many+1):=by
 rw [run,dif_pos h,if_pos h2,dif_neg (by omega)]
def zfg (own t:Int) (f:Nat→TT) (n:Nat):Int×Bool:=if (allR t f n).2 then addR own (allR t f n).1 else (0,false)
theorem zDt (ao:Option Addr) (n cap:Nat) (f:Nat→TT) (own t:Int) (w:World) (hn:n≤100) (hT:zu3 w ao n f):
  Calls Tryz.prog 275 #[qI own,qI t,.slice ao n cap] w fun e w'=>e=.returned (rv (zfg own t f n))∧Below w.heap.size w w':=by
 have HD:=hid (zp9 ao n cap f t w hn hT);unfold zfg;obtain⟨⟨r,ok⟩,hx⟩:∃ y,allR t f n=y:=⟨_,rfl⟩;rw [hx] at HD ⊢;cases ok
 ·go_enter Tryz.func275,Tryz.ntmps275
  go_wp2_with (go_at_call 305;refine HD.out.mono ?_;rintro e w1 ⟨rfl,hb1⟩)
  go_ret2;exact⟨rfl,hb1⟩
 ·have HA:=hid (zxk own r)
  simp only [if_true];obtain⟨⟨s,is⟩,hy⟩:∃ y,addR own r=y:=⟨_,rfl⟩;rw [hy] at HA ⊢;go_enter Tryz.func275,Tryz.ntmps275
  go_wp2_with (first|(go_at_call 305;refine HD.out.mono ?_;rintro e w1 ⟨rfl,hb1⟩)|(go_at_call 306;refine (HA.out _).mono ?_;rintro e w2 ⟨rfl,rfl⟩))
  go_ret2;exact⟨rfl,hb1⟩
def zit (own most:Int) (f:Nat→TT) (n:Nat):Int×Bool:=if own < 0 then (0,false) else match run (fun w=>zfg own w f n) most (max own 1) 0 with|some (w,_)=>(w,true)|none=>(0,false)
set_option maxHeartbeats 1000000 in
theorem zhn (ao:Option Addr) (n cap:Nat) (f:Nat→TT) (own most:Int) (w:World) (hn:n≤100) (hT:zu3 w ao n f) (ho:own≤9223372036854775807):
  Calls Tryz.prog 224 #[qI own,qI most,.slice ao n cap] w fun e w'=>e=.returned (rv (zit own most f n))∧Below w.heap.size w w':=by
 by_cases h0:own < 0
 ·have HE:Hid (zit own most f n=(0,false)):=if_pos h0
  go_enter Tryz.func224,Tryz.ntmps224;go_wp2
  all_goals
   go_ret2;exact⟨by rw [HE.out];rfl,Below.refl _ _⟩
 ·have h1:decide (own < 0)=false:=by simp;omega
  have HS:=hid (fun t=>zDt ao n cap f own t);rcases (show max own 1=1∧own < 1∨max own 1=own∧1≤own by omega) with ⟨hx,hx2⟩|⟨hx,hx2⟩
  all_goals
   have HE:Hid (zit own most f n=match run (fun w=>zfg own w f n) most (max own 1) 0 with|some (w,_)=>(w,true)|none=>(0,false)):=if_neg h0;rw [hx] at HE;go_enter Tryz.func224,Tryz.ntmps224;go_wp2
   go_loopw [8,9,10] (fun a _ _ wr=>∃ x:Int,∃ many:Nat,a=qI x∧Hid (run (fun w=>zfg own w f n) most (_) 0=run (fun w=>zfg own w f n) most x many)∧Below w.heap.size w wr) (fun a _ _ _=>(most+1 - intOf a).toNat)
   case atStart=>exact⟨_,0,rfl,rfl,Below.refl _ _⟩
   case round=>
    obtain⟨x,many,rfl,HR,hb⟩:=hrel;rw [HR.out] at HE;by_cases hlt:x≤most
    ·have HN:Hid ((zfg own x f n).2=false→run (fun w=>zfg own w f n) most x many=none):=fun h=>run_none hlt h
     have HF:Hid ((zfg own x f n).2=true→(zfg own x f n).1≤x→run (fun w=>zfg own w f n) most x many=some (x,many+1)):=fun h h2=>run_some hlt h h2;have HG:Hid ((zfg own x f n).2=true→x < (zfg own x f n).1→run (fun w=>zfg own w f n) most x many=run (fun w=>zfg own w f n) most (zfg own x f n).1 (many+1)):=fun h h2=>run_on hlt h h2;have HW:=hid (HS.out x wr hn (hT.below hb));obtain⟨⟨r,ok⟩,hy⟩:∃ y,zfg own x f n=y:=⟨_,rfl⟩;rw [hy] at HN HF HG HW;cases ok
     ·have HN2:Hid (run (fun w=>zfg own w f n) most x many=none):=HN.out rfl
      clear HN HF HG hy
      go_wp2_with (go_at_call 275;refine HW.out.mono ?_;rintro e w1 ⟨rfl,hb1⟩)
      go_ret2;exact⟨by rw [HE.out,HN2.out];rfl,hb.trans (hb1.mono hb.size)⟩
     ·by_cases hle:r≤x
      ·have HF2:Hid (run (fun w=>zfg own w f n) most x many=some (x,many+1)):=HF.out rfl hle
       clear HN HF HG hy
       go_wp2_with (go_at_call 275;refine HW.out.mono ?_;rintro e w1 ⟨rfl,hb1⟩)
       go_ret2;exact⟨by rw [HE.out,HF2.out];rfl,hb.trans (hb1.mono hb.size)⟩
      ·have HG2:Hid (run (fun w=>zfg own w f n) most x many=run (fun w=>zfg own w f n) most r (many+1)):=HG.out rfl (by show x < r;omega)
       clear HN HF HG hy
       go_wp2_with (go_at_call 275;refine HW.out.mono ?_;rintro e w1 ⟨rfl,hb1⟩)
       go_roundw
       case rel=>exact⟨r,many+1,rfl,hid (by rw [HR.out,HG2.out]),hb.trans (hb1.mono hb.size)⟩
       case measure=>simp [intOf];omega
    ·have HN2:Hid (run (fun w=>zfg own w f n) most x many=none):=run_over (by omega)
     go_wp2;go_ret2;exact⟨by rw [HE.out,HN2.out];rfl,hb⟩
theorem zc7 {P:Program} {id:Nat} {Q:Exit→Act→World→Prop} {a:Act} {w:World} {l:List Oper} {k n:Nat} (T:List Nat) (C:World→Prop) (hm:P.follows .mixedOrders=true) (hB:zsf l T=true) (hd:l.all (fun o=>match o.op with| .defer _=>false|_=>true)=true) (hQ:¬ LetsOut Q) (h0:C w.drew)
  (h:wpFl P l.toArray C T (fun a'=>wpTs P l.toArray C (fun a w=>Q .normal a w) T.length T a' w.drew) 0 l a):(Code.region id l.toArray true).wpIn (Fence.wide.inRound k) n P Q a w:=
 wpIn_region_draw fun t=>by
  refine zlq (fun o ho c e=>?_) hQ _ _ _ ?_
  ·have:=List.all_eq_true.1 hd o (by simpa using ho)
   rw [e] at this;cases this
  ·simp only [Region.schedule,hm,Bool.true_or,if_true]
   exact wpAny_sound l.toArray.size t _ a _ (zf6 T C hB h0 h)
end Go.Proofs.YtpbmmoneeoijaaaGreatDoor
namespace Go.Proofs.YtpbmmoneeoijaaaGreatDoor
open Go.RowKit Go.Shelf
attribute [local go_sem] Oper.semAt_some zaq
def zjv (s n:Nat):List Nat:=(zae s).filter fun i=>decide (i < n)
def zc4 (g:Nat→Nat→Int) (l:List Nat):List Value:=l.flatMap fun i=>[qI (g i 0),qI (g i 2),qI 0,qI 0]
theorem zp0 (g:Nat→Nat→Int) (l:List Nat) (i:Nat):zc4 g (l ++ [i])=zc4 g l ++ [qI (g i 0),qI (g i 2),qI 0,qI 0]:=by simp [zc4]
theorem zys:(Tryz.prog.info? 361).map (fun i=>(i.zero,i.size,i.bytes))=some (some (.agg #[qI 0,qI 0,qI 0,qI 0]),4,32):=by kernel_rfl
structure TmC (n₁:Nat) (W:World) (v:Value) (X:World):Prop where
 box:X.cell? ⟨n₁,0,none⟩=some v
 below:Below n₁ W X
set_option maxRecDepth 100000 in
set_option maxHeartbeats 2000000 in
theorem ztf (x:Img) (g:Nat→Nat→Int) (s:Nat) (w:World) (hs:s < 4294967296) (hn:x.n≤maxLen) (hT:zev w x.ao x.n g) (hTab:Tab w):
  Calls Tryz.prog 225 #[iv x,qU s] w fun e W'=>∃ v,e=.returned v∧W'.ownsRow (w.heap.size+1) 361 4 v (zjv s x.n).length (zc4 g (zjv s x.n))∧Below w.heap.size w W':=by
 obtain⟨r,ao,n,cap,mo,mn,mc,eo,en,ec⟩:=x;unfold iv;dsimp only at hn hT ⊢;refine (callsIn_wide (n:=4)).1 ?_;have h1:1≤4:=by omega
 obtain⟨i0,hi,hz0,hz1,hz2⟩:=info_parts zys;refine callsIn_of_wp_marks Tryz.func225 rfl trivial ?_ rfl;simp only [Tryz.ntmps225,qPr,Nat.reduceAdd,Nat.reduceSub]
 gi_wp2_with (refine⟨trivial,?_⟩;gi_at_call 159;refine (callsIn_wide.2 (zdk s _)).mono ?_;rintro e w' ⟨rfl,rfl⟩)
 have hT0:Tab (((w.alloc (qC #[qI r,.slice ao n cap,.slice mo mn mc,.slice eo en ec] 26)).alloc (qC #[.slice none 0 0] 357)).alloc (qC #[qU s] 140)):=
  hTab.below (((qBr (w:=w) _).alloc (by simp) _).alloc (by simp;omega) _) hTab.pos
 obtain⟨w1,hw1⟩:∃ X,X=w.alloc (qC #[qI r,.slice ao n cap,.slice mo mn mc,.slice eo en ec] 26):=⟨_,rfl⟩;have hs1:w1.heap.size=w.heap.size+1:=by rw [hw1];simp
 have hblk:w1.heap[w.heap.size]? =some (qC #[qI r,.slice ao n cap,.slice mo mn mc,.slice eo en ec] 26 (0,0)):=by rw [hw1];exact heap_alloc_new w _
 have c1:w1.cell? ⟨w.heap.size,1,none⟩=some (.slice ao n cap):=zaa hblk 1;have hT1:zev w1 ao n g:=by rw [hw1];exact hT.below (qBr _)
 have hb1:Below w.heap.size w w1:=by rw [hw1];exact qBr _
 rw [←hw1] at hT0 ⊢;clear hw1 hblk;have hc2:((w1.alloc (qC #[.slice none 0 0] 357)).alloc (qC #[qU s] 140)).cell? ⟨w.heap.size+2,0,none⟩=some (qU s):=by
  have:=(zba (w1.alloc (qC #[.slice none 0 0] 357)) (qU s) 140).1
  rwa [World.size_alloc,hs1] at this
 have hB0:Below (w.heap.size+1) w1 ((w1.alloc (qC #[.slice none 0 0] 357)).alloc (qC #[qU s] 140)):=
  ((Below.refl _ w1).alloc (by omega) _).alloc (by simp;omega) _
 refine wpIn_rangeFunc_ownG rfl h1 (gf:=221) (lb:=#[qP (w.heap.size+2)]) rfl trivial (enters_of Tryz.func221 (by kernel_rfl) rfl)
  (zCj (4 - 1) (by omega) (w.heap.size+2) (w.heap.size+1) s _ hs (by omega) hc2 hT0) belowK_t (belowK_b (by simp;omega)) (Below.refl _ _) (fun _=>rfl)
  (fun pre W=>(∃ v,Boxed W (w.heap.size+1) 357 v∧W.ownsRow (w.heap.size+1) 361 4 v (pre.filter fun i=>decide (i < n)).length (zc4 g (pre.filter fun i=>decide (i < n)))∧True)∧Below (w.heap.size+1) w1 W)
  (fun _ _ _=>False)
  (OwnFrom.and (Own.from (holdsRow_own (w.heap.size+1) (w.heap.size+1) 357 361 4 (fun pre:List Nat=>(pre.filter fun i=>decide (i < n)).length) (fun pre=>zc4 g (pre.filter fun i=>decide (i < n))) (fun _ _=>True)) _) (ownFrom_below (by omega) (by simp;omega)))
  (fun _ _ _ _ _ hs _ _=>hs)
  ⟨⟨_,by have:=Boxed.new w1 357 (.slice none 0 0);rw [hs1] at this;exact this.alloc _,World.ownsRow_nil _ _ _ _,trivial⟩,hB0⟩
  (fun x=>{ tmps:=#[.agg #[qI r,.slice ao n cap,.slice mo mn mc,.slice eo en ec],qU s,qP w.heap.size,undef,.slice none 0 0,qP (w.heap.size+1),qI x,qU s,.func (.func 221) #[] #[qP (w.heap.size+2)],qI x,undef,undef,undef,undef,undef,undef,undef,undef,undef,undef,undef,undef,undef,undef,undef],defers:=[] })
  ?assign ?body ?done ?stop
 case assign=>
  rintro l x W K hK
  gi_wp2
  exact hK
 case body=>
  rintro l pre x W ⟨⟨v,hv,hrow,_⟩,hB⟩ hlt;have hc:=hv.cell;have d1:=(hB.cell (p:=⟨w.heap.size,1,none⟩) (by show w.heap.size < _;omega)).trans c1;by_cases hx:x < n
  ·have t0:decide ((x:Int) < (n:Int))=true:=by simp;omega
   have e:(pre ++ [x]).filter (fun i=>decide (i < n))=pre.filter (fun i=>decide (i < n)) ++ [x]:=by simp [hx]
   obtain⟨sel,hsel⟩:∃ l,l=pre.filter fun i=>decide (i < n):=⟨_,rfl⟩;have hsl:sel.length≤32:=by rw [hsel];exact Nat.le_trans (List.length_filter_le _ _) (by omega)
   rw [←hsel] at hrow e;have HE:=hid e;clear hsel e;have i0':(0:Int)≤(x:Int):=by omega
   have i1:(x:Int) < (n:Int):=by omega
   obtain⟨b,o,rfl,hb⟩:=hT1.form hx;have hTW:=hT1.below (by rw [hs1];exact hB);obtain⟨⟨g0,g1,g2,g3⟩,⟨g4,g5,g6,g7⟩,g8,g9,g10⟩:=hTW.at_ hx
   gi_wp2
   refine zc7 [6,7,8,9] (TmC (w.heap.size+1) W v) (by kernel_rfl) (by kernel_rfl) (by kernel_rfl) (fun ⟨_,_,h⟩=>h) ⟨hc,⟨rfl,rfl,rfl,Nat.le_refl _,fun _ _=>rfl⟩⟩ ?_;refine qFs fun K hK=>?_;go_simp;refine⟨v,fun X hX=>by rw [hX.box];rfl,hK _ ?_⟩;clear hK K
   repeat (first|refine qFc ?_|(refine qFs fun K hK=>?_;go_simp;(refine⟨_,fun _ _=>rfl,hK _ ?_⟩;clear hK K)))
   refine qFs fun K hK=>?_;go_simp;refine⟨.slice (some ⟨b,o,none⟩) n cap,fun X hX=>?_,hK _ ?_⟩
   ·have cX:=(hX.below.cell (p:=⟨w.heap.size,1,none⟩) (by show w.heap.size < _;omega)).trans d1
    go_simp
   clear hK K
   repeat (first|refine qFc ?_|(refine qFs fun K hK=>?_;go_simp;(refine⟨_,fun _ _=>rfl,hK _ ?_⟩;clear hK K)))
   refine qFs fun K hK=>?_;go_simp;refine⟨tv (g x),fun X hX=>?_,hK _ ?_⟩
   ·have up:∀ {p:Addr} {u:Value},p.block=b→W.cell? p=some u→X.cell? p=some u:=fun hp hu=>(hX.below.cell (by rw [hp];omega)).trans hu
    have q0:=up rfl g0;have q1:=up rfl g1;have q2:=up rfl g2;have q3:=up rfl g3;have q4:=up rfl g4;have q5:=up rfl g5;have q6:=up rfl g6;have q7:=up rfl g7;have q8:=up rfl g8;have q9:=up rfl g9;have q10:=up rfl g10;go_simp
   clear hK K
   repeat (first|refine qFc ?_|(refine qFs fun K hK=>?_;go_simp;(refine⟨_,fun _ _=>rfl,hK _ ?_⟩;clear hK K)))
   refine za9 ?_;show wpTs _ _ _ _ 4 _ _ _;have hb0:Below W.heap.size W W.drew:=⟨rfl,rfl,rfl,Nat.le_refl _,fun _ _=>rfl⟩;have hk0:KeepsOthers W W.drew:=KeepsOthers.drew _;have hv0:Boxed W.drew (w.heap.size+1) 357 v:=hv;have hr0:W.drew.ownsRow (w.heap.size+1) 361 4 v sel.length (zc4 g sel):=hrow;obtain⟨Y0,hY0⟩:∃ Y,Y=W.drew:=⟨_,rfl⟩;rw [←hY0] at hb0 hk0 hv0 hr0 ⊢;clear hY0;refine qT1 6 [7,8,9] fun K hK=>?_
   go_wp2_with fail
   refine (of_any (g x) 0 _).mono ?_;rintro e1 X1 ⟨rfl,hx1⟩
   go_wp2_with fail
   have hb1':=hb0.trans (hx1.mono hb0.size);have hk1:KeepsOthers W X1:=hk0.trans ⟨hx1.size,fun k o hk _=>(hx1.block k (qLt hk)).trans hk⟩;have hv1:Boxed X1 (w.heap.size+1) 357 v:=(hx1.block _ hv0.lt).trans hv0;have hr1:X1.ownsRow (w.heap.size+1) 361 4 v sel.length (zc4 g sel):=hr0.kept (zg3 hx1) (by cases v.ownBlock<;>simp);have hC1:TmC (w.heap.size+1) W v X1:=⟨hv1.cell,hb1'.mono (by have:=hv.lt;omega)⟩;refine hK _ _ hC1 ?_;clear hK K;refine qT1 7 [8,9] fun K hK=>?_
   go_wp2_with fail
   obtain⟨tmp,htmp⟩:∃ t:Obj,t=Obj.cells #[qI (g x 0),qI (g x 2),qI 0,qI 0] 361:=⟨_,rfl⟩;have hnews:∀ (j:Nat) (u:Value),[qI (g x 0),qI (g x 2),qI 0,qI 0][j]? =some u→(X1.alloc tmp).cell? ((⟨X1.heap.size,0,none⟩:Addr).add j)=some u:=fun j u hj=>by
    rw [zbn,Nat.zero_add,htmp,World.cell?_alloc_at _ _ _ _ rfl];simpa using hj
   rw [←htmp];clear htmp;have ha1:Below X1.heap.size X1 (X1.alloc tmp):=qBr _;have hC2:TmC (w.heap.size+1) W v (X1.alloc tmp):=⟨(hv1.alloc _).cell,hC1.below.trans (ha1.mono (by have:=hv1.lt;omega))⟩;refine hK _ _ hC2 ?_;clear hK K;refine qT1 8 [9] fun K hK=>?_;refine wpList_append_own _ rfl _ _ 357 rfl (w.heap.size+1) 361 i0 _ 4 32 Tryz.underlying357 hi hz0 hz1 hz2 rfl (by decide) _ _ _ rfl (hr1.alloc _) ⟨X1.heap.size,0,none⟩ 1 1 _ rfl rfl hnews (by simp [Value.oneCell']) (by unfold maxLen;omega) (by omega) (by have:=hv1.lt;simp;omega) ?_;intro v' X3 hown' hgrow _;obtain⟨g',cap',rfl⟩:=ownsRow_succ hown';obtain⟨hv3,hv4,hr4,hk4,hb4⟩:=hv1.appended (by decide) hr1 (by have:=hv1.lt;omega) (Nat.le_refl _) hown' hgrow;have hc1:=hv3.cell;have hf1:=hv3.frozen;have hC3:TmC (w.heap.size+1) W v X3:=⟨hv3.cell,(hC2.below.grown hgrow (by have:=hv1.lt;simp;omega) fun k e=>(hr1.lt k e).1)⟩;refine hK _ _ hC3 ?_;go_simp;clear hK K;refine zby (i:=9) (rem1:=[]) (by kernel_rfl) (by rfl) (by rfl) (by kernel_rfl) (fun K hK=>?_)
   go_wp2_with fail
   refine za2 ?_
   gi_wp2
   have hBW:Below (w.heap.size+1) W (X3.setCell ⟨w.heap.size+1,0,none⟩ (.slice (some ⟨g',0,none⟩) (sel.length+1) cap')):=hC1.below.trans hb4;exact⟨(hk1.trans hk4).from _,hBW,⟨_,hv4,by rw [HE.out,List.length_append,zp0];exact hr4,trivial⟩,hB.trans hBW⟩
  ·have t0:decide ((x:Int) < (n:Int))=false:=by simp;omega
   have e:(pre ++ [x]).filter (fun i=>decide (i < n))=pre.filter (fun i=>decide (i < n)):=by simp [hx]
   gi_wp2
   exact⟨KeepsFrom.refl _ _,Below.refl _ _,⟨v,hv,by rw [e];exact hrow,trivial⟩,hB⟩
 case done=>
  rintro D ys W hD rfl ⟨⟨v,hv,hrow,_⟩,hB⟩ hK;have hc:=hv.cell
  gi_wp2
  refine⟨by simp,.inl ⟨_,_,rfl,run_takeDeferred hK,?_⟩⟩;have hB2:Below w.heap.size w W:=hb1.trans (hB.mono (by omega));exact⟨_,results_tmp rfl _ _ _,v,rfl,ownsRow_putObj hrow _ hK rfl,hB2.trans (belowK_b (w:=w) (Nat.le_refl _) W D _ _ (by simp at hD;omega) hK rfl rfl)⟩
 case stop=>
  rintro D c pre W _ _ h _;exact h.elim
end Go.Proofs.YtpbmmoneeoijaaaGreatDoor
namespace Go.Proofs.YtpbmmoneeoijaaaGreatDoor
open Go.RowKit
def zc5 (f:Nat→TT) (k:Nat):List Value:=(List.range k).flatMap fun i=>[qI (f i).p,qI (f i).c,qI (f i).o,qI (f i).k]
theorem zfd (f:Nat→TT) (k:Nat):zc5 f (k+1)=zc5 f k ++ [qI (f k).p,qI (f k).c,qI (f k).o,qI (f k).k]:=by
 unfold zc5;rw [List.range_succ,List.flatMap_append];rfl
theorem zcy (f:Nat→TT) (k:Nat):(zc5 f k).length=k * 4:=by
 induction k with
 |zero=>rfl
 |succ k ih=>rw [zfd,List.length_append,ih];simp;omega
theorem zht (f:Nat→TT) {i k j:Nat} (h:i < k) (hj:j < 4):(zc5 f k)[i * 4+j]? =[qI (f i).p,qI (f i).c,qI (f i).o,qI (f i).k][j]?:=by
 induction k with
 |zero=>omega
 |succ k ih=>
  rw [zfd];by_cases hk:i=k
  ·subst hk
   rw [List.getElem?_append_right (by rw [zcy];omega),zcy,show i * 4+j - i * 4=j by omega]
  ·rw [List.getElem?_append_left (by rw [zcy];omega)]
   exact ih (by omega)
theorem zfn {w:World} {base:Nat} {e:TypeId} {v:Value} {n:Nat} {f:Nat→TT} (h:w.ownsRow base e 4 v n (zc5 f n)):∃ ao cap,v=.slice ao n cap∧zu3 w ao n f:=by
 rcases h.2 with ⟨rfl,h2⟩|⟨g,cap,cur,rfl,_⟩
 ·have:n=0:=h2
  subst this;exact⟨none,0,rfl,fun i hi=>by omega⟩
 ·refine⟨_,cap,rfl,fun i hi=>⟨g,0,rfl,?_⟩⟩
  have hc:=fun j (hj:j < 4)=>(h.cellAt (i * 4+j) (by omega)).trans (zht f hi hj);rw [Nat.zero_add];exact⟨hc 0 (by omega),hc 1 (by omega),hc 2 (by omega),hc 3 (by omega)⟩
theorem zvy {P:Program} {ops:Array Oper} {Q:Exit→Act→World→Prop} {l n:Nat} (hd:∀ o∈ops.toList,∀ c,o.op≠.defer c):
  ∀ is a w,wpOpsIn Fence.wide n P ops Q is a w→wpOpsIn (Fence.wide.inRound l) n P ops Q is a w:=by
 intro is
 induction is with
 |nil=>intro a w h;exact h
 |cons i rest ih=>
  intro a w h;unfold wpOpsIn at h ⊢
  cases ho:ops[i]? with
  |none=>rw [ho] at h;exact ih a w h
  |some o=>
   rw [ho] at h;simp only at h ⊢;by_cases hw:Region.wanted o (yielded ops a.tmps)=true
   ·rw [if_pos hw] at h ⊢
    refine⟨fun f _=>trivial,?_⟩;have hm:o∈ops.toList:=by
     obtain⟨hlt,e⟩:=Array.getElem?_eq_some_iff.1 ho;rw [←e];simp
    have h2:=h.2;rw [Fence.inRound_round,Oper.semAt_some l _ o (hd o hm)];rw [show Oper.semAt Fence.wide.round a.eval o=execOp a.eval o from rfl] at h2
    cases hr:(execOp a.eval o).run P w with
    |ok nx w'=>
     rw [hr] at h2
     cases nx with
     |value v=>exact ih _ _ h2
     |skip=>exact ih _ _ h2
     |defer d=>exact ih _ _ h2
     |enter f args=>
      refine⟨fun e=>(by cases e),CallsIn.inRound l (CallsIn.mono h2.2 ?_)⟩;intro e w'' he
      cases e with
      |returned v=>exact ih _ _ he
      |panicked ch=>exact he
      |outgrown=>exact he
     |row row args=>
      refine⟨fun e=>(by cases e),RowsIn.mono (show RowsIn (Fence.wide.inRound l) _ _ _ _ _ _ from h2.2) ?_⟩;intro v w'' he;exact ih _ _ he
     |round l' f tmps assign body=>
      refine⟨fun e=>(by cases e),RoundIn.mono (show RoundIn (Fence.wide.inRound l) _ _ _ _ _ _ _ _ _ from h2.2) ?_⟩;intro e w'' he
      cases e with
      |returned v=>exact ih _ _ he
      |panicked ch=>exact he
      |outgrown=>exact he
     |_=>exact h2.elim
    |halt x w'=>
     rw [hr] at h2
     cases x with
     |panic v=>exact h2
     |_=>exact h2.elim
   ·rw [if_neg hw] at h ⊢
    exact⟨fun f _=>trivial,ih _ _ h.2⟩
theorem zf5 {P:Program} {id:Nat} {Q:Exit→Act→World→Prop} {a:Act} {w:World} {l:List Oper} {k n:Nat} (hm:P.follows .mixedOrders=true) (hd:l.all (fun o=>match o.op with| .defer _=>false|_=>true)=true)
  (h:wpAnyIn Fence.wide n P .any l.toArray Q l.toArray.size (Array.replicate l.toArray.size false) a w.drew):(Code.region id l.toArray true).wpIn (Fence.wide.inRound k) n P Q a w:=
 wpIn_region_draw fun t=>by
  refine zvy (fun o ho c e=>?_) _ _ _ ?_
  ·have:=List.all_eq_true.1 hd o (by simpa using ho)
   rw [e] at this;cases this
  ·simp only [Region.schedule,hm,Bool.true_or,if_true]
   exact wpAnyIn_sound l.toArray.size t _ a _ h
def multR (a b:Int):Int×Bool:=if inB a && inB b && !(a == 0) && !(b == 0) then mulR (a / ((Int.gcd a b:Nat):Int)) b else (0,false)
end Go.Proofs.YtpbmmoneeoijaaaGreatDoor
namespace Go.Proofs.YtpbmmoneeoijaaaGreatDoor
open Go.RowKit Go.Shelf
attribute [local go_sem] Oper.semAt_some
def zts (f:Nat→Int) (acc:Int):List Nat→Option Int
 | []=>some acc
 |i :: l=>if (multR acc (f i)).2 then zts f (multR acc (f i)).1 l else none
theorem zy3 {B b:Nat} {cs:Array Value} {t:TypeId} {X Y:World} {row:Option Nat} (h:X.heap[b]? =some (.cells cs t (0,0))) (hg:X.grownBy Y row) (hr:∀ r,row=some r→B≤r∧∃ o:Obj,X.heap[r]? =some o∧o.isCells=false):Y.heap[b]? =some (.cells cs t (0,0)):=
 (hg.block b (qLt h) fun e=>by
  obtain⟨_,o,ho,hc⟩:=hr b e.symm;rw [h] at ho
  cases ho;cases hc).trans h
end Go.Proofs.YtpbmmoneeoijaaaGreatDoor
namespace Go.Proofs.YtpbmmoneeoijaaaGreatDoor
open Go.RowKit Go.Shelf
def tA:Nat→Int:=fun j=>if j=0 then 10 else if j=1 then 10 else if j=2 then 2 else 0
def tB:Nat→Int:=fun j=>if j=0 then 20 else if j=1 then 20 else if j=2 then 5 else 0
end Go.Proofs.YtpbmmoneeoijaaaGreatDoor
namespace Go.Proofs.YtpbmmoneeoijaaaGreatDoor
def fOf (g:Nat→Nat→Int) (l:List Nat) (k:Nat):TT:=⟨g (l.getD k 0) 0,g (l.getD k 0) 2,0,0⟩
end Go.Proofs.YtpbmmoneeoijaaaGreatDoor
namespace Go.Proofs.YtpbmmoneeoijaaaGreatDoor
open Go.RowKit Go.Deep Go.Shelf
set_option maxRecDepth 100000
set_option maxHeartbeats 8000000
attribute [local go_sem] zaq
set_option maxRecDepth 100000
theorem znz (g:Nat→Nat→Int) (l:List Nat):zc4 g l=zc5 (fOf g l) l.length:=by
 have h:l=(List.range l.length).map fun k=>l.getD k 0:=by
  apply List.ext_getElem
  ·simp
  ·intro k h1 h2
   simp [List.getD,List.getElem?_eq_getElem h1]
 unfold zc4 zc5 fOf
 conv=>lhs;rw [h]
 rw [List.flatMap_map]
theorem zll (s n:Nat):(zjv s n).length≤32:=Nat.le_trans (List.length_filter_le _ _) (zbm s)
def zf2 (n:Nat) (g:Nat→Nat→Int):Prop:=∀ i,i < n→∃ res,zE1 (g i) res
theorem zf2.held {n:Nat} {g:Nat→Nat→Int} (h:zf2 n g):Held n g:=fun i hi j hj=>by
 obtain⟨res,ho⟩:=h i hi;have h1:=ho.l j hj;have:=ho.c2;have:=ho.d2;have:=ho.p2;exact⟨h1.1,by omega⟩
end Go.Proofs.YtpbmmoneeoijaaaGreatDoor
namespace Go.Proofs.YtpbmmoneeoijaaaGreatDoor
open Go.RowKit Go.Deep Go.Shelf
set_option maxRecDepth 100000
set_option maxHeartbeats 8000000
def zkg (f:Nat→TT) (k:Nat) (i:Nat):TT:=if i=k then { f i with k:=(f i).c } else f i
theorem zuv (f:Nat→TT) (m k:Nat) (hk:k < m):(zc5 f m).set (k * 4+3) (qI (f k).c)=zc5 (zkg f k) m:=by
 apply List.ext_getElem?;intro j;by_cases hj:j < m * 4
 ·have hq:j=j / 4 * 4+j % 4:=by omega
  obtain⟨q,hq4⟩:∃ q,q=j / 4:=⟨_,rfl⟩;obtain⟨r,hr4⟩:∃ r,r=j % 4:=⟨_,rfl⟩;have hr:r < 4:=by omega
  have hqm:q < m:=by omega
  rw [←hq4,←hr4] at hq;clear hq4 hr4;subst hq;rw [zht (zkg f k) hqm hr];by_cases he:k * 4+3=q * 4+r
  ·obtain rfl:q=k:=by omega
   obtain rfl:r=3:=by omega
   rw [List.getElem?_set_self (by rw [zcy];omega)];simp [zkg]
  ·rw [List.getElem?_set_ne he,zht f hqm hr]
   by_cases hqk:q=k
   ·subst hqk
    have:r < 3:=by omega
    match r,this with
    |0,_=>simp [zkg]
    |1,_=>simp [zkg]
    |2,_=>simp [zkg]
   ·simp [zkg,hqk]
 ·rw [List.getElem?_eq_none (by rw [List.length_set,zcy];omega),List.getElem?_eq_none (by rw [zcy];omega)]
theorem zDc {w:World} {base:Nat} {e:TypeId} {v:Value} {n:Nat} {xs:List Value} (h:w.ownsRow base e 4 v n xs) (hn:0 < n):
  ∃ g cap,v=.slice (some ⟨g,0,none⟩) n cap∧base≤g∧g < w.heap.size:=by
 rcases h.2 with ⟨_,h2⟩|⟨g,cap,cur,rfl,hb,hh,hc,_⟩
 ·omega
 ·exact⟨g,cap,rfl,hb,(h.lt g rfl).2⟩
structure ShR where
 x:Img
 o:Nat
 n:Nat
 s:Nat
 T:Nat→Int
 O:Nat→Int
def shL (z:ShR):List Value:=[qI z.x.r,.slice z.x.ao z.x.n z.x.cap,.slice z.x.mo z.x.mn z.x.mc,.slice z.x.eo z.x.en z.x.ec,qU (z.o:Nat),qU (z.n:Nat),qU (z.s:Nat),
 qI (z.T 0),qI (z.T 1),qI (z.T 2),qI (z.T 3),qI (z.T 4),qI (z.T 5),qI (z.T 6),qI (z.T 7),
 qI (z.O 0),qI (z.O 1),qI (z.O 2),qI (z.O 3),qI (z.O 4),qI (z.O 5),qI (z.O 6),qI (z.O 7),
 qI (z.O 8),qI (z.O 9),qI (z.O 10),qI (z.O 11),qI (z.O 12),qI (z.O 13),qI (z.O 14),qI (z.O 15)]
def shV (z:ShR):Value:=.agg (shL z).toArray
theorem shL_off (z:ShR) (t:Nat) (ht:t < 16):(shL z)[15+t]? =some (qI (z.O t)):=by
 rcases t with _|_|_|_|_|_|_|_|_|_|_|_|_|_|_|_|t
 all_goals first|rfl|omega
def offN (z:ShR) (t:Nat):Int:=if hasN z.n t then z.O t else 0
theorem zia (z:ShR) (t:Nat) (w:World) (hn:z.n < 4294967296) (ht:t < 16):
  Calls Tryz.prog 229 #[shV z,qI (t:Nat)] w fun e w'=>e=.returned (qI (offN z t))∧Below w.heap.size w w':=by
 have HH:=hid fun X=>zhm z.n hn (t:Nat) X;have hb:=qBr (w:=w) (Obj.cells (shL z).toArray 296);have hO:(w.alloc (Obj.cells (shL z).toArray 296)).cell? ⟨w.heap.size,15+t,none⟩=some (qI (z.O t)):=by
  rw [World.cell?_alloc_at _ _ _ _ rfl];simpa using shL_off z t ht
 have h5:(w.alloc (Obj.cells (shL z).toArray 296)).cell? ⟨w.heap.size,5,none⟩=some (qU (z.n:Nat)):=by
  rw [World.cell?_alloc_at _ _ _ _ rfl];rfl
 have j0:(0:Int)≤(t:Int):=by omega
 have j1:(t:Int) < 16:=by omega
 obtain⟨b,hb2⟩:∃ b,hasN z.n (t:Nat)=b:=⟨_,rfl⟩;rw [hb2] at HH;have hoff:offN z t=if b then z.O t else 0:=by unfold offN;rw [hb2]
 rw [hoff];clear hoff hb2;unfold shV;unfold shL at *;cases b
 ·go_enter Tryz.func229,Tryz.ntmps229
  go_wp2_with (go_at_call 189;refine (HH.out _).mono ?_;rintro e w2 ⟨rfl,rfl⟩)
  go_ret;exact⟨rfl,hb⟩
 ·go_enter Tryz.func229,Tryz.ntmps229
  go_wp2_with (go_at_call 189;refine (HH.out _).mono ?_;rintro e w2 ⟨rfl,rfl⟩)
  go_ret;exact⟨rfl,hb⟩
end Go.Proofs.YtpbmmoneeoijaaaGreatDoor
