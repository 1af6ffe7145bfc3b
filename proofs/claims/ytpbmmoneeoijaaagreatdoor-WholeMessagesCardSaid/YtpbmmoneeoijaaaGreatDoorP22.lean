/-
  A part of the proof: EvKn CeilFn Tail ClassFn EngCore FreeStill EngOver.
-/
import Derived.Test.YtpbmmoneeoijaaaGreatDoorP10
import Derived.Test.YtpbmmoneeoijaaaGreatDoorP20
import Derived.Test.YtpbmmoneeoijaaaGreatDoorP21
import Derived.Laws.AppendOwnNone
import Derived.Laws.ResultCell
namespace Go.Proofs.YtpbmmoneeoijaaaGreatDoor.Ev
open Go Go.RowKit Go.Shelf
def tzN:Nat→Nat→Nat
 |0,_=>0
 |f+1,x=>bif (x % 2).beq 1 then 0 else tzN f (x / 2)+1
theorem tzN_eq:∀ (f x:Nat),tzN f x=Lib.ctzFrom f x
 |0,_=>rfl
 |f+1,x=>by
  unfold tzN Lib.ctzFrom;rw [tzN_eq f]
  cases h:(x % 2).beq 1 with
  |true=>rw [if_pos (Nat.eq_of_beq_eq_true h)];rfl
  |false=>rw [if_neg (fun e=>by rw [e] at h;cases h)];simp only [cond_false];omega
def idxN (c:Nat):List UInt8→Nat→Int
 | [],_=>-1
 |x :: r,i=>bif x.toNat.beq c then .ofNat i else idxN c r (i+1)
theorem zAj (c:UInt8):∀ (l:List UInt8) (i:Nat),idxN c.toNat l i=if Lib.indexByte l c= -1 then -1 else Lib.indexByte l c+i
 | [],_=>by simp [idxN,Lib.indexByte]
 |x :: r,i=>by
  have hge:=Lib.indexByte_ge r c;unfold idxN Lib.indexByte;rw [zAj c r]
  cases h:x.toNat.beq c.toNat with
  |true=>
   have:x=c:=UInt8.toNat_inj.1 (Nat.eq_of_beq_eq_true h);subst this;simp
  |false=>
   have:x≠c:=fun e=>by subst e;rw [Nat.beq_refl] at h;cases h
   simp only [cond_false,beq_iff_eq,this,if_false];by_cases hm:Lib.indexByte r c= -1
   ·simp [hm]
   ·simp only [hm,if_false]
    rw [if_neg (by omega)];omega
def kn:Known:=fun g args H=>bif g.beq 222 then match args with
  | [.int .u32 (.ofNat n)]=>bif n.blt 4294967296 && Nat.blt 0 n then natK (tzN 32 n) fun k=>some (.int .i64 (.ofNat k),H) else none
  |_=>none
 else bif g.beq 304 then match args with
  | [.string s,.int .u8 (.ofNat c)]=>bif c.blt 256 then intK (idxN c s.data.toList 0) fun k=>some (.int .i64 k,H) else none
  |_=>none
 else none
def TabF (F:Frm):Prop:=F.K 0∧TabZ F.base
theorem zap:Lasts TabF:=fun F F' h hk=>by
 obtain⟨h1,h2⟩:=hk 0 h.1;refine⟨h1,fun j hj=>?_⟩;have h3:=h.2 j hj;simpa [World.cell?,h2] using h3
theorem za4 {w0:Frm} (hT:TabF w0):SndKnown Tryz.prog w0 kn:=by
 obtain⟨hK0,hT⟩:=hT;intro g args H v H' h;unfold kn at h
 cases h1:g.beq 222 with
 |true=>
  rw [h1] at h;obtain rfl:=Nat.eq_of_beq_eq_true h1;simp only [cond_true] at h
  split at h
  ·rename_i n
   cases hb:(n.blt 4294967296 && Nat.blt 0 n) with
   |false=>rw [hb] at h;cases h
   |true=>
    rw [hb] at h;simp only [cond_true,zca,Option.some.injEq,Prod.mk.injEq] at h;obtain⟨rfl,rfl⟩:=h;simp only [Bool.and_eq_true,blt_eq,decide_eq_true_eq] at hb;refine zkb (by rfl) (by rfl) (fun w hs hk=>?_) H;have hw:TabZ w:=fun j hj=>by
     have h0:=hT j hj;have:w.heap[0]? =w0.base.heap[0]?:=hk 0 hK0;simpa [World.cell?,this] using h0
    have hz:=tzz_any n hb.1 (by omega) w hw;refine hz.mono ?_;rintro e w' ⟨rfl,rfl⟩;refine⟨?_,.refl _ _⟩;unfold Lib.ctz;rw [if_neg (by omega),tzN_eq];rfl
  ·cases h
 |false=>
  rw [h1] at h;simp only [cond_false] at h
  cases h2:g.beq 304 with
  |false=>rw [h2] at h;cases h
  |true=>
   rw [h2] at h;obtain rfl:=Nat.eq_of_beq_eq_true h2;simp only [cond_true] at h
   split at h
   ·rename_i s c
    cases hb:c.blt 256 with
    |false=>rw [hb] at h;cases h
    |true=>
     rw [hb] at h;simp only [cond_true,zAf,Option.some.injEq,Prod.mk.injEq] at h;obtain⟨rfl,rfl⟩:=h;rw [blt_eq] at hb;have hb:c < 256:=by simpa using hb
     refine zkb (by rfl) (by rfl) (fun w hs hk=>?_) H;refine (idx_in s (.ofNat c) w).mono ?_;rintro e w' ⟨rfl,rfl⟩;refine⟨?_,.refl _ _⟩;have e1:(Int.ofNat c).toNat.toUInt8.toNat=c:=by simp;omega
     have e2:=zAj (Int.ofNat c).toNat.toUInt8 s.data.toList 0;rw [e1] at e2;rw [e2]
     congr 2
     split
     ·rename_i h;exact h
     ·simp
   ·cases h
end Go.Proofs.YtpbmmoneeoijaaaGreatDoor.Ev
namespace Go.Proofs.YtpbmmoneeoijaaaGreatDoor
open Go.RowKit Go.Deep
set_option maxRecDepth 100000
theorem Ev.closed_calls {g:FuncId} {kn:Ev.Known} {fuel n:Nat} {args:List Value} {v:Value} (hargs:args.all (Ev.closedB 3)=true) (h:((Ev.recF Tryz.prog kn fuel n).2 g args Ev.AH.empty).map Prod.fst=some v) (hc:Ev.closedB 3 v=true) (hm:Tryz.prog.follows .mixedOrders=true) (w:World) (hk:Ev.SndKnown Tryz.prog (Ev.Frm.of w) kn):
  Calls Tryz.prog g ⟨args⟩ w fun e w'=>e=.returned v∧Below w.heap.size w w':=by
 intro cs
 cases hr:(Ev.recF Tryz.prog kn fuel n).2 g args Ev.AH.empty with
 |none=>rw [hr] at h;cases h
 |some y=>
  obtain⟨v1,H1⟩:=y;rw [hr] at h;simp only [Option.map_some,Option.some.injEq] at h;subst h;have same:∀ l:List Value,l.all (Ev.closedB 3)=true→Ev.All2 (Ev.RV Ev.Mu.empty) l l:=fun l=>by
   induction l with
   |nil=>exact fun _=>trivial
   |cons x xs ih=>
    intro hl;simp only [List.all_cons,Bool.and_eq_true] at hl;exact⟨(Ev.closed_iff 3 x x hl.1).2 rfl,ih hl.2⟩
  obtain⟨f,v',w',μ',s,m1,m2,m3,m4,⟨fn,m5,m6⟩,m7,m8,m9⟩:=(Ev.recF_sound hk hm fuel n).2 g args Ev.AH.empty v1 H1 hr Ev.Mu.empty w ⟨args⟩ (same args hargs) (Ev.R.empty w) .normal cs;have hv:=(Ev.closed_iff 3 v1 v' hc).1 m9;subst hv;exact⟨.returned v',w',f,⟨rfl,m7.same.os,m7.same.tape,m7.same.output,m7.size,m7.kept⟩,s,m4,m1,m2,m3,fn,by rw [m4];exact m5,m6⟩
theorem Ev.none_known {F:Ev.Frm}:Ev.SndKnown Tryz.prog F (fun _ _ _=>none):=fun _ _ _ _ _ h=>by cases h
theorem zi9 (w:World):Calls Tryz.prog 181 #[] w fun e w'=>e=.returned (.agg #[.int .i64 16,.int .i64 16,.int .i64 16,.int .i64 16,.int .i64 16,.int .i64 16,.int .i64 16,.int .i64 16])∧Below w.heap.size w w':=
 Ev.closed_calls (kn:=fun _ _ _=>none) (fuel:=1000) (n:=5) (args:=[]) rfl (by kernel_rfl) (by kernel_rfl) (by kernel_rfl) w Ev.none_known
end Go.Proofs.YtpbmmoneeoijaaaGreatDoor
namespace Go.Proofs.YtpbmmoneeoijaaaGreatDoor
open Go.RowKit
theorem zcl {P:Program} {ops:Array Oper} {C:World→Prop} {Q:Act→Prop}:∀ (l:List Oper) (s:Nat) (a:Act),l.all (fun o=>!zd7 o)=true→wpQuiet P ops C Q l a→zhk P ops (fun _=>C) (fun _=>Q) s l a
 | [],_,_,_,h=>h
 |o :: rest,s,a,hne,h=>by
  simp only [List.all_cons,Bool.and_eq_true,Bool.not_eq_true'] at hne;unfold wpQuiet at h;unfold zhk;by_cases hw:Region.wanted o (yielded ops a.tmps)=true
  ·rw [if_pos hw] at h ⊢
   rw [if_neg (by rw [hne.1];simp)];obtain⟨v,h1,h2⟩:=h;exact⟨v,fun _ w hC=>h1 w hC,zcl rest s _ hne.2 h2⟩
  ·rw [if_neg hw] at h ⊢
   exact⟨hne.1,zcl rest s _ hne.2 h⟩
theorem za5 {P:Program} {id:Nat} {Q:Exit→Act→World→Prop} {a:Act} {w:World} {l:List Oper} (N:Nat) (hm:P.follows .mixedOrders=true) (hB:stgB l N=true) (hne:(l.take N).all (fun o=>!zd7 o)=true)
  (h:wpQuiet P l.toArray (fun w'=>∃ i:Cls w,w'=i.wd) (fun a'=>∀ w',(∃ i:Cls w,w'=i.wd)→wpList P l.toArray Q (l.drop N) a' w') (l.take N) a):(Code.region id l.toArray true).wp P Q a w:=
 zgf N (fun _ w'=>∃ i:Cls w,w'=i.wd) hm hB ⟨⟨w.drew,(Below.refl _ _).drew⟩,rfl⟩ (zcl _ 0 _ hne h)
end Go.Proofs.YtpbmmoneeoijaaaGreatDoor
namespace Go.Proofs.YtpbmmoneeoijaaaGreatDoor
open Go.RowKit Go.Deep
set_option maxRecDepth 100000
def cv (o n s:Nat):Value:=.agg #[.int .u32 (o:Nat),.int .u32 (n:Nat),.int .u32 (s:Nat)]
theorem ztx (f t:Nat) (hf:f < 4294967296) (ht:t < 4294967296) (w:World):Calls Tryz.prog 227 #[.int .u32 (f:Nat),.int .u32 (t:Nat)] w fun e w'=>e=.returned (cv (zdq f t) (zdq t f) (f &&& t))∧Below w.heap.size w w':=by
 have h1:=zfo hf ht;have h2:=zfo ht hf;have h3:=zt3 hf ht;unfold cv;go_enter Tryz.func227,Tryz.ntmps227;go_wp2;refine bodyPost_ret (v:=.agg #[.int .u32 (zdq f t:Nat),.int .u32 (zdq t f:Nat),.int .u32 ((f &&& t:Nat):Int)]) (by simp [results,Tryz.results227,go_sem]) rfl ?_;exact⟨rfl,(Below.refl _ _).alloc (Nat.le_refl _) _⟩
theorem zgy (x:Img) (M:Nat→za9) (h:Nat→Nat→Int) (i:Nat) (w:World) (hM:zbh w x.mo x.mn M) (hE:zbj w x.eo x.en 23 h) (htb:∀ j,j < x.mn→(M j).t < 4294967296) (hi:i < x.en):
  Calls Tryz.prog 163 #[iv x,.int .i64 i] w fun e w'=>e=.returned (cv (zdq (zax x M (h i 0)) (zax x M (h i 1))) (zdq (zax x M (h i 1)) (zax x M (h i 0))) (zax x M (h i 0) &&& zax x M (h i 1)))∧Below w.heap.size w w':=by
 have HT:=hid fun (m:Int) X (hX:Below w.heap.size w X)=>zij x M m X (hM.below hX);have HTL:=hid fun (m:Int)=>show zax x M m < 4294967296 by
  unfold zax
  split
  ·rename_i hm;exact htb _ (by omega)
  ·decide
 obtain⟨T,hT⟩:∃ T:Int→Nat,zax x M=T:=⟨_,rfl⟩;rw [hT] at HT HTL ⊢;clear hT hM htb;obtain⟨r,ao,n,cap,mo,mn,mc,eo,en,ec⟩:=x;unfold iv at HT ⊢;dsimp only at hE HT hi ⊢;obtain⟨b,o,rfl,hc⟩:=hE i hi;have hb1:Below w.heap.size w (w.alloc (Obj.cells #[.int .i64 r,.slice ao n cap,.slice mo mn mc,.slice (some ⟨b,o,none⟩) en ec] 26)):=(Below.refl _ _).alloc (Nat.le_refl _) _;have bI:=heap_alloc_new w (Obj.cells #[.int .i64 r,.slice ao n cap,.slice mo mn mc,.slice (some ⟨b,o,none⟩) en ec] 26);have d0:=kept (hc 0 (by decide)) hb1;have d1:=kept (hc 1 (by decide)) hb1;rw [Nat.add_zero] at d0;have c0:=zaa bI 0;have c1:=zaa bI 1;have c2:=zaa bI 2;have c3:=zaa bI 3;have u1:decide ((i:Int) < 0)=false:=by simp
 have u2:decide ((en:Int)≤(i:Int))=false:=by simp;omega
 have j0:(0:Int)≤(i:Int):=by omega
 have j1:(i:Int) < (en:Int):=by omega
 clear hE hc;unfold cv;go_enter Tryz.func163,Tryz.ntmps163
 go_upto_region 3 with fail
 have hb2:=hb1.alloc hb1.size (Obj.cells #[.int .u32 0,.int .u32 0,.int .u32 0] 291);have hb3:=(Below.refl (w.alloc (Obj.cells #[.int .i64 r,.slice ao n cap,.slice mo mn mc,.slice (some ⟨b,o,none⟩) en ec] 26)).heap.size _).alloc (Nat.le_refl _) (Obj.cells #[.int .u32 0,.int .u32 0,.int .u32 0] 291);have nb:=heap_alloc_new (w.alloc (Obj.cells #[.int .i64 r,.slice ao n cap,.slice mo mn mc,.slice (some ⟨b,o,none⟩) en ec] 26)) (Obj.cells #[.int .u32 0,.int .u32 0,.int .u32 0] 291);rw [World.size_alloc] at nb;obtain⟨W1,hW1⟩:∃ X,X=(w.alloc (Obj.cells #[.int .i64 r,.slice ao n cap,.slice mo mn mc,.slice (some ⟨b,o,none⟩) en ec] 26)).alloc (Obj.cells #[.int .u32 0,.int .u32 0,.int .u32 0] 291):=⟨_,rfl⟩;rw [←hW1] at hb2 hb3 nb ⊢;have C0:=Cls.cell (kept c0 hb3);have C1:=Cls.cell (kept c1 hb3);have C2:=Cls.cell (kept c2 hb3);have C3:=Cls.cell (kept c3 hb3);have D0:=Cls.cell (kept d0 hb3);have D1:=Cls.cell (kept d1 hb3);have HB:=hid hb2;have HTT:=hid fun (m:Int) (j:Cls W1)=>HT.out m j.wd (HB.out.trans (j.below.mono HB.out.size));obtain⟨f,hf⟩:∃ f,h i 0=f:=⟨_,rfl⟩;obtain⟨t,ht⟩:∃ t,h i 1=t:=⟨_,rfl⟩;have HO:=hid fun (j:Cls W1)=>ztx (T f) (T t) (HTL.out f) (HTL.out t) j.wd;rw [hf] at D0;rw [ht] at D1;have HNB:=hid nb;unfold cv at HO;have HF:=hid hf;have HG:=hid ht;clear hW1 hb1 bI d0 d1 c0 c1 c2 c3 hb2 hb3 nb HT HTL hf ht;refine za5 17 (by kernel_rfl) (by kernel_rfl) (by kernel_rfl) ?_;dsimp only [List.take,List.drop]
 repeat (go_big_quiet_step ((first|(go_at_call 89;exact Calls.cls _ (HTT.out _ _))|(go_at_call 227;exact Calls.cls _ (HO.out _)))))
 refine wpQuiet_nil ?_;intro _ hw';obtain⟨nq,rfl⟩:=hw';have nb:=(nq.below.block _ (Array.getElem?_eq_some_iff.1 HNB.out).1).trans HNB.out;have n0:=zaa nb 0;have n1:=zaa nb 1;have n2:=zaa nb 2;have z0:=zab nb 0;have z1:=zab nb 1;have z2:=zab nb 2;refine wpList_plain rfl fun K hK=>?_;go_simp;refine hK _ _ ?_;show Exit.then _ _ _ _ _
 have HB3:=HB.out.trans (nq.below.mono HB.out.size);have hb4:Below w.heap.size w (((nq.wd.setCell ⟨w.heap.size+1,0,none⟩ (Value.int .u32 (zdq (T f) (T t):Nat))).setCell ⟨w.heap.size+1,1,none⟩ (Value.int .u32 (zdq (T t) (T f):Nat))).setCell ⟨w.heap.size+1,2,none⟩ (Value.int .u32 ((T f &&& T t:Nat):Int))):=
  ((HB3.setCell (by simp) _).setCell (by simp) _).setCell (by simp) _
 go_wp2;refine bodyPost_ret (v:=.agg #[.int .u32 (zdq (T f) (T t):Nat),.int .u32 (zdq (T t) (T f):Nat),.int .u32 ((T f &&& T t:Nat):Int)]) (by simp [results,Tryz.results163,go_sem,n0,n1,n2]) rfl ?_;exact⟨by rw [HF.out,HG.out],hb4⟩
theorem zbo (o n s:Nat) (ho:o < 4294967296) (hn:n < 4294967296) (hs:s < 4294967296) (w:World):Calls Tryz.prog 167 #[cv o n s] w fun e w'=>e=.returned (.int .u32 ((o |||n |||s:Nat):Int))∧Below w.heap.size w w':=by
 have h1:=zqr ho hn;have h2:=zqr (Nat.or_lt_two_pow (n:=32) ho hn) hs;have hb:=(Below.refl w.heap.size w).alloc (Nat.le_refl _) (Obj.cells #[.int .u32 (o:Nat),.int .u32 (n:Nat),.int .u32 (s:Nat)] 291);unfold cv;go_enter Tryz.func167,Tryz.ntmps167;go_wp2;go_ret;exact⟨by rw [←h2];rfl,hb⟩
theorem zpo (o n s:Nat) (ho:o < 4294967296) (hs:s < 4294967296) (w:World):Calls Tryz.prog 165 #[cv o n s] w fun e w'=>e=.returned (.int .u32 ((o |||s:Nat):Int))∧Below w.heap.size w w':=by
 have h2:=zqr ho hs;have hb:=(Below.refl w.heap.size w).alloc (Nat.le_refl _) (Obj.cells #[.int .u32 (o:Nat),.int .u32 (n:Nat),.int .u32 (s:Nat)] 291);unfold cv;go_enter Tryz.func165,Tryz.ntmps165;go_wp2;go_ret;exact⟨by rw [←h2];rfl,hb⟩
theorem zmh (o n s:Nat) (hn:n < 4294967296) (hs:s < 4294967296) (w:World):Calls Tryz.prog 278 #[cv o n s] w fun e w'=>e=.returned (.int .u32 ((n |||s:Nat):Int))∧Below w.heap.size w w':=by
 have h2:=zqr hn hs;have hb:=(Below.refl w.heap.size w).alloc (Nat.le_refl _) (Obj.cells #[.int .u32 (o:Nat),.int .u32 (n:Nat),.int .u32 (s:Nat)] 291);unfold cv;go_enter Tryz.func278,Tryz.ntmps278;go_wp2;go_ret;exact⟨by rw [←h2];rfl,hb⟩
def zvy (W:World) (B en k:Nat) (v:Value):Prop:=∃ l,W.ownsRow B 263 6 v l.length (zfe l)∧zrz en l∧l.length≤k
structure zib (y:Img) (s:EngS) (r:Dl.TL):Prop where
 m0:0≤s.mo
 m1:s.mo < y.mn
 p:s.ph=0∨s.ph=2∨s.ph=3∨s.ph=4
 e0:s.ph≠0→0≤s.ed
 e1:s.ed < y.en
 op:s.op < 4294967296
 t16:Dl.cnt 16 r≤if s.ph=2∨s.ph=3 then 1 else 0
 t17:Dl.cnt 17 r≤if s.ph=4 then 1 else 0
def EngPost (base eb:Nat) (y:Img) (cm ce:Value) (k:Nat) (w:World) (e:Ending) (w':World):Prop:=
 ∃ v s r,e=.returned v∧zvy w' w.heap.size y.en k v∧zdk w' base eb y cm ce s r∧zib y s r∧FT Dl.TmT base w w'
structure zbg where
 base:Nat
 eb:Nat
 y:Img
 ca:Option Addr
 cl:Nat
 cb:Nat
 ceo:Option Addr
 cn:Nat
 cc:Nat
 R:Nat→za9
 h:Nat→Nat→Int
 sp:Nat→Nat→Int
@[reducible] def zbg.cm (d:zbg):Value:=.slice d.ca d.cl d.cb
def zbg.at_ (d:zbg) (X:World) (s:EngS) (r:Dl.TL):Prop:=zdk X d.base d.eb d.y d.cm (.slice d.ceo d.cn d.cc) s r∧Env X d.y d.R d.h d.ceo d.cn d.sp∧Tab X∧0 < d.base
def zbg.post (d:zbg) (k:Nat) (w:World) (e:Ending) (w':World):Prop:=EngPost d.base d.eb d.y d.cm (.slice d.ceo d.cn d.cc) k w e w'
def NoTm (r:Dl.TL):Prop:=Dl.cnt 16 r=0∧Dl.cnt 17 r=0
def zCi (d:zbg) (k:Nat):Prop:=∀ (i:Nat) (s:EngS) (r:Dl.TL) (X:World),i < d.y.en→s.he < 0→0≤s.mo→s.mo < d.y.mn→NoTm r→d.at_ X s r→
 Calls Tryz.prog 124 #[.pointer (some ⟨d.eb,0,none⟩),.int .i64 (i:Nat),.int .u32 0] X (d.post k X)
def OverC (d:zbg) (P:Int→Prop) (k:Nat):Prop:=∀ (s:EngS) (r:Dl.TL) (X:World),P s.he→0≤s.mo→s.mo < d.y.mn→NoTm r→d.at_ X s r→
 Calls Tryz.prog 137 #[.pointer (some ⟨d.eb,0,none⟩),.int .u32 0] X (d.post k X)
def zCh (d:zbg) (P:Int→Prop) (k:Nat):Prop:=∀ (s:EngS) (r:Dl.TL) (X:World),P s.he→0≤s.ed→s.ed < d.y.en→s.op < 4294967296→NoTm r→d.at_ X s r→
 Calls Tryz.prog 136 #[.pointer (some ⟨d.eb,0,none⟩),.int .u32 0] X (d.post k X)
theorem zbg.at_.eng {d:zbg} {X:World} {s:EngS} {r:Dl.TL} (h:d.at_ X s r):zdk X d.base d.eb d.y d.cm (.slice d.ceo d.cn d.cc) s r:=h.1
theorem zbg.at_.env {d:zbg} {X:World} {s:EngS} {r:Dl.TL} (h:d.at_ X s r):Env X d.y d.R d.h d.ceo d.cn d.sp:=h.2.1
theorem zbg.at_.tab {d:zbg} {X:World} {s:EngS} {r:Dl.TL} (h:d.at_ X s r):Tab X:=h.2.2.1
theorem zbg.at_.pos {d:zbg} {X:World} {s:EngS} {r:Dl.TL} (h:d.at_ X s r):0 < d.base:=h.2.2.2
theorem zbd:zpu Dl.TmT:=⟨by unfold Dl.TmT;decide,by unfold Dl.TmT;decide,by unfold Dl.TmT;decide,by unfold Dl.TmT;decide,by unfold Dl.TmT;decide⟩
theorem Env.below {W W':World} {y:Img} {R:Nat→za9} {h:Nat→Nat→Int} {ce:Option Addr} {cn:Nat} {sp:Nat→Nat→Int} (e:Env W y R h ce cn sp) (k:Below W.heap.size W W'):Env W' y R h ce cn sp:=e.keep zb6 (FT.of_below (base:=0) k)
theorem infoNw:(Tryz.prog.info? 263).map (fun i=>(i.zero,i.size,i.bytes))=some (some (.agg #[.bool false,.bool false,.bool false,.int .i64 0,.int .i64 0,.int .i64 0]),6,32):=by kernel_rfl
theorem zz2 (l:List zko):∀ u∈zfe l,u.oneCell'=true:=fun u hu=>by
 obtain⟨x,_,hx⟩:=List.mem_flatMap.1 hu;simp only [zoy,List.mem_cons,List.not_mem_nil,or_false] at hx;rcases hx with rfl|rfl|rfl|rfl|rfl|rfl<;>rfl
theorem za0 {w:World} {ops:Array Oper} {rest:List Oper} {o:Oper} {a:Act} {Q:Exit→Act→World→Prop} (hgd:o.guard=none) (s x:Operand)
  (ho:o.op=.call { callee:=.builtin .append,args:=#[s,x],argTypes:=#[156,156] })
  (B:Nat) (v:Value) (l1:List zko) (hs:a.eval s=v) (hown:w.ownsRow B 263 6 v l1.length (zfe l1)) (B2:Nat) (u:Value) (l2:List zko) (hx:a.eval x=u) (hown2:w.ownsRow B2 263 6 u l2.length (zfe l2))
  (hl:l1.length+l2.length≤10000) (hB:B≤w.heap.size)
  (h:∀ v' w',w'.ownsRow B 263 6 v' (l1 ++ l2).length (zfe (l1 ++ l2))→w.grownBy w' v.ownBlock→wpList Tryz.prog ops Q rest (a.put o.dst v') w'):wpList Tryz.prog ops Q (o :: rest) a w:=by
 obtain⟨i0,hi,hz0,hz1,hz2⟩:=info_parts infoNw;rcases hown2.2 with ⟨rfl,h1⟩|⟨g,cap,cur,rfl,h2,h3,h4⟩
 ·have hl2:l2=[]:=List.eq_nil_of_length_eq_zero h1
  subst hl2;refine wpList_append_own_none hgd s x _ ho B 263 i0 6 Tryz.underlying156 hi v _ _ hs hown hx ?_;exact h v w (by simpa using hown) ⟨rfl,rfl,rfl,Nat.le_refl _,fun _ _ _=>rfl⟩
 ·refine wpList_append_own _ hgd s x _ ho B 263 i0 _ 6 32 Tryz.underlying156 hi hz0 hz1 hz2 rfl (by decide) v _ _ hs hown ⟨g,0,none⟩ l2.length cap (zfe l2) hx (zj9 _) (fun j u hj=>?_) (zz2 _) (by unfold maxLen;omega) (by omega) hB ?_
  ·have hjn:j < l2.length * 6:=by rw [←zj9];exact (List.getElem?_eq_some_iff.1 hj).1
   rw [za8,Nat.zero_add,hown2.cellAt j hjn,hj]
  ·intro v' w' k1 k2 _
   exact h v' w' (by rw [List.length_append,zqx];exact k1) k2
def zxw (cn:Nat) (sp:Nat→Nat→Int) (i:Int):Int:=if 0≤i∧i < cn then sp i.toNat 0 else 0
def zxv (cn:Nat) (sp:Nat→Nat→Int) (i:Int):Int:=if 0≤i∧i < cn then sp i.toNat 1 else 0
def zok (cn:Nat) (i:Int):Bool:=decide (0≤i∧i < cn)
theorem zmk {w X:World} {a b:Int} {ok:Bool} {ac:Act} {R:Ending→World→Prop} (h4:ac.tmps.getD 4 undef=.pointer (some ⟨w.heap.size+1,0,none⟩)) (h5:ac.tmps.getD 5 undef=.bool ok) (hd:ac.defers=[])
  (hS:X.heap[w.heap.size+1]? =some (Obj.cells #[.int .i64 a,.int .i64 b] 154)) (hB:R (.returned (.tuple #[.agg #[.int .i64 a,.int .i64 b],.bool ok])) X):bodyPost Tryz.prog Tryz.f202 R .ret ac X:=by
 refine bodyPost_ret (v:=.tuple #[.agg #[.int .i64 a,.int .i64 b],.bool ok]) ?_ hd hB;rw [results_cell_tmp (p:=4) (u:=5) (ty:=154) rfl,h4,h5];simp [asAddr,run_loadVar_row X (w.heap.size+1) 154 154 _ (0,0) _ hS Tryz.underlying154 rfl (by kernel_rfl),Result.andThen]
set_option maxHeartbeats 1000000 in
theorem zki (ca ce:Option Addr) (cl cb cn cc:Nat) (sp:Nat→Nat→Int) (i:Int) (w:World) (hF:zbj w ce cn 2 sp):
  Calls Tryz.prog 202 #[.agg #[.slice ca cl cb,.slice ce cn cc],.int .i64 i] w fun e w'=>e=.returned (.tuple #[.agg #[.int .i64 (zxw cn sp i),.int .i64 (zxv cn sp i)],.bool (zok cn i)])∧Below w.heap.size w w':=by
 have hb2:=((Below.refl w.heap.size w).alloc (Nat.le_refl _) (Obj.cells #[.slice ca cl cb,.slice ce cn cc] 97)).alloc (by simp) (Obj.cells #[.int .i64 0,.int .i64 0] 154);have bC:=zac (heap_alloc_new w (Obj.cells #[.slice ca cl cb,.slice ce cn cc] 97)) (Obj.cells #[.int .i64 0,.int .i64 0] 154);have bS:=heap_alloc_new (w.alloc (Obj.cells #[.slice ca cl cb,.slice ce cn cc] 97)) (Obj.cells #[.int .i64 0,.int .i64 0] 154);rw [World.size_alloc] at bS;have c1:=zaa bC 1;have n0:=zaa bS 0;have n1:=zaa bS 1;have y0:=zab bS 0;have y1:=zab bS 1;have hz:∀ u v:Value,((w.alloc (Obj.cells #[.slice ca cl cb,.slice ce cn cc] 97)).alloc (Obj.cells #[u,v] 154)).heap[w.heap.size+1]? =some (Obj.cells #[u,v] 154):=fun u v=>by
  have:=heap_alloc_new (w.alloc (Obj.cells #[.slice ca cl cb,.slice ce cn cc] 97)) (Obj.cells #[u,v] 154)
  rwa [World.size_alloc] at this
 have hzb:∀ u v:Value,Below w.heap.size w ((w.alloc (Obj.cells #[.slice ca cl cb,.slice ce cn cc] 97)).alloc (Obj.cells #[u,v] 154)):=fun u v=>((Below.refl w.heap.size w).alloc (Nat.le_refl _) _).alloc (by simp) _;by_cases h0:i < 0
 ·have u1:decide (i < 0)=true:=by simp [h0]
  have e1:zxw cn sp i=0:=if_neg (by omega);have e2:zxv cn sp i=0:=if_neg (by omega);have e3:zok cn i=false:=by unfold zok;simp;omega
  rw [e1,e2,e3];clear e1 e2 e3;go_enter Tryz.func202,Tryz.ntmps202;go_wp2;exact zmk rfl rfl rfl (hz _ _) ⟨rfl,hzb _ _⟩
 have u1:decide (i < 0)=false:=by simp;omega
 by_cases h1:(cn:Int)≤i
 ·have u2:decide ((cn:Int)≤i)=true:=by simp [h1]
  have e1:zxw cn sp i=0:=if_neg (by omega);have e2:zxv cn sp i=0:=if_neg (by omega);have e3:zok cn i=false:=by unfold zok;simp;omega
  rw [e1,e2,e3];clear e1 e2 e3;go_enter Tryz.func202,Tryz.ntmps202;go_wp2;exact zmk rfl rfl rfl (hz _ _) ⟨rfl,hzb _ _⟩
 have u2:decide ((cn:Int)≤i)=false:=by simp;omega
 obtain⟨k,rfl⟩:∃ k:Nat,i=k:=⟨i.toNat,by omega⟩;have e1:zxw cn sp k=sp k 0:=if_pos (by omega);have e2:zxv cn sp k=sp k 1:=if_pos (by omega);have e3:zok cn k=true:=by unfold zok;simp;omega
 rw [e1,e2,e3];obtain⟨b,o,rfl,hc⟩:=(hF.below hb2) k (by omega);have d0:=hc 0 (by decide);have d1:=hc 1 (by decide);rw [Nat.add_zero] at d0;have j0:(0:Int)≤(k:Int):=by omega
 have j1:(k:Int) < (cn:Int):=by omega
 clear hc e1 e2 e3 hF h0 h1;go_enter Tryz.func202,Tryz.ntmps202;go_wp2;exact zmk rfl rfl rfl (hz _ _) ⟨rfl,hzb _ _⟩
theorem zox (w:World) (n:zko) {B:Nat} (hB:B≤w.heap.size):(w.alloc (Obj.cells #[.bool n.bg,.bool n.cm,.bool n.ov,.int .i64 n.ed,.int .i64 n.mo,.int .i64 n.ti] 263)).ownsRow B 263 6 (.slice (some ⟨w.heap.size,0,none⟩) 1 1) 1 (zfe [n]):=by
 have:=World.ownsRow_lit (size:=6) (e:=263) w #[.bool n.bg,.bool n.cm,.bool n.ov,.int .i64 n.ed,.int .i64 n.mo,.int .i64 n.ti] 1 hB (by unfold maxLen;omega) rfl;exact this
end Go.Proofs.YtpbmmoneeoijaaaGreatDoor
namespace Go.Proofs.YtpbmmoneeoijaaaGreatDoor
open Go.RowKit
section
variable {P:Program} {ops:Array Oper}
theorem zir {a:Act} {d:Option Tmp} {v:Value} {t:Tmp} (h:d≠some t):(a.put d v).tmps[t]? =a.tmps[t]?:=by
 cases d with
 |none=>rfl
 |some d=>
  have:d≠t:=fun e=>h (by rw [e]);show (a.tmps.setIfInBounds d v)[t]? =a.tmps[t]?;rw [Array.getElem?_setIfInBounds_ne this]
theorem put_swap {a:Act} {d1 d2:Option Tmp} {u v:Value} (h:∀ d,d1=some d→d2≠some d):(a.put d1 u).put d2 v=(a.put d2 v).put d1 u:=by
 cases d1 with
 |none=>rfl
 |some x=>
  cases d2 with
  |none=>rfl
  |some y=>
   have hne:x≠y:=fun e=>h x rfl (by rw [e]);show ({ a with tmps:=(a.tmps.setIfInBounds x u).setIfInBounds y v }:Act)= { a with tmps:=(a.tmps.setIfInBounds y v).setIfInBounds x u }
   congr 1
   rw [Array.setIfInBounds_comm _ _ hne]
theorem put_dfs {a:Act} {d:Option Tmp} {v:Value} {ds:List Deferred}:({ a with defers:=ds }:Act).put d v= { a.put d v with defers:=ds }:=by
 cases d<;>rfl
theorem zsk {a:Act} {d:Option Tmp} {v:Value}:(a.put d v).defers=a.defers:=by
 cases d<;>rfl
theorem zjg {o:Oper} {a b:Act} {w:World} {K K2:Act→World→Prop} (hs:∀ cs b,o.op≠.select cs b) (hag:∀ t,t∈o.looksAt ops→a.tmps[t]? =b.tmps[t]?) (hdf:b.defers=a.defers)
  (hK:∀ (v:Value) (w':World) (ds:List Deferred),K (({ b with defers:=ds }:Act).put o.dst v) w'→K2 (({ a with defers:=ds }:Act).put o.dst v) w') (h:wpList P ops (only K) [o] b w):wpList P ops (only K2) [o] a w:=by
 have hK0:∀ (v:Value) (w':World),K (b.put o.dst v) w'→K2 (a.put o.dst v) w':=fun v w' hk=>hK v w' a.defers (by
  have e:({ b with defers:=a.defers }:Act)=b:=by rw [←hdf]
  rw [e];exact hk)
 have hwant:=za6 (ops:=ops) hag;have hexec:=zbn (ops:=ops) hs hag;unfold wpList at h ⊢;rw [hwant];by_cases hw:Region.wanted o (yielded ops b.tmps)=true
 ·rw [if_pos hw] at h ⊢
  left;rcases h with h|⟨_,h⟩
  rotate_left
  ·exact (zfd h).elim
  unfold Oper.wp at h ⊢;rw [hexec];generalize (execOp b.eval o).run P w=res at h ⊢
  cases res with
  |ok n w'=>
   cases n with
   |value v=>exact⟨rfl,hK0 _ _ h.2⟩
   |skip=>exact⟨rfl,hK0 _ _ h.2⟩
   |defer d=>
    have e:=h.2;simp only [Oper.upon];refine⟨rfl,hK _ _ _ ?_⟩;rw [←hdf];exact e
   |enter f args=>
    refine Calls.mono h ?_;intro e w'' he
    cases e with
    |returned v=>exact⟨rfl,hK0 _ _ he.2⟩
    |panicked ch=>exact absurd he.1 (by simp)
    |outgrown=>exact (zfd he).elim
   |row row args=>
    refine Rows.mono h ?_;intro v w'' he;exact⟨rfl,hK0 _ _ he.2⟩
   |_=>exact h.elim
  |halt x w'=>
   cases x with
   |panic v=>exact absurd h.1 (by simp)
   |_=>exact h.elim
 ·rw [if_neg hw] at h ⊢
  exact⟨rfl,hK0 _ _ h.2⟩
def StillOf (P:Program) (ops:Array Oper) (C:World→Prop) (o:Oper) (a:Act) (v:Value):Prop:=
 (Region.wanted o (yielded ops a.tmps)=true∧zch P C o a v)∨(Region.wanted o (yielded ops a.tmps)=false∧v=undef)
def zqc (ops:Array Oper) (rem:List Nat) (i:Nat):Bool:=rem.all fun r=>r == i || (match ops[i]?,ops[r]? with
 |some x,some y=>zes i y || (!allB ops r && x.apart ops y)
 |_,_=>false) && (match ops[r]? with|some y=>(match y.op with| .select _ _=>false|_=>true)|none=>false)
theorem zqb {rem:List Nat} {i r:Nat} (h:zqc ops rem i=true):zqc ops (rem.erase r) i=true:=by
 unfold zqc at h ⊢;rw [List.all_eq_true] at h ⊢;exact fun x hx=>h x (List.mem_of_mem_erase hx)
theorem zmy {C:World→Prop} {Q:Act→World→Prop} {i:Nat} {oi:Oper} (hoi:ops[i]? =some oi) (hsi:∀ cs b,oi.op≠.select cs b) (v:Value):
  ∀ (m:Nat) (rem:List Nat) (a:Act) (w:World),rem.length=m+1→i∈rem→zqc ops rem i=true→C w→StillOf P ops C oi a v→wpTs P ops C Q m (rem.erase i) (a.put oi.dst v) w→wpTs P ops C Q (m+1) rem a w:=by
 intro m
 induction m with
 |zero=>
  intro rem a w hl hi hst hC hv H r hr hrdy;have hri:r=i:=by
   cases rem with
   |nil=>cases hi
   |cons x xs=>
    have:xs=[]:=List.eq_nil_of_length_eq_zero (by simpa using hl);subst this;rw [List.mem_singleton] at hr hi;rw [hr,hi]
  subst hri;refine⟨oi,hoi,?_⟩;unfold wpList;rcases hv with ⟨h1,h2⟩|⟨h1,rfl⟩
  ·rw [if_pos h1]
   left;unfold Oper.wp;rw [h2 w hC];exact⟨rfl,.inr hC,H⟩
  ·rw [if_neg (by rw [h1];simp)]
   exact⟨rfl,.inr hC,H⟩
 |succ m ih=>
  intro rem a w hl hi hst hC hv H r hr hrdy;by_cases hri:r=i
  ·subst hri
   refine⟨oi,hoi,?_⟩;unfold wpList;rcases hv with ⟨h1,h2⟩|⟨h1,rfl⟩
   ·rw [if_pos h1]
    left;unfold Oper.wp;rw [h2 w hC];exact⟨rfl,.inr hC,H⟩
   ·rw [if_neg (by rw [h1];simp)]
    exact⟨rfl,.inr hC,H⟩
  ·have hre:r∈rem.erase i:=(List.mem_erase_of_ne hri).2 hr
   have hrdy2:rdyB ops (rem.erase i) r=true:=by
    unfold rdyB at hrdy ⊢;rw [List.all_eq_true] at hrdy ⊢;exact fun x hx=>hrdy x (List.mem_of_mem_erase hx)
   obtain⟨o,ho,hw⟩:=H r hre hrdy2;have hs:=List.all_eq_true.1 hst r hr;have hnw:zes i o=false:=by
    have:=List.all_eq_true.1 hrdy i hi;rw [ho] at this;simpa using this
   simp only [hoi,ho,hnw,Bool.false_or,Bool.and_eq_true,Bool.or_eq_true,Bool.not_eq_true',beq_iff_eq,hri,false_or] at hs;obtain⟨⟨hall,hap⟩,hsel⟩:=hs;have hselr:∀ cs b,o.op≠.select cs b:=fun cs b e=>by rw [e] at hsel;cases hsel
   obtain⟨p1,p2,p3⟩:=Oper.apart_spec hap;refine⟨o,ho,?_⟩;refine zjg hselr (b:=a.put oi.dst v) (fun t ht=>(zir fun e=>p1 t e ht).symm) zsk (fun u w' ds hk=>?_) hw;obtain⟨hc,hk⟩:=hk;have hC':C w':=hc.resolve_left (by rw [hall];simp);refine⟨.inr hC',?_⟩;refine ih (rem.erase r) _ w' (by rw [List.length_erase_of_mem hr,hl];rfl) ((List.mem_erase_of_ne (Ne.symm hri)).2 hi) (zqb hst) hC' ?_ ?_
   ·have hag:∀ t,t∈oi.looksAt ops→(({ a with defers:=ds }:Act).put o.dst u).tmps[t]? =a.tmps[t]?:=fun t ht=>by
     rw [zir fun e=>p3 t e ht]
    have hwant:=za6 (ops:=ops) hag;have hexec:=zbn (ops:=ops) hsi hag;rcases hv with ⟨h1,h2⟩|⟨h1,h2⟩
    ·refine .inl ⟨by rw [hwant];exact h1,fun X hX=>?_⟩
     rw [hexec];exact h2 X hX
    ·exact .inr ⟨by rw [hwant];exact h1,h2⟩
   ·rw [List.erase_comm]
    have e:(({ a.put oi.dst v with defers:=ds }:Act).put o.dst u)=((({ a with defers:=ds }:Act).put o.dst u).put oi.dst v):=by
     rw [←put_dfs];exact (put_swap fun d hd=>p2 d hd)
    rw [←e];exact hk
theorem zaf {C:World→Prop} {Q:Act→World→Prop} {m:Nat} {rem rem1:List Nat} {i:Nat} {o:Oper} {a:Act} {w:World} (hl:rem.length=m+1) (hB:(rem.contains i && zqc ops rem i && (match ops[i]? with|some y=>(match y.op with| .select _ _=>false|_=>true)|none=>false))=true)
  (he:rem.erase i=rem1) (ho:ops[i]? =some o) (hC:C w) (hw:Region.wanted o (yielded ops a.tmps)=true)
  (h:∀ K:Act→Prop,(∀ a',wpTs P ops C Q m rem1 a' w→K a')→∃ v,zch P C o a v∧K (a.put o.dst v)):wpTs P ops C Q (m+1) rem a w:=by
 simp only [Bool.and_eq_true,List.contains_iff_mem] at hB;obtain⟨⟨h1,h2⟩,h3⟩:=hB;obtain⟨v,hv,hk⟩:=h _ fun _ h=>h;subst he;exact zmy ho (fun cs b e=>by rw [ho] at h3;simp only [e] at h3;cases h3) v m rem a w hl h1 h2 hC (.inl ⟨hw,hv⟩) hk
end
end Go.Proofs.YtpbmmoneeoijaaaGreatDoor
namespace Go.Proofs.YtpbmmoneeoijaaaGreatDoor
open Go.RowKit Go.Deep
set_option maxRecDepth 100000
theorem FT.grown {M:TypeId→Prop} {base:Nat} {w w':World} {B s n:Nat} {e:TypeId} {u:Value} {ys:List Value} (ho:w.ownsRow B e s u n ys) (g:w.grownBy w' u.ownBlock) (hM:M e) (hb:base≤B):FT M base w w':=
 FT.of_save (Save.of_grown g) fun k _ hk=>by
  rcases ho.2 with ⟨rfl,_⟩|⟨g1,cap,cur,rfl,h2,h3,_⟩
  ·cases hk
  ·cases hk
   exact⟨Nat.le_trans hb h2,cur,e,h3,hM⟩
theorem FT.then_new {M:TypeId→Prop} {base:Nat} {a b c:World} {S:Nat→Prop} (h:FT M base a b) (k:Save S b c) (hS:∀ i,S i→a.heap.size≤i):FT M base a c:=
 Save.trans h k fun i hi hs=>by have:=hS i hs;omega
theorem zci:¬ Dl.TmT 263:=by unfold Dl.TmT;decide
theorem zdk.ft_set {W:World} {base eb:Nat} {y:Img} {cm ce:Value} {s:EngS} {r:Dl.TL} (h:zdk W base eb y cm ce s r) (j:Nat) (v:Value):FT Dl.TmT base W (W.setCell ⟨eb,j,none⟩ v):=by
 obtain⟨cur,hc⟩:=h.ty;exact FT.set hc (.inr rfl) h.lo v
set_option maxHeartbeats 4000000 in
theorem zzx (d:zbg) (P:Int→Prop) (k:Nat) (hk:k≤1000) (hP:(∀ x,P x→x < 0)∨zCi d k):OverC d P (k+1):=by
 intro s r w hs m0 m1 hr hd;have HE:=hid hd.eng;have HV:=hid hd.env;have HT:=hid hd.tab;have hpos:=hd.pos;have HED:=hid fun (p q:Int) X (hX:Env X d.y d.R d.h d.ceo d.cn d.sp)=>zpl d.y d.h p q X hX.edges (by have:=hX.en;unfold maxLen;omega);have hbw:d.base≤w.heap.size:=by have:=hd.eng.lo;have:=hd.eng.lt;omega
 have c6:=hd.eng.c6;have c7:=hd.eng.c7;obtain⟨mo,ed,ph,si,nw,he,op⟩:=s;dsimp only at hs m0 m1 c6 c7;clear hd;have CC6:=Cls.cell c6;have CC7:=Cls.cell c7;go_enter Tryz.func137,Tryz.ntmps137
 go_upto_region 1 with fail
 refine za5 9 (by kernel_rfl) (by kernel_rfl) (by kernel_rfl) ?_;dsimp only [List.take,List.drop]
 repeat (go_big_quiet_step (fail))
 refine wpQuiet_nil ?_;intro _ hw';obtain⟨nq,rfl⟩:=hw';have hq:=nq.below;have hqs:=hq.size;have E1:=HE.out.below hq;have V1:=HV.out.below hq;have bA:Below nq.wd.heap.size nq.wd (nq.wd.alloc (Obj.cells #[.bool false,.bool false,.bool true,.int .i64 ed,.int .i64 mo,.int .i64 0] 263)):=(Below.refl _ _).alloc (Nat.le_refl _) _;have E2:=E1.below bA;have V2:=V1.below bA;have hO2:=zox nq.wd ⟨false,false,true,ed,mo,0⟩ (B:=w.heap.size) hqs;have bw2:Below w.heap.size w (nq.wd.alloc (Obj.cells #[.bool false,.bool false,.bool true,.int .i64 ed,.int .i64 mo,.int .i64 0] 263)):=hq.trans (bA.mono hqs);obtain⟨W2,hW2⟩:∃ X,X=nq.wd.alloc (Obj.cells #[.bool false,.bool false,.bool true,.int .i64 ed,.int .i64 mo,.int .i64 0] 263):=⟨_,rfl⟩;have c8:=E2.c8;have c7':=E2.c7;have c12:=E2.c12;have f8:=E2.fz 8;have f7:=E2.fz 7;have f12:=E2.fz 12;have HO2:Hid (W2.ownsRow w.heap.size 263 6 (.slice (some ⟨nq.wd.heap.size,0,none⟩) 1 1) 1 (zfe [⟨false,false,true,ed,mo,0⟩])):=by rw [hW2];exact hO2
 clear hO2;rw [←hW2] at E2 V2 bw2 c8 c7' c12 f8 f7 f12
 go_upto_region 2 with fail
 rw [←hW2];clear hW2 CC6 CC7 c6 c7 E1 V1 bA;dsimp only at c8 c7' c12
 go_upto_region 3 with fail
 have Ea:=E2.set (s':=⟨mo,ed,0,si,nw,he,op⟩) (j:=8) (v:=.int .i64 0) (by omega) rfl rfl rfl rfl rfl rfl rfl (by omega);have Eb:=Ea.set (s':=⟨mo,-1,0,si,nw,he,op⟩) (j:=7) (v:=.int .i64 (-1)) (by omega) rfl rfl rfl rfl rfl rfl rfl (by omega);have E3:=Eb.set (s':=⟨mo,-1,0,si,nw,he,0⟩) (j:=12) (v:=.int .u32 0) (by omega) rfl rfl rfl rfl rfl rfl rfl (by omega);have ks:=((E2.ft_set 8 (.int .i64 0)).trans (Ea.ft_set 7 (.int .i64 (-1)))).trans (Eb.ft_set 12 (.int .u32 0));have V3:=V2.keep zbd ks;have HO3:=hid (FT.own ks HO2.out zci);have k3:=(FT.of_below (M:=Dl.TmT) (base:=d.base) bw2).trans ks;obtain⟨W3,hW3⟩:∃ X,X=(((W2.setCell ⟨d.eb,8,none⟩ (.int .i64 0)).setCell ⟨d.eb,7,none⟩ (.int .i64 (-1))).setCell ⟨d.eb,12,none⟩ (.int .u32 0)):=⟨_,rfl⟩;rw [←hW3] at E3 V3 HO3 k3 ⊢;clear hW3 Ea Eb ks V2 E2 HO2 bw2 c8 c7' c12 f8 f7 f12 HE HV hq;have c11:=E3.c11;dsimp only at c11;have HOK:Hid (∀ h',zib d.y ⟨mo,-1,0,si,nw,h',0⟩ r):=fun h'=>⟨m0,m1,.inl rfl,fun h=>absurd rfl h,by show (-1:Int) < _;omega,by show 0 < _;omega,by rw [hr.1];exact Nat.zero_le _,by rw [hr.2];exact Nat.zero_le _⟩;by_cases hh:he < 0
 ·have u1:decide (he < 0)=true:=by simp [hh]
  go_wp2;go_ret;exact⟨_,_,r,rfl,⟨[⟨false,false,true,ed,mo,0⟩],HO3.out,(by intro n hn hc;simp at hn;subst hn;cases hc),by simp⟩,E3,HOK.out _,k3⟩
 ·have u1:decide (he < 0)=false:=by simp;omega
  have hB:=hP.resolve_left fun h=>hh (h _ hs)
  go_upto_region 5 with fail
  refine zah [12,13,14,15,16,17] (fun X=>Below W3.heap.size W3 X) (by kernel_rfl) (by kernel_rfl) (by exact⟨rfl,rfl,rfl,Nat.le_refl _,fun _ _=>rfl⟩) ?_;refine qFs fun K hK=>?_;go_simp;refine⟨_,fun _ _=>rfl,hK _ ?_⟩;clear hK K;refine qFs fun K hK=>?_;go_simp;refine⟨_,fun _ _=>rfl,hK _ ?_⟩;clear hK K;refine qFs fun K hK=>?_;go_simp;refine⟨_,fun _ _=>rfl,hK _ ?_⟩;clear hK K;refine qFs fun K hK=>?_;go_simp;refine⟨.agg #[.int .i64 d.y.r,.slice d.y.ao d.y.n d.y.cap,.slice d.y.mo d.y.mn d.y.mc,.slice d.y.eo d.y.en d.y.ec],fun X hX=>?_,hK _ ?_⟩
  ·have EX:=E3.below hX
   have z0:=EX.c0;have z1:=EX.c1;have z2:=EX.c2;have z3:=EX.c3;go_simp
  clear hK K;refine qFs fun K hK=>?_;go_simp;refine⟨_,fun _ _=>rfl,hK _ ?_⟩;clear hK K;refine qFs fun K hK=>?_;go_simp;refine⟨_,fun _ _=>rfl,hK _ ?_⟩;clear hK K;refine qFs fun K hK=>?_;go_simp;refine⟨_,fun _ _=>rfl,hK _ ?_⟩;clear hK K;refine qFs fun K hK=>?_;go_simp;refine⟨.int .i64 mo,fun X hX=>?_,hK _ ?_⟩
  ·have EX:=E3.below hX
   have z0:=EX.c6;go_simp
  clear hK K;refine qFs fun K hK=>?_;go_simp;refine⟨_,fun _ _=>rfl,hK _ ?_⟩;clear hK K;refine qFs fun K hK=>?_;go_simp;refine⟨_,fun _ _=>rfl,hK _ ?_⟩;clear hK K;refine qFs fun K hK=>?_;go_simp;refine⟨_,fun _ _=>rfl,hK _ ?_⟩;clear hK K;refine qFs fun K hK=>?_;go_simp;refine⟨.int .i64 he,fun X hX=>?_,hK _ ?_⟩
  ·have EX:=E3.below hX
   have z0:=EX.c11;go_simp
  clear hK K;refine qFc ?_;refine qFc ?_;refine qFc ?_;refine qFc ?_;refine qFc ?_;refine qFc ?_;refine zau ?_;have B5:Below W3.heap.size W3 W3.drew:=⟨rfl,rfl,rfl,Nat.le_refl _,fun _ _=>rfl⟩;refine qT1 12 [13,14,15,16,17] fun K hK=>?_
  go_wp2_with fail
  refine (HED.out mo he _ (V3.below B5)).mono ?_;rintro e W7 ⟨i,ok,rfl,hin,hb7⟩;have B7:=B5.trans (hb7.mono B5.size)
  go_wp2_with fail
  refine hK _ _ B7 ?_;clear hK K;refine zaf (m:=4) (i:=13) (rem1:=[14,15,16,17]) rfl (by kernel_rfl) (by rfl) (by rfl) B7 (by rfl) (fun K hK=>?_);go_simp;refine⟨_,fun _ _=>rfl,hK _ ?_⟩;clear hK K;refine zaf (m:=3) (i:=14) (rem1:=[15,16,17]) rfl (by kernel_rfl) (by rfl) (by rfl) B7 (by rfl) (fun K hK=>?_);go_simp;refine⟨_,fun _ _=>rfl,hK _ ?_⟩;clear hK K;refine zaf (m:=2) (i:=15) (rem1:=[16,17]) rfl (by kernel_rfl) (by rfl) (by rfl) B7 (by rfl) (fun K hK=>?_);go_simp;refine⟨_,fun _ _=>rfl,hK _ ?_⟩;clear hK K;refine qT1 16 [17] fun K hK=>?_
  go_wp2_with fail
  refine hK _ _ B7 ?_;clear hK K;refine qT1 17 [] fun K hK=>?_
  go_wp2_with fail
  refine hK _ _ B7 ?_;clear hK K;refine zan ?_;have E7:=E3.below B7;have V7:=V3.below B7;have HO7:=hid (zdd HO3.out B7);have k7:=k3.trans (FT.of_below (M:=Dl.TmT) (base:=d.base) B7);have c11':=E7.c11;have f11:=E7.fz 11;dsimp only at c11';have E8:=E7.set (s':=⟨mo,-1,0,si,nw,-1,0⟩) (j:=11) (v:=.int .i64 (-1)) (by omega) rfl rfl rfl rfl rfl rfl rfl (by omega);have ks:=E7.ft_set 11 (.int .i64 (-1));have V8:=V7.keep zbd ks;have HO8:=hid (FT.own ks HO7.out zci);have k8:=k7.trans ks;clear E3 V3 HO3 k3 c11 hb7 B7 B5;cases ok
  ·go_wp2
   go_ret;exact⟨_,_,r,rfl,⟨[⟨false,false,true,ed,mo,0⟩],HO8.out,(by intro n hn hc;simp at hn;subst hn;cases hc),by simp⟩,E8,HOK.out _,k8⟩
  ·obtain⟨i0,i1,_,_⟩:=hin rfl
   obtain⟨j,rfl⟩:∃ j:Nat,i=j:=⟨i.toNat,by omega⟩
   go_upto_region 9 with fail
   obtain⟨W8,hW8⟩:∃ X,X=W7.setCell ⟨d.eb,11,none⟩ (.int .i64 (-1)):=⟨_,rfl⟩;rw [←hW8] at E8 V8 HO8 k8 ⊢;clear hW8 E7 V7 HO7 k7 c11' f11 ks;have HBE:=hid (hB j ⟨mo,-1,0,si,nw,-1,0⟩ r W8 (by omega) (by show (-1:Int) < 0;omega) m0 m1 hr ⟨E8,V8,HT.out.below (k8.below hbw) hpos,hpos⟩);have hsz:=hid (k8.size)
   go_wp2_with (first|(go_at_call 124;refine HBE.out.mono ?_;rintro e w9 ⟨v9,s9,r9,rfl,⟨l9,o9,n9,q9⟩,E9,K9,F9⟩;have HO9:=hid (FT.own F9 HO8.out zci);have hs9:=hid F9.size)|(at_builtin;refine za0 rfl _ _ rfl w.heap.size _ [⟨false,false,true,ed,mo,0⟩] rfl HO9.out _ _ l9 rfl o9 (by simp;omega) (Nat.le_trans hsz.out hs9.out) ?_;intro v10 w10 h10 g10))
   have b10:=FT.grown (M:=fun t=>t=263) (base:=d.base) HO9.out g10 rfl hbw;have k10:=FT.then_new (k8.trans F9) (Save.of_grown g10) fun x hx=>(HO9.out.lt x hx).1;go_ret;exact⟨v10,s9,r9,rfl,⟨_,h10,(by
    intro n hn hc;rcases List.mem_append.1 hn with hn|hn
    ·simp at hn;subst hn;cases hc
    ·exact n9 n hn hc),by rw [List.length_append];simp;omega⟩,E9.keep b10 (by decide) (by decide),K9,k10⟩
end Go.Proofs.YtpbmmoneeoijaaaGreatDoor
