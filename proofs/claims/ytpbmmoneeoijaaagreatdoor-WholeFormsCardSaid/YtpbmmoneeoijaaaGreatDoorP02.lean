/-
  A part of the proof: DemandSum Totals Task Save MaskAll RowS RowT ImgIn Str.
-/
import Derived.Test.YtpbmmoneeoijaaaGreatDoorP01
import Derived.Laws.Rows
import Derived.Deep.Slices
import Derived.Deep.Fields
import Derived.ChangeSame
namespace Go.Proofs.YtpbmmoneeoijaaaGreatDoor
open Go.RowKit Go.Shelf
attribute [local go_sem] Oper.semAt_some
structure TT where
 p:Int
 c:Int
 o:Int
 k:Int
def zu3 (w:World) (ao:Option Addr) (n:Nat) (f:Nat→TT):Prop:=∀ i,i < n→∃ b o,ao=some ⟨b,o,none⟩∧w.cell? ⟨b,o+i * 4,none⟩=some (qI (f i).p)∧w.cell? ⟨b,o+i * 4+1,none⟩=some (qI (f i).c)∧w.cell? ⟨b,o+i * 4+2,none⟩=some (qI (f i).o)∧w.cell? ⟨b,o+i * 4+3,none⟩=some (qI (f i).k)
theorem zu3.below {w w':World} {ao:Option Addr} {n:Nat} {f:Nat→TT} (h:zu3 w ao n f) (hb:Below w.heap.size w w'):zu3 w' ao n f:=fun i hi=>by
 obtain⟨b,o,e,h0,h1,h2,h3⟩:=h i hi;exact⟨b,o,e,kept h0 hb,kept h1 hb,kept h2 hb,kept h3 hb⟩
def wkOf (t:Int) (x:TT):Int:=if (zvc x.p x.c x.o x.k t).2 then (zvc x.p x.c x.o x.k t).1 else -1
def upto (t:Int) (f:Nat→TT) (k:Nat):List Int:=(List.range k).map fun i=>wkOf t (f i)
theorem zs9 (t:Int) (f:Nat→TT) (k:Nat):upto t f (k+1)=upto t f k ++ [wkOf t (f k)]:=by simp [upto,List.range_succ]
theorem zvg (t:Int) (f:Nat→TT) (k:Nat):(upto t f k).length=k:=by simp [upto]
theorem zvf (t:Int) (f:Nat→TT) {k n:Nat} (h:k≤n):upto t f k <+:upto t f n:=by
 induction n with
 |zero=>
      obtain rfl:k=0:=by omega
      exact List.prefix_refl _
 |succ n ih=>
  by_cases hk:k=n+1
  ·subst hk;exact List.prefix_refl _
  ·exact (ih (by omega)).trans (by rw [zs9];exact List.prefix_append _ _)
theorem zg3 {w w':World} (h:Below w.heap.size w w'):w.grownBy w' none:=⟨h.os,h.tape,h.output,h.size,fun k hk _=>h.block k hk⟩
set_option maxRecDepth 100000 in
set_option maxHeartbeats 2000000 in
theorem zCq (m:Nat) (hm:3≤m) (ao:Option Addr) (n cap:Nat) (f:Nat→TT) (t:Int) (w:World) (hn:n≤100) (Bl Bt:Nat) (hl:w.cell? ⟨Bl,0,none⟩=some (.slice ao n cap)) (ht:w.cell? ⟨Bt,0,none⟩=some (qI t)) (hT:zu3 w ao n f):
  SeqStopsK Fence.wide m Tryz.prog 316 #[qP Bl,qP Bt] (fun x:Int=>#[qI x]) (Below w.heap.size) (fun ys=>ys=upto t f n) (fun pre=>pre <+:upto t f n) n w:=by
 intro l J Jx W hW hJ hJx hY h0;refine callsIn_of_wp Tryz.func316 rfl trivial ?_ rfl;simp only [Tryz.ntmps316,qPr,Nat.reduceAdd,Nat.reduceSub];have h1:1≤m:=by omega
 have hl':=kept hl hW;have ht':=kept ht hW
 gi_wp2
 gi_loopw [6,7,10] (fun _ _ i wr=>∃ k:Nat,k≤n∧i=qI k∧J (upto t f k) wr∧Below w.heap.size w wr∧W.heap.size≤wr.heap.size) (fun _ _ i _=>n - (intOf i).toNat)
 case atStart=>exact⟨0,Nat.zero_le _,rfl,h0,hW,Nat.le_refl _⟩
 case round=>
  obtain⟨k,hk,rfl,hJs,hnx,hsz⟩:=hrel;by_cases hlt:k < n
  ·obtain⟨b,o,rfl,c0,c1,c2,c3⟩:=hT.below hnx k hlt
   have ht2:=kept ht hnx;have hbl:b < w.heap.size:=by
    obtain⟨b',o',e,x,_⟩:=hT k hlt;cases e;exact zcr x
   have ht3:∀ o,(wr.alloc o).cell? ⟨Bt,0,none⟩=some (qI t):=fun o=>zcs o ht2;have hW2:=hid (work_any (f k).p (f k).c (f k).o (f k).k t);have hwk:=hid (show wkOf t (f k)=if (zvc (f k).p (f k).c (f k).o (f k).k t).2 then (zvc (f k).p (f k).c (f k).o (f k).k t).1 else -1 from rfl);obtain⟨⟨v,ok⟩,hx⟩:∃ y,zvc (f k).p (f k).c (f k).o (f k).k t=y:=⟨_,rfl⟩;rw [hx] at hW2 hwk;cases ok
   all_goals
    gi_wp2_with (refine⟨trivial,?_⟩;gi_at_call 317;refine (callsIn_wide.2 (hW2.out _)).mono ?_;rintro e w2 ⟨rfl,hb2⟩;have hb3:=(qBr (w:=wr) (qC #[qI (f k).p,qI (f k).c,qI (f k).o,qI (f k).k] 361)).trans (hb2.mono (by simp));obtain⟨fn,tmps,assign,body,hy,hR⟩:=hY _ (wkOf t (f k)) w2 (hJ _ _ _ none hJs (zg3 hb3) (fun r e=>by cases e)) (by rw [zvg];exact hlt);rw [hwk.out] at hy hR;simp only [if_true,Bool.false_eq_true,if_false] at hy hR)
    refine hR.mono ?_;have hs:=zs9 t f k;rw [hwk.out] at hs;simp only [if_true,Bool.false_eq_true,if_false] at hs;have HS:=hid hs;have HP:=hid (zvf t f (show k+1≤n by omega));clear hs;rintro e W3 (⟨rfl,hJ3,hk3⟩|⟨rfl,hJx3⟩)
    ·gi_wp2
     go_roundw
     case rel=>exact⟨k+1,by omega,by simp,by rw [HS.out];exact hJ3,(hnx.trans (hb3.mono hnx.size)).trans hk3,Nat.le_trans hsz (Nat.le_trans hb3.size hk3.size)⟩
     case measure=>simp [intOf];omega
    ·gi_wp2
     refine bodyPost_ret (results_none rfl _ _ _) rfl ?_;exact⟨⟨_,rfl⟩,.inr ⟨_,by rw [←HS.out];exact HP.out,hJx3⟩⟩
  ·obtain rfl:k=n:=by omega
   gi_wp2
   go_end0
   exact⟨⟨_,rfl⟩,.inl ⟨_,rfl,hJs⟩⟩
theorem zCp (ao:Option Addr) (n cap:Nat) (t:Int) (w:World):Calls Tryz.prog 313 #[qI t,.slice ao n cap] w fun e w'=>e=.returned (.func (.func 316) #[] #[qP (w.heap.size+1),qP w.heap.size])∧(w.alloc (.cells #[qI t] 3)).alloc (.cells #[.slice ao n cap] 357)=w':=by
 go_enter Tryz.func313,Tryz.ntmps313;go_wp2;go_ret;exact⟨rfl,rfl⟩
def allR (t:Int) (f:Nat→TT) (n:Nat):Int×Bool:=rSum (upto t f n)
theorem zp9 (ao:Option Addr) (n cap:Nat) (f:Nat→TT) (t:Int) (w:World) (hn:n≤100) (hT:zu3 w ao n f):
  Calls Tryz.prog 305 #[qI t,.slice ao n cap] w fun e w'=>e=.returned (rv (allR t f n))∧Below w.heap.size w w':=by
 have hb:Below w.heap.size w ((w.alloc (.cells #[qI t] 3)).alloc (.cells #[.slice ao n cap] 357)):=(qBr _).alloc (by simp) _;have c0:=zba w (qI t) 3;have c1:=zba (w.alloc (.cells #[qI t] 3)) (.slice ao n cap) 357;simp only [World.size_alloc] at c1;have hseq:=zCq 9 (by omega) ao n cap f t ((w.alloc (.cells #[qI t] 3)).alloc (.cells #[.slice ao n cap] 357)) hn (w.heap.size+1) w.heap.size c1.1 (zcs _ c0.1) (hT.below hb);have hsum:=sum_in 10 (by omega) 316 _ (upto t f n) n _ (enters_of Tryz.func316 (by kernel_rfl) rfl) hseq;have HS:=hid hsum;clear hseq hsum c0 c1;unfold allR;generalize rSum (upto t f n)=r at HS;obtain⟨r1,r2⟩:=r;go_enter Tryz.func305,Tryz.ntmps305
 go_wp2_with (first|(go_at_call 313;refine (zCp _ _ _ _ _).mono ?_;rintro e w1 ⟨rfl,rfl⟩)|(go_at_call 312;refine HS.out.mono ?_;rintro e w2 ⟨rfl,hb2⟩))
 go_ret2;exact⟨rfl,hb.trans (hb2.mono hb.size)⟩
end Go.Proofs.YtpbmmoneeoijaaaGreatDoor
namespace Go.Proofs.YtpbmmoneeoijaaaGreatDoor
open Go.RowKit
structure Fit (x:TT):Prop where
 p1:1≤x.p
 p2:x.p≤1099511627776
 c1:0≤x.c
 c2:x.c≤100000
 o1:0≤x.o
 o2:x.o≤100000
 k1:0≤x.k
 k2:x.k≤100000
def zev (w:World) (ao:Option Addr) (n:Nat) (g:Nat→Nat→Int):Prop:=∀ i,i < n→∃ b o,ao=some ⟨b,o,none⟩∧∀ j,j < 11→w.cell? ⟨b,o+i * 11+j,none⟩=some (qI (g i j))
theorem zev.below {w w':World} {ao:Option Addr} {n:Nat} {g:Nat→Nat→Int} (h:zev w ao n g) (hb:Below w.heap.size w w'):zev w' ao n g:=fun i hi=>by
 obtain⟨b,o,e,hc⟩:=h i hi;exact⟨b,o,e,fun j hj=>kept (hc j hj) hb⟩
theorem zev.at_ {w:World} {b o n:Nat} {g:Nat→Nat→Int} (h:zev w (some ⟨b,o,none⟩) n g) {i:Nat} (hi:i < n):
  (w.cell? ⟨b,o+i * 11,none⟩=some (qI (g i 0))∧w.cell? ⟨b,o+i * 11+1,none⟩=some (qI (g i 1))∧w.cell? ⟨b,o+i * 11+2,none⟩=some (qI (g i 2))∧w.cell? ⟨b,o+i * 11+3,none⟩=some (qI (g i 3)))∧
  (w.cell? ⟨b,o+i * 11+4,none⟩=some (qI (g i 4))∧w.cell? ⟨b,o+i * 11+5,none⟩=some (qI (g i 5))∧w.cell? ⟨b,o+i * 11+6,none⟩=some (qI (g i 6))∧w.cell? ⟨b,o+i * 11+7,none⟩=some (qI (g i 7)))∧
  (w.cell? ⟨b,o+i * 11+8,none⟩=some (qI (g i 8))∧w.cell? ⟨b,o+i * 11+9,none⟩=some (qI (g i 9))∧w.cell? ⟨b,o+i * 11+10,none⟩=some (qI (g i 10))):=by
 obtain⟨b',o',e,hc⟩:=h i hi;cases e;exact⟨⟨hc 0 (by decide),hc 1 (by decide),hc 2 (by decide),hc 3 (by decide)⟩,⟨hc 4 (by decide),hc 5 (by decide),hc 6 (by decide),hc 7 (by decide)⟩,hc 8 (by decide),hc 9 (by decide),hc 10 (by decide)⟩
theorem zev.form {w:World} {ao:Option Addr} {n:Nat} {g:Nat→Nat→Int} (h:zev w ao n g) {i:Nat} (hi:i < n):∃ b o,ao=some ⟨b,o,none⟩∧b < w.heap.size:=by
 obtain⟨b,o,e,hc⟩:=h i hi;exact⟨b,o,e,zcr (hc 0 (by decide))⟩
@[go_sem] def tv (x:Nat→Int):Value:=.agg (qF11 x)
theorem of_any (x:Nat→Int) (o:Int) (w:World):Calls Tryz.prog 276 #[tv x,qI o] w fun e w'=>e=.returned (.agg #[qI (x 0),qI (x 2),qI o,qI 0])∧Below w.heap.size w w':=by
 unfold tv;go_enter Tryz.func276,Tryz.ntmps276;go_wp2;exact bodyPost_ret (v:=.agg #[qI (x 0),qI (x 2),qI o,qI 0]) (by simp [results,Tryz.results276,go_sem]) rfl ⟨rfl,((qBr (w:=w) _).alloc (by simp) _)⟩
structure Save (S:Nat→Prop) (w w':World):Prop where
 os:w'.os=w.os
 tape:w'.tape=w.tape
 output:w'.output=w.output
 size:w.heap.size≤w'.heap.size
 block:∀ k,k < w.heap.size→¬ S k→w'.heap[k]? =w.heap[k]?
theorem Save.refl (S:Nat→Prop) (w:World):Save S w w:=⟨rfl,rfl,rfl,Nat.le_refl _,fun _ _ _=>rfl⟩
theorem Save.trans {S S':Nat→Prop} {a b c:World} (h:Save S a b) (k:Save S' b c) (hs:∀ i,i < a.heap.size→S' i→S i):Save S a c:=
 ⟨k.os.trans h.os,k.tape.trans h.tape,k.output.trans h.output,Nat.le_trans h.size k.size,fun i hi hn=>(k.block i (Nat.lt_of_lt_of_le hi h.size) fun hb=>hn (hs i hi hb)).trans (h.block i hi hn)⟩
theorem Save.mono {S S':Nat→Prop} {w w':World} (h:Save S w w') (hs:∀ k,S k→S' k):Save S' w w':=⟨h.os,h.tape,h.output,h.size,fun k hk hn=>h.block k hk fun hS=>hn (hs k hS)⟩
theorem Save.of_grown {w w':World} {row:Option Nat} (h:w.grownBy w' row):Save (fun k=>row=some k) w w':=⟨h.os,h.tape,h.output,h.size,fun k hk hn=>h.block k hk fun e=>hn e.symm⟩
theorem Save.alloc (w:World) (o:Obj):Save (fun _=>False) w (w.alloc o):=⟨rfl,rfl,rfl,by simp,fun k hk _=>Below.heap_alloc w o k hk⟩
theorem Save.set (w:World) (b i:Nat) (v:Value):Save (fun k=>k=b) w (w.setCell ⟨b,i,none⟩ v):=⟨rfl,rfl,rfl,by simp [World.setCell],fun k _ hn=>Below.heap_setCell _ _ _ _ hn⟩
theorem Save.of_below {w w':World} (h:Below w.heap.size w w') (S:Nat→Prop):Save S w w':=⟨h.os,h.tape,h.output,h.size,fun k hk _=>h.block k hk⟩
theorem Save.below {S:Nat→Prop} {B:Nat} {w0 w w':World} (h:Save S w w') (hb:Below B w0 w) (hB:B≤w.heap.size) (hs:∀ k,S k→B≤k):Below B w0 w':=
 hb.trans ⟨h.os,h.tape,h.output,h.size,fun k hk=>h.block k (by omega) fun hn=>by have:=hs k hn;omega⟩
theorem zaa {W:World} {b:Nat} {a:Array Value} {t:TypeId} (h:W.heap[b]? =some (.cells a t (0,0))) (i:Nat):W.cell? ⟨b,i,none⟩=a[i]?:=by simp [World.cell?,h]
theorem zab {W:World} {b:Nat} {a:Array Value} {t:TypeId} (h:W.heap[b]? =some (.cells a t (0,0))) (i:Nat):W.frozen? ⟨b,i,none⟩=false:=by simp [World.frozen?,h]
theorem zap {S:Nat→Prop} {W W':World} {b:Nat} {o:Obj} (h:W.heap[b]? =some o) (hs:Save S W W') (hn:¬ S b):W'.heap[b]? =some o:=(hs.block b (qLt h) hn).trans h
end Go.Proofs.YtpbmmoneeoijaaaGreatDoor
namespace Go.Proofs.YtpbmmoneeoijaaaGreatDoor
open Go.RowKit Go.Shelf
theorem zdk (s:Nat) (w:World):Calls Tryz.prog 159 #[qU s] w fun e w'=>e=.returned (.func (.func 221) #[] #[qP w.heap.size])∧w'=w.alloc (.cells #[qU s] 140):=by
 go_enter Tryz.func159,Tryz.ntmps159;go_wp2;go_ret;exact⟨rfl,rfl⟩
theorem bit_quot (s i:Nat):((s / 2 ^ i % 2:Nat) == 1)=s.testBit i:=by
 simp [Nat.testBit,Nat.shiftRight_eq_div_pow]
theorem zuf (s:Nat) (i:Nat) (hi:i < maxLen) (w:World):Calls Tryz.prog 85 #[qU s,qI i] w fun e w'=>e=.returned (.bool (decide (i < 32) && s.testBit i))∧w'=w:=by
 unfold maxLen at hi;by_cases h:i < 32
 ·have t1:decide ((0:Int)≤(i:Int))=true:=by simp
  have t2:decide ((i:Int) < 32)=true:=by simp;omega
  go_enter Tryz.func85,Tryz.ntmps85;go_wp2;go_ret;refine⟨?_,rfl⟩;rw [←bit_quot s i];have e:(((s:Int) / 2 ^ i).tmod 2 == 1)=(s / 2 ^ i % 2 == 1):=by
   rw [show (s:Int) / 2 ^ i=((s / 2 ^ i:Nat):Int) by push_cast;rfl];generalize s / 2 ^ i=q;rw [Int.tmod_eq_emod_of_nonneg (by omega),show (q:Int) % 2=((q % 2:Nat):Int) by omega];generalize q % 2=y;by_cases hy:y=1
   ·subst hy;rfl
   ·have h1:(y == 1)=false:=by simp [hy]
    rw [h1];simp;omega
  rw [e];simp [h]
 ·have t2:decide ((i:Int) < 32)=false:=by simp;omega
  go_enter Tryz.func85,Tryz.ntmps85;go_wp2;go_ret;exact⟨by simp [h],rfl⟩
structure Img where
 r:Int
 ao:Option Addr
 n:Nat
 cap:Nat
 mo:Option Addr
 mn:Nat
 mc:Nat
 eo:Option Addr
 en:Nat
 ec:Nat
@[go_sem] def iv (x:Img):Value:=.agg #[qI x.r,.slice x.ao x.n x.cap,.slice x.mo x.mn x.mc,.slice x.eo x.en x.ec]
@[go_sem] def zi8 (x:Img):Obj:=.cells #[qI x.r,.slice x.ao x.n x.cap,.slice x.mo x.mn x.mc,.slice x.eo x.en x.ec] 26
structure zas where
 t:Nat
 qo:Option Addr
 qn:Nat
 qc:Nat
def zcu (w:World) (mo:Option Addr) (mn:Nat) (M:Nat→zas):Prop:=∀ i,i < mn→∃ b o,mo=some ⟨b,o,none⟩∧w.cell? ⟨b,o+i * 2,none⟩=some (qU (M i).t)∧w.cell? ⟨b,o+i * 2+1,none⟩=some (.slice (M i).qo (M i).qn (M i).qc)
theorem zcu.below {w w':World} {mo:Option Addr} {mn:Nat} {M:Nat→zas} (h:zcu w mo mn M) (hb:Below w.heap.size w w'):zcu w' mo mn M:=fun i hi=>by
 obtain⟨b,o,e,h1,h2⟩:=h i hi;exact⟨b,o,e,kept h1 hb,kept h2 hb⟩
set_option maxRecDepth 100000 in
set_option maxHeartbeats 1000000 in
theorem zwm (x:Img) (M:Nat→zas) (w:World) (hmx:x.mn≤maxLen) (hM:zcu w x.mo x.mn M):
  Calls Tryz.prog 26 #[iv x] w fun e w'=>∃ r:Bool,e=.returned (.bool r)∧(r=false→x.n≤40∧x.mn≤20∧x.en≤60∧∀ i,i < x.mn→(M i).qn≤20)∧Below w.heap.size w w':=by
 obtain⟨r,ao,n,cap,mo,mn,mc,eo,en,ec⟩:=x;unfold iv;dsimp only at hmx hM ⊢;have hb:=qBr (w:=w) (qC #[qI r,.slice ao n cap,.slice mo mn mc,.slice eo en ec] 26);have hblk:(w.alloc (qC #[qI r,.slice ao n cap,.slice mo mn mc,.slice eo en ec] 26)).heap[w.heap.size]? =some (qC #[qI r,.slice ao n cap,.slice mo mn mc,.slice eo en ec] 26):=heap_alloc_new w _;have c1:=zaa hblk 1;have c2:=zaa hblk 2;have c3:=zaa hblk 3;have HB:=hid hb;have HBLK:=hid hblk;have HM:=hid hM;have HA0:Hid (∀ i,i < 0→(M i).qn≤20):=fun i hi=>by omega
 clear hb hblk hM;by_cases h1:n≤40
 ·have t1:decide ((40:Int) < (n:Int))=false:=by simp;omega
  by_cases h2:mn≤20
  ·have t2:decide ((20:Int) < (mn:Int))=false:=by simp;omega
   by_cases h3:en≤60
   ·have t3:decide ((60:Int) < (en:Int))=false:=by simp;omega
    go_enter Tryz.func26,Tryz.ntmps26;go_wp2;obtain⟨W0,hW0⟩:∃ W,W=(w.alloc (qC #[qI r,.slice ao n cap,.slice mo mn mc,.slice eo en ec] 26)):=⟨_,rfl⟩;rw [←hW0] at HB HBLK ⊢;clear hW0 c1 c2 c3
    go_loopw [3] (fun i_ wr=>∃ i:Nat,i≤mn∧i_=qI i∧Hid (∀ j,j < i→(M j).qn≤20)∧W0=wr) (fun i_ _=>mn - (intOf i_).toNat)
    case atStart=>exact⟨0,by omega,rfl,HA0,rfl⟩
    case round=>
     clear HA0;obtain⟨i,hi,rfl,HA,rfl⟩:=hrel;have c2:=zaa HBLK.out 2;by_cases hlt:i < mn
     ·have t0:decide ((i:Int) < (mn:Int))=true:=by simp;omega
      obtain⟨b,o,rfl,_,h5⟩:=(HM.out.below HB.out) i hlt;have i0':(0:Int)≤(i:Int):=by omega
      have i1:(i:Int) < (mn:Int):=by omega
      have HA2:Hid ((M i).qn≤20→∀ j,j < i+1→(M j).qn≤20):=fun h j hj=>by
       rcases (show j < i∨j=i by omega) with h1|rfl
       ·exact HA.out j h1
       ·exact h
      generalize (M i).qn=len at h5 HA2;by_cases h6:len≤20
      ·have t4:decide ((20:Int) < (len:Int))=false:=by simp;omega
       have HA3:=hid (HA2.out h6);go_wp2;go_roundw
       case rel=>exact⟨i+1,by omega,by go_num,HA3,trivial⟩
       case measure=>simp [intOf];omega
      ·have t4:decide ((20:Int) < (len:Int))=true:=by simp;omega
       go_wp2;go_ret;exact⟨true,rfl,by simp,HB.out⟩
     ·obtain rfl:i=mn:=by omega
      have t0:decide ((i:Int) < (i:Int))=false:=by simp
      go_wp2;go_ret;exact⟨false,rfl,fun _=>⟨h1,h2,h3,HA.out⟩,HB.out⟩
   ·have t3:decide ((60:Int) < (en:Int))=true:=by simp;omega
    go_enter Tryz.func26,Tryz.ntmps26;go_wp2;go_ret;exact⟨true,rfl,by simp,HB.out⟩
  ·have t2:decide ((20:Int) < (mn:Int))=true:=by simp;omega
   go_enter Tryz.func26,Tryz.ntmps26;go_wp2;go_ret;exact⟨true,rfl,by simp,HB.out⟩
 ·have t1:decide ((40:Int) < (n:Int))=true:=by simp;omega
  go_enter Tryz.func26,Tryz.ntmps26;go_wp2;go_ret;exact⟨true,rfl,by simp,HB.out⟩
end Go.Proofs.YtpbmmoneeoijaaaGreatDoor
namespace Go.Proofs.YtpbmmoneeoijaaaGreatDoor
open Go.RowKit Go.ChangeShapes Go.WideShapes Go.Deep
section
variable {H:Type} {enc:TypeId×Value→H} {P:Program} {w:World}
theorem zrh {a:Addr} {v:Value} (h:w.cell? a=some v):a=⟨a.block,a.off,none⟩:=by
 obtain⟨b,o,s⟩:=a
 cases s with
 |none=>rfl
 |some s=>
  exfalso;unfold World.cell? at h
  split at h
  ·simp at h
  ·cases h
end
section
def Flat (P:Program) (t:TypeId):Prop:=∀ (H:Type) (enc:TypeId×Value→H) (w:World) (base:Nat) (spare:Nat→Bool) (held:Bool) (fuel:Nat) (cs:List Value) (x:DataW H×List MemPlace),
 DataW.trod enc P w base spare held fuel t cs=some x→cs.length=P.cellsOf t∧∀ (j:Nat),j < P.cellsOf t→∃ z,cs[j]? =some (qI z)∧(Lit.int .i64 z).wf=true
theorem zft {P:Program} {t:TypeId} (ht:P.underlying t=some (.int .i64)) (hc:P.cellsOf t=1):Flat P t:=fun H enc w base spare held fuel cs x h=>by
 obtain⟨n,rfl,_,hw⟩:=DataW.trod_int ht h;refine⟨by rw [hc];rfl,fun j hj=>?_⟩;obtain rfl:j=0:=by omega
 exact⟨n,rfl,hw⟩
theorem zlj {l:List Value} {a m j:Nat} (h1:a≤j) (h2:j < a+m):((l.drop a).take m)[j - a]? =l[j]?:=by
 rw [List.getElem?_take,if_pos (by omega),List.getElem?_drop,show a+(j - a)=j by omega]
theorem zk8 {P:Program} {t e:TypeId} {n:Nat} (ht:P.underlying t=some (.array n e)) (he:Flat P e) (hc:P.cellsOf e=1) (hn:P.cellsOf t=n):Flat P t:=fun H enc w base spare held fuel cs x h=>by
 obtain⟨xs,m,_,_,hl,hxl,hg⟩:=DataW.trod_array ht h;refine⟨hl,fun j hj=>?_⟩;have h1:=hg j (by omega);rw [List.getElem?_eq_getElem (by omega),hc] at h1;obtain⟨_,h2⟩:=he _ _ _ _ _ _ _ _ _ h1;obtain⟨z,hz,hw⟩:=h2 0 (by omega);have h3:=zlj (l:=cs) (a:=j * 1) (m:=1) (j:=j) (by omega) (by omega);rw [show j - j * 1=0 by omega] at h3;exact⟨z,h3.symm.trans hz,hw⟩
theorem zja {P:Program} {t:TypeId} {fs:Array Field} (ht:P.underlying t=some (.struct fs)) (hf:∀ (i:Nat) (f:Field),fs[i]? =some f→Flat P f.type)
  (hcov:∀ j,j < P.cellsOf t→∃ (i:Nat) (f:Field),fs[i]? =some f∧f.offset≤j∧j < f.offset+P.cellsOf f.type):Flat P t:=fun H enc w base spare held fuel cs x h=>by
 obtain⟨xs,m,_,_,hl,hxl,hg⟩:=DataW.trod_struct ht h;refine⟨hl,fun j hj=>?_⟩;obtain⟨i,f,hi,h1,h2⟩:=hcov j hj;have hlt:i < fs.size:=(qLt hi);have h3:=hg i f hi;rw [List.getElem?_eq_getElem (by omega)] at h3;obtain⟨_,h4⟩:=hf i f hi _ _ _ _ _ _ _ _ _ h3;obtain⟨z,hz,hw⟩:=h4 (j - f.offset) (by omega);exact⟨z,(zlj h1 h2).symm.trans hz,hw⟩
end
section
variable {H:Type} {enc:TypeId×Value→H} {P:Program} {w:World}
theorem zgv {t e:TypeId} {K:Nat} {ao:Option Addr} {n cap:Nat} {d:DataW H} {p:List MemPlace} (ht:P.underlying t=some (.slice e)) (he:Flat P e)
  (hC:P.cellsOf e=K) (hpos:0 < K)
  (h:DataW.Trod enc P w 0 (fun _=>true) true t (.slice ao n cap) d p):
  (∃ g:Nat→Nat→Int,(∀ i,i < n→∃ b o,ao=some ⟨b,o,none⟩∧∀ j,j < K→w.cell? ⟨b,o+i * K+j,none⟩=some (qI (g i j)))∧(∀ i j,(Lit.int .i64 (g i j)).wf=true))∧n≤maxLen∧(n≤cap∧cap≤maxLen):=by
 obtain⟨fuel,hf⟩:=h;rcases open_slice ht hf with ⟨hcs,_⟩|⟨a,len,cap',m,k,D,Pl,hcs,_,hl,hm,hmm,_,hi⟩
 ·simp [Value.cells] at hcs
  obtain⟨rfl,rfl,rfl⟩:=hcs;exact⟨⟨fun _ _=>0,fun i hi=>by omega,fun _ _=>by show (Lit.int .i64 0).wf=true;decide⟩,by unfold maxLen;omega,by omega,by unfold maxLen;omega⟩
 ·simp [Value.cells] at hcs
  obtain⟨rfl,rfl,rfl⟩:=hcs;simp only [if_true] at hmm;refine⟨?_,by omega,hl,hm⟩;have key:∀ i,i < n→∀ j,j < K→∃ z,w.cell? ((a.add (i * K)).add j)=some (qI z)∧(Lit.int .i64 z).wf=true:=fun i him j hj=>by
   obtain⟨cs',hc,ht'⟩:=hi i (by omega);rw [hC] at hc;obtain⟨hlen,hg⟩:=he _ _ _ _ _ _ _ _ _ ht';obtain⟨_,hcl,hat⟩:=World.cells?_some hc;obtain⟨z,hz,hw⟩:=hg j (by omega);exact⟨z,(hat j (by omega)).trans hz,hw⟩
  refine⟨fun i j=>if h:i < n∧j < K then (key i h.1 j h.2).choose else 0,fun i him=>?_,fun i j=>?_⟩
  ·have hp:a=⟨a.block,a.off,none⟩:=by
    obtain⟨z,hz,_⟩:=key 0 (by omega) 0 hpos;rw [Nat.zero_mul,Addr.add_zero',Addr.add_zero'] at hz;exact zrh hz
   refine⟨a.block,a.off,by rw [←hp],fun j hj=>?_⟩;have h1:=(key i him j hj).choose_spec.1;show _=some (qI (if h:i < n∧j < K then (key i h.1 j h.2).choose else 0));rw [dif_pos ⟨him,hj⟩];generalize (key i him j hj).choose=z at h1 ⊢;rw [hp,zbn,zbn] at h1;exact h1
  ·by_cases h:i < n∧j < K
   ·simp only [h,and_self,dif_pos]
    exact (key i h.1 j h.2).choose_spec.2
   ·simp only [h,dif_neg,not_false_eq_true]
    decide
end
set_option maxRecDepth 100000 in
theorem zDw:Flat Tryz.prog 165:=zja Tryz.underlying165 (by
  intro i f hi;rcases i with _|_|_|_|i
  all_goals first|(simp at hi;done)|(simp at hi;subst hi;first|exact zft Tryz.underlying3 (by kernel_rfl)|exact zk8 Tryz.underlying56 (zft Tryz.underlying3 (by kernel_rfl)) (by kernel_rfl) (by kernel_rfl))) (by
  intro j hj;rw [show Tryz.prog.cellsOf 165=11 by kernel_rfl] at hj;have c1:Tryz.prog.cellsOf 3=1:=by kernel_rfl
  have c8:Tryz.prog.cellsOf 56=8:=by kernel_rfl
  rcases j with _|_|_|j
  ·exact⟨0,_,rfl,by show 0≤0;omega,by show 0 < 0+Tryz.prog.cellsOf 3;omega⟩
  ·exact⟨1,_,rfl,by show 1≤1;omega,by show 1 < 1+Tryz.prog.cellsOf 3;omega⟩
  ·exact⟨2,_,rfl,by show 2≤2;omega,by show 2 < 2+Tryz.prog.cellsOf 3;omega⟩
  ·exact⟨3,_,rfl,by show 3≤j+3;omega,by show j+3 < 3+Tryz.prog.cellsOf 56;omega⟩)
end Go.Proofs.YtpbmmoneeoijaaaGreatDoor
namespace Go.Proofs.YtpbmmoneeoijaaaGreatDoor
open Go.RowKit Go.ChangeShapes Go.WideShapes Go.ChangeAt Go.Deep Go.Joins
def zb9 (w:World) (ao:Option Addr) (n K:Nat) (g:Nat→Nat→Int):Prop:=∀ i,i < n→∃ b o,ao=some ⟨b,o,none⟩∧∀ j,j < K→w.cell? ⟨b,o+i * K+j,none⟩=some (qI (g i j))
theorem zb9.below {w w':World} {ao:Option Addr} {n K:Nat} {g:Nat→Nat→Int} (h:zb9 w ao n K g) (hb:Below w.heap.size w w'):zb9 w' ao n K g:=fun i hi=>by
 obtain⟨b,o,e,hc⟩:=h i hi;exact⟨b,o,e,fun j hj=>kept (hc j hj) hb⟩
structure zdr (w:World) (x:Img) (g:Nat→Nat→Int) (M:Nat→zas) (q:Nat→Nat→Nat→Int) (h:Nat→Nat→Int):Prop where
 r:(Lit.int .i64 x.r).wf=true
 tasks:zev w x.ao x.n g
 gwf:∀ i j,(Lit.int .i64 (g i j)).wf=true
 n:x.n≤maxLen
 modes:zcu w x.mo x.mn M
 mn:x.mn≤maxLen
 tb:∀ i,i < x.mn→(M i).t < 4294967296
 queues:∀ i,i < x.mn→zb9 w (M i).qo (M i).qn 2 (q i)
 qn:∀ i,i < x.mn→(M i).qn≤maxLen
 edges:zb9 w x.eo x.en 23 h
 hwf:∀ i j,(Lit.int .i64 (h i j)).wf=true
 en:x.en≤maxLen
theorem zdr.below {w w':World} {x:Img} {g:Nat→Nat→Int} {M:Nat→zas} {q:Nat→Nat→Nat→Int} {h:Nat→Nat→Int} (hx:zdr w x g M q h) (hb:Below w.heap.size w w'):zdr w' x g M q h:=
 { hx with tasks:=hx.tasks.below hb,modes:=hx.modes.below hb,queues:=fun i hi=>(hx.queues i hi).below hb,edges:=hx.edges.below hb }
set_option maxRecDepth 100000 in
theorem zB5:Flat Tryz.prog 74:=zja Tryz.underlying74 (by
  intro i f hi;rcases i with _|_|i
  all_goals first|(simp at hi;done)|(simp at hi;subst hi;first|exact zft Tryz.underlying3 (by kernel_rfl)|exact zft Tryz.underlying72 (by kernel_rfl))) (by
  intro j hj;rw [show Tryz.prog.cellsOf 74=2 by kernel_rfl] at hj;have c1:Tryz.prog.cellsOf 3=1:=by kernel_rfl
  have c8:Tryz.prog.cellsOf 72=1:=by kernel_rfl
  rcases j with _|j
  ·exact⟨0,_,rfl,by show 0≤0;omega,by show 0 < 0+Tryz.prog.cellsOf 3;omega⟩
  ·exact⟨1,_,rfl,by show 1≤j+1;omega,by show j+1 < 1+Tryz.prog.cellsOf 72;omega⟩)
set_option maxRecDepth 100000 in
theorem zDx:Flat Tryz.prog 176:=zja Tryz.underlying176 (by
  intro i f hi;rcases i with _|_|_|_|_|i
  all_goals first|(simp at hi;done)|(simp at hi;subst hi;first|exact zft Tryz.underlying3 (by kernel_rfl)|exact zft Tryz.underlying173 (by kernel_rfl)|exact zk8 Tryz.underlying62 (zft Tryz.underlying3 (by kernel_rfl)) (by kernel_rfl) (by kernel_rfl)|exact zk8 Tryz.underlying174 (zft Tryz.underlying3 (by kernel_rfl)) (by kernel_rfl) (by kernel_rfl))) (by
  intro j hj;rw [show Tryz.prog.cellsOf 176=23 by kernel_rfl] at hj;have c1:Tryz.prog.cellsOf 3=1:=by kernel_rfl
  have c2:Tryz.prog.cellsOf 173=1:=by kernel_rfl
  have c3:Tryz.prog.cellsOf 62=16:=by kernel_rfl
  have c4:Tryz.prog.cellsOf 174=4:=by kernel_rfl
  by_cases h0:j=0
  ·exact⟨0,_,rfl,by show 0≤j;omega,by show j < 0+Tryz.prog.cellsOf 3;omega⟩
  ·by_cases h1:j=1
   ·exact⟨1,_,rfl,by show 1≤j;omega,by show j < 1+Tryz.prog.cellsOf 3;omega⟩
   ·by_cases h2:j=2
    ·exact⟨2,_,rfl,by show 2≤j;omega,by show j < 2+Tryz.prog.cellsOf 173;omega⟩
    ·by_cases h3:j < 19
     ·exact⟨3,_,rfl,by show 3≤j;omega,by show j < 3+Tryz.prog.cellsOf 62;omega⟩
     ·exact⟨4,_,rfl,by show 19≤j;omega,by show j < 19+Tryz.prog.cellsOf 174;omega⟩)
section
variable {H:Type} {enc:TypeId×Value→H} {P:Program} {w:World}
theorem zh5 {t e:TypeId} {fuel:Nat} {c:Value} {x:DataW H×List MemPlace} (ht:P.underlying t=some (.slice e)) (h:DataW.trod enc P w 0 (fun _=>true) true fuel t [c]=some x):
  ∃ ao n cap,c=.slice ao n cap∧DataW.Trod enc P w 0 (fun _=>true) true t (.slice ao n cap) x.1 x.2:=by
 rcases open_slice ht h with ⟨hcs,_⟩|⟨a,len,cap',m,k,D,Pl,hcs,_⟩
 ·simp only [List.cons.injEq,and_true] at hcs
  subst hcs;exact⟨_,_,_,rfl,fuel,by simpa [Value.cells] using h⟩
 ·simp only [List.cons.injEq,and_true] at hcs
  subst hcs;exact⟨_,_,_,rfl,fuel,by simpa [Value.cells] using h⟩
theorem zsa {t e t0 te ti:TypeId} {k:IntKind} {K:Nat} {f0 f1:Field} {ao:Option Addr} {n cap:Nat} {d:DataW H} {p:List MemPlace} (ht:P.underlying t=some (.slice e)) (he:P.underlying e=some (.struct #[f0,f1]))
  (hone:oneCellFields P #[f0,f1]=true) (hC:P.cellsOf e=2) (e0:f0.type=t0) (h0:P.underlying t0=some (.int k)) (e1:f1.type=te) (hte:P.underlying te=some (.slice ti)) (hF:Flat P ti) (hK:P.cellsOf ti=K) (hpos:0 < K)
  (h:DataW.Trod enc P w 0 (fun _=>true) true t (.slice ao n cap) d p):
  (∃ (Z:Nat→Int) (qo:Nat→Option Addr) (qn qc:Nat→Nat) (q:Nat→Nat→Nat→Int),∀ i,i < n→(∃ b o,ao=some ⟨b,o,none⟩∧w.cell? ⟨b,o+i * 2,none⟩=some (.int k (Z i))∧w.cell? ⟨b,o+i * 2+1,none⟩=some (.slice (qo i) (qn i) (qc i)))∧(Lit.int k (Z i)).wf=true∧
   (∀ l,l < qn i→∃ b o,qo i=some ⟨b,o,none⟩∧∀ j,j < K→w.cell? ⟨b,o+l * K+j,none⟩=some (qI (q i l j)))∧qn i≤maxLen)∧n≤maxLen:=by
 obtain⟨fuel,hf⟩:=h;rcases open_slice ht hf with ⟨hcs,_⟩|⟨a,len,cap',m,kk,D,Pl,hcs,_,hl,hm,hmm,_,hi⟩
 ·simp [Value.cells] at hcs
  obtain⟨rfl,rfl,rfl⟩:=hcs;exact⟨⟨fun _=>0,fun _=>none,fun _=>0,fun _=>0,fun _ _ _=>0,fun i hi=>by omega⟩,by unfold maxLen;omega⟩
 ·simp [Value.cells] at hcs
  obtain⟨rfl,rfl,rfl⟩:=hcs;simp only [if_true] at hmm;refine⟨?_,by omega⟩;have key:∀ i,∃ (z:Int) (qo:Option Addr) (qn qc:Nat) (q:Nat→Nat→Int),i < n→(∃ b o,some a=some ⟨b,o,none⟩∧w.cell? ⟨b,o+i * 2,none⟩=some (.int k z)∧w.cell? ⟨b,o+i * 2+1,none⟩=some (.slice qo qn qc))∧(Lit.int k z).wf=true∧
   (∀ l,l < qn→∃ b o,qo=some ⟨b,o,none⟩∧∀ j,j < K→w.cell? ⟨b,o+l * K+j,none⟩=some (qI (q l j)))∧qn≤maxLen:=fun i=>by
   by_cases him:i < n
   ·obtain⟨cs',hc,ht'⟩:=hi i (by omega)
    rw [hC] at hc;obtain⟨ys,n',_,_,hlen,hyl,hg⟩:=DataW.trod_struct he ht';obtain⟨_,hcl,hat⟩:=World.cells?_some hc;obtain⟨o0,k0⟩:=hone_of hone 0 f0 rfl;obtain⟨o1,k1⟩:=hone_of hone 1 f1 rfl;have g0:=hg 0 f0 rfl;have g1:=hg 1 f1 rfl;rw [o0,k0,e0] at g0;rw [o1,k1,e1] at g1;have w0:(cs'.drop 0).take 1=[cs'[0]'(by omega)]:=by rw [List.drop_eq_getElem_cons (by omega)];rfl
    have w1:(cs'.drop 1).take 1=[cs'[1]'(by omega)]:=by rw [List.drop_eq_getElem_cons (by omega)];rfl
    rw [w0,List.getElem?_eq_getElem (by simp at hyl;omega)] at g0;rw [w1,List.getElem?_eq_getElem (by simp at hyl;omega)] at g1;obtain⟨z,hz,_,hw⟩:=DataW.trod_int h0 g0;obtain⟨qo,qn,qc,hq,hT⟩:=zh5 hte g1;obtain⟨⟨q,hqc,_⟩,hqn,_⟩:=zgv (K:=K) hte hF hK hpos hT;simp only [List.cons.injEq,and_true] at hz;have c0:=hat 0 (by omega);have c1:=hat 1 (by omega);rw [List.getElem?_eq_getElem (by omega),hz,Addr.add_zero'] at c0;rw [List.getElem?_eq_getElem (by omega),hq] at c1;have hp:a=⟨a.block,a.off,none⟩:=by
     obtain⟨cs0,hc0,_⟩:=hi 0 (by omega);rw [hC] at hc0;obtain⟨_,hcl0,hat0⟩:=World.cells?_some hc0;have:=hat0 0 (by omega);rw [Nat.zero_mul,Addr.add_zero',Addr.add_zero',List.getElem?_eq_getElem (by omega)] at this;exact zrh this
    rw [hp,zbn] at c0;rw [hp,zbn,zbn] at c1;exact⟨z,qo,qn,qc,q,fun _=>⟨⟨a.block,a.off,by rw [←hp],c0,c1⟩,hw,hqc,hqn⟩⟩
   ·exact⟨0,none,0,0,fun _ _=>0,fun h=>absurd h him⟩
  refine⟨fun i=>(key i).choose,fun i=>(key i).choose_spec.choose,fun i=>(key i).choose_spec.choose_spec.choose,fun i=>(key i).choose_spec.choose_spec.choose_spec.choose,fun i=>(key i).choose_spec.choose_spec.choose_spec.choose_spec.choose,fun i hi=>?_⟩;exact (key i).choose_spec.choose_spec.choose_spec.choose_spec.choose_spec hi
end
set_option maxRecDepth 100000 in
theorem zwk {H:Type} {enc:TypeId×Value→H} {w:World} {b0:Nat} {v:Value} {d:DataW H} {p:List MemPlace} (hv:Value.okWide Tryz.prog w .any b0 26 v)
  (h:DataW.Trod enc Tryz.prog w 0 (fun _=>true) true 26 v d p):∃ x g M q hh,v=iv x∧zdr w x g M q hh:=by
 obtain⟨c0,c1,c2,c3,y0,y1,y2,y3,m,rfl,rfl,rfl,h0,h1,h2,h3⟩:=open_agg4 Tryz.underlying26 (by kernel_rfl) (by kernel_rfl) hv h;obtain⟨r,hr,_,hw⟩:=DataW.trod_int Tryz.underlying3 h0;simp only [List.cons.injEq,and_true] at hr;subst hr;obtain⟨ao,n,cap,rfl,T1⟩:=zh5 Tryz.underlying22 h1;obtain⟨mo,mn,mc,rfl,T2⟩:=zh5 Tryz.underlying23 h2;obtain⟨eo,en,ec,rfl,T3⟩:=zh5 Tryz.underlying24 h3;obtain⟨⟨g,hg,hgw⟩,hn,_⟩:=zgv (K:=11) Tryz.underlying22 zDw (by kernel_rfl) (by decide) T1;obtain⟨⟨e,he,hew⟩,hen,_⟩:=zgv (K:=23) Tryz.underlying24 zDx (by kernel_rfl) (by decide) T3;obtain⟨⟨Z,qo,qn,qc,q,hm⟩,hmn⟩:=zsa (K:=2) Tryz.underlying23 Tryz.underlying71 (by kernel_rfl) (by kernel_rfl) rfl Tryz.underlying39 rfl Tryz.underlying69 zB5 (by kernel_rfl) (by decide) T2;have hZ:∀ i,i < mn→(0:Int)≤Z i∧Z i < 4294967296:=fun i hi=>by
  have:=(hm i hi).2.1;have h2:IntKind.u32.min≤Z i∧Z i≤IntKind.u32.max:=by simpa [Lit.wf] using this
  have e1:IntKind.u32.min=0:=by decide
  have e2:IntKind.u32.max=4294967295:=by decide
  omega
 refine⟨⟨r,ao,n,cap,mo,mn,mc,eo,en,ec⟩,g,fun i=>⟨(Z i).toNat,qo i,qn i,qc i⟩,q,e,rfl,?_⟩;refine⟨hw,hg,hgw,hn,fun i hi=>?_,hmn,fun i hi=>?_,fun i hi=>(hm i hi).2.2.1,fun i hi=>(hm i hi).2.2.2,he,hew,hen⟩
 ·obtain⟨b,o,e1,e2,e3⟩:=(hm i hi).1
  have:=hZ i hi;exact⟨b,o,e1,by rw [e2];simp;omega,e3⟩
 ·have:=hZ i hi
  show (Z i).toNat < _;omega
end Go.Proofs.YtpbmmoneeoijaaaGreatDoor
namespace Go.Proofs.YtpbmmoneeoijaaaGreatDoor
open Go.RowKit
def bs (l:List UInt8):ByteArray:=⟨l.toArray⟩
theorem zc6 (a b:List UInt8):bs a ++ bs b=bs (a ++ b):=by
 apply ByteArray.ext;simp [bs]
theorem zhw (a:List UInt8):(bs a).size=a.length:=by simp [bs,ByteArray.size]
theorem zif (a:List UInt8) (i j:Nat):(bs a).extract i j=bs ((a.drop i).take (j - i)):=by
 apply ByteArray.ext;simp [bs]
def dg (n:Nat):UInt8:=UInt8.ofNat (48+n % 10)
def txtN:Nat→Nat→List UInt8
 |0,_=>[]
 |k+1,n=>if n < 10 then [dg n] else txtN k (n / 10) ++ [dg n]
def txt (n:Nat):List UInt8:=txtN 10 n
def txtZ (k n:Nat):List UInt8:=if n=0 then [] else txtN k n
theorem znv (k n:Nat) (h:0 < n):txtZ (k+1) n=txtZ k (n / 10) ++ [dg n]:=by
 unfold txtZ;rw [if_neg (by omega),txtN];by_cases h9:n < 10
 ·rw [if_pos h9,if_pos (by omega)];rfl
 ·rw [if_neg h9,if_neg (by omega)]
theorem zta (k n:Nat):txtN (k+1) n=txtZ k (n / 10) ++ [dg n]:=by
 by_cases h:0 < n
 ·rw [←znv k n h,txtZ,if_neg (by omega)]
 ·obtain rfl:n=0:=by omega
  rfl
theorem znw:∀ (k n:Nat),(txtN k n).length≤k
 |0,_=>Nat.le_refl _
 |k+1,n=>by
  rw [txtN]
  split
  ·simp
  ·have:=znw k (n / 10);simp;omega
theorem zbx (n:Nat):(txt n).length≤10:=znw 10 n
theorem zkf (n:Nat):(dg n).toNat=48+n % 10:=by
 unfold dg;rw [UInt8.toNat_ofNat'];omega
theorem zxu:∀ (k n:Nat) (c:UInt8),c∈txtN k n→48≤c.toNat∧c.toNat≤57
 |0,_,c,h=>by simp [txtN] at h
 |k+1,n,c,h=>by
  rw [txtN] at h;have hd:48≤(dg n).toNat∧(dg n).toNat≤57:=by rw [zkf];omega
  split at h
  ·simp at h;rw [h];exact hd
  ·rcases List.mem_append.1 h with h|h
   ·exact zxu k _ c h
   ·simp at h;rw [h];exact hd
theorem zvh (n:Nat) (c:UInt8) (h:c∈txt n):48≤c.toNat∧c.toNat≤57:=zxu 10 n c h
theorem txtN_ne (k n:Nat):txtN (k+1) n≠[]:=by
 rw [txtN]
 split<;>simp
theorem txt_ne (n:Nat):txt n≠[]:=txtN_ne 9 n
def digV (l:List UInt8):Nat:=l.foldl (fun a c=>10 * a+(c.toNat - 48)) 0
theorem zur (l:List UInt8) (c:UInt8):digV (l ++ [c])=10 * digV l+(c.toNat - 48):=by simp [digV]
theorem zuq:∀ (k n:Nat),n < 10 ^ k→digV (txtN k n)=n
 |0,n,h=>by simp at h;subst h;rfl
 |k+1,n,h=>by
  rw [txtN]
  split
  ·rename_i h9
   have:=zkf n;simp [digV];omega
  ·rw [zur,zuq k (n / 10) (by rw [Nat.pow_succ] at h;omega),zkf]
   omega
theorem digV_txt {n:Nat} (h:n < 2147483648):digV (txt n)=n:=zuq 10 n (by omega)
theorem ztb:∀ (k n:Nat),n < 10 ^ k→0 < n→∃ c r,txtN k n=c :: r∧c.toNat≠48
 |0,n,h,h0=>by simp at h;omega
 |k+1,n,h,h0=>by
  rw [txtN]
  split
  ·exact⟨_,_,rfl,by rw [zkf];omega⟩
  ·obtain⟨c,r,e,hc⟩:=ztb k (n / 10) (by rw [Nat.pow_succ] at h;omega) (by omega)
   exact⟨c,r ++ [dg n],by rw [e];rfl,hc⟩
theorem txt_head {n:Nat} (h:n < 2147483648) (h1:1 < (txt n).length):∃ c r,txt n=c :: r∧c.toNat≠48:=by
 refine ztb 10 n (by omega) ?_;rcases Nat.eq_zero_or_pos n with rfl|h0
 ·exfalso;revert h1;decide
 ·exact h0
def zau (ps:List (List UInt8)):List UInt8:=ps.flatMap fun p=>32 :: p
def zd0:List (List UInt8)→List UInt8
 | []=>[]
 |p :: ps=>p ++ zau ps
def pcsF:List UInt8→List UInt8→List (List UInt8)
 |cur,[]=>if cur=[] then [] else [cur]
 |cur,c :: r=>if c=32 then (if cur=[] then pcsF [] r else cur :: pcsF [] r) else pcsF (cur ++ [c]) r
def zct (p:List UInt8):Prop:=p≠[]∧∀ c∈p,c≠32∧c≠10∧c≠35
theorem zom:∀ (p cur r:List UInt8),(∀ c∈p,c≠32)→pcsF cur (p ++ r)=pcsF (cur ++ p) r
 | [],cur,r,_=>by simp
 |c :: p,cur,r,h=>by
  rw [List.cons_append,pcsF,if_neg (h c (by simp)),zom p _ r fun d hd=>h d (by simp [hd])];simp
theorem zt1:∀ (ps:List (List UInt8)) (cur:List UInt8),(∀ p∈ps,zct p)→pcsF cur (zau ps)=(if cur=[] then [] else [cur]) ++ ps
 | [],cur,_=>by simp [zau,pcsF]
 |p :: ps,cur,h=>by
  have hp:=h p (by simp);have e:zau (p :: ps)=32 :: (p ++ zau ps):=rfl;rw [e,pcsF,if_pos rfl,zom p [] _ fun c hc=>(hp.2 c hc).1,List.nil_append,zt1 ps p fun q hq=>h q (by simp [hq]),if_neg hp.1]
  split<;>simp
theorem pcs_line {ps:List (List UInt8)} (h:∀ p∈ps,zct p):pcsF [] (zd0 ps)=ps:=by
 cases ps with
 |nil=>rfl
 |cons p ps=>
  have hp:=h p (by simp);rw [zd0,zom p [] _ fun c hc=>(hp.2 c hc).1,List.nil_append,zt1 ps p fun q hq=>h q (by simp [hq]),if_neg hp.1];rfl
theorem line_no {ps:List (List UInt8)} (h:∀ p∈ps,zct p):∀ c∈zd0 ps,c≠10∧c≠35:=by
 have hj:∀ ps:List (List UInt8),(∀ p∈ps,zct p)→∀ c∈zau ps,c≠10∧c≠35:=fun ps h c hc=>by
  obtain⟨p,hp,hc⟩:=List.mem_flatMap.1 hc;rcases List.mem_cons.1 hc with rfl|hc
  ·decide
  ·exact ((h p hp).2 c hc).2
 cases ps with
 |nil=>intro c hc;cases hc
 |cons p ps=>
  intro c hc;rcases List.mem_append.1 hc with hc|hc
  ·exact ((h p (by simp)).2 c hc).2
  ·exact hj ps (fun q hq=>h q (by simp [hq])) c hc
theorem znu (n:Nat):zct (txt n):=⟨txt_ne n,fun c hc=>by
 have:=zvh n c hc;refine⟨?_,?_,?_⟩<;>· rintro rfl;revert this;decide⟩
end Go.Proofs.YtpbmmoneeoijaaaGreatDoor
