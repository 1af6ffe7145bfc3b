/-
  A part of the proof: ReaderSt FreeStill DlLaw DlKit DlDue DlTick FrmT DlQ TaskFn QueuesFn MapsFn OffsFn EdgeOk EngKit FlatRow CopyFn.
-/
import Derived.Test.YtpbmmoneeoijaaaGreatDoorP15
import Derived.IntWalk
import Derived.Laws.OwnMore
namespace Go.Proofs.YtpbmmoneeoijaaaGreatDoor
open Go.RowKit Go.Deep Go.Shelf
set_option maxRecDepth 100000
set_option maxHeartbeats 8000000
def zjp (ts:List (Nat→Int)):List Value:=ts.flatMap fun f=>(List.range 11).map fun j=>qI (f j)
def zc1 (qs:List (Nat→Int)):List Value:=qs.flatMap fun f=>[qI (f 0),qI (f 1)]
def zkd (es:List (Nat→Int)):List Value:=es.flatMap fun f=>zbf f
def zem:List (Nat×List (Nat→Int))→List Value→List Value
 |m :: ms,v :: vs=>qU (m.1:Nat) :: v :: zem ms vs
 |_,_=>[]
def strC (P:List (List UInt8)):List Value:=P.map fun p=>.string (bs p)
theorem zn0 (ts:List (Nat→Int)) (f:Nat→Int):zjp (ts ++ [f])=zjp ts ++ (List.range 11).map fun j=>qI (f j):=by simp [zjp]
theorem zpa (ts:List (Nat→Int)) (f:Nat→Int):zkd (ts ++ [f])=zkd ts ++ zbf f:=by simp [zkd]
theorem zln (ts:List (Nat→Int)) (f:Nat→Int):zc1 (ts ++ [f])=zc1 ts ++ [qI (f 0),qI (f 1)]:=by simp [zc1]
theorem zCv (P:List (List UInt8)) (p:List UInt8):strC (P ++ [p])=strC P ++ [.string (bs p)]:=by simp [strC]
theorem zdy (m:Nat×List (Nat→Int)) (v:Value):∀ (ms:List (Nat×List (Nat→Int))) (vs:List Value),vs.length=ms.length→zem (ms ++ [m]) (vs ++ [v])=zem ms vs ++ [qU (m.1:Nat),v]
 | [],[],_=>rfl
 |a :: ms,b :: vs,h=>by
  have:=zdy m v ms vs (by simpa using h);simp only [List.cons_append,zem,this]
 | [],b :: vs,h=>by simp at h
 |a :: ms,[],h=>by simp at h
structure RdV where
 T:Value
 M:Value
 E:Value
 P:Value
 q:List Value
def rdB (r:Int) (v:RdV):Obj:=.cells #[qI r,v.T,v.M,v.E,v.P] 181
structure RdAt (base b:Nat) (W:World) (s:St) (P:List (List UInt8)) (v:RdV):Prop where
 blk:W.heap[b]? =some (rdB s.r v)
 T:W.ownsRow base 165 11 v.T s.ts.length (zjp s.ts)
 M:W.ownsRow base 71 2 v.M s.ms.length (zem s.ms v.q)
 ql:v.q.length=s.ms.length
 Q:∀ (i:Nat) (m:Nat×List (Nat→Int)) (u:Value),s.ms[i]? =some m→v.q[i]? =some u→W.ownsRow base 74 2 u m.2.length (zc1 m.2)
 ap:∀ (i j:Nat) (u x:Value) (g:Nat),i < j→v.q[i]? =some u→v.q[j]? =some x→x.ownBlock=some g→u.ownBlock≠some g
 E:W.ownsRow base 176 23 v.E s.es.length (zkd s.es)
 P:W.ownsRow base 9 1 v.P P.length (strC P)
 hb:b < base
theorem zbj {W:World} {base:Nat} {e:TypeId} {K:Nat} {v:Value} {n:Nat} {xs:List Value} (h:W.ownsRow base e K v n xs) {g:Nat} (hg:v.ownBlock=some g):base≤g∧∃ cs,W.heap[g]? =some (.cells cs e (0,0)):=by
 rcases h.2 with ⟨rfl,_⟩|⟨k,_,cur,rfl,hb,h1,_⟩
 ·cases hg
 ·cases hg;exact⟨hb,cur,h1⟩
structure Frm2 (base b:Nat) (w w':World):Prop where
 io:w'.os=w.os∧w'.tape=w.tape∧w'.output=w.output
 size:w.heap.size≤w'.heap.size
 low:∀ k,k < base→k≠b→k < w.heap.size→w'.heap[k]? =w.heap[k]?
 keep:∀ (k:Nat) (o:Obj),w.heap[k]? =some o→o.isCells=false→w'.heap[k]? =some o
theorem Frm2.trans {base b:Nat} {X Y Z:World} (h:Frm2 base b X Y) (k:Frm2 base b Y Z):Frm2 base b X Z:=
 ⟨⟨k.io.1.trans h.io.1,k.io.2.1.trans h.io.2.1,k.io.2.2.trans h.io.2.2⟩,Nat.le_trans h.size k.size,fun i h1 h2 h3=>(k.low i h1 h2 (Nat.lt_of_lt_of_le h3 h.size)).trans (h.low i h1 h2 h3),fun i o hi ho=>k.keep i o (h.keep i o hi ho) ho⟩
theorem Frm2.below {base b:Nat} {X Y:World} (h:Below X.heap.size X Y):Frm2 base b X Y:=
 ⟨⟨h.os,h.tape,h.output⟩,h.size,fun i _ _ h3=>h.block i h3,fun i _o hi _=>(h.block i (qLt hi)).trans hi⟩
theorem Frm2.grown {base b:Nat} {X Y:World} {row:Option Nat} (h:X.grownBy Y row) (hr:∀ g,row=some g→base≤g∧∃ o,X.heap[g]? =some o∧o.isCells=true):Frm2 base b X Y:=by
 refine⟨⟨h.os,h.tape,h.output⟩,h.size,fun i h1 h2 h3=>h.block i h3 fun e=>?_,fun i o hi ho=>(h.block i (qLt hi) fun e=>?_).trans hi⟩
 ·have:=(hr i e.symm).1;omega
 ·obtain⟨_,o',h4,h5⟩:=hr i e.symm
  rw [hi] at h4;cases h4;rw [ho] at h5;cases h5
theorem Frm2.own {base b:Nat} {X Y:World} {e:TypeId} {K:Nat} {v:Value} {n:Nat} {xs:List Value} (ho:X.ownsRow base e K v n xs) (h:X.grownBy Y v.ownBlock):Frm2 base b X Y:=
 Frm2.grown h fun g hg=>by
  obtain⟨h1,cs,h2⟩:=zbj ho hg;exact⟨h1,_,h2,rfl⟩
theorem Frm2.set {base b:Nat} (X:World) (j:Nat) (u:Value) {cs:Array Value} {t:TypeId} (hX:X.heap[b]? =some (Obj.cells cs t)):Frm2 base b X (X.setCell ⟨b,j,none⟩ u):=by
 refine⟨⟨rfl,rfl,rfl⟩,by simp,fun i _ h2 _=>Below.heap_setCell X ⟨b,j,none⟩ u i h2,fun i o hi ho=>?_⟩;by_cases h:i=b
 ·subst h;rw [hX] at hi;cases hi;cases ho
 ·exact (Below.heap_setCell X ⟨b,j,none⟩ u i h).trans hi
theorem zbu (X:World) (p:Addr) (u:Value):X.grownBy (X.setCell p u) (some p.block):=⟨rfl,rfl,rfl,by simp,fun k _ hne=>Below.heap_setCell X p u k fun e=>hne (by rw [e])⟩
theorem zah {X Y:World} {row:Option Nat} {base:Nat} {e:TypeId} {K:Nat} {v:Value} {n:Nat} {xs:List Value} (ho:X.ownsRow base e K v n xs) (hg:X.grownBy Y row) (hr:∀ g,row=some g→∃ o,X.heap[g]? =some o∧∀ cs f,o≠.cells cs e f):Y.ownsRow base e K v n xs:=by
 refine ho.kept hg ?_;by_cases h:v.ownBlock=row
 ·cases hv:v.ownBlock with
  |none=>exact .inl rfl
  |some g=>
   exfalso;obtain⟨_,cs,h1⟩:=zbj ho hv;obtain⟨o,h2,h3⟩:=hr g (by rw [←h,hv]);rw [h1] at h2;cases h2;exact h3 _ _ rfl
 ·exact .inr h
theorem zbv {X:World} {base:Nat} {e e':TypeId} {K:Nat} {v:Value} {n:Nat} {xs:List Value} (ho:X.ownsRow base e K v n xs) (hne:e≠e'):∀ g,v.ownBlock=some g→∃ o,X.heap[g]? =some o∧∀ cs f,o≠.cells cs e' f:=fun g hg=>by
 obtain⟨_,cs,h⟩:=zbj ho hg;exact⟨_,h,fun cs f he=>by injection he with _ h2 _;exact hne h2⟩
theorem zdo {X Y:World} {row:Option Nat} {b:Nat} {o:Obj} (h:X.heap[b]? =some o) (hg:X.grownBy Y row) (hr:∀ g,row=some g→b < g):Y.heap[b]? =some o:=
 (hg.block b (qLt h) fun e=>by have:=hr b e.symm;omega).trans h
section
variable {base b:Nat} {W:World} {s:St} {P:List (List UInt8)} {v:RdV}
theorem RdAt.below (h:RdAt base b W s P v) {Y:World} (hb:Below W.heap.size W Y):RdAt base b Y s P v:=by
 have g:W.grownBy Y none:=⟨hb.os,hb.tape,hb.output,hb.size,fun k hk _=>hb.block k hk⟩;have n:∀ x:Value,x.ownBlock=none∨x.ownBlock≠none:=fun x=>by cases x.ownBlock<;>simp
 exact⟨(hb.block b (qLt h.blk)).trans h.blk,h.T.kept g (n _),h.M.kept g (n _),h.ql,fun i m u h1 h2=>(h.Q i m u h1 h2).kept g (n _),h.ap,h.E.kept g (n _),h.P.kept g (n _),h.hb⟩
theorem RdAt.grown (h:RdAt base b W s P v) {Y:World} {row:Option Nat} (hg:W.grownBy Y row) (hr:∀ g,row=some g→g≠b∧∃ o,W.heap[g]? =some o∧(o.isCells=false∨g < base)):RdAt base b Y s P v:=by
 have n:∀ {e:TypeId} {K:Nat} {x:Value} {m:Nat} {xs:List Value},W.ownsRow base e K x m xs→Y.ownsRow base e K x m xs:=fun {e K x m xs} ho=>by
  refine ho.kept hg ?_;by_cases hx:x.ownBlock=row
  ·cases hv:x.ownBlock with
   |none=>exact .inl rfl
   |some g=>
    exfalso;obtain⟨h0,cs,h1⟩:=zbj ho hv;obtain⟨_,o,h2,h3⟩:=hr g (by rw [←hx,hv]);rw [h1] at h2;cases h2;rcases h3 with h3|h3
    ·cases h3
    ·omega
  ·exact .inr hx
 exact⟨(hg.block b (qLt h.blk) fun e=>(hr b e.symm).1 rfl).trans h.blk,n h.T,n h.M,h.ql,fun i m u h1 h2=>n (h.Q i m u h1 h2),h.ap,n h.E,n h.P,h.hb⟩
theorem zbh {X:World} {cs:Array Value} {b j:Nat} {t:TypeId} {u:Value} (h:X.heap[b]? =some (.cells cs t (0,0))):(X.setCell ⟨b,j,none⟩ u).heap[b]? =some (.cells (cs.setIfInBounds j u) t (0,0)):=by
 have hlt:=(qLt h);unfold World.setCell;simp only;rw [Array.getElem?_modify,if_pos rfl,h];rfl
theorem RdAt.cell {X:World} {r:Int} {u:RdV} {j:Nat} {x:Value} (hX:X.heap[b]? =some (rdB r u)) {e:TypeId} (he:181≠e) {K:Nat} {y:Value} {n:Nat} {xs:List Value} (ho:X.ownsRow base e K y n xs):(X.setCell ⟨b,j,none⟩ x).ownsRow base e K y n xs:=
 zah ho (zbu X ⟨b,j,none⟩ x) fun g hg=>by cases hg;exact⟨_,hX,fun cs f hc=>by injection hc with _ h2 _;exact he h2⟩
theorem RdAt.addT (h:RdAt base b W s P v) (f:Nat→Int) {v':Value} {W1:World} (ho:W1.ownsRow base 165 11 v' (s.ts ++ [f]).length (zjp (s.ts ++ [f]))) (hg:W.grownBy W1 v.T.ownBlock):
  RdAt base b (W1.setCell ⟨b,1,none⟩ v') { s with ts:=s.ts ++ [f] } P { v with T:=v' }:=by
 have hb1:=zdo h.blk hg fun g hg=>by have:=(zbj h.T hg).1;have:=h.hb;omega
 refine⟨(zbh hb1).trans rfl,RdAt.cell hb1 (by decide) ho,RdAt.cell hb1 (by decide) (zah h.M hg (zbv h.T (by decide))),h.ql,fun i m u h1 h2=>RdAt.cell hb1 (by decide) (zah (h.Q i m u h1 h2) hg (zbv h.T (by decide))),h.ap,RdAt.cell hb1 (by decide) (zah h.E hg (zbv h.T (by decide))),RdAt.cell hb1 (by decide) (zah h.P hg (zbv h.T (by decide))),h.hb⟩
theorem RdAt.addE (h:RdAt base b W s P v) (f:Nat→Int) {v':Value} {W1:World} (ho:W1.ownsRow base 176 23 v' (s.es ++ [f]).length (zkd (s.es ++ [f]))) (hg:W.grownBy W1 v.E.ownBlock):
  RdAt base b (W1.setCell ⟨b,3,none⟩ v') { s with es:=s.es ++ [f] } P { v with E:=v' }:=by
 have hb1:=zdo h.blk hg fun g hg=>by have:=(zbj h.E hg).1;have:=h.hb;omega
 refine⟨(zbh hb1).trans rfl,RdAt.cell hb1 (by decide) (zah h.T hg (zbv h.E (by decide))),RdAt.cell hb1 (by decide) (zah h.M hg (zbv h.E (by decide))),h.ql,fun i m u h1 h2=>RdAt.cell hb1 (by decide) (zah (h.Q i m u h1 h2) hg (zbv h.E (by decide))),h.ap,RdAt.cell hb1 (by decide) ho,RdAt.cell hb1 (by decide) (zah h.P hg (zbv h.E (by decide))),h.hb⟩
theorem RdAt.addP (h:RdAt base b W s P v) (Q:List (List UInt8)) {v':Value} {W1:World} (ho:W1.ownsRow base 9 1 v' Q.length (strC Q)) (hg:W.grownBy W1 v.P.ownBlock):
  RdAt base b (W1.setCell ⟨b,4,none⟩ v') s Q { v with P:=v' }:=by
 have hb1:=zdo h.blk hg fun g hg=>by have:=(zbj h.P hg).1;have:=h.hb;omega
 refine⟨(zbh hb1).trans rfl,RdAt.cell hb1 (by decide) (zah h.T hg (zbv h.P (by decide))),RdAt.cell hb1 (by decide) (zah h.M hg (zbv h.P (by decide))),h.ql,fun i m u h1 h2=>RdAt.cell hb1 (by decide) (zah (h.Q i m u h1 h2) hg (zbv h.P (by decide))),h.ap,RdAt.cell hb1 (by decide) (zah h.E hg (zbv h.P (by decide))),RdAt.cell hb1 (by decide) ho,h.hb⟩
theorem RdAt.addM (h:RdAt base b W s P v) (t:Nat) {v':Value} {W1:World} (ho:W1.ownsRow base 71 2 v' (s.ms ++ [(t,[])]).length (zem (s.ms ++ [(t,[])]) (v.q ++ [.slice none 0 0]))) (hg:W.grownBy W1 v.M.ownBlock):
  RdAt base b (W1.setCell ⟨b,2,none⟩ v') { s with ms:=s.ms ++ [(t,[])] } P { v with M:=v',q:=v.q ++ [.slice none 0 0] }:=by
 have hb1:=zdo h.blk hg fun g hg=>by have:=(zbj h.M hg).1;have:=h.hb;omega
 refine⟨(zbh hb1).trans rfl,RdAt.cell hb1 (by decide) (zah h.T hg (zbv h.M (by decide))),RdAt.cell hb1 (by decide) ho,by simp [h.ql],fun i m u h1 h2=>RdAt.cell hb1 (by decide) ?_,fun i j u x g hij h1 h2 h3=>?_,RdAt.cell hb1 (by decide) (zah h.E hg (zbv h.M (by decide))),RdAt.cell hb1 (by decide) (zah h.P hg (zbv h.M (by decide))),h.hb⟩
 ·dsimp only at h1 h2
  rcases Nat.lt_or_ge i s.ms.length with hi|hi
  ·rw [List.getElem?_append_left hi] at h1
   rw [List.getElem?_append_left (by rw [h.ql];exact hi)] at h2;exact zah (h.Q i m u h1 h2) hg (zbv h.M (by decide))
  ·rw [List.getElem?_append_right hi] at h1
   rw [List.getElem?_append_right (by rw [h.ql];exact hi),h.ql] at h2;have h0:i - s.ms.length=0:=by
    have:=(List.getElem?_eq_some_iff.1 h1).1;simp at this;omega
   rw [h0] at h1 h2;simp at h1 h2;subst h1 h2;exact World.ownsRow_nil _ _ _ _
 ·dsimp only at h1 h2
  rcases Nat.lt_or_ge j s.ms.length with hj|hj
  ·rw [List.getElem?_append_left (by rw [h.ql];exact hj)] at h2
   rw [List.getElem?_append_left (by rw [h.ql];omega)] at h1;exact h.ap i j u x g hij h1 h2 h3
  ·rw [List.getElem?_append_right (by rw [h.ql];exact hj),h.ql] at h2
   have h0:j - s.ms.length=0:=by
    have:=(List.getElem?_eq_some_iff.1 h2).1;simp at this;omega
   rw [h0] at h2;simp at h2;subst h2;cases h3
end
end Go.Proofs.YtpbmmoneeoijaaaGreatDoor
namespace Go.Proofs.YtpbmmoneeoijaaaGreatDoor
open Go.RowKit
section
variable {P:Program} {ops:Array Oper}
theorem zj1 {a:Act} {d:Option Tmp} {v:Value} {t:Tmp} (h:d≠some t):(a.put d v).tmps[t]? =a.tmps[t]?:=by
 cases d with
 |none=>rfl
 |some d=>
  have:d≠t:=fun e=>h (by rw [e]);show (a.tmps.setIfInBounds d v)[t]? =a.tmps[t]?;rw [Array.getElem?_setIfInBounds_ne this]
theorem put_swap {a:Act} {d1 d2:Option Tmp} {u v:Value} (h:∀ d,d1=some d→d2≠some d):(a.put d1 u).put d2 v=(a.put d2 v).put d1 u:=by
 cases d1 with
 |none=>rfl
 |some x=>
  cases d2 with
  |none=>rfl
  |some y=>
   have hne:x≠y:=fun e=>h x rfl (by rw [e]);show ({ a with tmps:=(a.tmps.setIfInBounds x u).setIfInBounds y v }:Act)= { a with tmps:=(a.tmps.setIfInBounds y v).setIfInBounds x u }
   congr 1
   rw [Array.setIfInBounds_comm _ _ hne]
theorem put_dfs {a:Act} {d:Option Tmp} {v:Value} {ds:List Deferred}:({ a with defers:=ds }:Act).put d v= { a.put d v with defers:=ds }:=by
 cases d<;>rfl
theorem zvu {a:Act} {d:Option Tmp} {v:Value}:(a.put d v).defers=a.defers:=by
 cases d<;>rfl
theorem zkm {o:Oper} {a b:Act} {w:World} {K K2:Act→World→Prop} (hs:∀ cs b,o.op≠.select cs b) (hag:∀ t,t∈o.looksAt ops→a.tmps[t]? =b.tmps[t]?) (hdf:b.defers=a.defers)
  (hK:∀ (v:Value) (w':World) (ds:List Deferred),K (({ b with defers:=ds }:Act).put o.dst v) w'→K2 (({ a with defers:=ds }:Act).put o.dst v) w') (h:wpList P ops (only K) [o] b w):wpList P ops (only K2) [o] a w:=by
 have hK0:∀ (v:Value) (w':World),K (b.put o.dst v) w'→K2 (a.put o.dst v) w':=fun v w' hk=>hK v w' a.defers (by
  have e:({ b with defers:=a.defers }:Act)=b:=by rw [←hdf]
  rw [e];exact hk)
 have hwant:=zbg (ops:=ops) hag;have hexec:=zbz (ops:=ops) hs hag;unfold wpList at h ⊢;rw [hwant];by_cases hw:Region.wanted o (yielded ops b.tmps)=true
 ·rw [if_pos hw] at h ⊢
  left;rcases h with h|⟨_,h⟩
  rotate_left
  ·exact (zgc h).elim
  unfold Oper.wp at h ⊢;rw [hexec];generalize (execOp b.eval o).run P w=res at h ⊢
  cases res with
  |ok n w'=>
   cases n with
   |value v=>exact⟨rfl,hK0 _ _ h.2⟩
   |skip=>exact⟨rfl,hK0 _ _ h.2⟩
   |defer d=>
    have e:=h.2;simp only [Oper.upon];refine⟨rfl,hK _ _ _ ?_⟩;rw [←hdf];exact e
   |enter f args=>
    refine Calls.mono h ?_;intro e w'' he
    cases e with
    |returned v=>exact⟨rfl,hK0 _ _ he.2⟩
    |panicked ch=>exact absurd he.1 (by simp)
    |outgrown=>exact (zgc he).elim
   |row row args=>
    refine Rows.mono h ?_;intro v w'' he;exact⟨rfl,hK0 _ _ he.2⟩
   |_=>exact h.elim
  |halt x w'=>
   cases x with
   |panic v=>exact absurd h.1 (by simp)
   |_=>exact h.elim
 ·rw [if_neg hw] at h ⊢
  exact⟨rfl,hK0 _ _ h.2⟩
def StillOf (P:Program) (ops:Array Oper) (C:World→Prop) (o:Oper) (a:Act) (v:Value):Prop:=
 (Region.wanted o (yielded ops a.tmps)=true∧zaq P C o a v)∨(Region.wanted o (yielded ops a.tmps)=false∧v=undef)
def ztj (ops:Array Oper) (rem:List Nat) (i:Nat):Bool:=rem.all fun r=>r == i || (match ops[i]?,ops[r]? with
 |some x,some y=>zg8 i y || (!allB ops r && x.apart ops y)
 |_,_=>false) && (match ops[r]? with|some y=>(match y.op with| .select _ _=>false|_=>true)|none=>false)
theorem zti {rem:List Nat} {i r:Nat} (h:ztj ops rem i=true):ztj ops (rem.erase r) i=true:=by
 unfold ztj at h ⊢;rw [List.all_eq_true] at h ⊢;exact fun x hx=>h x (List.mem_of_mem_erase hx)
theorem zpy {C:World→Prop} {Q:Act→World→Prop} {i:Nat} {oi:Oper} (hoi:ops[i]? =some oi) (hsi:∀ cs b,oi.op≠.select cs b) (v:Value):
  ∀ (m:Nat) (rem:List Nat) (a:Act) (w:World),rem.length=m+1→i∈rem→ztj ops rem i=true→C w→StillOf P ops C oi a v→wpTs P ops C Q m (rem.erase i) (a.put oi.dst v) w→wpTs P ops C Q (m+1) rem a w:=by
 intro m
 induction m with
 |zero=>
  intro rem a w hl hi hst hC hv H r hr hrdy;have hri:r=i:=by
   cases rem with
   |nil=>cases hi
   |cons x xs=>
    have:xs=[]:=List.eq_nil_of_length_eq_zero (by simpa using hl);subst this;rw [List.mem_singleton] at hr hi;rw [hr,hi]
  subst hri;refine⟨oi,hoi,?_⟩;unfold wpList;rcases hv with ⟨h1,h2⟩|⟨h1,rfl⟩
  ·rw [if_pos h1]
   left;unfold Oper.wp;rw [h2 w hC];exact⟨rfl,.inr hC,H⟩
  ·rw [if_neg (by rw [h1];simp)]
   exact⟨rfl,.inr hC,H⟩
 |succ m ih=>
  intro rem a w hl hi hst hC hv H r hr hrdy;by_cases hri:r=i
  ·subst hri
   refine⟨oi,hoi,?_⟩;unfold wpList;rcases hv with ⟨h1,h2⟩|⟨h1,rfl⟩
   ·rw [if_pos h1]
    left;unfold Oper.wp;rw [h2 w hC];exact⟨rfl,.inr hC,H⟩
   ·rw [if_neg (by rw [h1];simp)]
    exact⟨rfl,.inr hC,H⟩
  ·have hre:r∈rem.erase i:=(List.mem_erase_of_ne hri).2 hr
   have hrdy2:rdyB ops (rem.erase i) r=true:=by
    unfold rdyB at hrdy ⊢;rw [List.all_eq_true] at hrdy ⊢;exact fun x hx=>hrdy x (List.mem_of_mem_erase hx)
   obtain⟨o,ho,hw⟩:=H r hre hrdy2;have hs:=List.all_eq_true.1 hst r hr;have hnw:zg8 i o=false:=by
    have:=List.all_eq_true.1 hrdy i hi;rw [ho] at this;simpa using this
   simp only [hoi,ho,hnw,Bool.false_or,Bool.and_eq_true,Bool.or_eq_true,Bool.not_eq_true',beq_iff_eq,hri,false_or] at hs;obtain⟨⟨hall,hap⟩,hsel⟩:=hs;have hselr:∀ cs b,o.op≠.select cs b:=fun cs b e=>by rw [e] at hsel;cases hsel
   obtain⟨p1,p2,p3⟩:=Oper.apart_spec hap;refine⟨o,ho,?_⟩;refine zkm hselr (b:=a.put oi.dst v) (fun t ht=>(zj1 fun e=>p1 t e ht).symm) zvu (fun u w' ds hk=>?_) hw;obtain⟨hc,hk⟩:=hk;have hC':C w':=hc.resolve_left (by rw [hall];simp);refine⟨.inr hC',?_⟩;refine ih (rem.erase r) _ w' (by rw [List.length_erase_of_mem hr,hl];rfl) ((List.mem_erase_of_ne (Ne.symm hri)).2 hi) (zti hst) hC' ?_ ?_
   ·have hag:∀ t,t∈oi.looksAt ops→(({ a with defers:=ds }:Act).put o.dst u).tmps[t]? =a.tmps[t]?:=fun t ht=>by
     rw [zj1 fun e=>p3 t e ht]
    have hwant:=zbg (ops:=ops) hag;have hexec:=zbz (ops:=ops) hsi hag;rcases hv with ⟨h1,h2⟩|⟨h1,h2⟩
    ·refine .inl ⟨by rw [hwant];exact h1,fun X hX=>?_⟩
     rw [hexec];exact h2 X hX
    ·exact .inr ⟨by rw [hwant];exact h1,h2⟩
   ·rw [List.erase_comm]
    have e:(({ a.put oi.dst v with defers:=ds }:Act).put o.dst u)=((({ a with defers:=ds }:Act).put o.dst u).put oi.dst v):=by
     rw [←put_dfs];exact (put_swap fun d hd=>p2 d hd)
    rw [←e];exact hk
theorem zbw {C:World→Prop} {Q:Act→World→Prop} {m:Nat} {rem rem1:List Nat} {i:Nat} {o:Oper} {a:Act} {w:World} (hl:rem.length=m+1) (hB:(rem.contains i && ztj ops rem i && (match ops[i]? with|some y=>(match y.op with| .select _ _=>false|_=>true)|none=>false))=true)
  (he:rem.erase i=rem1) (ho:ops[i]? =some o) (hC:C w) (hw:Region.wanted o (yielded ops a.tmps)=true)
  (h:∀ K:Act→Prop,(∀ a',wpTs P ops C Q m rem1 a' w→K a')→∃ v,zaq P C o a v∧K (a.put o.dst v)):wpTs P ops C Q (m+1) rem a w:=by
 simp only [Bool.and_eq_true,List.contains_iff_mem] at hB;obtain⟨⟨h1,h2⟩,h3⟩:=hB;obtain⟨v,hv,hk⟩:=h _ fun _ h=>h;subst he;exact zpy ho (fun cs b e=>by rw [ho] at h3;simp only [e] at h3;cases h3) v m rem a w hl h1 h2 hC (.inl ⟨hw,hv⟩) hk
end
end Go.Proofs.YtpbmmoneeoijaaaGreatDoor
namespace Go.Proofs.YtpbmmoneeoijaaaGreatDoor.Dl
abbrev TL:=List (Int×Int)
def absL:Int→TL→TL
 |_,[]=>[]
 |acc,(i,b) :: l=>(i,acc+b) :: absL (acc+b) l
def insA (x:Int×Int):TL→TL
 | []=>[x]
 |y :: l=>if y.2≤x.2 then y :: insA x l else x :: y :: l
def srt (r:TL):TL:=r.foldl (fun l x=>insA x l) []
def look (id:Int) (l:TL):Option Int:=(l.find? (fun x=>x.1=id)).map (·.2)
def Dist (l:TL):Prop:=l.Pairwise (fun x y=>x.1≠y.1)
structure DInv (A r:TL):Prop where
 abs:absL 0 A=srt r
 nn:∀ x∈A,0≤x.2
 tk:∀ x∈r,1≤x.2∧x.2≤65536
 ds:Dist r
 len:r.length≤64
def dropR (id:Int) (r:TL):TL:=r.filter fun x=>x.1≠id
end Go.Proofs.YtpbmmoneeoijaaaGreatDoor.Dl
namespace Go.Proofs.YtpbmmoneeoijaaaGreatDoor.Dl
open Go.RowKit
theorem blk_put0 {w:World} {b i:Nat} {c:Array Value} {u:Value} {t:TypeId} (h:w.heap[b]? =some (.cells c t (0,0))):(w.setCell ⟨b,i,none⟩ u).heap[b]? =some (.cells (c.setIfInBounds i u) t (0,0)):=by
 have hlt:=(qLt h);have h':w.heap[b]=.cells c t (0,0):=(Array.getElem?_eq_some_iff.1 h).2;show (w.heap.modify b _)[b]? =_;rw [Array.getElem?_eq_getElem (by simpa using hlt),Array.getElem_modify_self,h'];rfl
attribute [local go_sem] Oper.quietS Oper.effS zjd
end Go.Proofs.YtpbmmoneeoijaaaGreatDoor.Dl
namespace Go.Proofs.YtpbmmoneeoijaaaGreatDoor.Dl
open Go.RowKit Go.Shelf
attribute [local go_sem] Oper.semAt_some
theorem zba (W:World) (v:Value) (t:TypeId):(W.alloc (.cells #[v] t)).cell? ⟨W.heap.size,0,none⟩=some v∧(W.alloc (.cells #[v] t)).frozen? ⟨W.heap.size,0,none⟩=false:=
 ⟨World.cell?_alloc_at _ _ _ _ rfl,World.frozen?_alloc_at _ _ _ _ rfl⟩
theorem zcs {W:World} {a:Addr} {v:Value} (o:Obj) (h:W.cell? a=some v):(W.alloc o).cell? a=some v:=cell_kept h (World.grownBy_alloc W o none) (fun r e=>by cases e)
theorem zd8 {W:World} {a:Addr} {v:Value} (o:Obj) (h:W.cell? a=some v) (hf:W.frozen? a=false):(W.alloc o).frozen? a=false:=(frozen_kept h (World.grownBy_alloc W o none) (fun r e=>by cases e)).trans hf
end Go.Proofs.YtpbmmoneeoijaaaGreatDoor.Dl
namespace Go.Proofs.YtpbmmoneeoijaaaGreatDoor.Dl
open Go.RowKit
def iv (xs:List Int):List Value:=xs.map (qI ·)
end Go.Proofs.YtpbmmoneeoijaaaGreatDoor.Dl
namespace Go.Proofs.YtpbmmoneeoijaaaGreatDoor
open Go.RowKit
def OfT (M:TypeId→Prop) (base:Nat) (w:World) (k:Nat):Prop:=base≤k∧∃ cur t,w.heap[k]? =some (.cells cur t (0,0))∧M t
def FT (M:TypeId→Prop) (base:Nat) (w w':World):Prop:=Save (OfT M base w) w w'
variable {M M':TypeId→Prop} {base:Nat} {w w' a b c:World}
theorem FT.of_below (h:Below w.heap.size w w'):FT M base w w':=Save.of_below h _
theorem FT.trans (h:FT M base a b) (k:FT M base b c):FT M base a c:=
 Save.trans h k fun i hi ⟨hb,cur,t,hc,ht⟩=>by
  by_cases hn:OfT M base a i
  ·exact hn
  ·rw [h.block i hi hn] at hc
   exact⟨hb,cur,t,hc,ht⟩
theorem FT.of_save {S:Nat→Prop} (h:Save S w w') (hS:∀ k,k < w.heap.size→S k→OfT M base w k):FT M base w w':=
 ⟨h.os,h.tape,h.output,h.size,fun k hk hn=>h.block k hk fun hs=>hn (hS k hk hs)⟩
theorem FT.set {p i:Nat} {cur:Array Value} {t:TypeId} (hp:w.heap[p]? =some (.cells cur t (0,0))) (ht:M t) (hb:base≤p) (v:Value):FT M base w (w.setCell ⟨p,i,none⟩ v):=
 FT.of_save (Save.set w p i v) fun k _ hk=>by
  obtain rfl:k=p:=hk;exact⟨hb,cur,t,hp,ht⟩
theorem FT.alloc (w:World) (o:Obj):FT M base w (w.alloc o):=FT.of_below (qBr (w:=w) o)
theorem FT.blk {k:Nat} {cur:Array Value} {t:TypeId} (h:FT M base w w') (hk:w.heap[k]? =some (.cells cur t (0,0))) (ht:¬ M t):w'.heap[k]? =some (.cells cur t (0,0)):=
 zap hk h fun ⟨_,cur',t',hc,hm⟩=>by
  rw [hk] at hc;cases hc;exact ht hm
theorem FT.own {B s n:Nat} {e:TypeId} {u:Value} {ys:List Value} (h:FT M base w w') (ho:w.ownsRow B e s u n ys) (he:¬ M e):w'.ownsRow B e s u n ys:=by
 rcases ho.2 with ⟨rfl,h1⟩|⟨g,cap,cur,rfl,h2,h3,h4⟩
 ·exact⟨ho.1,.inl ⟨rfl,h1⟩⟩
 ·refine⟨ho.1,.inr ⟨g,cap,cur,rfl,h2,?_,h4⟩⟩
  exact h.blk h3 he
end Go.Proofs.YtpbmmoneeoijaaaGreatDoor
namespace Go.Proofs.YtpbmmoneeoijaaaGreatDoor.Dl
open Go.RowKit
def okR (id t:Int) (r:TL):Bool:=decide (1≤t∧t≤65536) && ((look id r).isSome || decide (r.length < 64))
def addR (id t:Int) (r:TL):TL:=if okR id t r then dropR id r ++ [(id,t)] else r
def cnt (a:Int) (r:TL):Nat:=(r.map (·.1)).count a
end Go.Proofs.YtpbmmoneeoijaaaGreatDoor.Dl
namespace Go.Proofs.YtpbmmoneeoijaaaGreatDoor
open Go.RowKit Go.Deep Go.Shelf
set_option maxRecDepth 100000
set_option maxHeartbeats 8000000
theorem zcv {P:Program} {w:World} (t e:TypeId) (n:Nat) (cs:Array Value) (k:IntKind) (i:Nat) (y:Int) (ke:IntKind) (ht:P.underlying t=some (.array n e)) (he:P.underlying e=some (.int ke)) (hs:(P.info? e).map (·.size)=some 1) (hi:i < n) (hc:cs[i]? =some (qI y)):(Instr.index t (.agg cs) (.int k i)).run P w=.ok (qI y) w:=by
 obtain⟨inf,hinf,hsz⟩:∃ inf,P.info? e=some inf∧inf.size=1:=by
  cases h:P.info? e with
  |none=>rw [h] at hs;cases hs
  |some inf=>rw [h] at hs;exact⟨inf,rfl,by simpa using hs⟩
 have hn:(0:Int)≤(i:Int)∧(i:Int) < (n:Int):=by omega
 have hil:i < cs.size:=(qLt hc);have hce:cs[i]=qI y:=(Array.getElem?_eq_some_iff.1 hc).2;simp [Instr.index,run_underlying ht,run_underlying he,asIntOf,hn,sizeOf,typeInfo,hinf,hsz,part,isAgg,Sem.run_bind,hil,hce];exact fun h=>absurd h (by omega)
structure OkQ (x:Nat→Int):Prop where
 c1:1≤x 0
 c2:x 0≤16
 p1:1≤x 1
 p2:x 1≤3
theorem zt4 {s:Nat} (hs:s < 4294967296) (n:Int):s |||bitN n < 4294967296:=Nat.or_lt_two_pow (n:=32) hs (zsx n)
def zhk (x:Nat→Int) (p q:Int):Nat→Nat→Bool
 |0,_=>true
 |k+1,s=>if x (3 - k)=0 then zhk x p q k s else if x (3 - k) < 0∨q < x (3 - k)∨p≤((3 - k:Nat):Int)∨hasN s (x (3 - k))=true then false else zhk x p q k (s |||bitN (x (3 - k)))
theorem mapsR_at (x:Nat→Int) (p q:Int) {i:Nat} (hi:i < 4) (s:Nat):zhk x p q (4 - i) s=if x i=0 then zhk x p q (4 - (i+1)) s else if x i < 0∨q < x i∨p≤(i:Int)∨hasN s (x i)=true then false else zhk x p q (4 - (i+1)) (s |||bitN (x i)):=by
 have e:4 - i=(4 - (i+1))+1:=by omega
 rw [e]
 conv=>lhs;unfold zhk
 rw [show 3 - (4 - (i+1))=i by omega]
theorem zwl (x:Nat→Int) (p q:Int) (w:World):Calls Tryz.prog 217 #[.agg #[qI (x 0),qI (x 1),qI (x 2),qI (x 3)],qI p,qI q] w fun e w'=>e=.returned (.bool (zhk x p q 4 0))∧Below w.heap.size w w':=by
 have hb1:=qBr (w:=w) (qC #[qI (x 0),qI (x 1),qI (x 2),qI (x 3)] 174);have HL:=hid fun (i:Nat) (hi:i < 4) (s:Nat)=>mapsR_at x p q hi s;obtain⟨R,hR⟩:∃ R,zhk x p q 4 0=R:=⟨_,rfl⟩;rw [hR];have HR0:=hid (show zhk x p q (4 - 0) 0=R from hR);clear hR;go_enter Tryz.func217,Tryz.ntmps217;go_wp2;obtain⟨W0,hW0⟩:∃ W,W=(w.alloc (qC #[qI (x 0),qI (x 1),qI (x 2),qI (x 3)] 174)):=⟨_,rfl⟩;rw [←hW0] at hb1 ⊢;have HB:=hid hb1;clear hW0 hb1
 go_loopw [7,11] (fun s_ i_ wr=>∃ i s:Nat,i≤4∧s_=qU s∧i_=qI i∧Hid (s < 4294967296)∧Hid (zhk x p q (4 - i) s=R)∧W0=wr) (fun _ i_ _=>4 - (intOf i_).toNat)
 case atStart=>exact⟨0,0,by omega,rfl,rfl,hid (by decide),HR0,rfl⟩
 case round=>
  clear HR0;obtain⟨i,s,hi,rfl,rfl,HS,HR,rfl⟩:=hrel;by_cases hlt:i < 4
  ·have t0:decide ((i:Int) < 4)=true:=by simp;omega
   obtain⟨l,hl⟩:∃ l,x i=l:=⟨_,rfl⟩;have hix:(#[qI (x 0),qI (x 1),qI (x 2),qI (x 3)]:Array Value)[i]? =some (qI l):=by
    rw [←hl];rcases i with _|_|_|_|i
    all_goals first|rfl|omega
   have i0':(0:Int)≤(i:Int):=by omega
   have i1:(i:Int) < 4:=by omega
   have hrun:=zcv (w:=W0) 174 3 4 _ .i64 i l .i64 Tryz.underlying174 Tryz.underlying3 (by kernel_rfl) hlt hix;have HS2:=hid (zt4 HS.out l);have HRi:=HL.out i hlt s;rw [hl,HR.out] at HRi;clear HL
   go_upto_region 5 with (rw [hrun];simp only [Result.andThen];rw [Oper.upon_value])
   clear hrun hix;by_cases k0:l=0
   ·have u0:(l == 0)=true:=by simp [k0]
    have HR2:=hid (HRi.trans (if_pos k0)).symm;clear HRi;go_wp2;go_roundw
    case rel=>exact⟨i+1,s,by omega,rfl,by go_num,HS,HR2,trivial⟩
    case measure=>simp [intOf];omega
   rw [if_neg k0] at HRi;have u0:(l == 0)=false:=by simp [k0]
   by_cases k1:l < 0
   ·have u1:decide (l < 0)=true:=by simp [k1]
    have hR:=hid (HRi.trans (if_pos (.inl k1)));clear HRi;go_wp2;go_ret;exact⟨by rw [hR.out];rfl,HB.out⟩
   have u1:decide (l < 0)=false:=by simp [k1]
   by_cases k2:q < l
   ·have u2:decide (q < l)=true:=by simp [k2]
    have hR:=hid (HRi.trans (if_pos (.inr (.inl k2))));clear HRi;go_wp2;go_ret;exact⟨by rw [hR.out];rfl,HB.out⟩
   have u2:decide (q < l)=false:=by simp [k2]
   by_cases k3:p≤(i:Int)
   ·have u3:decide (p≤(i:Int))=true:=by simp [k3]
    have hR:=hid (HRi.trans (if_pos (.inr (.inr (.inl k3)))));clear HRi;go_wp2;go_ret;exact⟨by rw [hR.out];rfl,HB.out⟩
   have u3:decide (p≤(i:Int))=false:=by simp [k3]
   cases hh:hasN s l
   ·have HR2:=hid (HRi.trans (if_neg (by rw [hh];simp;omega))).symm
    clear HRi
    go_wp2_with (go_at_call 189;refine (zhm s HS.out l _).mono ?_;rw [hh];rintro e w2 ⟨rfl,rfl⟩)
    go_wp2_with (go_at_call 138;refine (zjl s HS.out l _).mono ?_;rintro e w2 ⟨rfl,rfl⟩)
    go_roundw
    case rel=>exact⟨i+1,_,by omega,rfl,by go_num,HS2,HR2,trivial⟩
    case measure=>simp [intOf];omega
   ·have hR:=hid (HRi.trans (if_pos (.inr (.inr (.inr hh)))))
    clear HRi
    go_wp2_with (go_at_call 189;refine (zhm s HS.out l _).mono ?_;rw [hh];rintro e w2 ⟨rfl,rfl⟩)
    go_ret;exact⟨by rw [hR.out];rfl,HB.out⟩
  ·obtain rfl:i=4:=by omega
   have hR:=hid HR.out.symm;go_wp2;go_ret;exact⟨by rw [hR.out];rfl,HB.out⟩
def zt8 (f:Nat→Int):List Value:=(List.range 16).map fun j=>qI (f (3+j))
theorem zlr (f:Nat→Int):(zt8 f).length=16:=by simp [zt8]
theorem zt7 (f:Nat→Int) {j:Nat} (hj:j < 16):(zt8 f)[j]? =some (qI (f (3+j))):=by simp [zt8,hj]
theorem zBh (f:Nat→Int):(Tryz.prog.info? 62).map (·.size)=some (zt8 f).length:=by rw [zlr];kernel_rfl
def zcj (f:Nat→Int):Obj:=.cells (zbf f).toArray 176
theorem zaz {W:World} {b:Nat} {f:Nat→Int} (h:W.heap[b]? =some (zcj f)) {j:Nat} (hj:j < 23):W.cell? ⟨b,j,none⟩=some (qI (f j)):=by
 unfold zcj at h;rw [zaa h];simp only [List.getElem?_toArray];exact zgk f hj
def offB (f:Nat→Int) (s i:Nat):Bool:=!(decide (f (3+i) < 0) || decide (16384 < f (3+i)) || (decide (0 < f (3+i)) && (decide (f 2≠3) || !hasN s (i:Int))))
def zhe (f:Nat→Int) (s:Nat):Nat→Bool
 |0=>true
 |k+1=>offB f s (15 - k) && zhe f s k
theorem offsR_at (f:Nat→Int) (s:Nat) {i:Nat} (hi:i < 16):zhe f s (16 - i)=(offB f s i && zhe f s (16 - (i+1))):=by
 have e:16 - i=(16 - (i+1))+1:=by omega
 rw [e]
 conv=>lhs;unfold zhe
 rw [show 15 - (16 - (i+1))=i by omega]
theorem zp5 (f:Nat→Int) (s:Nat) (hs:s < 4294967296) (w:World):Calls Tryz.prog 218 #[.agg (zbf f).toArray,qU s] w fun e w'=>e=.returned (.bool (zhe f s 16))∧Below w.heap.size w w':=by
 have hb1:=qBr (w:=w) (zcj f);have hblk:=heap_alloc_new w (zcj f);have c2:=zaz hblk (j:=2) (by decide);have hr:(w.alloc (zcj f)).rangeAt w.heap.size 3 (zt8 f):=fun j v hv=>by
  have hj:j < 16:=by rw [←zlr f];exact (List.getElem?_eq_some_iff.1 hv).1
  rw [zt7 f hj] at hv;cases hv;exact zaz hblk (by omega)
 have HL:=hid fun (i:Nat) (hi:i < 16)=>offsR_at f s hi;obtain⟨R,hR⟩:∃ R,zhe f s 16=R:=⟨_,rfl⟩;rw [hR];have HR0:=hid (show zhe f s (16 - 0)=R from hR);clear hR;go_enter Tryz.func218,Tryz.ntmps218
 go_upto_region 1 with fail
 refine wp_region_lit ?_;refine wpList_plain rfl fun K hK=>?_;go_simp;refine hK _ _ ?_;clear hK K;refine wpList_load_mid rfl 62 _ rfl w.heap.size 3 rfl (zt8 f) _ hr Tryz.underlying62 rfl (zBh f) ?_;refine wpList_plain rfl fun K hK=>?_;go_simp;refine hK _ _ ?_;clear hK K;show Exit.then _ _ _ _ _
 obtain⟨W0,hW0⟩:∃ W,W=w.alloc (zcj f):=⟨_,rfl⟩;unfold zcj at hW0 hb1 c2;rw [←hW0] at hb1 c2 ⊢;have HB:=hid hb1;clear hW0 hb1 hblk hr;go_simp;go_wp2
 go_loopw [9] (fun i_ wr=>∃ i:Nat,i≤16∧i_=qI i∧Hid (zhe f s (16 - i)=R)∧W0=wr) (fun i_ _=>16 - (intOf i_).toNat)
 case atStart=>exact⟨0,by omega,rfl,HR0,rfl⟩
 case round=>
  clear HR0;obtain⟨i,hi,rfl,HR,rfl⟩:=hrel;by_cases hlt:i < 16
  ·have t0:decide ((i:Int) < 16)=true:=by simp;omega
   obtain⟨l,hl⟩:∃ l,f (3+i)=l:=⟨_,rfl⟩;have hix:(zt8 f).toArray[i]? =some (qI l):=by
    rw [←hl,List.getElem?_toArray];exact zt7 f hlt
   have i0':(0:Int)≤(i:Int):=by omega
   have i1:(i:Int) < 16:=by omega
   have hrun:=zcv (w:=W0) 62 3 16 _ .i64 i l .i64 Tryz.underlying62 Tryz.underlying3 (by kernel_rfl) hlt hix
   go_upto_region 4 with (rw [hrun];simp only [Result.andThen];rw [Oper.upon_value])
   clear hrun hix;obtain⟨y,hy⟩:∃ y,f 2=y:=⟨_,rfl⟩;rw [hy] at c2;have HRi:=HL.out i hlt;rw [HR.out] at HRi;unfold offB at HRi;rw [hl,hy] at HRi;clear HL;by_cases k1:l < 0
   ·have u1:decide (l < 0)=true:=by simp [k1]
    have hR:Hid (R=false):=by unfold Hid;rw [HRi];simp [k1]
    clear HRi;go_wp2;go_ret;exact⟨by rw [hR.out];rfl,HB.out⟩
   have u1:decide (l < 0)=false:=by simp [k1]
   by_cases k2:16384 < l
   ·have u2:decide (16384 < l)=true:=by simp [k2]
    have hR:Hid (R=false):=by unfold Hid;rw [HRi];simp [k2]
    clear HRi;go_wp2;go_ret;exact⟨by rw [hR.out];rfl,HB.out⟩
   have u2:decide (16384 < l)=false:=by simp [k2]
   by_cases k3:0 < l
   ·have u3:decide (0 < l)=true:=by simp [k3]
    by_cases k4:y=3
    ·have u4:(y == 3)=true:=by simp [k4]
     have u5:(y != 3)=false:=by simp [k4]
     cases hh:hasN s (i:Int)
     ·have hR:Hid (R=false):=by unfold Hid;rw [HRi];simp [k3,hh]
      clear HRi
      go_wp2_with (go_at_call 189;refine (zhm s hs (i:Int) _).mono ?_;rw [hh];rintro e w2 ⟨rfl,rfl⟩)
      go_ret;exact⟨by rw [hR.out];rfl,HB.out⟩
     ·have HR2:=hid (show zhe f s (16 - (i+1))=R by rw [HRi];simp [k1,k2,k4,hh])
      clear HRi
      go_wp2_with (go_at_call 189;refine (zhm s hs (i:Int) _).mono ?_;rw [hh];rintro e w2 ⟨rfl,rfl⟩)
      go_roundw
      case rel=>exact⟨i+1,by omega,by go_num,HR2,trivial⟩
      case measure=>simp [intOf];omega
    ·have u4:(y == 3)=false:=by simp [k4]
     have u5:(y != 3)=true:=by simp [k4]
     have hR:Hid (R=false):=by unfold Hid;rw [HRi];simp [k3,k4]
     clear HRi;go_wp2;go_ret;exact⟨by rw [hR.out];rfl,HB.out⟩
   ·have u3:decide (0 < l)=false:=by simp [k3]
    have HR2:=hid (show zhe f s (16 - (i+1))=R by rw [HRi];simp [k1,k2,k3]);clear HRi;go_wp2;go_roundw
    case rel=>exact⟨i+1,by omega,by go_num,HR2,trivial⟩
    case measure=>simp [intOf];omega
  ·obtain rfl:i=16:=by omega
   have hR:=hid HR.out.symm;go_wp2;go_ret;exact⟨by rw [hR.out];rfl,HB.out⟩
theorem zbp {P:Program} {o:Oper} {a:Act} {C:World→Prop} {K:Act→Prop} (t:TypeId) (x:Operand) (ho:o.op=.load t x) (b off:Nat) (hx:a.eval x=.pointer (some ⟨b,off,none⟩)) (L:List Value) (d:TypeDesc)
  (hr:∀ w,C w→w.rangeAt b off L) (hu:P.underlying t=some d) (hrow:d.isRow=true) (hi:(P.info? t).map (·.size)=some L.length) (hk:K (a.put o.dst (.agg L.toArray))):o.quiet P a C K:=by
 refine⟨_,fun w hw=>?_,hk⟩;unfold Oper.quietAt execOp;simp only [ho,hx,Instr.loadAt,Instr.sureAddr,Sem.run_bind,Sem.run_pure,Result.andThen_ok,run_loadVar_mid w b off t L d (hr w hw) hu hrow hi];exact⟨rfl,rfl⟩
structure OkE (x:Img) (f:Nat→Int):Prop where
 f1:0≤f 0
 f2:f 0 < x.mn
 t1:0≤f 1
 t2:f 1 < x.mn
 p1:1≤f 2
 p2:f 2≤3
variable {M:TypeId→Prop} {base:Nat} {W W':World}
def TyAt (W:World) (ao:Option Addr) (t:TypeId):Prop:=∀ b o,ao=some ⟨b,o,none⟩→∃ cur,W.heap[b]? =some (.cells cur t (0,0))
theorem TyAt.keep {ao:Option Addr} {t:TypeId} (h:TyAt W ao t) (ht:¬ M t) (k:FT M base W W'):TyAt W' ao t:=fun b o e=>by
 obtain⟨cur,hc⟩:=h b o e;exact⟨cur,k.blk hc ht⟩
theorem TyAt.cell {b o i:Nat} {t:TypeId} {v:Value} (h:TyAt W (some ⟨b,o,none⟩) t) (ht:¬ M t) (k:FT M base W W') (hc:W.cell? ⟨b,i,none⟩=some v):W'.cell? ⟨b,i,none⟩=some v:=by
 obtain⟨cur,h1⟩:=h b o rfl;have h2:=k.blk h1 ht;exact (World.cell?_of_block (w:=W) (w':=W') (a:=⟨b,i,none⟩) (h2.trans h1.symm)).trans hc
theorem zb9.keep {ao:Option Addr} {n K:Nat} {g:Nat→Nat→Int} {t:TypeId} (h:zb9 W ao n K g) (ha:TyAt W ao t) (ht:¬ M t) (k:FT M base W W'):zb9 W' ao n K g:=fun i hi=>by
 obtain⟨b,o,e,hc⟩:=h i hi;subst e;exact⟨b,o,rfl,fun j hj=>ha.cell ht k (hc j hj)⟩
end Go.Proofs.YtpbmmoneeoijaaaGreatDoor
namespace Go.Proofs.YtpbmmoneeoijaaaGreatDoor
open Go.RowKit Go.Deep Go.Shelf
set_option maxRecDepth 100000
set_option maxHeartbeats 8000000
def zhf (g:Nat→Nat→Int) (n K:Nat):List Value:=(List.range (n * K)).map fun k=>qI (g (k / K) (k % K))
theorem zfu (g:Nat→Nat→Int) (n K:Nat):(zhf g n K).length=n * K:=by simp [zhf]
theorem zoz (g:Nat→Nat→Int) {n K k:Nat} (h:k < n * K):(zhf g n K)[k]? =some (qI (g (k / K) (k % K))):=by simp [zhf,h]
theorem zyw (g:Nat→Nat→Int) {n K i j:Nat} (hi:i < n) (hj:j < K):(zhf g n K)[i * K+j]? =some (qI (g i j)):=by
 have hK:0 < K:=by omega
 have h1:i * K+j < n * K:=by
  have:(i+1) * K≤n * K:=Nat.mul_le_mul_right K hi;rw [Nat.add_mul,Nat.one_mul] at this;omega
 have h2:(i * K+j) / K=i:=by rw [Nat.add_comm,Nat.add_mul_div_right _ _ hK,Nat.div_eq_of_lt hj,Nat.zero_add]
 have h3:(i * K+j) % K=j:=by rw [Nat.add_comm,Nat.add_mul_mod_self_right,Nat.mod_eq_of_lt hj]
 rw [zoz g h1,h2,h3]
theorem zq0 (g:Nat→Nat→Int) (n K:Nat) (f:Nat→Int):zhf (fun i=>if i=n then f else g i) (n+1) K=zhf g n K ++ (List.range K).map fun j=>qI (f j):=by
 apply List.ext_getElem?;intro k;by_cases h:k < n * K
 ·rw [List.getElem?_append_left (by rw [zfu];exact h),zoz g h,zoz _ (by rw [Nat.add_mul];omega)]
  have:k / K < n:=Nat.div_lt_of_lt_mul (by rw [Nat.mul_comm];exact h);rw [if_neg (by omega)]
 ·rw [List.getElem?_append_right (by rw [zfu];omega),zfu]
  by_cases h2:k < n * K+K
  ·have hK:0 < K:=by omega
   have e:k=n * K+(k - n * K):=by omega
   have h3:=zyw (fun i=>if i=n then f else g i) (n:=n+1) (K:=K) (i:=n) (j:=k - n * K) (by omega) (by omega);rw [←e] at h3;rw [h3,if_pos rfl,List.getElem?_map,List.getElem?_range (by omega)];rfl
  ·rw [List.getElem?_eq_none (by rw [zfu,Nat.add_mul];omega),List.getElem?_eq_none (by simp;omega)]
theorem zar {W:World} {B n K:Nat} {e:TypeId} {v:Value} {xs:List Value} (h:W.ownsRow B e K v n xs):∃ ao c,v=.slice ao n c∧TyAt W ao e∧(0 < n→∃ b,ao=some ⟨b,0,none⟩∧B≤b∧(∀ j,j < n * K→W.cell? ⟨b,j,none⟩=xs[j]?)∧∀ j,W.frozen? ⟨b,j,none⟩=false):=by
 rcases h.2 with ⟨rfl,rfl⟩|⟨g,cap,cur,rfl,h2,h3,h4⟩
 ·exact⟨none,0,rfl,fun b o e=>(by cases e),fun h=>absurd h (by omega)⟩
 ·refine⟨some ⟨g,0,none⟩,cap,rfl,fun b o e=>?_,fun _=>⟨g,rfl,h2,fun j hj=>h.cellAt j hj,fun j=>h.frozenAt j⟩⟩
  cases e;exact⟨cur,h3⟩
theorem zgw {W:World} {B n K:Nat} {e:TypeId} {v:Value} {g:Nat→Nat→Int} (h:W.ownsRow B e K v n (zhf g n K)):∃ ao c,v=.slice ao n c∧zb9 W ao n K g∧TyAt W ao e:=by
 obtain⟨ao,c,e1,h1,h2⟩:=zar h;refine⟨ao,c,e1,fun i hi=>?_,h1⟩;obtain⟨b,rfl,_,h3,_⟩:=h2 (by omega);refine⟨b,0,rfl,fun j hj=>?_⟩;have hlt:i * K+j < n * K:=by
  have:(i+1) * K≤n * K:=Nat.mul_le_mul_right K hi;rw [Nat.add_mul,Nat.one_mul] at this;omega
 rw [Nat.zero_add,h3 _ hlt,zyw g hi hj]
theorem infoTk:(Tryz.prog.info? 165).map (fun i=>(i.zero,i.size,i.bytes))=some (some (.agg qZ11),11,88):=by kernel_rfl
theorem infoEg:(Tryz.prog.info? 176).map (fun i=>(i.zero,i.size,i.bytes))=some (some (.agg qZ23),23,184):=by kernel_rfl
theorem infoMd:(Tryz.prog.info? 71).map (fun i=>(i.zero,i.size,i.bytes))=some (some (.agg #[qU 0,.slice none 0 0]),2,32):=by kernel_rfl
theorem infoQu:(Tryz.prog.info? 74).map (fun i=>(i.zero,i.size,i.bytes))=some (some (.agg #[qI 0,qI 0]),2,16):=by kernel_rfl
theorem zkz {W W':World} {b n s:Nat} {e:TypeId} {u:Value} {ys:List Value} (h:W.ownsRow b e s u n ys) (k:Below W.heap.size W W'):W'.ownsRow b e s u n ys:=FT.own (M:=fun _=>False) (base:=0) (FT.of_below k) h id
end Go.Proofs.YtpbmmoneeoijaaaGreatDoor
