/-
  A part of the proof: EvPure EvMem EvLoad.
-/
import Derived.Test.YtpbmmoneeoijaaaGreatDoorP04
import Derived.Great.BuildSlice
namespace Go.Proofs.YtpbmmoneeoijaaaGreatDoor.Ev
open Go
def natK {β:Type} (n:Nat) (k:Nat→β):β:=match n with|0=>k 0|m+1=>k (m+1)
theorem zco {β:Type} (n:Nat) (k:Nat→β):natK n k=k n:=by cases n<;>rfl
def intK {β:Type} (n:Int) (k:Int→β):β:=match n with| .ofNat m=>natK m fun m=>k (.ofNat m)| .negSucc m=>natK m fun m=>k (.negSucc m)
theorem zDq {β:Type} (n:Int) (k:Int→β):intK n k=k n:=by cases n<;>simp [intK,zco]
def zEk {β:Type} (b:Bool) (k:Bool→β):β:=match b with|true=>k true|false=>k false
theorem zkh {β:Type} (b:Bool) (k:Bool→β):zEk b k=k b:=by cases b<;>rfl
def addrK {β:Type} (a:Addr) (k:Addr→β):β:=match a with|⟨b,o,s⟩=>natK b fun b=>natK o fun o=>k ⟨b,o,s⟩
theorem zy6 {β:Type} (a:Addr) (k:Addr→β):addrK a k=k a:=by cases a;simp [addrK,zco]
def valK {β:Type} (v:Value) (k:Value→β):β:=match v with
 | .bool b=>zEk b fun b=>k (.bool b)
 | .int kd n=>intK n fun n=>k (.int kd n)
 | .string s=>k (.string s)
 | .pointer none=>k (.pointer none)
 | .pointer (some a)=>addrK a fun a=>k (.pointer (some a))
 | .slice none l c=>natK l fun l=>natK c fun c=>k (.slice none l c)
 | .slice (some a) l c=>addrK a fun a=>natK l fun l=>natK c fun c=>k (.slice (some a) l c)
 | .func fn f c=>k (.func fn f c)
 | .agg cs=>k (.agg cs)
 | .tuple cs=>k (.tuple cs)
 | .nilFunc=>k .nilFunc
 | .nilIface=>k .nilIface
 | .map r=>k (.map r)
 | .chan r=>k (.chan r)
 | .iface t v=>k (.iface t v)
 | .float kd b=>k (.float kd b)
 | .complex kd a b=>k (.complex kd a b)
theorem zdw {β:Type} (v:Value) (k:Value→β):valK v k=k v:=by
 cases v with
 |pointer a=>cases a<;>simp [valK,zy6]
 |slice a l c=>cases a<;>simp [valK,zy6,zco]
 |_=>simp [valK,zkh,zDq]
def zj6 {β:Type}:List Value→(List Value→β)→β
 | [],k=>k []
 |x :: xs,k=>valK x fun x=>zj6 xs fun xs=>k (x :: xs)
theorem zcd {β:Type}:∀ (l:List Value) (k:List Value→β),zj6 l k=k l
 | [],_=>rfl
 |x :: xs,k=>by unfold zj6;rw [zdw,zcd]
def byteK {β:Type} (b:UInt8) (k:UInt8→β):β:=natK b.toNat fun n=>k (UInt8.ofNat n)
theorem byteK_eq {β:Type} (b:UInt8) (k:UInt8→β):byteK b k=k b:=by
 unfold byteK;rw [zco];congr 1;simp
def zuw {β:Type}:List UInt8→(List UInt8→β)→β
 | [],k=>k []
 |x :: xs,k=>byteK x fun x=>zuw xs fun xs=>k (x :: xs)
theorem zhu {β:Type}:∀ (l:List UInt8) (k:List UInt8→β),zuw l k=k l
 | [],_=>rfl
 |x :: xs,k=>by unfold zuw;rw [byteK_eq,zhu]
def appK {β:Type}:List UInt8→List UInt8→(List UInt8→β)→β
 | [],m,k=>k m
 |x :: xs,m,k=>appK xs m fun r=>k (x :: r)
theorem zxi {β:Type}:∀ (l m:List UInt8) (k:List UInt8→β),appK l m k=k (l ++ m)
 | [],_,_=>rfl
 |x :: xs,m,k=>by unfold appK;rw [zxi];rfl
def closedB:Nat→Value→Bool
 |0,_=>false
 |d+1,v=>match v with
  | .bool _=>true
  | .int _ _=>true
  | .string _=>true
  | .pointer none=>true
  | .slice none l c=>l.beq 0 && c.beq 0
  | .map none=>true
  | .nilFunc=>true
  | .nilIface=>true
  | .func (.func _) f c=>f.toList.isEmpty && c.toList.isEmpty
  | .agg cs=>cs.toList.all (closedB d)
  | .tuple cs=>cs.toList.all (closedB d)
  |_=>false
variable {μ μ':Mu}
theorem zd7 {d:Nat} (ih:∀ v v',closedB d v=true→(RV μ v v'↔v'=v)):∀ (l m:List Value),l.all (closedB d)=true→(All2 (RV μ) l m↔m=l)
 | [],[],_=>by simp [All2]
 | [],_ :: _,_=>by simp [All2]
 |_ :: _,[],_=>by simp [All2]
 |x :: xs,y :: ys,h=>by
  simp only [List.all_cons,Bool.and_eq_true] at h;simp only [All2,ih x y h.1,zd7 ih xs ys h.2,List.cons.injEq]
theorem closed_iff:∀ (d:Nat) (v v':Value),closedB d v=true→(RV μ v v'↔v'=v)
 |0,_,_,h=>by cases h
 |d+1,v,v',h=>by
  have ih:=closed_iff d
  cases v with
  |bool b=>exact zg7
  |int k n=>exact zhz
  |string s=>exact zdp
  |nilFunc=>exact zxm
  |nilIface=>exact zxl
  |pointer a=>cases a with
   |none=>exact zs0
   |some a=>cases h
  |map a=>cases a with
   |none=>exact zpv
   |some a=>cases h
  |slice a l c=>cases a with
   |none=>
    simp only [closedB,Bool.and_eq_true] at h;obtain rfl:=Nat.eq_of_beq_eq_true h.1;obtain rfl:=Nat.eq_of_beq_eq_true h.2;rw [zf3];simp
   |some a=>cases h
  |func fn f c=>cases fn with
   |func g=>
    simp only [closedB,Bool.and_eq_true,List.isEmpty_iff] at h;obtain⟨h1,h2⟩:=h;obtain rfl:f=#[]:=Array.toList_eq_nil_iff.1 h1;obtain rfl:c=#[]:=Array.toList_eq_nil_iff.1 h2;rw [zh0];constructor
    ·rintro⟨f',c',e,a1,a2⟩
     have b1:=a1.length;have b2:=a2.length;simp only [List.length_nil,Array.length_toList] at b1 b2;obtain rfl:f'=#[]:=Array.eq_empty_of_size_eq_zero b1.symm;obtain rfl:c'=#[]:=Array.eq_empty_of_size_eq_zero b2.symm;exact e
    ·rintro rfl
     exact⟨#[],#[],rfl,trivial,trivial⟩
   |_=>cases h
  |agg cs=>
   simp only [closedB] at h;rw [zri];constructor
   ·rintro⟨c',e,a1⟩
    have:=(zd7 ih _ _ h).1 a1;rw [e,Array.toList_inj.1 this]
   ·rintro rfl
    exact⟨cs,rfl,(zd7 ih _ _ h).2 rfl⟩
  |tuple cs=>
   simp only [closedB] at h;rw [zij];constructor
   ·rintro⟨c',e,a1⟩
    have:=(zd7 ih _ _ h).1 a1;rw [e,Array.toList_inj.1 this]
   ·rintro rfl
    exact⟨cs,rfl,(zd7 ih _ _ h).2 rfl⟩
  |float _ _=>cases h
  |complex _ _ _=>cases h
  |chan _=>cases h
  |iface _ _=>cases h
def zb1 {α:Type} (P:Program):Sem α→Option α
 | .pure a=>some a
 | .program k=>zb1 P (k P)
 |_=>none
theorem zi3 {α:Type} {P:Program}:∀ (s:Sem α) {v:α} (_:zb1 P s=some v) (w:World),s.run P w=.ok v w
 | .pure a,v,h,w=>by
  simp only [zb1,Option.some.injEq] at h;subst h;rfl
 | .program k,v,h,w=>by
  simp only [zb1] at h;exact zi3 (k P) h w
 | .load _ _ _,_,h,_=>by cases h
 | .store _ _ _ _,_,h,_=>by cases h
 | .new _ _,_,h,_=>by cases h
 | .shape _ _,_,h,_=>by cases h
 | .freeze _ _ _,_,h,_=>by cases h
 | .frozen _ _,_,h,_=>by cases h
 | .getObj _ _,_,h,_=>by cases h
 | .setObj _ _ _,_,h,_=>by cases h
 | .choose _ _,_,h,_=>by cases h
 | .sys _ _,_,h,_=>by cases h
 | .mark _ _,_,h,_=>by cases h
 | .halt _,_,h,_=>by cases h
def aev (tm:List Value):Operand→Option Value
 | .tmp t=>some (tm.getD t undef)
 | .const v=>bif closedB 3 v then some v else none
 | .global _=>none
 | .func f=>some (.func (.func f) #[] #[])
abbrev Acc:=Operand→Option Value
def RT (μ:Mu) (tm:List Value) (a:Act):Prop:=All2 (RV μ) tm a.tmps.toList
theorem zaf {tm:List Value} {a:Act} (h:RT μ tm a) {x:Operand} {v:Value} (he:aev tm x=some v):RV μ v (a.eval x):=by
 cases x with
 |tmp t=>
  simp only [aev,Option.some.injEq] at he;subst he;have:=All2.getD h zii t;have e:a.eval (.tmp t)=a.tmps.toList.getD t undef:=by simp [Act.eval,Array.getD_eq_getD_getElem?,List.getD_eq_getElem?_getD]
  rw [e];exact this
 |const v'=>
  simp only [aev] at he
  cases hc:closedB 3 v' with
  |false=>rw [hc] at he;cases he
  |true=>
   rw [hc] at he;simp only [cond_true,Option.some.injEq] at he;subst he;exact (closed_iff 3 v' v' hc).2 rfl
 |global g=>cases he
 |func f=>
  simp only [aev,Option.some.injEq] at he;subst he;exact zh0.2 ⟨#[],#[],rfl,trivial,trivial⟩
end Go.Proofs.YtpbmmoneeoijaaaGreatDoor.Ev
namespace Go.Proofs.YtpbmmoneeoijaaaGreatDoor.Ev
open Go
variable {P:Program} {w0:Frm} {w:World} {μ μ':Mu} {H H':AH} {tm:List Value} {a:Act}
def RN (μ:Mu):Next→Next→Prop
 | .value v,n=>∃ v',n=.value v'∧RV μ v v'
 | .skip,n=>n=.skip
 | .enter f args,n=>∃ args',n=.enter f args'∧All2 (RV μ) args.toList args'.toList
 | .round l f tmps as body,n=>∃ p tmps',μ.pos l=some p∧n=.round p.block f tmps' as body∧All2 (RV μ) tmps.toList tmps'.toList
 | .defer d,n=>∃ d',n=.defer d'∧(∃ g c c',d.target=.fn (.func g) c∧d'.target=.fn (.func g) c'∧All2 (RV μ) c.toList c'.toList)∧All2 (RV μ) d.args.toList d'.args.toList
 |_,_=>False
def Snd (P:Program) (w0:Frm) (s:(Operand→Value)→Sem Next) (tm:List Value) (H:AH) (nx:Next) (H':AH):Prop:=
 ∀ (μ:Mu) (w:World) (a:Act),RT μ tm a→R w0 μ H w→∃ nx' w' μ',(s a.eval).run P w=.ok nx' w'∧R w0 μ' H' w'∧Post μ H μ' H'∧RN μ' nx nx'
def ret (v:Value) (H:AH):Option (Next×AH):=valK v fun v=>some (.value v,H)
theorem ze2 {v:Value} {nx:Next} (h:ret v H=some (nx,H')):nx=.value v∧H'=H:=by
 unfold ret at h;rw [zdw] at h;simp only [Option.some.injEq,Prod.mk.injEq] at h;exact⟨h.1.symm,h.2.symm⟩
theorem Snd.of_value {s:(Operand→Value)→Sem Next} {v:Value} (h:∀ (μ:Mu) (w:World) (a:Act),RT μ tm a→R w0 μ H w→∃ v',(s a.eval).run P w=.ok (.value v') w∧RV μ v v'):Snd P w0 s tm H (.value v) H:=
 fun μ w a ht hr=>let ⟨v',h1,h2⟩:=h μ w a ht hr;⟨.value v',w,μ,h1,hr,.refl _ _,v',rfl,h2⟩
theorem zg6 {v v':Value} (h:RV μ v v'):All2 (RV μ) v.cells.toList v'.cells.toList:=by
 have one:∀ x x':Value,RV μ x x'→All2 (RV μ) [x] [x']:=fun _ _ h=>⟨h,trivial⟩
 cases v with
 |bool b=>have h1:=zg7.1 h;subst h1;exact one _ _ h
 |int k n=>have h1:=zhz.1 h;subst h1;exact one _ _ h
 |string s=>have h1:=zdp.1 h;subst h1;exact one _ _ h
 |nilFunc=>have h1:=zxm.1 h;subst h1;exact one _ _ h
 |nilIface=>have h1:=zxl.1 h;subst h1;exact one _ _ h
 |pointer x=>cases x with
  |none=>have h1:=zs0.1 h;subst h1;exact one _ _ h
  |some x=>obtain⟨y,h1,_⟩:=zep.1 h;subst h1;exact one _ _ h
 |map x=>cases x with
  |none=>have h1:=zpv.1 h;subst h1;exact one _ _ h
  |some x=>obtain⟨y,h1⟩:=zE0.1 h;subst h1;exact one _ _ h
 |slice x l c=>cases x with
  |none=>have h1:=(zf3.1 h).2;subst h1;exact one _ _ h
  |some x=>obtain⟨y,rc,h1,_⟩:=zb4.1 h;subst h1;exact one _ _ h
 |func fn f c=>cases fn with
  |func g=>obtain⟨f',c',h1,_⟩:=zh0.1 h;subst h1;exact one _ _ h
  |yield l=>obtain⟨_,_,p,_,h1⟩:=zna.1 h;subst h1;exact one _ _ h
  |method n=>obtain⟨d,h2⟩:=h;cases d with|zero=>exact h2.elim|succ d=>obtain⟨f',c',h1,_⟩:=id h2;subst h1;exact one _ _ ⟨d+1,h2⟩
  |methodOf t n=>obtain⟨d,h2⟩:=h;cases d with|zero=>exact h2.elim|succ d=>obtain⟨f',c',h1,_⟩:=id h2;subst h1;exact one _ _ ⟨d+1,h2⟩
  |via t p g b=>obtain⟨d,h2⟩:=h;cases d with|zero=>exact h2.elim|succ d=>obtain⟨f',c',h1,_⟩:=id h2;subst h1;exact one _ _ ⟨d+1,h2⟩
 |agg cs=>obtain⟨c',h1,h2⟩:=zri.1 h;subst h1;exact h2
 |tuple cs=>obtain⟨c',h1,h2⟩:=zij.1 h;subst h1;exact one _ _ h
 |float k b=>obtain⟨d,h2⟩:=h;cases d<;>exact h2.elim
 |complex k x y=>obtain⟨d,h2⟩:=h;cases d<;>exact h2.elim
 |chan r=>obtain⟨d,h2⟩:=h;cases d<;>exact h2.elim
 |iface t v=>obtain⟨d,h2⟩:=h;cases d<;>exact h2.elim
theorem zza {l:List Value} {c':Array Value} (h:All2 (RV μ) l c'.toList) (b:Nat) (e e':TypeId) (f:Nat×Nat):RB μ (.cells ⟨l⟩ e f) ⟨b,0,c'.size⟩ (.cells c' e' (0,0)):=by
 refine⟨c',e',rfl,rfl,?_,fun i x hx=>?_⟩
 ·have:=h.length
  simp only [Array.length_toList] at this;simp [this]
 ·obtain⟨v,h1,h2⟩:=h.get (i:=i) (a:=x) (by simpa using hx)
  exact⟨v,by simpa using h1,h2⟩
def zjr (n:Nat):Bool:=n.blt (2 ^ depth)
theorem zh4 {n:Nat} (h:zjr n=true):n < 2 ^ depth:=by unfold zjr at h;rw [blt_eq] at h;simpa using h
def zum (l:List Value) (e:TypeId) (H:AH) (k:Nat→AH→Option (Next×AH)):Option (Next×AH):=
 bif zjr H.next then zj6 l fun l=>natK H.next fun n=>natK (H.next+1) fun n1=>BT.putK lv H.t n (some (.cells ⟨l⟩ e)) fun t=>k n ⟨n1,t⟩ else none
theorem zd2 {l:List Value} {e:TypeId} {k:Nat→AH→Option (Next×AH)} {r:Next×AH} (h:zum l e H k=some r):H.next < 2 ^ depth∧k H.next (H.new (.cells ⟨l⟩ e))=some r:=by
 unfold zum at h
 cases hs:zjr H.next with
 |false=>rw [hs] at h;cases h
 |true=>
  rw [hs] at h;simp only [cond_true,zcd,zco,BT.putK_eq] at h;exact⟨zh4 hs,h⟩
theorem zrv (hr:R w0 μ H w) (hn:H.next < 2 ^ depth) {l:List Value} {c':Array Value} (h:All2 (RV μ) l c'.toList) (e e':TypeId):
  R w0 (μ.add H.next ⟨w.heap.size,0,c'.size⟩) (H.new (.cells ⟨l⟩ e)) (w.alloc (.cells c' e' (0,0)))∧Post μ H (μ.add H.next ⟨w.heap.size,0,c'.size⟩) (H.new (.cells ⟨l⟩ e))∧
   At (μ.add H.next ⟨w.heap.size,0,c'.size⟩) ⟨H.next,0,none⟩ ⟨w.heap.size,0,none⟩:=by
 have hp:=hr.new_post hn (o:=.cells ⟨l⟩ e) (p:=⟨w.heap.size,0,c'.size⟩);refine⟨hr.new hn rfl (zza (RVs.ext hp.le h) _ _ _ _),hp,rfl,.inr ⟨_,Mu.add_pos,by simp⟩⟩
def zf1 (P:Program) (e:TypeId) (H:AH):Option (Next×AH):=
 match P.info? e with
 |none=>none
 |some i=>match i.zero with
  |none=>none
  |some z=>bif closedB 3 z then zum z.cells.toList e H fun n H'=>some (.value (.pointer (some ⟨n,0,none⟩)),H') else none
theorem zwv {e:TypeId} {nx:Next} (h:zf1 P e H=some (nx,H')):Snd P w0 (fun _=>do pure (.value (←Instr.alloc e true (.tuple #[])))) tm H nx H':=by
 intro μ w a ht hr;unfold zf1 at h
 cases hi:P.info? e with
 |none=>rw [hi] at h;cases h
 |some i=>
  rw [hi] at h;simp only at h
  cases hz:i.zero with
  |none=>rw [hz] at h;cases h
  |some z=>
   rw [hz] at h;simp only at h
   cases hc:closedB 3 z with
   |false=>rw [hc] at h;cases h
   |true=>
    rw [hc] at h;simp only [cond_true] at h;obtain⟨hn,h⟩:=zd2 h;simp only [Option.some.injEq,Prod.mk.injEq] at h;obtain⟨rfl,rfl⟩:=h;obtain⟨h1,h2,h3⟩:=zrv hr hn (zg6 ((closed_iff 3 z z hc).2 rfl)) e e;refine⟨.value (.pointer (some ⟨w.heap.size,0,none⟩)),w.alloc (.cells z.cells e),_,?_,h1,h2,_,rfl,zep.2 ⟨_,rfl,h3⟩⟩;simp [Instr.alloc,zeroValue,typeInfo,hi,hz,newVar,newRow]
def zD2 (e:TypeId) (x:Operand) (tm:Acc) (H:AH):Option (Next×AH):=
 match tm x with
 |none=>none
 |some v=>zum v.cells.toList e H fun n H'=>some (.value (.pointer (some ⟨n,0,none⟩)),H')
theorem zD1 {e:TypeId} {x:Operand} {nx:Next} (h:zD2 e x (aev tm) H=some (nx,H')):Snd P w0 (fun ρ=>do pure (.value (←Instr.box e (ρ x)))) tm H nx H':=by
 intro μ w a ht hr;unfold zD2 at h
 cases hx:aev tm x with
 |none=>rw [hx] at h;cases h
 |some v=>
  rw [hx] at h;simp only at h;obtain⟨hn,h⟩:=zd2 h;simp only [Option.some.injEq,Prod.mk.injEq] at h;obtain⟨rfl,rfl⟩:=h;have hv:=zaf ht hx;obtain⟨h1,h2,h3⟩:=zrv hr hn (zg6 hv) e e;refine⟨.value (.pointer (some ⟨w.heap.size,0,none⟩)),w.alloc (.cells (a.eval x).cells e),_,?_,h1,h2,_,rfl,zep.2 ⟨_,rfl,h3⟩⟩;simp [Instr.box,newVar,newRow]
def zd3 (tm:Acc):List (Nat×Operand)→Option (List (Nat×Value))
 | []=>some []
 |(i,x) :: r=>match tm x,zd3 tm r with
  |some v,some vs=>some ((i,v) :: vs)
  |_,_=>none
def PR (μ:Mu) (p q:Nat×Value):Prop:=p.1=q.1∧RV μ p.2 q.2
theorem zgx (ht:RT μ tm a):∀ (l:List (Nat×Operand)) {ps:List (Nat×Value)},zd3 (aev tm) l=some ps→All2 (PR μ) ps (l.map fun p=>(p.1,a.eval p.2))
 | [],ps,h=>by
  simp only [zd3,Option.some.injEq] at h;subst h;trivial
 |(i,x) :: r,ps,h=>by
  unfold zd3 at h
  cases hx:aev tm x with
  |none=>rw [hx] at h;cases h
  |some v=>
   cases hr:zd3 (aev tm) r with
   |none=>rw [hx,hr] at h;cases h
   |some vs=>
    rw [hx,hr] at h;simp only [Option.some.injEq] at h;subst h;exact⟨⟨rfl,zaf ht hx⟩,zgx ht r hr⟩
theorem zyv (off:Nat):∀ (l l':List (Value×Nat)) (c c':Array Value),All2 (fun p q:Value×Nat=>p.2=q.2∧RV μ p.1 q.1) l l'→All2 (RV μ) c.toList c'.toList→
  All2 (RV μ) (l.foldl (fun cs p=>cs.setIfInBounds (off+p.2) p.1) c).toList (l'.foldl (fun cs p=>cs.setIfInBounds (off+p.2) p.1) c').toList
 | [],[],_,_,_,h=>h
 |(v,j) :: l,(v',j') :: l',c,c',h,hc=>by
  obtain⟨⟨h1,h2⟩,h3⟩:=h;simp only at h1 h2;subst h1;refine zyv off l l' _ _ h3 ?_;simp only [Array.toList_setIfInBounds];exact hc.set _ h2
theorem zCk:∀ (l l':List Value) (k:Nat),All2 (RV μ) l l'→All2 (fun p q:Value×Nat=>p.2=q.2∧RV μ p.1 q.1) (l.zipIdx k) (l'.zipIdx k)
 | [],[],_,_=>trivial
 |_ :: xs,_ :: ys,k,h=>⟨⟨rfl,h.1⟩,zCk xs ys (k+1) h.2⟩
theorem zm7 (place:Nat→Option (Nat×Nat)):∀ (ps ps':List (Nat×Value)) (c c':Array Value) {r:Array Value},All2 (PR μ) ps ps'→All2 (RV μ) c.toList c'.toList→Instr.fill place c ps=some r→
  ∃ r',Instr.fill place c' ps'=some r'∧All2 (RV μ) r.toList r'.toList
 | [],[],c,c',r,_,hc,h=>by
  simp only [Instr.fill,Option.some.injEq] at h;subst h;exact⟨c',rfl,hc⟩
 |(i,v) :: ps,(i',v') :: ps',c,c',r,hp,hc,h=>by
  obtain⟨⟨h1,h2⟩,h3⟩:=hp;simp only at h1 h2;subst h1;have hcells:=zg6 h2;have hl1:v.cells.size=v'.cells.size:=by simpa using hcells.length
  have hl2:c.size=c'.size:=by simpa using hc.length
  unfold Instr.fill at h ⊢
  cases hpl:place i with
  |none=>rw [hpl] at h;cases h
  |some q=>
   obtain⟨off,size⟩:=q;rw [hpl] at h;simp only at h ⊢;rw [←hl1,←hl2]
   split at h
   ·cases h
   ·rename_i hcnd
    rw [if_neg hcnd];refine zm7 place ps ps' _ _ h3 ?_ h;have:=zyv off (v.cells.toList.zipIdx 0) (v'.cells.toList.zipIdx 0) c c' (zCk _ _ 0 hcells) hc;rw [←Array.foldl_toList,←Array.foldl_toList,Array.toList_zipIdx,Array.toList_zipIdx];exact this
theorem zEj {t:TypeId} {ps ps':List (Nat×Value)} {r:Array Value} (hz:∀ i z,P.info? t=some i→i.zero=some z→closedB 3 z=true) (hp:All2 (PR μ) ps ps') (h:P.built t ps=some r):
  ∃ r',P.built t ps'=some r'∧All2 (RV μ) r.toList r'.toList:=by
 unfold Program.built at h ⊢
 cases hi:P.info? t with
 |none=>simp [hi] at h
 |some it=>
  cases hu:P.underlying t with
  |none=>simp [hi,hu] at h
  |some d=>
   cases hzz:it.zero with
   |none=>cases d<;>simp [hi,hu,hzz] at h
   |some z=>
    have hcl:=zg6 ((closed_iff (μ:=μ) 3 z z (hz it z hi hzz)).2 rfl)
    cases d<;>simp only [hi,hu,hzz] at h ⊢<;>try (cases h;done)
    case array n e=>
     cases hie:P.info? e with
     |none=>rw [hie] at h;cases h
     |some ie=>
      rw [hie] at h;exact zm7 _ ps ps' _ _ hp hcl h
    case struct fs=>
     cases hpl:fs.toList.mapM (fun f=>(P.info? f.type).map fun i=>(f.offset,i.size)) with
     |none=>rw [hpl] at h;cases h
     |some places=>
      rw [hpl] at h;exact zm7 _ ps ps' _ _ hp hcl h
def zh1 (P:Program) (t:TypeId):Bool:=match P.info? t with
 |none=>true
 |some i=>match i.zero with
  |none=>true
  |some z=>closedB 3 z
theorem znb {t:TypeId} (h:zh1 P t=true):∀ i z,P.info? t=some i→i.zero=some z→closedB 3 z=true:=fun i z hi hz=>by
 unfold zh1 at h;rw [hi] at h;simp only at h;rw [hz] at h;exact h
def zlb (P:Program) (t:TypeId) (parts:Array (Nat×Operand)) (tm:Acc) (H:AH):Option (Next×AH):=
 bif zh1 P t then match zd3 tm parts.toList with
  |none=>none
  |some ps=>match P.built t ps with
   |none=>none
   |some cells=>zj6 cells.toList fun l=>some (.value (.agg ⟨l⟩),H)
 else none
theorem zyn (parts:Array (Nat×Operand)):(parts.map fun (i,x)=>(i,a.eval x)).toList=parts.toList.map fun p=>(p.1,a.eval p.2):=by
 simp
theorem zwu {t:TypeId} {parts:Array (Nat×Operand)} {nx:Next} (h:zlb P t parts (aev tm) H=some (nx,H')):Snd P w0 (fun ρ=>do pure (.value (←Instr.build t (parts.map fun (i,x)=>(i,ρ x))))) tm H nx H':=by
 unfold zlb at h
 cases hz:zh1 P t with
 |false=>rw [hz] at h;cases h
 |true=>
  rw [hz] at h;simp only [cond_true] at h
  cases hp:zd3 (aev tm) parts.toList with
  |none=>rw [hp] at h;cases h
  |some ps=>
   rw [hp] at h;simp only at h
   cases hb:P.built t ps with
   |none=>rw [hb] at h;cases h
   |some cells=>
    rw [hb] at h;simp only [zcd,Option.some.injEq,Prod.mk.injEq] at h;obtain⟨rfl,rfl⟩:=h;refine Snd.of_value fun μ w a ht hr=>?_;obtain⟨r',h1,h2⟩:=zEj (znb hz) (zgx ht _ hp) hb;rw [←zyn] at h1;exact⟨.agg r',by rw [Sem.run_bind,run_build w t _ r' h1];rfl,zri.2 ⟨r',rfl,h2⟩⟩
def zed (P:Program) (t:TypeId) (len:Nat) (parts:Array (Nat×Operand)) (tm:Acc) (H:AH):Option (Next×AH):=
 match P.underlying t with
 |some (.slice e)=>match P.info? e with
  |none=>none
  |some ie=>match ie.zero with
   |none=>none
   |some z=>bif (len * ie.size).ble (2 ^ 24) && (1:Nat).ble (len * ie.size) && (((Array.range (len * ie.size)).map (z.cells[· % z.cells.size]!)).toList.all (closedB 3)) then
     match zd3 tm parts.toList with
     |none=>none
     |some ps=>match Instr.fill (fun i=>some (i * ie.size,ie.size)) ((Array.range (len * ie.size)).map (z.cells[· % z.cells.size]!)) ps with
      |none=>none
      |some cells=>bif (len * ie.size).ble cells.toList.length then zum cells.toList e H fun n H'=>some (.value (.slice (some ⟨n,0,none⟩) len ie.size),H') else none
    else none
 |_=>none
theorem zmz {t:TypeId} {len:Nat} {parts:Array (Nat×Operand)} {nx:Next} (h:zed P t len parts (aev tm) H=some (nx,H')):Snd P w0 (fun ρ=>do pure (.value (←Instr.buildSlice t len (parts.map fun (i,x)=>(i,ρ x))))) tm H nx H':=by
 intro μ w a ht hr;unfold zed at h
 cases hu:P.underlying t with
 |none=>rw [hu] at h;cases h
 |some d=>
  cases d<;>rw [hu] at h<;>try (cases h;done)
  rename_i e;simp only at h
  cases hie:P.info? e with
  |none=>rw [hie] at h;cases h
  |some ie=>
   rw [hie] at h;simp only at h
   cases hz:ie.zero with
   |none=>rw [hz] at h;cases h
   |some z=>
    rw [hz] at h;simp only at h
    cases hc:((len * ie.size).ble (2 ^ 24) && (1:Nat).ble (len * ie.size) && (((Array.range (len * ie.size)).map (z.cells[· % z.cells.size]!)).toList.all (closedB 3))) with
    |false=>rw [hc] at h;cases h
    |true=>
     rw [hc] at h;simp only [cond_true] at h;simp only [Bool.and_eq_true] at hc;obtain⟨⟨c1,c2⟩,c3⟩:=hc;have c1:=Nat.le_of_ble_eq_true c1;have c2:=Nat.le_of_ble_eq_true c2
     cases hp:zd3 (aev tm) parts.toList with
     |none=>rw [hp] at h;cases h
     |some ps=>
      rw [hp] at h;simp only at h
      cases hf:Instr.fill (fun i=>some (i * ie.size,ie.size)) ((Array.range (len * ie.size)).map (z.cells[· % z.cells.size]!)) ps with
      |none=>rw [hf] at h;cases h
      |some cells=>
       rw [hf] at h;simp only at h
       cases hlen:(len * ie.size).ble cells.toList.length with
       |false=>rw [hlen] at h;cases h
       |true=>
        rw [hlen] at h;simp only [cond_true] at h;have hlen:=Nat.le_of_ble_eq_true hlen;obtain⟨hn,h⟩:=zd2 h;simp only [Option.some.injEq,Prod.mk.injEq] at h;obtain⟨rfl,rfl⟩:=h;obtain⟨r',h1,h2⟩:=zm7 _ ps _ _ ((Array.range (len * ie.size)).map (z.cells[· % z.cells.size]!)) (zgx ht _ hp) ((zd7 (fun v v' hv=>closed_iff 3 v v' hv) _ _ c3).2 rfl) hf;rw [←zyn] at h1;obtain⟨h4,h5,_⟩:=zrv hr hn h2 e e;have hl:cells.toList.length=r'.size:=by simpa using h2.length
        refine⟨.value (.slice (some ⟨w.heap.size,0,none⟩) len len),_,_,?_,h4,h5,_,rfl,zb4.2 ⟨_,len,rfl,Nat.le_refl _,rfl,.inr ⟨_,Mu.add_pos,.inr ⟨by simp,?_⟩⟩⟩⟩
        ·simp only [Sem.run_bind,run_buildSlice w t e len _ r' ie z hu hie hz (by omega) (by omega) h1,Result.andThen_ok,Sem.run_pure]
        ·simp only;omega
end Go.Proofs.YtpbmmoneeoijaaaGreatDoor.Ev
namespace Go.Proofs.YtpbmmoneeoijaaaGreatDoor.Ev
open Go
variable {P:Program} {w0:Frm} {w:World} {μ μ':Mu} {H H':AH} {tm:List Value} {a:Act}
def zc2 (H:AH) (x:Addr):Option (List Value×TypeId):=match x.spot,H.get x.block with
 |none,some (.cells c e _)=>some (c.toList,e)
 |none,some (.pending ⟨[root]⟩ e)=>some (zek 3 root,e)
 |_,_=>none
theorem zic (hr:R w0 μ H w) {x y:Addr} {l:List Value} {e:TypeId} (h:zc2 H x=some (l,e)) (ha:At μ x y):
  ∃ p c' e' o,H.get x.block=some o∧μ.pos x.block=some p∧y=⟨p.block,p.off+x.off,none⟩∧w.heap[p.block]? =some (.cells c' e' (0,0))∧p.size=c'.size∧p.off+l.length≤c'.size∧
   ∀ (i:Nat) (v:Value),l[i]? =some v→∃ v',c'[p.off+i]? =some v'∧RV μ v v':=by
 unfold zc2 at h
 cases hs:x.spot with
 |some s=>rw [hs] at h;cases h
 |none=>
  rw [hs] at h
  cases hg:H.get x.block with
  |none=>rw [hg] at h;cases h
  |some o=>
   rw [hg] at h;obtain⟨p,r,h1,h2,h3,h4⟩:=hr.at hg ha
   cases o<;>(try (cases h;done))
   ·rename_i c e1 f
    simp only [Option.some.injEq,Prod.mk.injEq] at h;obtain⟨rfl,rfl⟩:=h;obtain⟨c',e',h4,h5,h6,h7⟩:=h4;subst h4;exact⟨p,c',e',_,rfl,h1,h2,h3,h5,by simpa using h6,fun i v hv=>h7 i v (by simpa using hv)⟩
   ·rename_i c e1
    obtain⟨root,rfl,h5,c',e',h6,h7,h8,h9⟩:=h4;simp only [Option.some.injEq,Prod.mk.injEq] at h;obtain⟨rfl,rfl⟩:=h;subst h6;exact⟨p,c',e',_,rfl,h1,h2,h3,h7,h8,h9⟩
theorem zjz {c':Array Value} {e':TypeId} {p:Pos} {l:List Value} (hb:w.heap[p.block]? =some (.cells c' e' (0,0))) (hv:∀ (i:Nat) (v:Value),l[i]? =some v→∃ v',c'[p.off+i]? =some v'∧RV μ v v') (k n:Nat) (hk:k+n≤l.length):
  ∃ m:List Value,m.length=n∧w.rangeAt p.block (p.off+k) m∧All2 (RV μ) ((l.drop k).take n) m:=by
 refine⟨(List.range n).map fun j=>c'.getD (p.off+k+j) undef,by simp,fun j v hj=>?_,All2.of_get (by simp;omega) fun i x y hx hy=>?_⟩
 ·rw [List.getElem?_map] at hj
  by_cases hjn:j < n
  ·rw [List.getElem?_range hjn] at hj
   simp only [Option.map_some,Option.some.injEq] at hj;obtain⟨v',h1,_⟩:=hv (k+j) l[k+j] (List.getElem?_eq_getElem (by omega));rw [show p.off+k+j=p.off+(k+j) by omega] at hj ⊢;have:c'.getD (p.off+(k+j)) undef=v':=by simp [Array.getD_eq_getD_getElem?,h1]
   rw [this] at hj;subst hj;rw [cell_of_row w p.block _ c' e' (0,0) hb];exact h1
  ·rw [List.getElem?_eq_none (by simpa using hjn)] at hj;cases hj
 ·have hi:i < n:=by
   have:=(List.getElem?_eq_some_iff.1 hy).1;simpa using this
  rw [List.getElem?_take_of_lt hi,List.getElem?_drop] at hx;rw [List.getElem?_map,List.getElem?_range hi] at hy;simp only [Option.map_some,Option.some.injEq] at hy;obtain⟨v',h1,h2⟩:=hv (k+i) x hx;rw [show p.off+k+i=p.off+(k+i) by omega] at hy;have:c'.getD (p.off+(k+i)) undef=v':=by simp [Array.getD_eq_getD_getElem?,h1]
  rw [this] at hy;subst hy;exact h2
def isRow (P:Program) (t:TypeId):Option Bool:=match P.underlying t with
 |some (.struct _)=>some true
 |some (.array _ _)=>some true
 |some _=>some false
 |none=>none
def zj8 (P:Program) (t:TypeId) (v:Value) (H:AH):Option Value:=match v with
 | .pointer (some x)=>match zc2 H x,P.info? t,isRow P t with
  |some (l,_),some i,some true=>bif (x.off+i.size).ble l.length then some (.agg ⟨(l.drop x.off).take i.size⟩) else none
  |some (l,_),some _,some false=>match H.get x.block with
   |some (.pending ⟨[root]⟩ _)=>bif x.off.blt 4096 then getT 3 root x.off else none
   |_=>l[x.off]?
  |_,_,_=>none
 |_=>none
theorem zwr {x:Addr} {l:List Value} {e:TypeId} {r:Value} (hr:R w0 μ H w) {p:Pos} (hp:μ.pos x.block=some p) (hc:zc2 H x=some (l,e)) (h:(match H.get x.block with
   |some (.pending ⟨[root]⟩ _)=>bif x.off.blt 4096 then getT 3 root x.off else none
   |_=>l[x.off]?)=some r):l[x.off]? =some r:=by
 split at h
 ·rename_i root e2 hg
  cases hb:x.off.blt 4096 with
  |false=>rw [hb] at h;cases h
  |true=>
   rw [hb] at h;rw [blt_eq] at hb;obtain⟨r',_,h3⟩:=hr.blk _ _ _ hg hp;obtain⟨root',h4,h5,_⟩:=h3;have h4:root=root':=by
    have:=congrArg Array.toList h4;simpa using this
   subst h4;have:l=zek 3 root:=by
    unfold zc2 at hc;rw [hg] at hc
    cases hs:x.spot with
    |some s=>rw [hs] at hc;cases hc
    |none=>
     rw [hs] at hc;simp only [Option.some.injEq,Prod.mk.injEq] at hc;exact hc.1.symm
   rw [this,←(zh9 3 root h5).2 x.off (of_decide_eq_true hb)];exact h
 ·exact h
theorem zlt (hr:R w0 μ H w) {t:TypeId} {v v' r:Value} (hv:RV μ v v') (h:zj8 P t v H=some r):∃ r',(Instr.loadAt t v').run P w=.ok r' w∧RV μ r r':=by
 unfold zj8 at h
 cases v with
 |pointer x=>cases x with
  |none=>cases h
  |some x=>
   obtain⟨y,rfl,ha⟩:=zep.1 hv;simp only at h
   cases hc:zc2 H x with
   |none=>rw [hc] at h;simp at h
   |some le=>
    obtain⟨l,e⟩:=le;rw [hc] at h;obtain⟨p,c',e',f,h1,h2,h3,h4,h5,h6,h7⟩:=zic hr hc ha;subst h3
    cases hi:P.info? t with
    |none=>rw [hi] at h;simp at h
    |some i=>
     rw [hi] at h
     cases hu:P.underlying t with
     |none=>simp [isRow,hu] at h
     |some d=>
      cases hrow:d.isRow with
      |true=>
       have hir:isRow P t=some true:=by unfold isRow;rw [hu];cases d<;>first|rfl|cases hrow
       rw [hir] at h;simp only at h
       cases hb:(x.off+i.size).ble l.length with
       |false=>rw [hb] at h;cases h
       |true=>
        rw [hb] at h;simp only [cond_true,Option.some.injEq] at h;subst h;have hb:=Nat.le_of_ble_eq_true hb;obtain⟨m,m1,m2,m3⟩:=zjz h4 h7 x.off i.size hb;exact⟨.agg m.toArray,run_loadAt_mid w _ _ t m d m2 hu hrow (by rw [hi,Option.map_some,m1]),zri.2 ⟨_,rfl,by simpa using m3⟩⟩
      |false=>
       have hir:isRow P t=some false:=by unfold isRow;rw [hu];cases d<;>first|rfl|cases hrow
       rw [hir] at h;simp only at h;obtain⟨r',g1,g2⟩:=h7 x.off r (zwr hr h2 hc h);refine⟨r',?_,g2⟩;have hagg:(isAgg t).run P w=.ok false w:=by
        unfold isAgg;rw [Sem.run_bind,run_underlying hu w]
        cases d<;>simp_all
       have hcell:w.cell? ⟨p.block,p.off+x.off,none⟩=some r':=by rw [cell_of_row w p.block _ c' e' (0,0) h4];exact g1
       simp [Instr.loadAt,Instr.sureAddr,loadVar,Sem.run_bind,hagg,hcell]
 |_=>cases h
def wrK {β:Type}:List Value→Nat→List Value→(List Value→β)→β
 |l,_,[],k=>k l
 | [],_,_,k=>k []
 |_ :: l,0,v :: vs,k=>wrK l 0 vs fun r=>k (v :: r)
 |x :: l,n+1,v :: vs,k=>wrK l n (v :: vs) fun r=>k (x :: r)
def wr:List Value→Nat→List Value→List Value
 |l,_,[]=>l
 | [],_,_=>[]
 |_ :: l,0,v :: vs=>v :: wr l 0 vs
 |x :: l,n+1,v :: vs=>x :: wr l n (v :: vs)
theorem zCo {β:Type}:∀ (l:List Value) (n:Nat) (vs:List Value) (k:List Value→β),wrK l n vs k=k (wr l n vs)
 |l,_,[],k=>by cases l<;>rfl
 | [],_,_ :: _,_=>rfl
 |_ :: l,0,v :: vs,k=>by unfold wrK wr;rw [zCo]
 |x :: l,n+1,v :: vs,k=>by unfold wrK wr;rw [zCo]
theorem zCn:∀ (l:List Value) (n:Nat) (vs:List Value),n+vs.length≤l.length→wr l n vs=l.take n ++ vs ++ l.drop (n+vs.length)
 |l,n,[],h=>by cases l<;>simp [wr]
 | [],_,_ :: _,h=>by simp at h
 |_ :: l,0,v :: vs,h=>by
  unfold wr;rw [zCn l 0 vs (by simp at h ⊢;omega)];simp
 |x :: l,n+1,v :: vs,h=>by
  unfold wr;rw [zCn l n (v :: vs) (by simp at h ⊢;omega)];have:n+1+(v :: vs).length=(n+(v :: vs).length)+1:=by omega
  rw [this];simp
theorem zoa (w:World) (b:Nat) (l:Array Value):Same w (w.setRow b l):=by
 unfold World.setRow
 repeat' split
 all_goals exact⟨rfl,rfl,rfl⟩
theorem write_to (hr:R w0 μ H w) {n:Nat} {l:List Value} {e':TypeId} {o:Obj} {p:Pos} {c':Array Value} (hg:H.get n=some o) (hp:μ.pos n=some p) (hb:w.heap[p.block]? =some (.cells c' e' (0,0))) (hsz:p.size=c'.size)
  (hlen:p.off+l.length≤c'.size) (hv:∀ (i:Nat) (v:Value),l[i]? =some v→∃ v',c'[p.off+i]? =some v'∧RV μ v v') {k:Nat} {vs vs':List Value} (hvs:All2 (RV μ) vs vs') (hk:k+vs.length≤l.length) {o':Obj} (ho:∀ r,RBL μ (wr l k vs) p r→RB μ o' p r):
  R w0 μ (H.put n (some o')) (w.setRow p.block (c'.toList.take (p.off+k) ++ vs' ++ c'.toList.drop (p.off+k+vs'.length)).toArray)∧Post μ H μ (H.put n (some o')):=by
 have hl:=hvs.length;refine hr.turn hg hp (setRow_heap w p.block c' _ e' (0,0) hb) (fun b hb2=>setRow_other w p.block b _ hb2) (by simp) (zoa _ _ _) ?_;have hsize:(c'.toList.take (p.off+k) ++ vs' ++ c'.toList.drop (p.off+k+vs'.length)).length=c'.size:=by simp;omega
 have hwl:(wr l k vs).length=l.length:=by rw [zCn l k vs hk];simp;omega
 refine ho _ ⟨_,e',rfl,by simp only [List.size_toArray];rw [hsize,hsz],by simp only [List.size_toArray];rw [hsize,hwl];exact hlen,fun i x hx=>?_⟩;have hx':(wr l k vs)[i]? =some x:=by simpa using hx
 rw [zCn l k vs hk] at hx';simp only [List.getElem?_toArray];by_cases h1:i < k
 ·have e1:(l.take k ++ vs ++ l.drop (k+vs.length))[i]? =l[i]?:=by
   rw [List.append_assoc,List.getElem?_append_left (by simp;omega),List.getElem?_take_of_lt h1]
  rw [e1] at hx';obtain⟨v',g1,g2⟩:=hv i x hx';refine⟨v',?_,g2⟩;rw [List.append_assoc,List.getElem?_append_left (by simp;omega),List.getElem?_take_of_lt (by omega)];simpa using g1
 ·by_cases h2:i < k+vs.length
  ·have e1:(l.take k ++ vs ++ l.drop (k+vs.length))[i]? =vs[i - k]?:=by
    rw [List.append_assoc,List.getElem?_append_right (by simp;omega),List.getElem?_append_left (by simp;omega)]
    congr 1;simp;omega
   rw [e1] at hx';obtain⟨v',g1,g2⟩:=hvs.get hx';refine⟨v',?_,g2⟩;rw [List.append_assoc,List.getElem?_append_right (by simp;omega),List.getElem?_append_left (by simp;omega),←g1]
   congr 1;simp;omega
  ·have e1:(l.take k ++ vs ++ l.drop (k+vs.length))[i]? =l[i]?:=by
    rw [List.append_assoc,List.getElem?_append_right (by simp;omega),List.getElem?_append_right (by simp;omega),List.getElem?_drop]
    congr 1;simp;omega
   rw [e1] at hx';have hil:i < l.length:=(List.getElem?_eq_some_iff.1 hx').1;obtain⟨v',g1,g2⟩:=hv i x hx';refine⟨v',?_,g2⟩;rw [List.append_assoc,List.getElem?_append_right (by simp;omega),List.getElem?_append_right (by simp;omega),List.getElem?_drop];rw [←g1,←Array.getElem?_toList]
   congr 1;simp;omega
def ones (l:List Value):Bool:=l.all (·.oneCell')
theorem zBf {v v':Value} (h:RV μ v v') (h1:v.oneCell'=true):v'.oneCell'=true:=by
 have:=(zg6 h).length
 cases v with
 |bool b=>have h1:=zg7.1 h;subst h1;rfl
 |int k n=>have h1:=zhz.1 h;subst h1;rfl
 |string s=>have h1:=zdp.1 h;subst h1;rfl
 |nilFunc=>have h1:=zxm.1 h;subst h1;rfl
 |nilIface=>have h1:=zxl.1 h;subst h1;rfl
 |pointer x=>cases x with
  |none=>have h1:=zs0.1 h;subst h1;rfl
  |some x=>obtain⟨y,h1,_⟩:=zep.1 h;subst h1;rfl
 |map x=>cases x with
  |none=>have h1:=zpv.1 h;subst h1;rfl
  |some x=>obtain⟨y,h1⟩:=zE0.1 h;subst h1;rfl
 |slice x l c=>cases x with
  |none=>have h1:=(zf3.1 h).2;subst h1;rfl
  |some x=>obtain⟨y,rc,h1,_⟩:=zb4.1 h;subst h1;rfl
 |func fn f c=>obtain⟨d,h2⟩:=h;cases d with
  |zero=>exact h2.elim
  |succ d=>cases fn with
   |yield l=>obtain⟨_,_,p,_,h1⟩:=id h2;subst h1;rfl
   |func g=>obtain⟨f',c',h1,_⟩:=id h2;subst h1;rfl
   |method n=>obtain⟨f',c',h1,_⟩:=id h2;subst h1;rfl
   |methodOf t n=>obtain⟨f',c',h1,_⟩:=id h2;subst h1;rfl
   |via t p g b=>obtain⟨f',c',h1,_⟩:=id h2;subst h1;rfl
 |agg cs=>cases h1
 |tuple cs=>cases h1
 |float k b=>obtain⟨d,h2⟩:=h;cases d<;>exact h2.elim
 |complex k x y=>obtain⟨d,h2⟩:=h;cases d<;>exact h2.elim
 |chan r=>obtain⟨d,h2⟩:=h;cases d<;>exact h2.elim
 |iface t v=>obtain⟨d,h2⟩:=h;cases d<;>exact h2.elim
theorem zvz:∀ {l m:List Value},All2 (RV μ) l m→ones l=true→∀ v∈m,v.oneCell'=true
 | [],[],_,_=>by simp
 |x :: xs,y :: ys,h,h1=>by
  unfold ones at h1;simp only [List.all_cons,Bool.and_eq_true] at h1;intro v hv;rcases List.mem_cons.1 hv with rfl|hv
  ·exact zBf h.1 h1.1
  ·exact zvz h.2 h1.2 v hv
def zxv (H:AH) (x:Addr):Option (Value×TypeId):=match x.spot,H.get x.block with
 |none,some (.pending ⟨[root]⟩ e)=>some (root,e)
 |_,_=>none
theorem zvi {x:Addr} {root:Value} {e:TypeId} (h:zxv H x=some (root,e)):H.get x.block=some (.pending ⟨[root]⟩ e)∧zc2 H x=some (zek 3 root,e):=by
 unfold zxv at h;unfold zc2
 split at h
 ·rename_i hs hg
  simp only [Option.some.injEq,Prod.mk.injEq] at h;obtain⟨rfl,rfl⟩:=h;rw [hs,hg];exact⟨rfl,rfl⟩
 ·cases h
def zyy (P:Program) (t:TypeId) (x:Addr) (v:Value) (H:AH):Option (Next×AH):=match zc2 H x,P.info? t with
 |some (l,e),some i=>bif (x.off+i.size).ble l.length && (v.cells.toList.length).beq i.size && ones v.cells.toList then
   zj6 v.cells.toList fun vs=>wrK l x.off vs fun l'=>BT.putK lv H.t x.block (some (.cells ⟨l'⟩ e)) fun t=>some (.skip,⟨H.next,t⟩)
  else none
 |_,_=>none
def zyx (P:Program) (t:TypeId) (x:Addr) (root:Value) (e:TypeId) (v:Value) (H:AH):Option (Next×AH):=match P.info? t,v.cells.toList with
 |some i,[v1]=>bif x.off.blt 4096 && i.size.beq 1 && v1.oneCell' then
   valK v1 fun v1=>zA4 3 root x.off v1 fun root'=>BT.putK lv H.t x.block (some (.pending ⟨[root']⟩ e)) fun t=>some (.skip,⟨H.next,t⟩)
  else none
 |_,_=>none
def zsi (P:Program) (t:TypeId) (x v:Value) (H:AH):Option (Next×AH):=match x with
 | .pointer (some x)=>match zxv H x with
  |some (root,e)=>zyx P t x root e v H
  |none=>zyy P t x v H
 |_=>none
theorem zxx (hr:R w0 μ H w) {t:TypeId} {x y:Addr} {v v':Value} {l:List Value} {e:TypeId} {i:TypeInfo} (ha:At μ x y) (hv:RV μ v v') (hc:zc2 H x=some (l,e)) (hi:P.info? t=some i)
  (b1:x.off+i.size≤l.length) (b2:v.cells.toList.length=i.size) (b3:ones v.cells.toList=true) {o':Obj} (ho:∀ p r,RBL μ (wr l x.off v.cells.toList) p r→RB μ o' p r):
  ∃ w',(Instr.storeAt t (.pointer (some y)) v').run P w=.ok () w'∧R w0 μ (H.put x.block (some o')) w'∧Post μ H μ (H.put x.block (some o')):=by
 obtain⟨p,c',e',o,h1,h2,h3,h4,h5,h6,h7⟩:=zic hr hc ha;subst h3;have hcs:=zg6 hv;have hl:=hcs.length;simp only [Array.length_toList] at hl b2;obtain⟨g1,g2⟩:=write_to hr h1 h2 h4 h5 h6 h7 (k:=x.off) hcs (by simp only [Array.length_toList];omega) (ho p);refine⟨_,?_,g1,g2⟩;have hst:=run_storeCells_at P p.block (p.off+x.off) e' v'.cells.toList 0 c' w h4 (by simp;omega) (zvz hcs b3);simp only [Nat.add_zero] at hst;have hsz:(sizeOf t).run P w=.ok i.size w:=by simp [sizeOf,typeInfo,hi]
 simp only [Instr.storeAt,Instr.sureAddr,Sem.run_bind,Sem.run_pure,Result.andThen_ok,storeVar,hsz];rw [if_neg (by omega)];exact hst
theorem zsh (hr:R w0 μ H w) {t:TypeId} {x x' v v':Value} {nx:Next} (hx:RV μ x x') (hv:RV μ v v') (h:zsi P t x v H=some (nx,H')):
  nx=.skip∧∃ w',(Instr.storeAt t x' v').run P w=.ok () w'∧R w0 μ H' w'∧Post μ H μ H':=by
 unfold zsi at h
 cases x with
 |pointer x=>cases x with
  |none=>cases h
  |some x=>
   obtain⟨y,rfl,ha⟩:=zep.1 hx;simp only at h
   cases ht:zxv H x with
   |some re=>
    obtain⟨root,e⟩:=re;rw [ht] at h;simp only at h;obtain⟨k1,k2⟩:=zvi ht;unfold zyx at h
    cases hi:P.info? t with
    |none=>rw [hi] at h;simp at h
    |some i=>
     rw [hi] at h
     split at h
     ·rename_i i' v1 he1 he2
      obtain rfl:=Option.some.inj he1
      cases hb:(x.off.blt 4096 && i.size.beq 1 && v1.oneCell') with
      |false=>rw [hb] at h;cases h
      |true=>
       rw [hb] at h;simp only [cond_true,zdw,zm2,BT.putK_eq,Option.some.injEq,Prod.mk.injEq] at h;obtain⟨rfl,rfl⟩:=h;simp only [Bool.and_eq_true,blt_eq,decide_eq_true_eq] at hb;obtain⟨⟨b1,b2⟩,b3⟩:=hb;have b2:=Nat.eq_of_beq_eq_true b2;obtain⟨p,r0,q1,_,_,q4⟩:=hr.at k1 ha;obtain⟨root',q5,q6,_⟩:=q4;have q5:root=root':=by
        have:=congrArg Array.toList q5;simpa using this
       subst q5;obtain⟨s1,s2⟩:=zh9 3 root q6;obtain⟨u1,u2⟩:=ztn 3 root x.off v1 q6 b1;have hlen:(zek 3 root).length=4096:=s1;refine⟨rfl,zxx hr ha hv k2 hi (by omega) (by rw [he2,b2];rfl) (by rw [he2];simp [ones,b3]) fun p r hrb=>⟨_,rfl,u1,?_⟩⟩;have:zek 3 (setT 3 root x.off v1)=wr (zek 3 root) x.off v.cells.toList:=by
        rw [he2,zCn _ _ _ (by simp;omega)];apply List.ext_getElem?;intro j;rw [u2 j];by_cases hj:j < x.off
        ·rw [if_neg (by omega),List.append_assoc,List.getElem?_append_left (by simp;omega),List.getElem?_take_of_lt hj]
        ·by_cases hj2:j=x.off
         ·rw [if_pos hj2,List.append_assoc,List.getElem?_append_right (by simp;omega),List.getElem?_append_left (by simp;omega),hj2]
          have:x.off - (List.take x.off (zek 3 root)).length=0:=by rw [List.length_take];omega
          rw [this];rfl
         ·rw [if_neg hj2,List.append_assoc,List.getElem?_append_right (by simp;omega),List.getElem?_append_right (by simp;omega),List.getElem?_drop]
          congr 1;simp;omega
       rw [this];exact hrb
     ·cases h
   |none=>
    rw [ht] at h;simp only at h;unfold zyy at h
    cases hc:zc2 H x with
    |none=>rw [hc] at h;simp at h
    |some le=>
     obtain⟨l,e⟩:=le;rw [hc] at h
     cases hi:P.info? t with
     |none=>rw [hi] at h;simp at h
     |some i=>
      rw [hi] at h;simp only at h
      cases hb:((x.off+i.size).ble l.length && (v.cells.toList.length).beq i.size && ones v.cells.toList) with
      |false=>rw [hb] at h;cases h
      |true=>
       rw [hb] at h;simp only [cond_true,zcd,zCo,BT.putK_eq,Option.some.injEq,Prod.mk.injEq] at h;obtain⟨rfl,rfl⟩:=h;simp only [Bool.and_eq_true] at hb;obtain⟨⟨b1,b2⟩,b3⟩:=hb;refine⟨rfl,zxx hr ha hv hc hi (Nat.le_of_ble_eq_true b1) (Nat.eq_of_beq_eq_true b2) b3 fun p r hrb=>?_⟩;obtain⟨c',e',q1,q2,q3,q4⟩:=hrb;exact⟨c',e',q1,q2,by simpa using q3,fun i a ha=>q4 i a (by simpa using ha)⟩
 |_=>cases h
end Go.Proofs.YtpbmmoneeoijaaaGreatDoor.Ev
