/-
  A part of the proof: EvFn EvAll EvFast EvHot.
-/
import Derived.Test.YtpbmmoneeoijaaaGreatDoorP10
import Derived.Below
namespace Go.Proofs.YtpbmmoneeoijaaaGreatDoor.Ev
open Go
variable {P:Program} {w0:Frm} {w:World} {μ μ':Mu} {H H':AH} {tm tm2:List Value} {a:Act}
def Sim (P:Program) (w0:Frm) (ro:Option Nat) (fn:FuncId) (fs:FS) (H:AH) (fs':FS) (H':AH):Prop:=
 ∀ (μ:Mu) (a:Act) (w:World) (b:Frame),RA μ fs.tm fs.ds a→R w0 μ H w→BR μ ro b→b.fn=fn→∀ cs,∃ a' w' μ',Steps P (lone (b.atR a fs.todo) cs w) (lone (b.atR a' fs'.todo) cs w')∧RA μ' fs'.tm fs'.ds a'∧R w0 μ' H' w'∧Post μ H μ' H'
theorem Sim.trans {ro:Option Nat} {fn:FuncId} {f1 f2 f3:FS} {H1 H2 H3:AH} (h:Sim P w0 ro fn f1 H1 f2 H2) (h':Sim P w0 ro fn f2 H2 f3 H3):Sim P w0 ro fn f1 H1 f3 H3:=by
 intro μ a w b ha hr hb hfn cs;obtain⟨a1,w1,μ1,s1,g1,g2,g3⟩:=h μ a w b ha hr hb hfn cs;obtain⟨a2,w2,μ2,s2,k1,k2,k3⟩:=h' μ1 a1 w1 b g1 g2 (hb.ext g3.le) hfn cs;exact⟨a2,w2,μ2,s1.trans s2,k1,k2,g3.trans k3⟩
abbrev zxq:=FuncId→List Value→AH→Option (Value×AH)
def zul (P:Program) (fr:zxq):List Deferred→AH→Option AH
 | [],H=>some H
 |d :: ds,H=>match d.target with
  | .collected n=>match H.get n with
   |some (.deferred (some []))=>AH.putK H n (some (.deferred none)) fun H'=>zul P fr ds H'
   |_=>none
  | .fn (.func g) captured=>bif zej P g then match fr g (d.args.toList ++ captured.toList) H with
   |some (_,H')=>zul P fr ds H'
   |none=>none
   else none
  |_=>none
def zjb (P:Program) (tm:List Value) (H:AH):List ResultVar→Option (List Value)
 | []=>some []
 | .tmp t :: r=>match zjb P tm H r with
  |some vs=>some (tm.getD t undef :: vs)
  |none=>none
 | .cell x t :: r=>match zj8 P t (tm.getD x undef) H,zjb P tm H r with
  |some v,some vs=>some (v :: vs)
  |_,_=>none
def zhp (P:Program) (fn:Func) (tm:List Value) (H:AH):Option Value:=match zjb P tm H fn.results.toList with
 |some [v]=>some v
 |some vs=>some (.tuple ⟨vs⟩)
 |none=>none
def zEz (P:Program) (w0:Frm) (fr:zxq):Prop:=
 ∀ (g:FuncId) (args:List Value) (H:AH) (v:Value) (H':AH),fr g args H=some (v,H')→∀ (μ:Mu) (w:World) (args':Array Value),All2 (RV μ) args args'.toList→R w0 μ H w→∀ (kind:CallKind) (cs:List Frame),
  ∃ f v' w' μ',Steps P (lone (Frame.enter P g args' kind) cs w) (lone f cs w')∧f.mode=.returning∧f.defers=[]∧f.kind=kind∧f.fn=g∧(∃ fn,P.funcs[g]? =some fn∧(results fn f.tmps).run P w'=.ok v' w')∧
   R w0 μ' H' w'∧Post μ H μ' H'∧RV μ' v v'
theorem znt {fr:zxq} (hfr:zEz P w0 fr):∀ (ds:List Deferred) (H:AH) {H':AH},zul P fr ds H=some H'→∀ (μ:Mu) (w:World) (f:Frame) (cs:List Frame),f.mode=.returning→All2 (RD μ) ds f.defers→R w0 μ H w→
  ∃ w' μ',Steps P (lone f cs w) (lone { f with defers:=[] } cs w')∧R w0 μ' H' w'∧Post μ H μ' H'
 | [],H,H',h,μ,w,f,cs,hm,hd,hr=>by
  simp only [zul,Option.some.injEq] at h;subst h;have:f.defers=[]:=by
   cases hf:f.defers with
   |nil=>rfl
   |cons x xs=>rw [hf] at hd;exact hd.elim
  refine⟨w,μ,?_,hr,.refl _ _⟩;have e:({ f with defers:=[] }:Frame)=f:=by cases f;simp only at this;subst this;rfl
  rw [e];exact .refl P _
 |d :: ds,H,H',h,μ,w,f,cs,hm,hd,hr=>by
  cases hf:f.defers with
  |nil=>rw [hf] at hd;exact hd.elim
  |cons d' ds'=>
   rw [hf] at hd;obtain⟨hd1,hd2⟩:=hd;have hrun:f.mode≠.run:=by rw [hm];simp
   unfold zul at h;rcases hd1 with ⟨n,p,e1,e2,e3⟩|⟨g,c,c',e1,e2,e3,e4⟩
   ·rw [e1] at h
    simp only at h
    cases hg:H.get n with
    |none=>rw [hg] at h;cases h
    |some o=>
     rw [hg] at h
     cases o<;>(try simp only at h)<;>try (cases h;done)
     rename_i calls
     cases calls with
     |none=>cases h
     |some l=>cases l with
      |cons _ _=>cases h
      |nil=>
       simp only [AH.putK_eq] at h;obtain⟨r,hb,hrb⟩:=hr.blk _ _ _ hg e3;obtain⟨hrb,_⟩:=hrb;subst hrb;have hlt:p.block < w.heap.size:=(Array.getElem?_eq_some_iff.1 hb).1;obtain⟨g1,g2⟩:=hr.turn (o':=.deferred none) hg e3 (w':=w.putObj p.block (.deferred none)) (World.putObj_heap_same hlt) (fun b hb2=>World.putObj_heap_other hb2) (by simp) ⟨rfl,rfl,rfl⟩ ⟨rfl,.inr rfl⟩;have hs:=step_collected (P:=P) (cs:=cs) hrun hf e2 (run_takeDeferred (P:=P) hb);obtain⟨w2,μ2,s2,k1,k2⟩:=znt hfr ds _ h μ _ { f with defers:=[] ++ ds' } cs hm hd2 g1;exact⟨w2,μ2,.head hs s2,k1,g2.trans k2⟩
   ·rw [e1] at h
    simp only at h
    cases hbd:zej P g with
    |false=>rw [hbd] at h;cases h
    |true=>
     rw [hbd] at h;simp only [cond_true] at h
     cases hc:fr g (d.args.toList ++ c.toList) H with
     |none=>rw [hc] at h;cases h
     |some x=>
      obtain⟨v,H1⟩:=x;rw [hc] at h;simp only at h;have hinv:(invoke d'.target d'.args).run P w=.ok (.enter g (d'.args ++ c')) w:=by
       rw [e2];simp only [invoke];exact zhi hbd _ _
      have hs:=step_defer (P:=P) (cs:=cs) hrun hf e2 hinv;have hargs:All2 (RV μ) (d.args.toList ++ c.toList) (d'.args ++ c').toList:=by
       rw [Array.toList_append];exact e4.append e3
      obtain⟨f1,v',w1,μ1,s1,m1,m2,m3,m4,⟨fn,m5,m6⟩,m7,m8,_⟩:=hfr _ _ _ _ _ hc μ w _ hargs hr .deferred ({ f with defers:=ds' } :: cs);have hgo:f1.going P w1 (.returned v'):=⟨m1,m2,fn,by rw [m4];exact m5,m6⟩;have hs2:=step_going_returned (P:=P) (c:={ f with defers:=ds' }) (cs:=cs) m3 hgo;have hset:({ { f with defers:=ds' } with mode:=settle f.mode }:Frame)= { f with defers:=ds' }:=by
       rw [hm]
       cases f;simp only at hm;subst hm;rfl
      have hs2':step P (lone f1 ({ f with defers:=ds' } :: cs) w1)=.next (lone { f with defers:=ds' } cs w1):=by
       rw [←hset];rw [hset] at hs2 ⊢;exact hs2
      obtain⟨w2,μ2,s2,k1,k2⟩:=znt hfr ds _ h μ1 w1 { f with defers:=ds' } cs hm (hd2.mono fun _ _=>RD.ext m8.le) m7;exact⟨w2,μ2,(Steps.head hs s1).trans (.head hs2' s2),k1,m8.trans k2⟩
def zr0 (tmps:Array Value):ResultVar→Sem Value
 | .tmp t=>pure (tmps.getD t undef)
 | .cell x t=>do loadVar t (←asAddr (tmps.getD x undef))
theorem zA9 (fn:Func) (tmps:Array Value):results fn tmps=(do
  let vs←fn.results.mapM (zr0 tmps)
  pure (if h:vs.size=1 then vs[0] else .tuple vs)):=by
 unfold results
 congr 1
theorem zof (ht:RT μ tm a) (hr:R w0 μ H w):∀ (l:List ResultVar) {vs:List Value},zjb P tm H l=some vs→∃ vs':List Value,(l.mapM (zr0 a.tmps)).run P w=Result.ok vs' w∧All2 (RV μ) vs vs'
 | [],vs,h=>by
  simp only [zjb,Option.some.injEq] at h;subst h;exact⟨[],by simp,trivial⟩
 | .tmp t :: r,vs,h=>by
  unfold zjb at h
  cases hr2:zjb P tm H r with
  |none=>rw [hr2] at h;cases h
  |some us=>
   rw [hr2] at h;simp only [Option.some.injEq] at h;subst h;obtain⟨us',h1,h2⟩:=zof ht hr r hr2;refine⟨a.tmps.getD t undef :: us',by rw [List.mapM_cons];simp only [zr0,Sem.run_bind,Sem.run_pure,Result.andThen_ok,h1],?_,h2⟩;exact zaf ht (x:=.tmp t) rfl
 | .cell x t :: r,vs,h=>by
  unfold zjb at h
  cases hl:zj8 P t (tm.getD x undef) H with
  |none=>rw [hl] at h;cases h
  |some v=>
   cases hr2:zjb P tm H r with
   |none=>rw [hl,hr2] at h;cases h
   |some us=>
    rw [hl,hr2] at h;simp only [Option.some.injEq] at h;subst h;obtain⟨us',h1,h2⟩:=zof ht hr r hr2;have hx:RV μ (tm.getD x undef) (a.tmps.getD x undef):=zaf ht (x:=.tmp x) rfl;obtain⟨v',g1,g2⟩:=zlt (P:=P) hr hx hl;have hp:∃ y,a.tmps.getD x undef=.pointer (some y):=by
     unfold zj8 at hl
     cases hv:tm.getD x undef with
     |pointer q=>cases q with
      |none=>rw [hv] at hl;cases hl
      |some q=>rw [hv] at hx;obtain⟨y,e,_⟩:=zep.1 hx;exact⟨y,e⟩
     |_=>rw [hv] at hl;cases hl
    obtain⟨y,hy⟩:=hp;have hld:(loadVar t y).run P w=.ok v' w:=by
     rw [hy] at g1;simpa [Instr.loadAt,Instr.sureAddr] using g1
    refine⟨v' :: us',?_,g2,h2⟩;rw [List.mapM_cons];simp only [zr0,Sem.run_bind,hy,asAddr,Sem.run_pure,Result.andThen_ok,hld,h1]
theorem zry (ht:RT μ tm a) (hr:R w0 μ H w) {fn:Func} {v:Value} (h:zhp P fn tm H=some v):∃ v',(results fn a.tmps).run P w=.ok v' w∧RV μ v v':=by
 unfold zhp at h
 cases he:zjb P tm H fn.results.toList with
 |none=>rw [he] at h;cases h
 |some vs=>
  rw [he] at h;obtain⟨vs',h1,h2⟩:=zof (P:=P) ht hr _ he;have hl:=h2.length;refine⟨if h:vs'.toArray.size=1 then vs'.toArray[0] else .tuple vs'.toArray,?_,?_⟩
  ·rw [zA9]
   simp only [Array.mapM_eq_mapM_toList,Sem.run_bind,Sem.run_map,h1,Result.andThen_ok,Sem.run_pure]
  ·cases vs with
   |nil=>
    simp only [Option.some.injEq] at h;subst h
    cases vs' with
    |cons _ _=>simp at hl
    |nil=>simp;exact zij.2 ⟨_,rfl,trivial⟩
   |cons x r=>cases r with
    |nil=>
     simp only [Option.some.injEq] at h;subst h
     cases vs' with
     |nil=>simp at hl
     |cons y s=>cases s with
      |cons _ _=>simp at hl
      |nil=>simpa using h2.1
    |cons z r=>
     simp only [Option.some.injEq] at h;subst h;rw [dif_neg (by simp at hl ⊢;omega)];exact zij.2 ⟨_,rfl,by simpa using h2⟩
def zok:Option Code→Bool
 |none=>true
 |some .ret=>true
 |_=>false
theorem zyr {rc:Rec} {ro:Option Nat} {fn:FuncId} {fs:FS} {j:Option Code} (h:zdm P rc ro fn fs H=some (.inr j)):
  (fs.todo=[]∧j=none)∨(∃ k,fs.todo=.code .ret :: k∧j=some .ret)∨(∃ id k,fs.todo=.code (.exit id) :: k∧exitTo id k=none∧j=some (.exit id))∨(∃ l k,fs.todo=.code (.goto l) :: k∧gotoIn l k=none∧j=some (.goto l)):=by
 have nogo:∀ (k:List Item) (H1:AH),go fs k H1≠some (.inr j):=fun k H1 h=>by simp [go] at h
 unfold zdm at h
 cases hto:fs.todo with
 |nil=>rw [hto] at h;simp only [Option.some.injEq,Sum.inr.injEq] at h;exact .inl ⟨rfl,h.symm⟩
 |cons x k=>
  rw [hto] at h
  cases x<;>(try simp only at h)<;>try (cases h;done)
  ·rename_i c
   cases c<;>(try simp only at h)<;>try (first|(cases h;done)|exact absurd h (nogo _ _))
   ·rename_i id ops draw
    cases draw with
    |true=>
     simp only [cond_true] at h
     split at h<;>simp at h
    |false=>
     simp only [cond_false] at h
     split at h<;>simp at h
   ·split at h<;>first|exact absurd h (nogo _ _)|cases h
   ·unfold zjc at h
    split at h
    ·cases h
    ·split at h
     ·rename_i hb _
      generalize zej P _=bb at h
      cases bb with
      |false=>cases h
      |true=>
       simp only [cond_true] at h
       split at h
       ·split at h
        ·rename_i L _
         cases hn:zr9 L.state with
         |false=>rw [hn] at h;cases h
         |true=>rw [hn] at h;simp [AH.putK_eq] at h
        ·cases h
       ·cases h
     ·cases h
   ·rename_i id
    cases hx:exitTo id k with
    |some k'=>rw [hx] at h;exact absurd h (nogo _ _)
    |none=>
     rw [hx] at h;simp only [Option.some.injEq,Sum.inr.injEq] at h;exact .inr (.inr (.inl ⟨id,k,rfl,hx,h.symm⟩))
   ·rename_i l
    cases hx:gotoIn l k with
    |some k'=>rw [hx] at h;exact absurd h (nogo _ _)
    |none=>
     rw [hx] at h;simp only [Option.some.injEq,Sum.inr.injEq] at h;exact .inr (.inr (.inr ⟨l,k,rfl,hx,h.symm⟩))
   ·simp only [Option.some.injEq,Sum.inr.injEq] at h
    exact .inr (.inl ⟨k,rfl,h.symm⟩)
  all_goals try (exact absurd h (nogo _ _))
  ·cases ro with
   |none=>cases h
   |some l=>
    simp only at h
    split at h
    ·split at h
     ·simp [AH.putK_eq,go] at h
     ·cases h
    ·cases h
end Go.Proofs.YtpbmmoneeoijaaaGreatDoor.Ev
namespace Go.Proofs.YtpbmmoneeoijaaaGreatDoor.Ev
open Go
variable {P:Program} {w0:Frm} {w:World} {μ μ':Mu} {H H':AH} {tm tm2:List Value} {a:Act}
abbrev Known:=FuncId→List Value→AH→Option (Value×AH)
def SndKnown (P:Program) (w0:Frm) (kn:Known):Prop:=
 ∀ (g:FuncId) (args:List Value) (H:AH) (v:Value) (H':AH),kn g args H=some (v,H')→∀ (μ:Mu) (w:World) (args':Array Value),All2 (RV μ) args args'.toList→R w0 μ H w→∀ (c:Frame) (cs:List Frame),
  ∃ v' w' μ',Steps P (lone (Frame.enter P g args' .normal) (c :: cs) w) (lone (c.finish v') cs w')∧R w0 μ' H' w'∧Post μ H μ' H'∧RV μ' v v'
theorem zho {g:FuncId} {f:Frame} {args':Array Value} {v':Value} {w':World} {c:Frame} {cs:List Frame} (s:Steps P (lone (Frame.enter P g args' .normal) (c :: cs) w) (lone f (c :: cs) w')) (h1:f.mode=.returning) (h2:f.defers=[]) (h3:f.kind=.normal) (h4:f.fn=g) (h5:∃ fn,P.funcs[g]? =some fn∧(results fn f.tmps).run P w'=.ok v' w'):
  Steps P (lone (Frame.enter P g args' .normal) (c :: cs) w) (lone (c.finish v') cs w'):=by
 obtain⟨fn,h6,h7⟩:=h5;exact s.trans (.one (step_leave_returned ⟨h1,h2,h3,fn,by rw [h4];exact h6,h7⟩))
def AH.empty:AH:=⟨0,BT.full none lv⟩
def Mu.empty:Mu:=⟨fun _=>none,fun _=>False⟩
theorem R.empty (w:World):R (Frm.of w) Mu.empty AH.empty w:=by
 have hg:∀ n,AH.empty.get n=none:=fun n=>by
  unfold AH.get AH.empty;rw [blt_eq,decide_eq_false (Nat.not_lt_zero n)];rfl
 exact⟨⟨Nat.zero_le _,fun n _ _=>BT.get_full none lv n⟩,fun n _=>⟨rfl,fun h=>h⟩,fun n o h=>(by rw [hg] at h;cases h),fun n o p h=>(by rw [hg] at h;cases h),fun n m o o' p q h=>(by rw [hg] at h;cases h),fun n o p h=>(by rw [hg] at h;cases h),fun _ _=>rfl,Nat.le_refl _,.refl _⟩
end Go.Proofs.YtpbmmoneeoijaaaGreatDoor.Ev
namespace Go.Proofs.YtpbmmoneeoijaaaGreatDoor.Ev
open Go
variable {P:Program} {w0:Frm} {w:World} {μ μ':Mu} {H H':AH} {tm tm2:List Value} {a:Act}
abbrev TT:=BT Value 2
theorem Row.same {α:Type} {r s:Row α} (h:∀ i,i < 16→(selB i).f r=(selB i).f s):r=s:=by
 cases r;cases s
 have h0:=h 0 (by decide);have h1:=h 1 (by decide);have h2:=h 2 (by decide);have h3:=h 3 (by decide);have h4:=h 4 (by decide);have h5:=h 5 (by decide);have h6:=h 6 (by decide);have h7:=h 7 (by decide);have h8:=h 8 (by decide);have h9:=h 9 (by decide);have h10:=h 10 (by decide);have h11:=h 11 (by decide);have h12:=h 12 (by decide);have h13:=h 13 (by decide);have h14:=h 14 (by decide);have h15:=h 15 (by decide);simp only [selB] at h0 h1 h2 h3 h4 h5 h6 h7 h8 h9 h10 h11 h12 h13 h14 h15;subst h0 h1 h2 h3 h4 h5 h6 h7 h8 h9 h10 h11 h12 h13 h14 h15;rfl
theorem BT.same {α:Type}:∀ (d:Nat) (t s:BT α d),(∀ n,n < 16 ^ d→BT.get d t n=BT.get d s n)→t=s
 |0,t,s,h=>h 0 (by decide)
 |d+1,t,s,h=>Row.same (α:=BT α d) fun i hi=>BT.same d _ _ fun m hm=>by
  have:=h (m * 16+i) (by rw [Nat.pow_succ];omega);have e1:(m * 16+i) % 16=i:=by omega
  have e2:(m * 16+i) / 16=m:=by omega
  have g:∀ u:BT α (d+1),BT.get (d+1) u (m * 16+i)=BT.get d ((selB i).f u) m:=fun u=>by
   show BT.get d ((selB ((m * 16+i) % 16)).f u) ((m * 16+i) / 16)=_;rw [e1,e2]
  rw [g,g] at this;exact this
structure Rel (n:Nat) (T:TT) (tm:List Value):Prop where
 len:tm.length=n
 le:n≤256
 get:∀ t,t < 256→BT.get 2 T t=tm.getD t undef
theorem Rel.unique {n:Nat} {T T':TT} (h:Rel n T tm) (h':Rel n T' tm):T=T':=
 BT.same 2 _ _ fun t ht=>(h.get t ht).trans (h'.get t ht).symm
theorem Rel.put {n:Nat} {T:TT} (h:Rel n T tm) {t:Nat} (ht:t < n) (v:Value):Rel n (BT.put 2 T t v) (tm.set t v):=by
 have hle:=h.le;have hlen:=h.len;refine⟨by simp [h.len],h.le,fun s hs=>?_⟩;rw [BT.get_put 2 T t s v (by omega) hs];by_cases e:s=t
 ·subst e
  rw [if_pos rfl,List.getD_eq_getElem?_getD,List.getElem?_set_self (by omega)];rfl
 ·rw [if_neg e,h.get s hs,List.getD_eq_getElem?_getD,List.getD_eq_getElem?_getD,List.getElem?_set_ne (fun h=>e h.symm)]
def zhg:List Value→Nat→TT→TT
 | [],_,T=>T
 |v :: vs,i,T=>zhg vs (i+1) (BT.put 2 T i v)
theorem ziz:∀ (l:List Value) (i:Nat) (T:TT) (t:Nat),t < 256→i+l.length≤256→BT.get 2 (zhg l i T) t=if i≤t∧t < i+l.length then l.getD (t - i) undef else BT.get 2 T t
 | [],i,T,t,_,_=>by rw [if_neg (by simp)];rfl
 |v :: vs,i,T,t,ht,hl=>by
  simp only [List.length_cons] at hl ⊢;unfold zhg;rw [ziz vs (i+1) _ t ht (by omega),BT.get_put 2 T i t v (by omega) ht];by_cases h1:i+1≤t∧t < i+1+vs.length
  ·rw [if_pos h1,if_pos (by omega)]
   rw [show t - i=(t - (i+1))+1 by omega];rfl
  ·rw [if_neg h1]
   by_cases h2:t=i
   ·subst h2;rw [if_pos rfl,if_pos (by omega),Nat.sub_self];rfl
   ·rw [if_neg h2,if_neg (by omega)]
def canon (l:List Value):TT:=zhg l 0 (BT.full undef 2)
theorem Rel.canon {l:List Value} (h:l.length≤256):Rel l.length (canon l) l:=by
 refine⟨rfl,h,fun t ht=>?_⟩;unfold Ev.canon;rw [ziz l 0 _ t ht (by omega),BT.get_full];by_cases hc:t < l.length
 ·rw [if_pos (by omega)];rfl
 ·rw [if_neg (by omega),List.getD_eq_getElem?_getD,List.getElem?_eq_none (by omega)];rfl
def setAK {β:Type}:List Value→Nat→TT→(TT→β)→β
 | [],_,T,k=>k T
 |v :: vs,i,T,k=>valK v fun v=>BT.putK 2 T i v fun T'=>setAK vs (i+1) T' k
theorem zx3 {β:Type}:∀ (l:List Value) (i:Nat) (T:TT) (k:TT→β),setAK l i T k=k (zhg l i T)
 | [],_,_,_=>rfl
 |v :: vs,i,T,k=>by unfold setAK zhg;rw [zdw,BT.putK_eq,zx3]
theorem Rel.start {l:List Value} {n:Nat} (h:l.length≤n) (hn:n≤256):Rel n (zhg l 0 (BT.full undef 2)) (l ++ List.replicate (n - l.length) undef):=by
 refine⟨by simp;omega,hn,fun t ht=>?_⟩;rw [ziz l 0 _ t ht (by omega),BT.get_full];by_cases hc:t < l.length
 ·rw [if_pos (by omega),List.getD_eq_getElem?_getD,List.getD_eq_getElem?_getD,List.getElem?_append_left hc];rfl
 ·rw [if_neg (by omega),List.getD_eq_getElem?_getD,List.getElem?_append_right (by omega)]
  by_cases h2:t - l.length < n - l.length
  ·rw [List.getElem?_replicate_of_lt h2];rfl
  ·rw [List.getElem?_eq_none (by simp;omega)];rfl
def setPK {β:Type}:List Tmp→List Value→TT→(TT→β)→β
 |t :: ts,v :: vs,T,k=>valK v fun v=>BT.putK 2 T t v fun T'=>setPK ts vs T' k
 |_,_,T,k=>k T
theorem zto {β:Type} {n:Nat}:∀ (ts:List Tmp) (vs:List Value) (T:TT) (tm:List Value) (k:TT→β),Rel n T tm→(∀ t∈ts,t < n)→∃ T',setPK ts vs T k=k T'∧Rel n T' (zcg ts vs tm)
 | [],vs,T,tm,k,h,_=>by cases vs<;>exact⟨T,rfl,h⟩
 |_ :: _,[],T,tm,k,h,_=>⟨T,rfl,h⟩
 |t :: ts,v :: vs,T,tm,k,h,ht=>by
  unfold setPK zcg;rw [zdw,BT.putK_eq];exact zto ts vs _ _ k (h.put (ht t (by simp)) v) fun s hs=>ht s (by simp [hs])
def accB:Operand→Fn1 TT (Option Value)
 | .tmp t=>⟨fun T=>some ((BT.getB 2 t).f T)⟩
 | .const v=>bif closedB 3 v then ⟨fun _=>some v⟩ else ⟨fun _=>none⟩
 | .global _=>⟨fun _=>none⟩
 | .func f=>⟨fun _=>some (.func (.func f) #[] #[])⟩
def accT (T:TT):Acc:=fun x=>(accB x).f T
def okX (n:Nat):Operand→Bool
 | .tmp t=>t.blt n
 |_=>true
theorem zy7 {n:Nat} {T:TT} (h:Rel n T tm) {x:Operand} (hx:okX n x=true):accT T x=aev tm x:=by
 have hle:=h.le
 cases x with
 |tmp t=>
  have ht:Nat.lt t n:=by simpa [okX,blt_eq] using hx
  show some (BT.get 2 T t)=some (tm.getD t undef);rw [h.get t (Nat.lt_of_lt_of_le ht hle)]
 |const v=>
  show (bif closedB 3 v then (⟨fun _=>some v⟩:Fn1 TT (Option Value)) else ⟨fun _=>none⟩).f T=bif closedB 3 v then some v else none
  cases closedB 3 v<;>rfl
 |global _=>rfl
 |func _=>rfl
def argsB:List Operand→Fn1 TT (Option (List Value))
 | []=>⟨fun _=>some []⟩
 |x :: xs=>⟨fun T=>match (accB x).f T,(argsB xs).f T with
  |some v,some vs=>some (v :: vs)
  |_,_=>none⟩
theorem zy4 {n:Nat} {T:TT} (h:Rel n T tm):∀ (xs:List Operand),xs.all (okX n)=true→(argsB xs).f T=xs.mapM (aev tm)
 | [],_=>rfl
 |x :: xs,hx=>by
  simp only [List.all_cons,Bool.and_eq_true] at hx;unfold argsB;simp only [List.mapM_cons];rw [zy4 h xs hx.2,show (accB x).f T=aev tm x from zy7 h hx.1]
  cases aev tm x with
  |none=>rfl
  |some v=>cases xs.mapM (aev tm)<;>rfl
def okOp (n:Nat) (o:Oper):Bool:=o.op.operands.toList.all (okX n) && match o.dst with|some d=>d.blt n|none=>true
def exB (P:Program) (o:Oper):Fn1 Acc (AH→Option (Next×AH)):=match o.op with
 | .move x=>⟨ziu x⟩
 | .assign x=>⟨ziu x⟩
 | .pick c x y=>⟨zq2 c x y⟩
 | .alloc e=>⟨fun _=>zf1 P e⟩
 | .box e x=>⟨zD2 e x⟩
 | .build t parts=>⟨zlb P t parts⟩
 | .buildSlice t len parts=>⟨zed P t len parts⟩
 | .load t x=>⟨fun tm H=>(tm x).bind fun v=>(zj8 P t v H).bind fun r=>valK r fun r=>match r with
  | .agg cs=>zj6 cs.toList fun l=>some (.value (.agg ⟨l⟩),H)
  |r=>some (.value r,H)⟩
 | .store t x y=>⟨fun tm H=>(tm x).bind fun v=>(tm y).bind fun u=>zsi P t v u H⟩
 | .nilCheck x=>⟨zey x⟩
 | .binOp op t x y _=>⟨zj9 P op t x y⟩
 | .slice t x lo hi mx=>⟨zk9 P t x lo hi mx⟩
 | .fieldAddr s x f=>⟨zd5 P s x f⟩
 | .field t x f=>⟨zla P t x f⟩
 | .indexAddr t x i=>⟨zd4 P t x i⟩
 | .extract x i=>⟨zgh x i⟩
 | .call c=>match c.callee with
  | .builtin b=>⟨zgi P b c⟩
  |_=>⟨zbi P o⟩
 |_=>⟨zbi P o⟩
theorem exB_eq (o:Oper) (e:Acc) (H:AH):(exB P o).f e H=zbi P o e H:=by
 unfold exB
 cases ho:o.op
 case call c=>
  cases hc:c.callee with
  |builtin b=>simp only [hc];unfold zbi;simp only [ho,hc]
  |value f=>simp only [hc]
  |invoke _ _=>simp only [hc]
 all_goals first
  |rfl
  |(unfold zbi;simp only [ho];done)
  |(unfold zbi;simp only [ho];rfl)
theorem zDy {n:Nat} {T:TT} (h:Rel n T tm) {o:Oper} (ho:okOp n o=true) (H:AH):(exB P o).f (accT T) H=zbi P o (aev tm) H:=by
 rw [exB_eq];unfold okOp at ho;simp only [Bool.and_eq_true,List.all_eq_true] at ho;exact zhq fun x hx=>zy7 h (ho.1 x hx)
structure RecF where
 enter:FuncId→List Value→AH→Option (Value×AH)
 round:Nat→FuncId→Nat→TT→Code→Code→AH→Option (Value×AH)
def zbo (rc:RecF):Rec:=fun nx H=>match nx with
 | .enter g args=>rc.enter g args.toList H
 | .round l f tmps as body=>bif tmps.toList.length.ble 256 then rc.round l f tmps.toList.length (canon tmps.toList) as body H else none
 |_=>none
def callF (P:Program) (c:Call) (f:Operand):Fn1 TT (RecF→AH→Option (Value×AH)):=⟨fun T rc H=>match (accB f).f T,(argsB c.args.toList).f T with
 |some (.func (.func g) first captured),some args=>bif zej P g then rc.enter g (first.toList ++ args ++ captured.toList) H else none
 |some (.func (.yield l) _ _),some args=>match H.get l with
  |some (.loop L)=>bif args.length.beq L.params.toList.length then natK L.tmps.toList.length fun n=>bif n.ble 256 && L.params.toList.all (fun t=>t.blt n) then setPK L.params.toList args (canon L.tmps.toList) fun T2=>rc.round l L.fn n T2 L.assign L.body H else none
   else none
  |_=>none
 |_,_=>none⟩
def genF (P:Program) (o:Oper):Fn1 TT (RecF→AH→Option (Value×AH)):=⟨fun T _ H=>match (exB P o).f (accT T) H with
 |some (.value v,H')=>some (v,H')
 |some (.skip,H')=>some (undef,H')
 |_=>none⟩
def opF (P:Program) (o:Oper):Fn1 TT (RecF→AH→Option (Value×AH)):=match o.op with
 | .call c=>match c.callee with
  | .value f=>callF P c f
  |_=>genF P o
 |_=>genF P o
theorem zha:∀ (ts:List Tmp) (vs l:List Value),(zcg ts vs l).length=l.length
 | [],vs,_=>by cases vs<;>rfl
 |_ :: _,[],_=>rfl
 |t :: ts,v :: vs,l=>by unfold zcg;rw [zha ts vs];simp
theorem zDd {n:Nat} {T:TT} (h:Rel n T tm) {o:Oper} (ho:okOp n o=true) {rc:RecF} {r:Value×AH} (he:(opF P o).f T rc H=some r):zfh P (zbo rc) o tm H=some r:=by
 have gen:(genF P o).f T rc H=some r→zfh P (zbo rc) o tm H=some r:=fun he=>by
  unfold genF at he;simp only [zDy h ho] at he;unfold zfh
  cases hx:zbi P o (aev tm) H with
  |none=>rw [hx] at he;cases he
  |some x=>
   obtain⟨nx,H1⟩:=x;rw [hx] at he
   cases nx<;>simp only at he ⊢<;>first|exact he|cases he
 unfold opF at he
 cases hop:o.op<;>rw [hop] at he<;>simp only at he<;>try (exact gen he)
 rename_i c
 cases hc:c.callee with
 |builtin b=>rw [hc] at he;exact gen he
 |invoke _ _=>rw [hc] at he;exact gen he
 |value f=>
  rw [hc] at he;have ho':=ho;unfold okOp at ho';simp only [Bool.and_eq_true,List.all_eq_true] at ho';have hf:okX n f=true:=ho'.1 f (by simp [hop,Op.operands,Call.operands,hc]);have hargs:c.args.toList.all (okX n)=true:=by
   rw [List.all_eq_true];intro x hx;refine ho'.1 x ?_;simp only [hop,Op.operands,Call.operands];simp only [Array.mem_toList_iff] at hx;simp [hx]
  unfold callF at he;simp only [zy4 h _ hargs,show (accB f).f T=aev tm f from zy7 h hf] at he;unfold zfh zbi;simp only [hop,hc];unfold ze8 zfa
  cases hv:aev tm f with
  |none=>rw [hv] at he;cases hm:c.args.toList.mapM (aev tm)<;>rw [hm] at he<;>cases he
  |some v=>
   cases hm:c.args.toList.mapM (aev tm) with
   |none=>rw [hv,hm] at he;cases v<;>first|cases he|(rename_i fn _ _;cases fn<;>cases he)
   |some args=>
    rw [hv,hm] at he
    cases v<;>try (cases he;done)
    rename_i fn first captured
    cases fn<;>try (cases he;done)
    ·rename_i g
     simp only at he ⊢
     cases hb:zej P g with
     |false=>rw [hb] at he;cases he
     |true=>
      rw [hb] at he;simp only [cond_true] at he ⊢;exact he
    ·rename_i l
     simp only at he ⊢
     cases hl:H.get l with
     |none=>rw [hl] at he;cases he
     |some ob=>
      rw [hl] at he
      cases ob<;>try (cases he;done)
      rename_i L;simp only at he ⊢
      cases hq:args.length.beq L.params.toList.length with
      |false=>rw [hq] at he;cases he
      |true=>
       rw [hq] at he;simp only [cond_true,zco,zcd] at he ⊢
       cases hs:(L.tmps.toList.length.ble 256 && L.params.toList.all fun t=>t.blt L.tmps.toList.length) with
       |false=>rw [hs] at he;cases he
       |true=>
        rw [hs] at he;simp only [Bool.and_eq_true,List.all_eq_true] at hs;have hle:L.tmps.toList.length≤256:=Nat.le_of_ble_eq_true hs.1;obtain⟨T2,e1,e2⟩:=zto L.params.toList args (canon L.tmps.toList) _ (fun T2=>rc.round l L.fn L.tmps.toList.length T2 L.assign L.body H) (Rel.canon hle) fun t ht=>by simpa [blt_eq] using hs.2 t ht
        simp only [cond_true] at he;rw [e1] at he;have hlen:=zha L.params.toList args L.tmps.toList;unfold zbo;simp only [hlen,hs.1,cond_true];have e3:T2=canon (zcg L.params.toList args L.tmps.toList):=e2.unique (by
         have:=Rel.canon (l:=zcg L.params.toList args L.tmps.toList) (by rw [hlen];exact hle)
         rwa [hlen] at this)
        rw [←e3];exact he
end Go.Proofs.YtpbmmoneeoijaaaGreatDoor.Ev
namespace Go.Proofs.YtpbmmoneeoijaaaGreatDoor.Ev
open Go
variable {P:Program} {w0:Frm} {w:World} {μ μ':Mu} {H H':AH} {tm tm2:List Value} {a:Act}
def lim:IntKind→Nat
 | .i8=>128| .u8=>256| .i16=>32768| .u16=>65536| .i32=>2147483648| .u32=>4294967296| .i64=>9223372036854775808| .u64=>18446744073709551616
theorem zm1 {k:IntKind} {s:Nat} (h:s < lim k):k.wrap (Int.ofNat s)=Int.ofNat s:=by
 cases k<;>simp only [lim] at h<;>simp only [IntKind.wrap,IntKind.bits,IntKind.signed,Int.ofNat_eq_natCast]<;>simp<;>omega
def kNum:IntKind→Nat
 | .i8=>0| .u8=>1| .i16=>2| .u16=>3| .i32=>4| .u32=>5| .i64=>6| .u64=>7
theorem kNum_inj {k k':IntKind} (h:(kNum k).beq (kNum k')=true):k=k':=by
 have h:=Nat.eq_of_beq_eq_true h
 cases k<;>cases k'<;>first|rfl|cases h
section
variable {β:Type}
def zhb (f:Nat→Nat→Nat) (g:Bool) (k:IntKind) (a b:Nat) (K:Value→β) (slow:β):β:=bif g then natK (f a b) fun s=>bif s.blt (lim k) then K (.int k (.ofNat s)) else slow else slow
def iCmp (c:Bool) (K:Value→β):β:=zEk c fun c=>K (.bool c)
def intK2 (op:BinOp) (k:IntKind) (a b:Nat) (K:Value→β) (slow:β):β:=match op with
 | .add=>zhb Nat.add true k a b K slow
 | .sub=>zhb Nat.sub (b.ble a) k a b K slow
 | .mul=>zhb Nat.mul true k a b K slow
 | .quo=>zhb Nat.div (Nat.blt 0 b) k a b K slow
 | .rem=>zhb Nat.mod (Nat.blt 0 b) k a b K slow
 | .eql=>iCmp (a.beq b) K
 | .neq=>iCmp (!a.beq b) K
 | .lss=>iCmp (a.blt b) K
 | .leq=>iCmp (a.ble b) K
 | .gtr=>iCmp (b.blt a) K
 | .geq=>iCmp (b.ble a) K
 |_=>slow
end
theorem zD4 {op:BinOp} {t:TypeId} {x y:Operand} {e:Acc} {k:IntKind} {a b:Int} (hx:e x=some (.int k a)) (hy:e y=some (.int k b)) {r:Value} (hr:zb1 P (do eqGuard op t x y (.int k a) (.int k b);binOp op t (.int k a) (.int k b))=some r) (hc:closedB 3 r=true):zj9 P op t x y e H=some (.value r,H):=by
 unfold zj9;rw [hx,hy];show (bif closedB 3 (.int k a) && closedB 3 (.int k b) then match zb1 P (do eqGuard op t x y (.int k a) (.int k b);binOp op t (.int k a) (.int k b)) with
   |some r=>bif closedB 3 r then ret r H else none
   |none=>none
  else none)=_
 rw [hr];simp only [closedB,Bool.and_self,cond_true];show (bif closedB 3 r then ret r H else none)=_;rw [hc,cond_true];unfold ret;rw [zdw]
theorem zpo {op:BinOp} (h:op=.add∨op=.sub∨op=.mul) {t:TypeId} {x y:Operand} {k:IntKind} {a b:Int}:zb1 P (do eqGuard op t x y (.int k a) (.int k b);binOp op t (.int k a) (.int k b))=zb1 P (Op.intArith op k a b):=by
 rcases h with rfl|rfl|rfl<;>cases k<;>rfl
theorem zEo {op:BinOp} (h:op=.quo∨op=.rem) {t:TypeId} {x y:Operand} {k:IntKind} {a b:Int}:zb1 P (do eqGuard op t x y (.int k a) (.int k b);binOp op t (.int k a) (.int k b))=zb1 P (Op.intDiv op k a b):=by
 rcases h with rfl|rfl<;>cases k<;>rfl
theorem zlf {op:BinOp} (h:op=.eql∨op=.neq∨op=.lss∨op=.leq∨op=.gtr∨op=.geq) {t:TypeId} {x y:Operand} {k:IntKind} {a b:Int}:zb1 P (do eqGuard op t x y (.int k a) (.int k b);binOp op t (.int k a) (.int k b))=zb1 P (Op.intCmp op a b):=by
 rcases h with rfl|rfl|rfl|rfl|rfl|rfl<;>cases k<;>rfl
theorem zuz (a b:Nat):a.beq b=(Int.ofNat a == Int.ofNat b):=by
 cases h:a.beq b with
 |true=>rw [Nat.eq_of_beq_eq_true h];simp
 |false=>
  have:a≠b:=fun e=>by subst e;rw [Nat.beq_refl] at h;cases h
  symm;simp only [beq_eq_false_iff_ne,ne_eq,Int.ofNat_eq_natCast];omega
theorem ble_eq (a b:Nat):a.ble b=decide (a≤b):=by
 cases h:a.ble b with
 |true=>exact (decide_eq_true (Nat.le_of_ble_eq_true h)).symm
 |false=>exact (decide_eq_false fun h2=>by rw [Nat.ble_eq_true_of_le h2] at h;cases h).symm
theorem run_int {op:BinOp} {t:TypeId} {x y:Operand} {k:IntKind} {a b:Nat} {β:Type} {K:Value→β} {slow:β} (hs:∀ r,zb1 P (do eqGuard op t x y (.int k (.ofNat a)) (.int k (.ofNat b));binOp op t (.int k (.ofNat a)) (.int k (.ofNat b)))=some r→closedB 3 r=true→slow=K r):intK2 op k a b K slow=slow:=by
 have ar:∀ (f:Nat→Nat→Nat) (g:Bool),(g=true→f a b < lim k→slow=K (.int k (.ofNat (f a b))))→zhb f g k a b K slow=slow:=fun f g h=>by
  unfold zhb
  cases g with
  |false=>rfl
  |true=>
   simp only [cond_true,zco]
   cases hl:(f a b).blt (lim k) with
   |false=>rfl
   |true=>exact (h rfl (by rw [blt_eq] at hl;simpa using hl)).symm
 have cm:∀ (c:Bool),slow=K (.bool c)→iCmp c K=slow:=fun c h=>by unfold iCmp;rw [zkh,h]
 have ocast:∀ n:Nat,Int.ofNat n=(n:Int):=fun _=>rfl
 cases op<;>try rfl
 ·refine ar _ _ fun _ hl=>hs _ ?_ rfl
  rw [zpo (by simp)];show some (Value.int k (k.wrap (Int.ofNat (Nat.add a b))))=_;rw [zm1 hl]
 ·refine ar _ _ fun hg hl=>hs _ ?_ rfl
  have hg:=Nat.le_of_ble_eq_true hg;rw [zpo (by simp)];show some (Value.int k (k.wrap (Int.ofNat a - Int.ofNat b)))=_;rw [show Int.ofNat a - Int.ofNat b=Int.ofNat (Nat.sub a b) by simp only [ocast,Nat.sub_eq];omega,zm1 hl]
 ·refine ar _ _ fun _ hl=>hs _ ?_ rfl
  rw [zpo (by simp)];show some (Value.int k (k.wrap (Int.ofNat (Nat.mul a b))))=_;rw [zm1 hl]
 ·refine ar _ _ fun hg hl=>hs _ ?_ rfl
  have hg:0 < b:=by rw [blt_eq] at hg;simpa using hg
  rw [zEo (by simp)];unfold Op.intDiv;rw [if_neg (by simp only [ocast];omega)];show some (Value.int k (k.wrap (Int.ofNat (Nat.div a b))))=_;rw [zm1 hl]
 ·refine ar _ _ fun hg hl=>hs _ ?_ rfl
  have hg:0 < b:=by rw [blt_eq] at hg;simpa using hg
  rw [zEo (by simp)];unfold Op.intDiv;rw [if_neg (by simp only [ocast];omega)];rfl
 ·refine cm _ (hs _ ?_ rfl)
  rw [zlf (by simp),zuz];rfl
 ·refine cm _ (hs _ ?_ rfl)
  rw [zlf (by simp),zuz];rfl
 ·refine cm _ (hs _ ?_ rfl)
  rw [zlf (by simp),blt_eq];show some (Value.bool (decide (Int.ofNat a < Int.ofNat b)))=_;simp
 ·refine cm _ (hs _ ?_ rfl)
  rw [zlf (by simp),ble_eq];show some (Value.bool (decide (Int.ofNat a≤Int.ofNat b)))=_;simp
 ·refine cm _ (hs _ ?_ rfl)
  rw [zlf (by simp),blt_eq];show some (Value.bool (decide (Int.ofNat a > Int.ofNat b)))=_;simp
 ·refine cm _ (hs _ ?_ rfl)
  rw [zlf (by simp),ble_eq];show some (Value.bool (decide (Int.ofNat a ≥ Int.ofNat b)))=_;simp
def getR {α β:Type}:Nat→Fn1 (Row α) ((α→β)→β)
 |0=>⟨fun r=>Row.casesOn (motive:=fun _=>(α→β)→β) r fun x0 _ _ _ _ _ _ _ _ _ _ _ _ _ _ _ k=>k x0⟩
 |1=>⟨fun r=>Row.casesOn (motive:=fun _=>(α→β)→β) r fun _ x1 _ _ _ _ _ _ _ _ _ _ _ _ _ _ k=>k x1⟩
 |2=>⟨fun r=>Row.casesOn (motive:=fun _=>(α→β)→β) r fun _ _ x2 _ _ _ _ _ _ _ _ _ _ _ _ _ k=>k x2⟩
 |3=>⟨fun r=>Row.casesOn (motive:=fun _=>(α→β)→β) r fun _ _ _ x3 _ _ _ _ _ _ _ _ _ _ _ _ k=>k x3⟩
 |4=>⟨fun r=>Row.casesOn (motive:=fun _=>(α→β)→β) r fun _ _ _ _ x4 _ _ _ _ _ _ _ _ _ _ _ k=>k x4⟩
 |5=>⟨fun r=>Row.casesOn (motive:=fun _=>(α→β)→β) r fun _ _ _ _ _ x5 _ _ _ _ _ _ _ _ _ _ k=>k x5⟩
 |6=>⟨fun r=>Row.casesOn (motive:=fun _=>(α→β)→β) r fun _ _ _ _ _ _ x6 _ _ _ _ _ _ _ _ _ k=>k x6⟩
 |7=>⟨fun r=>Row.casesOn (motive:=fun _=>(α→β)→β) r fun _ _ _ _ _ _ _ x7 _ _ _ _ _ _ _ _ k=>k x7⟩
 |8=>⟨fun r=>Row.casesOn (motive:=fun _=>(α→β)→β) r fun _ _ _ _ _ _ _ _ x8 _ _ _ _ _ _ _ k=>k x8⟩
 |9=>⟨fun r=>Row.casesOn (motive:=fun _=>(α→β)→β) r fun _ _ _ _ _ _ _ _ _ x9 _ _ _ _ _ _ k=>k x9⟩
 |10=>⟨fun r=>Row.casesOn (motive:=fun _=>(α→β)→β) r fun _ _ _ _ _ _ _ _ _ _ x10 _ _ _ _ _ k=>k x10⟩
 |11=>⟨fun r=>Row.casesOn (motive:=fun _=>(α→β)→β) r fun _ _ _ _ _ _ _ _ _ _ _ x11 _ _ _ _ k=>k x11⟩
 |12=>⟨fun r=>Row.casesOn (motive:=fun _=>(α→β)→β) r fun _ _ _ _ _ _ _ _ _ _ _ _ x12 _ _ _ k=>k x12⟩
 |13=>⟨fun r=>Row.casesOn (motive:=fun _=>(α→β)→β) r fun _ _ _ _ _ _ _ _ _ _ _ _ _ x13 _ _ k=>k x13⟩
 |14=>⟨fun r=>Row.casesOn (motive:=fun _=>(α→β)→β) r fun _ _ _ _ _ _ _ _ _ _ _ _ _ _ x14 _ k=>k x14⟩
 |_=>⟨fun r=>Row.casesOn (motive:=fun _=>(α→β)→β) r fun _ _ _ _ _ _ _ _ _ _ _ _ _ _ _ x15 k=>k x15⟩
theorem zDs {α β:Type} {i:Nat} (hi:i < 16) (r:Row α) (k:α→β):(getR i).f r k=k ((selB i).f r):=by
 cases r;rcases zn5 hi with rfl|rfl|rfl|rfl|rfl|rfl|rfl|rfl|rfl|rfl|rfl|rfl|rfl|rfl|rfl|rfl<;>rfl
def both {α β:Type} (p:Fn1 (Row (Row α)) ((Row α→β)→β)) (q:Fn1 (Row α) ((α→β)→β)):Fn1 (Row (Row α)) ((α→β)→β):=match p,q with
 |⟨f⟩,⟨g⟩=>⟨fun T k=>f T fun r=>g r k⟩
def getK {β:Type} (t:Nat):Fn1 TT ((Value→β)→β):=both (α:=Value) (getR (t % 16)) (getR (t / 16 % 16))
theorem getK_eq {β:Type} (t:Nat) (T:TT) (k:Value→β):(getK t).f T k=k ((BT.getB 2 t).f T):=by
 have h1:=zDs (α:=Row Value) (Nat.mod_lt t (by decide:16 > 0)) T (fun r=>(getR (t / 16 % 16)).f r k);have h2:=zDs (α:=Value) (Nat.mod_lt (t / 16) (by decide:16 > 0)) ((selB (t % 16)).f T) k;exact h1.trans h2
def bothPut {α β:Type} (p:Fn1 (Row (Row α)) ((Row α→(Row α→Row (Row α))→β)→β)) (q:Fn1 (Row α) ((α→(α→Row α)→β)→β)):Fn1 (Row (Row α)) (α→(Row (Row α)→β)→β):=match p,q with
 |⟨f⟩,⟨g⟩=>⟨fun T v k=>f T fun r put=>g r fun _ put2=>k (put (put2 v))⟩
def put2K {β:Type} (t:Nat):Fn1 TT (Value→(TT→β)→β):=bothPut (α:=Value) (updB (t % 16)) (updB (t / 16 % 16))
def zt5 {β:Type}:Operand→Fn1 TT ((Value→Option β)→Option β)
 | .tmp t=>getK t
 | .const v=>bif closedB 3 v then ⟨fun _ k=>k v⟩ else ⟨fun _ _=>none⟩
 | .global _=>⟨fun _ _=>none⟩
 | .func f=>⟨fun _ k=>k (.func (.func f) #[] #[])⟩
theorem zr8 {β:Type} (x:Operand) (T:TT) (k:Value→Option β):(zt5 x).f T k=match accT T x with|some v=>k v|none=>none:=by
 cases x with
 |tmp t=>
  show (getK t).f T k=_;rw [getK_eq];rfl
 |const v=>
  show (bif closedB 3 v then (⟨fun _ k=>k v⟩:Fn1 TT ((Value→Option β)→Option β)) else ⟨fun _ _=>none⟩).f T k=match (bif closedB 3 v then (⟨fun _=>some v⟩:Fn1 TT (Option Value)) else ⟨fun _=>none⟩).f T with|some v=>k v|none=>none
  cases closedB 3 v<;>rfl
 |global _=>rfl
 |func _=>rfl
def onK {β:Type} (r:Option (Value×AH)) (k:Value→AH→Option β):Option β:=match r with
 |some (v,H')=>k v H'
 |none=>none
def intB {β:Type} (op:BinOp):Fn1 IntKind (Nat→Nat→(Value→β)→β→β):=match op with
 | .add=>⟨zhb Nat.add true⟩
 | .sub=>⟨fun k a b=>zhb Nat.sub (b.ble a) k a b⟩
 | .mul=>⟨zhb Nat.mul true⟩
 | .quo=>⟨fun k a b=>zhb Nat.div (Nat.blt 0 b) k a b⟩
 | .rem=>⟨fun k a b=>zhb Nat.mod (Nat.blt 0 b) k a b⟩
 | .eql=>⟨fun _ a b K _=>iCmp (a.beq b) K⟩
 | .neq=>⟨fun _ a b K _=>iCmp (!a.beq b) K⟩
 | .lss=>⟨fun _ a b K _=>iCmp (a.blt b) K⟩
 | .leq=>⟨fun _ a b K _=>iCmp (a.ble b) K⟩
 | .gtr=>⟨fun _ a b K _=>iCmp (b.blt a) K⟩
 | .geq=>⟨fun _ a b K _=>iCmp (b.ble a) K⟩
 |_=>⟨fun _ _ _ _ slow=>slow⟩
theorem intB_eq {β:Type} (op:BinOp) (k:IntKind) (a b:Nat) (K:Value→β) (slow:β):(intB op).f k a b K slow=intK2 op k a b K slow:=by
 cases op<;>rfl
def twoK {β:Type} (u v:Value) (K:IntKind→Nat→Nat→β) (slow:β):β:=match u with
 | .int k (.ofNat a)=>match v with
  | .int k' (.ofNat b)=>bif (kNum k).beq (kNum k') then K k a b else slow
  |_=>slow
 |_=>slow
def opK {β:Type} (P:Program) (o:Oper):Fn1 TT (RecF→AH→(Value→AH→Option β)→Option β):=match o.op with
 | .move x=>match zt5 (β:=β) x with
  |⟨f⟩=>⟨fun T _ H k=>f T fun v=>k v H⟩
 | .assign x=>match zt5 (β:=β) x with
  |⟨f⟩=>⟨fun T _ H k=>f T fun v=>k v H⟩
 | .binOp op _ x y _=>match zt5 (β:=β) x,zt5 (β:=β) y,intB (β:=Option β) op with
  |⟨f⟩,⟨g⟩,⟨h⟩=>⟨fun T rc H k=>f T fun u=>g T fun v=>twoK u v (fun kd a b=>h kd a b (fun r=>k r H) (onK ((opF P o).f T rc H) k)) (onK ((opF P o).f T rc H) k)⟩
 |_=>⟨fun T rc H k=>onK ((opF P o).f T rc H) k⟩
theorem opK_eq {β:Type} (T:TT) (o:Oper) (rc:RecF) (H:AH) (k:Value→AH→Option β):(opK P o).f T rc H k=onK ((opF P o).f T rc H) k:=by
 have mv:∀ x,(o.op=.move x∨o.op=.assign x)→(zt5 x).f T (fun v=>k v H)=onK ((opF P o).f T rc H) k:=fun x hop=>by
  rw [zr8];have hF:(opF P o).f T rc H=(genF P o).f T rc H:=by rcases hop with hop|hop<;>(unfold opF;rw [hop])
  have hE:(exB P o).f (accT T) H=ziu x (accT T) H:=by rcases hop with hop|hop<;>(unfold exB;rw [hop])
  rw [hF];show _=onK (match (exB P o).f (accT T) H with
   |some (.value v,H')=>some (v,H')
   |some (.skip,H')=>some (undef,H')
   |_=>none) k
  rw [hE];unfold ziu ret
  cases accT T x with
  |none=>rfl
  |some v=>simp only [Option.bind_some,zdw];rfl
 unfold opK
 cases hop:o.op<;>try rfl
 case move x=>exact mv x (.inl hop)
 case assign x=>exact mv x (.inr hop)
 case binOp op t x y ty=>
  show (zt5 x).f T (fun u=>(zt5 y).f T fun v=>twoK u v (fun kd a b=>(intB op).f kd a b (fun r=>k r H) (onK ((opF P o).f T rc H) k)) (onK ((opF P o).f T rc H) k))=_;rw [zr8];have hF:(opF P o).f T rc H=(genF P o).f T rc H:=by unfold opF;rw [hop]
  have hE:(exB P o).f (accT T) H=zj9 P op t x y (accT T) H:=by unfold exB;rw [hop]
  have hG:(genF P o).f T rc H=(match zj9 P op t x y (accT T) H with
   |some (.value v,H')=>some (v,H')
   |some (.skip,H')=>some (undef,H')
   |_=>none):=by rw [←hE];rfl
  cases hu:accT T x with
  |none=>
   have:zj9 P op t x y (accT T) H=none:=by unfold zj9;rw [hu]
   rw [hF,hG,this];rfl
  |some u=>
   simp only;rw [zr8]
   cases hv:accT T y with
   |none=>
    have:zj9 P op t x y (accT T) H=none:=by
     unfold zj9;rw [hu,hv]
     cases u<;>first|rfl|(rename_i p;cases p<;>rfl)
    rw [hF,hG,this];rfl
   |some v=>
    simp only;unfold twoK
    cases u<;>try rfl
    rename_i kd i
    cases i<;>try rfl
    rename_i a
    cases v<;>try rfl
    rename_i kd' j
    cases j<;>try rfl
    rename_i b;simp only
    cases hk:(kNum kd).beq (kNum kd') with
    |false=>rfl
    |true=>
     obtain rfl:=kNum_inj hk;rw [cond_true,intB_eq];refine run_int (P:=P) (t:=t) (x:=x) (y:=y) fun r hr hc=>?_;have:=zD4 (P:=P) (H:=H) hu hv hr hc;rw [hF,hG,this];rfl
end Go.Proofs.YtpbmmoneeoijaaaGreatDoor.Ev
