/-
  A part of the proof: EvWalk EvDrawS.
-/
import Derived.Test.YtpbmmoneeoijaaaGreatDoorP08
namespace Go.Proofs.YtpbmmoneeoijaaaGreatDoor.Ev
open Go
variable {P:Program} {w0:Frm} {w:World} {μ μ':Mu} {H H':AH} {tm tm2:List Value} {a:Act}
theorem zoy {l m:List Value} (hl:l.length=m.length) {d:Nat} (h:l.getD d undef=m.getD d undef):l[d]? =m[d]?:=by
 rw [List.getD_eq_getElem?_getD,List.getD_eq_getElem?_getD] at h;by_cases hd:d < l.length
 ·rw [List.getElem?_eq_getElem hd,List.getElem?_eq_getElem (by omega)] at h ⊢
  exact congrArg some h
 ·rw [List.getElem?_eq_none (by omega),List.getElem?_eq_none (by omega)]
theorem zjm {l:List Oper} {o:Oper} (hl:tm.length=tm2.length) (h:∀ t∈uses l o,tm.getD t undef=tm2.getD t undef):zb5 l tm o=zb5 l tm2 o:=by
 unfold zb5
 cases hg:o.guard with
 |none=>rfl
 |some gw=>
  obtain⟨g,want⟩:=gw;simp only;have:zfl l tm g=zfl l tm2 g:=by
   unfold zfl
   cases hd:(l[g]?).bind (·.dst) with
   |none=>rfl
   |some d=>
    simp only;rw [zoy hl (h d (by unfold uses;rw [hg];simp [hd]))]
  rw [this]
theorem zsz {l:List Oper} {o:Oper} (h:∀ t∈uses l o,tm.getD t undef=tm2.getD t undef):∀ x∈o.op.operands.toList,aev tm x=aev tm2 x:=by
 intro x hx
 cases x with
 |tmp t=>
  simp only [aev,Option.some.injEq];exact h t (List.mem_append_left _ (List.mem_filterMap.2 ⟨.tmp t,hx,rfl⟩))
 |const v=>rfl
 |global g=>rfl
 |func f=>rfl
def WAt (P:Program) (rc:Rec) (l:List Oper) (tm1 tmF:List Value) (j:Nat) (o:Oper) (Ha Hb:AH):Prop:=
 kd o=2∨kd o≠2∧∃ v env,env.length=tmF.length∧(∀ t,(∃ i q,i < j∧l[i]? =some q∧q.dst=some t)→env.getD t undef=tmF.getD t undef)∧(∀ t,(∀ i q,i < j→l[i]? =some q→kd q≠2→q.dst≠some t)→env.getD t undef=tm1.getD t undef)∧
  (∀ t,o.dst=some t→t < tmF.length→tmF.getD t undef=v)∧
  ((zb5 l env o=false∧v=undef∧(kd o=3→Hb=Ha))∨
  (zb5 l env o=true∧kd o=3∧zfh P rc o env Ha=some (v,Hb))∨
  (zb5 l env o=true∧kd o≠3∧∃ Hx,zbi P o (aev env) Ha=some (.value v,Hx)))
theorem zj2 {d:Option Tmp} {v:Value} {t:Nat} (h:d≠some t):(putT tm d v).getD t undef=tm.getD t undef:=by
 cases d with
 |none=>rfl
 |some u=>
  have:u≠t:=fun e=>h (by rw [e]);unfold putT;rw [List.getD_eq_getElem?_getD,List.getD_eq_getElem?_getD,List.getElem?_set_ne this]
theorem zi2 (d:Option Tmp) (v:Value):(putT tm d v).length=tm.length:=by cases d<;>simp [putT]
theorem zty {v:Value} {t:Nat} (h:t < tm.length):(putT tm (some t) v).getD t undef=v:=by
 unfold putT;rw [List.getD_eq_getElem?_getD,List.getElem?_set_self h];rfl
theorem zkq {rc:Rec} {l:List Oper} (dk:zAu l) {tm1:List Value}:∀ (r:List Oper) (i:Nat) (tm:List Value) (H:AH) {tmF:List Value} {hs:List AH},(∀ m,m < r.length→l[i+m]? =r[m]?)→i+r.length=l.length→
  (∀ t,(∀ j q,j < i→l[j]? =some q→kd q≠2→q.dst≠some t)→tm.getD t undef=tm1.getD t undef)→zix P rc l r tm H=some (tmF,hs)→
  tmF.length=tm.length∧hs.length=effs r∧(∀ t,(∀ (m:Nat) (o:Oper),r[m]? =some o→kd o≠2→o.dst≠some t)→tmF.getD t undef=tm.getD t undef)∧
  (∀ (Hd:AH) (m:Nat) (o:Oper),r[m]? =some o→WAt P rc l tm1 tmF (i+m) o ((H :: hs).getD (effs (r.take m)) Hd) ((H :: hs).getD (effs (r.take m)+1) Hd))
 | [],i,tm,H,tmF,hs,_,_,_,h=>by
  simp only [zix,Option.some.injEq,Prod.mk.injEq] at h;obtain⟨rfl,rfl⟩:=h;exact⟨rfl,rfl,fun _ _=>rfl,fun _ m o hm=>by simp at hm⟩
 |o :: r,i,tm,H,tmF,hs,hat,hlen,hpre,h=>by
  have ho:l[i]? =some o:=by simpa using hat 0 (by simp)
  have hat':∀ m,m < r.length→l[i+1+m]? =r[m]?:=fun m hm=>by
   have:=hat (m+1) (by simp;omega);rw [show i+1+m=i+(m+1) by omega];simpa using this
  have hlen':i+1+r.length=l.length:=by simp at hlen;omega
  have later:∀ (m:Nat) (q:Oper),r[m]? =some q→l[i+1+m]? =some q:=fun m q hq=>by
   rw [hat' m (List.getElem?_eq_some_iff.1 hq).1];exact hq
  have take0:∀ m,effs ((o :: r).take (m+1))=effs (r.take m)+(bif (kd o).beq 3 then 1 else 0):=fun m=>by rw [List.take_succ_cons,zkc]
  unfold zix at h
  cases k2:(kd o).beq 2 with
  |true=>
   rw [k2] at h;simp only [cond_true] at h;have k2':=Nat.eq_of_beq_eq_true k2;have hpre':∀ t,(∀ j q,j < i+1→l[j]? =some q→kd q≠2→q.dst≠some t)→tm.getD t undef=tm1.getD t undef:=fun t ht=>hpre t fun j q hj=>ht j q (by omega);obtain⟨a1,a2,a3,a4⟩:=zkq dk r (i+1) tm H hat' hlen' hpre' h;have k3:(kd o).beq 3=false:=by rw [k2'];rfl
   refine⟨a1,by rw [zkc,k3,a2];rfl,fun t ht=>a3 t fun m q hq=>ht (m+1) q (by simpa using hq),fun Hd m q hq=>?_⟩
   cases m with
   |zero=>
    simp only [List.getElem?_cons_zero,Option.some.injEq] at hq;subst hq;exact .inl k2'
   |succ m=>
    rw [take0,k3,show i+(m+1)=i+1+m by omega];exact a4 Hd m q (by simpa using hq)
  |false=>
   rw [k2] at h;simp only [cond_false] at h;have k2':kd o≠2:=fun e=>by rw [e] at k2;cases k2
   have fin:∀ (v:Value) (H':AH) (hs':List AH),zix P rc l r (putT tm o.dst v) H'=some (tmF,hs')→hs=(bif (kd o).beq 3 then H' :: hs' else hs')→(kd o≠3→H'=H)→
     ((zb5 l tm o=false∧v=undef∧(kd o=3→H'=H))∨(zb5 l tm o=true∧kd o=3∧zfh P rc o tm H=some (v,H'))∨(zb5 l tm o=true∧kd o≠3∧∃ Hx,zbi P o (aev tm) H=some (.value v,Hx)))→
     tmF.length=tm.length∧hs.length=effs (o :: r)∧(∀ t,(∀ (m:Nat) (o':Oper),(o :: r)[m]? =some o'→kd o'≠2→o'.dst≠some t)→tmF.getD t undef=tm.getD t undef)∧
     (∀ (Hd:AH) (m:Nat) (o':Oper),(o :: r)[m]? =some o'→WAt P rc l tm1 tmF (i+m) o' ((H :: hs).getD (effs ((o :: r).take m)) Hd) ((H :: hs).getD (effs ((o :: r).take m)+1) Hd)):=fun v H' hs' hw ehs hk hcase=>by
    have hpre':∀ t,(∀ j q,j < i+1→l[j]? =some q→kd q≠2→q.dst≠some t)→(putT tm o.dst v).getD t undef=tm1.getD t undef:=fun t ht=>by
     rw [zj2 (ht i o (by omega) ho k2')];exact hpre t fun j q hj=>ht j q (by omega)
    obtain⟨a1,a2,a3,a4⟩:=zkq dk r (i+1) _ H' hat' hlen' hpre' hw;rw [zi2] at a1;have own:∀ t,o.dst=some t→tmF.getD t undef=(putT tm o.dst v).getD t undef:=fun t ht=>a3 t fun m q hq _ hd=>by
     have:=dk.dst i (i+1+m) o q t ho (later m q hq) hd ht;omega
    refine⟨a1,?_,fun t ht=>?_,fun Hd m q hq=>?_⟩
    ·rw [zkc,ehs]
     cases (kd o).beq 3<;>simp [a2]
    ·rw [a3 t fun m q hq=>ht (m+1) q (by simpa using hq)]
     exact zj2 (ht 0 o (by simp) k2')
    ·cases m with
     |zero=>
      simp only [List.getElem?_cons_zero,Option.some.injEq] at hq;subst hq;refine .inr ⟨k2',v,tm,a1.symm,fun t ht=>?_,hpre,fun t ht htl=>?_,?_⟩
      ·obtain⟨j,q,hj,hq,hd⟩:=ht
       have hne:∀ (m:Nat) (q':Oper),(o :: r)[m]? =some q'→q'.dst≠some t:=fun m q' hq' hd'=>by
        have hl:l[i+m]? =some q':=by rw [hat m (List.getElem?_eq_some_iff.1 hq').1];exact hq'
        have:=dk.dst (i+m) j q' q t hl hq hd hd';simp only [Nat.add_zero] at hj;omega
       rw [a3 t fun m q' hq' _=>hne (m+1) q' (by simpa using hq'),zj2 (hne 0 o (by simp))]
      ·rw [own t ht,ht]
       exact zty (by rw [←a1];exact htl)
      ·have e0:effs ((o :: r).take 0)=0:=rfl
       rw [e0];have hHb:(kd o=3→(H :: hs).getD (0+1) Hd=H'):=fun hk3=>by rw [ehs,hk3];rfl
       show (_∧_∧(kd o=3→(H :: hs).getD (0+1) Hd=H))∨(_∧kd o=3∧zfh P rc o tm H=some (v,(H :: hs).getD (0+1) Hd))∨(_∧_∧∃ Hx,zbi P o (aev tm) H=some (.value v,Hx));rcases hcase with ⟨b1,b2,b3⟩|⟨b1,b2,b3⟩|b
       ·exact .inl ⟨b1,b2,fun hk3=>(hHb hk3).trans (b3 hk3)⟩
       ·exact .inr (.inl ⟨b1,b2,by rw [hHb b2];exact b3⟩)
       ·exact .inr (.inr b)
     |succ m=>
      have:=a4 Hd m q (by simpa using hq);rw [take0,ehs,show i+(m+1)=i+1+m by omega]
      cases k3:(kd o).beq 3 with
      |true=>simpa using this
      |false=>
       have:H'=H:=hk fun e=>by rw [e] at k3;cases k3
       subst this;simpa using a4 Hd m q (by simpa using hq)
   cases hwl:zb5 l tm o with
   |false=>
    rw [hwl] at h;simp only [cond_false,putK_eq] at h
    cases k3:(kd o).beq 3 with
    |true=>
     rw [k3] at h;simp only [cond_true] at h
     cases hw:zix P rc l r (putT tm o.dst undef) H with
     |none=>rw [hw] at h;cases h
     |some x=>
      obtain⟨t1,h1⟩:=x;rw [hw] at h;simp only [Option.some.injEq,Prod.mk.injEq] at h;obtain⟨rfl,rfl⟩:=h;exact fin undef H h1 hw (by rw [k3];rfl) (fun _=>rfl) (.inl ⟨hwl,rfl,fun _=>rfl⟩)
    |false=>
     rw [k3] at h;simp only [cond_false] at h;exact fin undef H hs h (by rw [k3];rfl) (fun _=>rfl) (.inl ⟨hwl,rfl,fun _=>rfl⟩)
   |true=>
    rw [hwl] at h;simp only [cond_true] at h
    cases k3:(kd o).beq 3 with
    |true=>
     rw [k3] at h;simp only [cond_true] at h
     cases he:zfh P rc o tm H with
     |none=>rw [he] at h;cases h
     |some x=>
      obtain⟨v,H1⟩:=x;rw [he] at h;simp only [putK_eq] at h
      cases hw:zix P rc l r (putT tm o.dst v) H1 with
      |none=>rw [hw] at h;cases h
      |some x=>
       obtain⟨t1,h1⟩:=x;rw [hw] at h;simp only [Option.some.injEq,Prod.mk.injEq] at h;obtain⟨rfl,rfl⟩:=h;have k3':=Nat.eq_of_beq_eq_true k3;exact fin v H1 h1 hw (by rw [k3];rfl) (fun hne=>absurd k3' hne) (.inr (.inl ⟨hwl,k3',he⟩))
    |false=>
     rw [k3] at h;simp only [cond_false] at h
     cases he:zbi P o (aev tm) H with
     |none=>rw [he] at h;cases h
     |some x=>
      obtain⟨nx,H1⟩:=x;rw [he] at h
      cases nx<;>simp only at h<;>try (cases h;done)
      rename_i v;rw [putK_eq] at h;exact fin v H hs h (by rw [k3];rfl) (fun _=>rfl) (.inr (.inr ⟨hwl,(fun e=>by rw [e] at k3;cases k3),H1,he⟩))
def PAt (P:Program) (tmF:List Value) (o:Oper) (lo:Nat) (H1:AH) (n:Nat):Prop:=
 ∃ e i z,o.op=.alloc e∧P.info? e=some i∧i.zero=some z∧closedB 3 z=true∧lo≤n∧n < H1.next∧H1.get n=some (.cells ⟨z.cells.toList⟩ e)∧∀ t,o.dst=some t→t < tmF.length→tmF.getD t undef=.pointer (some ⟨n,0,none⟩)
theorem zB8 {e:TypeId} {v:Value} {H':AH} (h:zf1 P e H=some (.value v,H')):∃ i z,P.info? e=some i∧i.zero=some z∧closedB 3 z=true∧H.next < 2 ^ depth∧v=.pointer (some ⟨H.next,0,none⟩)∧H'=H.new (.cells ⟨z.cells.toList⟩ e):=by
 unfold zf1 at h
 cases hi:P.info? e with
 |none=>rw [hi] at h;cases h
 |some i=>
  rw [hi] at h;simp only at h
  cases hz:i.zero with
  |none=>rw [hz] at h;cases h
  |some z=>
   rw [hz] at h;simp only at h
   cases hc:closedB 3 z with
   |false=>rw [hc] at h;cases h
   |true=>
    rw [hc] at h;simp only [cond_true] at h;obtain⟨hn,h⟩:=zd2 h;simp only [Option.some.injEq,Prod.mk.injEq,Next.value.injEq] at h;exact⟨i,z,rfl,hz,hc,hn,h.1.symm,h.2.symm⟩
theorem zky {l:List Oper} (dk:zAu l):∀ (r:List Oper) (i:Nat) (tm:List Value) (H:AH) {tm1:List Value} {H1:AH},H.Ok→(∀ m,m < r.length→l[i+m]? =r[m]?)→zr5 P r tm H=some (tm1,H1)→
  tm1.length=tm.length∧H.next≤H1.next∧(∀ t,(∀ (m:Nat) (o:Oper),r[m]? =some o→kd o=2→o.dst≠some t)→tm1.getD t undef=tm.getD t undef)∧(∀ n,n < H.next→H1.get n=H.get n)∧
  (∀ (w0:Frm) (μ:Mu) (w:World),R w0 μ H w→R w0 μ H1 w∧Post μ H μ H1)∧H1.Ok∧
  (∃ nm:Nat→Nat,(∀ (m:Nat) (o:Oper),r[m]? =some o→kd o=2→PAt P tm1 o H.next H1 (nm m))∧∀ (m m':Nat) (o o':Oper),r[m]? =some o→r[m']? =some o'→kd o=2→kd o'=2→nm m=nm m'→m=m')
 | [],i,tm,H,tm1,H1,hok,_,h=>by
  simp only [zr5,Option.some.injEq,Prod.mk.injEq] at h;obtain⟨rfl,rfl⟩:=h;exact⟨rfl,Nat.le_refl _,fun _ _=>rfl,fun _ _=>rfl,fun _ _ _ hr=>⟨hr,.refl _ _⟩,hok,fun _=>0,fun m o hm=>by simp at hm,fun m m' o o' hm=>by simp at hm⟩
 |o :: r,i,tm,H,tm1,H1,hok,hat,h=>by
  have ho:l[i]? =some o:=by simpa using hat 0 (by simp)
  have hat':∀ m,m < r.length→l[i+1+m]? =r[m]?:=fun m hm=>by
   have:=hat (m+1) (by simp;omega);rw [show i+1+m=i+(m+1) by omega];simpa using this
  unfold zr5 at h
  cases k2:(kd o).beq 2 with
  |false=>
   rw [k2] at h;simp only [cond_false] at h;have k2':kd o≠2:=fun e=>by rw [e] at k2;cases k2
   obtain⟨a1,a2,a3,a4,a5,a6,nm,a7,a8⟩:=zky dk r (i+1) tm H hok hat' h;refine⟨a1,a2,fun t ht=>a3 t fun m q hq=>ht (m+1) q (by simpa using hq),a4,a5,a6,fun m=>nm (m - 1),fun m q hq hk=>?_,fun m m' q q' hq hq' hk hk' e=>?_⟩
   ·cases m with
    |zero=>simp only [List.getElem?_cons_zero,Option.some.injEq] at hq;subst hq;exact absurd hk k2'
    |succ m=>exact a7 m q (by simpa using hq) hk
   ·cases m with
    |zero=>simp only [List.getElem?_cons_zero,Option.some.injEq] at hq;subst hq;exact absurd hk k2'
    |succ m=>
     cases m' with
     |zero=>simp only [List.getElem?_cons_zero,Option.some.injEq] at hq';subst hq';exact absurd hk' k2'
     |succ m'=>
      have:=a8 m m' q q' (by simpa using hq) (by simpa using hq') hk hk' (by simpa using e);omega
  |true=>
   rw [k2] at h;simp only [cond_true] at h;have k2':=Nat.eq_of_beq_eq_true k2
   cases hop:o.op<;>rw [hop] at h<;>simp only at h<;>try (cases h;done)
   rename_i e
   cases he:zf1 P e H with
   |none=>rw [he] at h;cases h
   |some x=>
    obtain⟨nx,H2⟩:=x;rw [he] at h
    cases nx<;>simp only at h<;>try (cases h;done)
    rename_i v;rw [putK_eq] at h;obtain⟨inf,z,g1,g2,g3,hn,rfl,rfl⟩:=zB8 he;have hok2:(H.new (.cells ⟨z.cells.toList⟩ e)).Ok:=hok.new hn _;obtain⟨a1,a2,a3,a4,a5,a6,nm,a7,a8⟩:=zky dk r (i+1) _ _ hok2 hat' h;have hnx:(H.new (.cells ⟨z.cells.toList⟩ e)).next=H.next+1:=rfl;have hnext:H.next+1≤H1.next:=a2;rw [zi2] at a1;refine⟨a1,by omega,fun t ht=>?_,fun n hn2=>?_,fun w0 μ w hr=>?_,a6,fun m=>match m with|0=>H.next|m+1=>nm m,fun m q hq hk=>?_,fun m m' q q' hq hq' hk hk' ee=>?_⟩
    ·rw [a3 t fun m q hq=>ht (m+1) q (by simpa using hq)]
     exact zj2 (ht 0 o (by simp) k2')
    ·rw [a4 n (by rw [hnx];omega),AH.get_new hn,if_neg (by omega)]
    ·obtain⟨b1,b2⟩:=a5 w0 μ w (hr.pend hn _)
     exact⟨b1,(Post.of_pend hn _).trans b2⟩
    ·cases m with
     |zero=>
      simp only [List.getElem?_cons_zero,Option.some.injEq] at hq;subst hq;refine⟨e,inf,z,hop,g1,g2,g3,Nat.le_refl _,by show H.next < _;omega,?_,fun t ht htl=>?_⟩
      ·show H1.get H.next=_
       rw [a4 _ (by rw [hnx];omega),AH.get_new hn,if_pos rfl]
      ·rw [a3 t fun m q hq hk hd=>?_,ht]
       ·exact zty (by rw [←a1];exact htl)
       ·have hq':l[i+1+m]? =some q:=by rw [hat' m (List.getElem?_eq_some_iff.1 hq).1];exact hq
        have:=dk.dst i (i+1+m) o q t ho hq' hd ht;omega
     |succ m=>
      obtain⟨e',i',z',b1,b2,b3,b4,b5,b6,b7,b8⟩:=a7 m q (by simpa using hq) hk;exact⟨e',i',z',b1,b2,b3,b4,by rw [hnx] at b5;show H.next≤nm m;omega,b6,b7,b8⟩
    ·cases m with
     |zero=>cases m' with
      |zero=>rfl
      |succ m'=>
       obtain⟨_,_,_,_,_,_,_,b5,_⟩:=a7 m' q' (by simpa using hq') hk';rw [hnx] at b5;simp only at ee;omega
     |succ m=>cases m' with
      |zero=>
       obtain⟨_,_,_,_,_,_,_,b5,_⟩:=a7 m q (by simpa using hq) hk;rw [hnx] at b5;simp only at ee;omega
      |succ m'=>
       have:=a8 m m' q q' (by simpa using hq) (by simpa using hq') hk hk' ee;omega
end Go.Proofs.YtpbmmoneeoijaaaGreatDoor.Ev
namespace Go.Proofs.YtpbmmoneeoijaaaGreatDoor.Ev
open Go
variable {P:Program} {w0:Frm} {w:World} {μ μ':Mu} {H H':AH} {tm tm2:List Value} {a:Act}
theorem zx5 {v:Value} {nx:Next} (h:ret v H=some (nx,H')):H'=H:=(ze2 h).2
theorem zm9 {c:Bool} {f:Option (Next×AH)} {nx:Next} (h:(bif c then f else none)=some (nx,H')) (hf:f=some (nx,H')→H'=H):H'=H:=by
 cases c with
 |false=>cases h
 |true=>exact hf h
theorem zlu {o:Oper} (hk:zfs o.op=1) {nx:Next} (h:zbi P o (aev tm) H=some (nx,H')):H'=H:=by
 unfold zbi at h
 cases ho:o.op<;>rw [ho] at hk h<;>simp only at h<;>try (cases hk;done)
 ·rw [Option.bind_eq_some_iff] at h
  obtain⟨v,h1,h⟩:=h;rw [Option.bind_eq_some_iff] at h;obtain⟨r,h2,h⟩:=h;rw [zdw] at h
  cases r<;>simp only [zcd,Option.some.injEq,Prod.mk.injEq] at h<;>exact h.2.symm
 ·rename_i s d x
  unfold zhr at h
  split at h
  ·rename_i e hs hd
   cases hx:aev tm x with
   |none=>simp [hx] at h
   |some v=>
    cases hu:P.underlying e with
    |none=>simp [hx,hu] at h
    |some k=>
     simp only [hx,hu] at h
     cases v<;>try (cases h;done)
     rename_i q n es
     cases q<;>try (cases h;done)
     rename_i q
     cases k<;>try (cases h;done)
     rename_i k
     cases k<;>try (cases h;done)
     simp only at h
     cases hb:(es.beq 1 && (1:Nat).ble n) with
     |false=>rw [hb] at h;cases h
     |true=>
      rw [hb] at h;simp only [cond_true] at h
      cases hel:ze9 H q n 1 with
      |none=>rw [hel] at h;cases h
      |some l=>
       rw [hel] at h;simp only at h
       cases hm:l.mapM zpl with
       |none=>rw [hm] at h;cases h
       |some bs=>
        rw [hm] at h;simp only [zhu,Option.some.injEq,Prod.mk.injEq] at h;exact h.2.symm
  ·obtain⟨r,hr⟩:=zay.closed (P:=P) (tm:=tm) [x] (fun vs=>convert s d (vs.getD 0 undef))
   rw [hr H] at h
   cases r with
   |none=>cases h
   |some v=>simp only [Option.map_some,Option.some.injEq,Prod.mk.injEq] at h;exact h.2.symm
 ·rename_i t x lo hi mx
  unfold zk9 at h
  cases mx with
  |some _=>cases h
  |none=>
   simp only at h
   split at h
   ·split at h
    ·exact zm9 h zx5
    ·cases h
   ·split at h
    ·refine zm9 h fun h=>?_
     simp only [zhu,Option.some.injEq,Prod.mk.injEq] at h;exact h.2.symm
    ·cases h
   ·split at h
    ·refine zm9 h fun h=>?_
     simp only [Option.some.injEq,Prod.mk.injEq] at h;exact h.2.symm
    ·cases h
   ·split at h
    ·exact zm9 h zx5
    ·cases h
   ·cases h
 ·rename_i c
  simp only [zfs] at hk
  cases hc:c.callee with
  |value f=>rw [hc] at hk;cases hk
  |invoke _ _=>rw [hc] at hk;cases hk
  |builtin b=>rw [hc] at hk;cases b<;>cases hk
def zke (D:Nat→Bool) (t:Nat):List Oper→Nat→Bool
 | [],_=>false
 |o :: r,j=>(D j && dstIs o t) || zke D t r (j+1)
theorem zdn {D:Nat→Bool} {t:Nat}:∀ {l:List Oper} {j0:Nat},zke D t l j0=true↔∃ m o,l[m]? =some o∧D (j0+m)=true∧o.dst=some t
 | [],j0=>by simp [zke]
 |x :: r,j0=>by
  unfold zke;simp only [Bool.or_eq_true,Bool.and_eq_true,zuo,zdn (l:=r)];constructor
  ·rintro (⟨h1,h2⟩|⟨m,o,h1,h2,h3⟩)
   ·exact⟨0,x,by simp,by simpa using h1,h2⟩
   ·exact⟨m+1,o,by simpa using h1,by rw [show j0+(m+1)=j0+1+m by omega];exact h2,h3⟩
  ·rintro⟨m,o,h1,h2,h3⟩
   cases m with
   |zero=>simp only [List.getElem?_cons_zero,Option.some.injEq] at h1;subst h1;exact .inl ⟨by simpa using h2,h3⟩
   |succ m=>exact .inr ⟨m,o,by simpa using h1,by rw [show j0+1+m=j0+(m+1) by omega];exact h2,h3⟩
def curL (l:List Oper) (D:Nat→Bool) (tm tmF:List Value):List Value:=
 (List.range tm.length).map fun t=>if zke D t l 0=true then tmF.getD t undef else tm.getD t undef
theorem zcq (l:List Oper) (D:Nat→Bool) (tm tmF:List Value):(curL l D tm tmF).length=tm.length:=by simp [curL]
theorem zg2 (l:List Oper) (D:Nat→Bool) (tm tmF:List Value) {t:Nat} (h:t < tm.length):(curL l D tm tmF)[t]? =some (if zke D t l 0=true then tmF.getD t undef else tm.getD t undef):=by
 unfold curL;rw [List.getElem?_map,List.getElem?_range h];rfl
theorem zsr {l:List Oper} {D D':Nat→Bool} {tm tmF:List Value} {i:Nat} {o:Oper} (ho:l[i]? =some o) (hD:∀ j,D' j=(decide (j=i) || D j)) {v:Value} (hv:∀ t,o.dst=some t→t < tm.length→tmF.getD t undef=v):
  curL l D' tm tmF=putT (curL l D tm tmF) o.dst v:=by
 have hiff:∀ t,zke D' t l 0=true↔(zke D t l 0=true∨o.dst=some t):=fun t=>by
  rw [zdn,zdn];simp only [Nat.zero_add,hD,Bool.or_eq_true,decide_eq_true_eq];constructor
  ·rintro⟨m,q,h1,rfl|h2,h3⟩
   ·rw [ho] at h1;obtain rfl:=Option.some.inj h1;exact .inr h3
   ·exact .inl ⟨m,q,h1,h2,h3⟩
  ·rintro (⟨m,q,h1,h2,h3⟩|h)
   ·exact⟨m,q,h1,.inr h2,h3⟩
   ·exact⟨i,o,ho,.inl rfl,h⟩
 apply List.ext_getElem?;intro t;by_cases ht:t < tm.length
 ·rw [zg2 _ _ _ _ ht]
  cases hd:o.dst with
  |none=>
   simp only [putT];rw [zg2 _ _ _ _ ht];have:zke D' t l 0=true↔zke D t l 0=true:=by rw [hiff,hd];simp
   simp only [this]
  |some d=>
   simp only [putT];by_cases e:d=t
   ·subst e
    rw [List.getElem?_set_self (by rw [zcq];exact ht),if_pos ((hiff d).2 (.inr hd)),hv d hd ht]
   ·rw [List.getElem?_set_ne e,zg2 _ _ _ _ ht]
    have:zke D' t l 0=true↔zke D t l 0=true:=by rw [hiff,hd];simp [e]
    simp only [this]
 ·rw [List.getElem?_eq_none (by rw [zcq];omega),List.getElem?_eq_none (by rw [zi2,zcq];omega)]
def zio (listed:Array Bool):Nat→Nat
 |0=>0
 |n+1=>zio listed n+(bif listed.getD n false then 0 else 1)
theorem zk4 {listed:Array Bool}:∀ {n:Nat},zio listed n=0→∀ j,j < n→listed.getD j false=true
 |n+1,h,j,hj=>by
  unfold zio at h
  cases hl:listed.getD n false with
  |false=>rw [hl] at h;simp at h
  |true=>
   by_cases e:j=n
   ·subst e;exact hl
   ·exact zk4 (n:=n) (by omega) j (by omega)
theorem zqu {listed:Array Bool}:∀ {n:Nat},zio listed n≠0→∃ j,j < n∧listed.getD j false=false∧∀ i,i < j→listed.getD i false=true
 |0,h=>absurd rfl h
 |n+1,h=>by
  by_cases h0:zio listed n=0
  ·refine⟨n,by omega,?_,zk4 h0⟩
   cases hl:listed.getD n false with
   |false=>rfl
   |true=>unfold zio at h;rw [hl,h0] at h;simp at h
  ·obtain⟨j,h1,h2,h3⟩:=zqu h0
   exact⟨j,by omega,h2,h3⟩
theorem zqx {listed:Array Bool} {i:Nat} (hi:i < listed.size) (j:Nat):(listed.setIfInBounds i true).getD j false=(decide (j=i) || listed.getD j false):=by
 by_cases e:j=i
 ·subst e;simp [hi]
 ·rw [getD_set_ne false (Ne.symm e)];simp [e]
theorem zuc {listed:Array Bool} {i:Nat} (hi:i < listed.size) (hf:listed.getD i false=false):∀ n,zio listed n=zio (listed.setIfInBounds i true) n+(if i < n then 1 else 0)
 |0=>by simp [zio]
 |n+1=>by
  unfold zio;rw [zuc hi hf n,zqx hi];by_cases e:n=i
  ·subst e
   rw [hf];simp
  ·simp only [e,decide_false,Bool.false_or]
   by_cases h2:i < n
   ·simp [h2,show i < n+1 by omega];omega
   ·simp [h2,show ¬ i < n+1 by omega]
theorem zB4 {listed:Array Bool} {i:Nat} (h:listed.getD i true=false):listed.getD i false=false:=by
 rcases Nat.lt_or_ge i listed.size with h'|h'
 ·simp [h'] at h ⊢;exact h
 ·simp [Array.getElem?_eq_none h'] at h
theorem getD_inB {listed:Array Bool} {i:Nat} (hi:i < listed.size) (h:listed.getD i false=false):listed.getD i true=false:=by
 simp [hi] at h ⊢;exact h
theorem zot {o:Oper} {e:Nat}:e∈zb2 o↔∃ x∈o.after,Region.binds .any x=true∧x.on=e:=by
 unfold zb2;simp only [List.mem_map,List.mem_filter];constructor
 ·rintro⟨x,⟨h1,h2⟩,h3⟩;exact⟨x,by simpa using h1,h2,h3⟩
 ·rintro⟨x,h1,h2,h3⟩;exact⟨x,⟨by simpa using h1,h2⟩,h3⟩
end Go.Proofs.YtpbmmoneeoijaaaGreatDoor.Ev
