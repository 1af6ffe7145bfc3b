/-
  A part of the proof: EvAppend EvOp.
-/
import Derived.Test.YtpbmmoneeoijaaaGreatDoorP05
import Derived.Laws.AppendOwn
namespace Go.Proofs.YtpbmmoneeoijaaaGreatDoor.Ev
open Go
variable {P:Program} {w0:Frm} {w:World} {μ μ':Mu} {H H':AH} {tm:List Value} {a:Act}
theorem zqe {l m r:List Value} (h:All2 (RV μ) l m) (b:Nat) (e e':TypeId) (f:Nat×Nat):RB μ (.cells ⟨l⟩ e f) ⟨b,0,(m ++ r).length⟩ (.cells (m ++ r).toArray e' (0,0)):=by
 have hl:=h.length;refine⟨_,e',rfl,by simp,by simp;omega,fun i x hx=>?_⟩;obtain⟨v,h1,h2⟩:=h.get (i:=i) (a:=x) (by simpa using hx);have hi:=(List.getElem?_eq_some_iff.1 h1).1;exact⟨v,by simp only [List.getElem?_toArray,Nat.zero_add];rw [List.getElem?_append_left hi];exact h1,h2⟩
theorem zru (hr:R w0 μ H w) (hn:H.next < 2 ^ depth) {l m r:List Value} (h:All2 (RV μ) l m) (e e':TypeId):
  R w0 (μ.add H.next ⟨w.heap.size,0,(m ++ r).length⟩) (H.new (.cells ⟨l⟩ e)) (w.alloc (.cells (m ++ r).toArray e' (0,0)))∧Post μ H (μ.add H.next ⟨w.heap.size,0,(m ++ r).length⟩) (H.new (.cells ⟨l⟩ e)):=by
 have hp:=hr.new_post hn (o:=.cells ⟨l⟩ e) (p:=⟨w.heap.size,0,(m ++ r).length⟩);exact⟨hr.new hn rfl (zqe (RVs.ext hp.le h) _ _ _ _),hp⟩
theorem zi0 (w:World) (t ty e:TypeId) (i:TypeInfo) (ht:P.underlying t=some (.slice e)) (hi:P.info? e=some i)
  (g o sLen sCap:Nat) (cur:Array Value) (e':TypeId) (hg:w.heap[g]? =some (.cells cur e' (0,0)))
  (a:Addr) (m c:Nat) (news:List Value) (hl:news.length=m * i.size) (hnews:∀ j u,news[j]? =some u→w.cell? (a.add j)=some u) (h1:∀ u∈news,u.oneCell'=true)
  (hroom:sLen+m≤sCap) (hfit:o+sLen * i.size+news.length≤cur.size):
  (Builtin.append_ #[t,t] ty #[.slice (some ⟨g,o,none⟩) sLen sCap,.slice (some a) m c]).run P w=
   .ok (.slice (some ⟨g,o,none⟩) (sLen+m) sCap) (w.setRow g (cur.toList.take (o+sLen * i.size) ++ news ++ cur.toList.drop (o+sLen * i.size+news.length)).toArray):=by
 have hf:=run_firstCells_some (P:=P) w i.size m a m c news hl hnews;have hst:=run_storeCells_at P g (o+sLen * i.size) e' news 0 cur w hg (by simpa using hfit) h1;simp only [Nat.add_zero] at hst;simp [Builtin.append_,run_underlying ht,sizeOf,typeInfo,hi,Builtin.lenOf,hroom,hf,Addr.add_lit,hst]
theorem zod (w:World) (t ty e:TypeId) (i:TypeInfo) (ht:P.underlying t=some (.slice e)) (hi:P.info? e=some i) (b x:Option Addr) (n rc c:Nat) (h:n≤rc):
  (Builtin.append_ #[t,t] ty #[.slice b n rc,.slice x 0 c]).run P w=.ok (.slice b n rc) w:=by
 have hf:(Builtin.firstCells i.size 0 (.slice x 0 c)).run P w=.ok #[] w:=by
  cases x<;>simp [Builtin.firstCells,loadCells,loadCellsFrom]
 cases b<;>simp [Builtin.append_,run_underlying ht,sizeOf,typeInfo,hi,Builtin.lenOf,h,hf,storeCells]
def ze9 (H:AH) (x:Addr) (n size:Nat):Option (List Value):=match zc2 H x with
 |some (l,_)=>bif (x.off+n * size).ble l.length then some ((l.drop x.off).take (n * size)) else none
 |none=>none
def zso (P:Program) (t:TypeId) (s x:Value) (H:AH):Option (Next×AH):=
 match P.underlying t with
 |some (.slice e)=>match P.info? e with
  |none=>none
  |some i=>match i.zero with
   |none=>none
   |some z=>bif z.cells.size.beq i.size && (1:Nat).ble i.size then
    match s,x with
    | .slice none n c,.slice none m _=>bif n.beq 0 && c.beq 0 && m.beq 0 then ret s H else none
    | .slice (some _) _ _,.slice none m _=>bif m.beq 0 then ret s H else none
    | .slice none n c,.slice (some y) m es=>bif n.beq 0 && c.beq 0 then (bif m.beq 0 then ret s H else
      bif es.beq i.size && m.ble (2 ^ 30) && (m * i.bytes).ble (2 ^ 46) then match ze9 H y m i.size with
       |none=>none
       |some news=>bif ones news then zum news e H fun nm H'=>natK m fun m=>some (.value (.slice (some ⟨nm,0,none⟩) m i.size),H') else none
      else none) else none
    | .slice (some x) n es,.slice (some y) m es2=>bif m.beq 0 then ret s H else
      bif es.beq i.size && es2.beq i.size && (n+m).ble (2 ^ 30) && ((n+m) * i.bytes).ble (2 ^ 46) then match ze9 H x n i.size,ze9 H y m i.size with
       |some olds,some news=>bif ones news then AH.putK H x.block none fun H1=>zum (olds ++ news) e H1 fun nm H'=>natK (n+m) fun k=>some (.value (.slice (some ⟨nm,0,none⟩) k i.size),H') else none
       |_,_=>none
      else none
    |_,_=>none
    else none
 |_=>none
theorem zet (hr:R w0 μ H w) {x y:Addr} {n size rc:Nat} {l:List Value} (h:ze9 H x n size=some l) (ha:SAt μ x y rc size):
  ∃ (p:Pos) (lx:List Value) (c':Array Value) (e':TypeId) (o:Obj),H.get x.block=some o∧μ.pos x.block=some p∧l=(lx.drop x.off).take (n * size)∧x.off+n * size≤lx.length∧w.heap[p.block]? =some (.cells c' e' (0,0))∧p.size=c'.size∧p.off+lx.length≤c'.size∧
   (∀ (i:Nat) (v:Value),lx[i]? =some v→∃ v',c'[p.off+i]? =some v'∧RV μ v v')∧(rc=0∨(y=⟨p.block,p.off+x.off,none⟩∧p.off+x.off+rc * size≤p.size)):=by
 unfold ze9 at h
 cases hc:zc2 H x with
 |none=>rw [hc] at h;cases h
 |some le=>
  obtain⟨lx,e⟩:=le;rw [hc] at h;simp only at h
  cases hb:(x.off+n * size).ble lx.length with
  |false=>rw [hb] at h;cases h
  |true=>
   rw [hb] at h;simp only [cond_true,Option.some.injEq] at h;have hb:=Nat.le_of_ble_eq_true hb;have hg:∃ o,H.get x.block=some o:=by
    unfold zc2 at hc
    cases hg:H.get x.block with
    |none=>rw [hg] at hc;simp at hc
    |some o=>exact⟨o,rfl⟩
   obtain⟨o,hg⟩:=hg;rcases ha.2 with hd|⟨p,hp,hy⟩
   ·exact absurd hd (hr.live _ _ hg)
   ·obtain⟨p',c',e',o',h1,h2,h3,h4,h5,h6,h7⟩:=zic hr (y:=⟨p.block,p.off+x.off,none⟩) hc ⟨ha.1,.inr ⟨p,hp,rfl⟩⟩
    rw [hp] at h2;obtain rfl:=Option.some.inj h2;exact⟨p,lx,c',e',o,hg,hp,h.symm,hb,h4,h5,h6,h7,hy⟩
theorem zoq {b o:Nat} {m:List Value} (h:w.rangeAt b o m):∀ j u,m[j]? =some u→w.cell? ((⟨b,o,none⟩:Addr).add j)=some u:=fun j u hj=>by
 rw [Addr.add_mid];exact h j u hj
theorem zp8 (hr:R w0 μ H w) {t ty:TypeId} {s s' x x':Value} {nx:Next} (hs:RV μ s s') (hx:RV μ x x') (h:zso P t s x H=some (nx,H')):
  ∃ v v' w' μ',nx=.value v∧(Builtin.append_ #[t,t] ty #[s',x']).run P w=.ok v' w'∧R w0 μ' H' w'∧Post μ H μ' H'∧RV μ' v v':=by
 unfold zso at h
 cases hu:P.underlying t with
 |none=>rw [hu] at h;cases h
 |some d=>
  cases d<;>rw [hu] at h<;>try (cases h;done)
  rename_i e;simp only at h
  cases hi:P.info? e with
  |none=>rw [hi] at h;cases h
  |some i=>
   rw [hi] at h;simp only at h
   cases hz:i.zero with
   |none=>rw [hz] at h;cases h
   |some z=>
    rw [hz] at h;simp only at h
    cases hc:(z.cells.size.beq i.size && (1:Nat).ble i.size) with
    |false=>rw [hc] at h;cases h
    |true=>
     rw [hc] at h;simp only [cond_true] at h;simp only [Bool.and_eq_true] at hc;have hzs:=Nat.eq_of_beq_eq_true hc.1;have hpos:=Nat.le_of_ble_eq_true hc.2;have same:∀ (b xo:Option Addr) (n rc c:Nat),s'=.slice b n rc→x'=.slice xo 0 c→n≤rc→ret s H=some (nx,H')→∃ v v' w' μ',nx=.value v∧(Builtin.append_ #[t,t] ty #[s',x']).run P w=.ok v' w'∧R w0 μ' H' w'∧Post μ H μ' H'∧RV μ' v v':=fun b xo n rc c e1 e2 hle hret=>by
      obtain⟨rfl,rfl⟩:=ze2 hret;subst e1 e2;exact⟨s,_,w,μ,rfl,zod w t ty e i hu hi b xo n rc c hle,hr,.refl _ _,hs⟩
     have grow:∀ (μ1:Mu) (H1:AH) (olds' news' olds news:List Value) (old k:Nat) (hr1:R w0 μ1 H1 w) (hp1:Post μ H μ1 H1),H1.next < 2 ^ depth→All2 (RV μ1) olds olds'→All2 (RV μ1) news news'→olds'.length+news'.length=k * i.size→k≤2 ^ 30→old < k→
       nx=.value (.slice (some ⟨H1.next,0,none⟩) k i.size)→H'=H1.new (.cells ⟨olds ++ news⟩ e)→
       (Builtin.append_ #[t,t] ty #[s',x']).run P w=.ok (.slice (some ⟨w.heap.size,0,none⟩) k (grownCap w k old e)) (w.drew.alloc (.cells (olds'.toArray ++ news'.toArray ++ Builtin.zeroCells z.cells (grownCap w k old e - k)) e))→
       ∃ v v' w' μ',nx=.value v∧(Builtin.append_ #[t,t] ty #[s',x']).run P w=.ok v' w'∧R w0 μ' H' w'∧Post μ H μ' H'∧RV μ' v v':=fun μ1 H1 olds' news' olds news old k hr1 hp1 hn ho hw hlen hk hold enx eH hrun=>by
      have hge:=grownCap_ge w k old e;have hcat:(olds'.toArray ++ news'.toArray ++ Builtin.zeroCells z.cells (grownCap w k old e - k))=((olds' ++ news') ++ (Builtin.zeroCells z.cells (grownCap w k old e - k)).toList).toArray:=by simp
      rw [hcat] at hrun;have hr2:R w0 μ1 H1 w.drew:=hr1.drew _;obtain⟨g1,g2⟩:=zru hr2 hn (ho.append hw) (r:=(Builtin.zeroCells z.cells (grownCap w k old e - k)).toList) e e;subst enx eH;refine⟨_,_,_,_,rfl,hrun,g1,hp1.trans g2,zb4.2 ⟨_,grownCap w k old e,rfl,hge,rfl,.inr ⟨_,Mu.add_pos,.inr ⟨by simp,?_⟩⟩⟩⟩;simp only [List.length_append,Array.length_toList,size_zeroCells,hzs,Nat.zero_add,hlen,←Nat.add_mul];refine Nat.le_of_eq ?_
      congr 1
      omega
     cases s<;>try (cases h;done)
     rename_i so sn sc
     cases x<;>first|(cases so<;>cases h;done)|skip
     rename_i xo xm xc
     cases so with
     |none=>
      cases xo with
      |none=>
       simp only at h
       cases hb:(sn.beq 0 && sc.beq 0 && xm.beq 0) with
       |false=>rw [hb] at h;cases h
       |true=>
        rw [hb] at h;simp only [cond_true] at h;have e1:=(zf3.1 hs).2;have e2:=(zf3.1 hx).2;exact same none none 0 0 0 e1 e2 (Nat.le_refl _) h
      |some y=>
       simp only at h
       cases hb:(sn.beq 0 && sc.beq 0) with
       |false=>rw [hb] at h;cases h
       |true=>
        rw [hb] at h;simp only [cond_true] at h;have e1:=(zf3.1 hs).2;obtain⟨y',rcx,e2,hle,hsx⟩:=zb4.1 hx
        cases hm:xm.beq 0 with
        |true=>
         rw [hm] at h;simp only [cond_true] at h;have hm:=Nat.eq_of_beq_eq_true hm;subst hm;exact same none (some y') 0 0 rcx e1 e2 (Nat.le_refl _) h
        |false=>
         rw [hm] at h;simp only [cond_false] at h;have hm0:xm≠0:=fun e=>by subst e;cases hm
         cases hq:(xc.beq i.size && xm.ble (2 ^ 30) && (xm * i.bytes).ble (2 ^ 46)) with
         |false=>rw [hq] at h;cases h
         |true=>
          rw [hq] at h;simp only [cond_true] at h;simp only [Bool.and_eq_true] at hq;obtain⟨⟨q1,q2⟩,q3⟩:=hq;have q1:=Nat.eq_of_beq_eq_true q1;have q2:=Nat.le_of_ble_eq_true q2;have q3:=Nat.le_of_ble_eq_true q3;subst q1
          cases hel:ze9 H y xm i.size with
          |none=>rw [hel] at h;cases h
          |some news=>
           rw [hel] at h;simp only at h
           cases ho:ones news with
           |false=>rw [ho] at h;cases h
           |true=>
            rw [ho] at h;simp only [cond_true] at h;obtain⟨hn,h⟩:=zd2 h;simp only [zco,Option.some.injEq,Prod.mk.injEq] at h;obtain⟨p,lx,c',e',f,g1,g2,g3,g4,g5,g6,g7,g8,g9⟩:=zet hr hel hsx;have hy:y'=⟨p.block,p.off+y.off,none⟩:=(g9.resolve_left (by omega)).1;obtain⟨m,m1,m2,m3⟩:=zjz g5 g8 y.off (xm * i.size) g4;subst e1 e2 hy g3;refine grow μ H [] m [] _ 0 xm hr (.refl _ _) hn trivial m3 (by simpa using m1) q2 (by omega) h.1.symm h.2.symm ?_;have hrun:=run_append_nil (P:=P) w t ty e i z hu hi hz ⟨p.block,p.off+y.off,none⟩ xm rcx m m1 (zoq m2) (by omega) (by omega) (by omega);simpa using hrun
     |some sx=>
      obtain⟨y0,rc,e1,hle0,hss⟩:=zb4.1 hs
      cases xo with
      |none=>
       simp only at h
       cases hb:xm.beq 0 with
       |false=>rw [hb] at h;cases h
       |true=>
        rw [hb] at h;simp only [cond_true] at h;have e2:=(zf3.1 hx).2;exact same (some y0) none sn rc 0 e1 e2 hle0 h
      |some y=>
       simp only at h;obtain⟨y',rcx,e2,hle,hsx⟩:=zb4.1 hx
       cases hm:xm.beq 0 with
       |true=>
        rw [hm] at h;simp only [cond_true] at h;have hm:=Nat.eq_of_beq_eq_true hm;subst hm;exact same (some y0) (some y') sn rc rcx e1 e2 hle0 h
       |false=>
        rw [hm] at h;simp only [cond_false] at h;have hm0:xm≠0:=fun e=>by subst e;cases hm
        cases hq:(sc.beq i.size && xc.beq i.size && (sn+xm).ble (2 ^ 30) && ((sn+xm) * i.bytes).ble (2 ^ 46)) with
        |false=>rw [hq] at h;cases h
        |true=>
         rw [hq] at h;simp only [cond_true] at h;simp only [Bool.and_eq_true] at hq;obtain⟨⟨⟨q0,q1⟩,q2⟩,q3⟩:=hq;have q0:=Nat.eq_of_beq_eq_true q0;have q1:=Nat.eq_of_beq_eq_true q1;have q2:=Nat.le_of_ble_eq_true q2;have q3:=Nat.le_of_ble_eq_true q3;subst q0 q1
         cases hes:ze9 H sx sn i.size with
         |none=>rw [hes] at h;cases h
         |some olds=>
          cases hel:ze9 H y xm i.size with
          |none=>rw [hes,hel] at h;cases h
          |some news=>
           rw [hes,hel] at h;simp only at h
           cases ho:ones news with
           |false=>rw [ho] at h;cases h
           |true=>
            rw [ho] at h;simp only [cond_true,AH.putK_eq] at h;obtain⟨hn,h⟩:=zd2 h;simp only [zco,Option.some.injEq,Prod.mk.injEq] at h;obtain⟨p,lx,c',e',f,g1,g2,g3,g4,g5,g6,g7,g8,g9⟩:=zet hr hel hsx;obtain⟨p0,lx0,c0,e5,f0,k1,k2,k3,k4,k5,k6,k7,k8,k9⟩:=zet hr hes hss;have hy:y'=⟨p.block,p.off+y.off,none⟩:=(g9.resolve_left (by omega)).1;obtain⟨m,m1,m2,m3⟩:=zjz g5 g8 y.off (xm * i.size) g4;obtain⟨om,o1,o2,o3⟩:=zjz k5 k8 sx.off (sn * i.size) k4;subst e1 e2 hy g3 k3;have hk:=hr.kill (n:=sx.block) (AH.get_lt k1);have hkp:=hr.kill_post k1 k2;by_cases hroom:sn+xm≤rc
            ·have hy0:=k9.resolve_left (by omega)
             obtain⟨hy0,hrm⟩:=hy0;subst hy0;have hfit:p0.off+sx.off+sn * i.size+m.length≤c0.size:=by
              have:(sn+xm) * i.size≤rc * i.size:=Nat.mul_le_mul_right _ hroom;rw [Nat.add_mul] at this;omega
             have hrun:=zi0 (P:=P) w t ty e i hu hi p0.block (p0.off+sx.off) sn rc c0 e5 k5 ⟨p.block,p.off+y.off,none⟩ xm rcx m m1 (zoq m2) (zvz m3 ho) hroom hfit;have hle2:=hkp.le;have htk:=hk.take hn (o:=.cells ⟨(List.take (sn * i.size) (List.drop sx.off lx0)) ++ (List.take (xm * i.size) (List.drop y.off lx))⟩ e) (p:=⟨p0.block,p0.off+sx.off,p0.size⟩) (show ¬ w0.K p0.block from hr.old _ _ _ k1 k2)
              (w':=w.setRow p0.block (c0.toList.take (p0.off+sx.off+sn * i.size) ++ m ++ c0.toList.drop (p0.off+sx.off+sn * i.size+m.length)).toArray)
              (r:=.cells (c0.toList.take (p0.off+sx.off+sn * i.size) ++ m ++ c0.toList.drop (p0.off+sx.off+sn * i.size+m.length)).toArray e5 (0,0))
              (fun m' o' q hm' hq=>by
               rw [AH.get_put hr.ok (AH.get_lt k1)] at hm';by_cases em:m'=sx.block
               ·rw [if_pos em] at hm';cases hm'
               ·rw [if_neg em] at hm'
                exact fun eb=>em (hr.inj m' sx.block o' _ q p0 hm' k1 hq k2 eb))
              (setRow_heap w p0.block c0 _ e5 (0,0) k5) (fun b hb2=>setRow_other w p0.block b _ hb2) (by simp) (zoa _ _ _) ?_
             ·refine⟨_,_,_,_,h.1.symm,hrun,by rw [←h.2];exact htk,hkp.trans (by rw [←h.2];exact hk.new_post hn),zb4.2 ⟨_,rc,rfl,hroom,rfl,.inr ⟨_,Mu.add_pos,.inr ⟨by simp,?_⟩⟩⟩⟩
              simp only [Nat.add_zero];exact hrm
             ·have hle3:=hle2.trans (Mu.add_le (p:=⟨p0.block,p0.off+sx.off,p0.size⟩) (hk.fresh _ (Nat.le_refl _)).1)
              have hl1:(List.take (sn * i.size) (List.drop sx.off lx0)).length=sn * i.size:=by simp;omega
              have hl2:(List.take (xm * i.size) (List.drop y.off lx)).length=m.length:=by rw [m1];simp;omega
              have htot:(c0.toList.take (p0.off+sx.off+sn * i.size) ++ m ++ c0.toList.drop (p0.off+sx.off+sn * i.size+m.length)).length=c0.size:=by simp;omega
              refine⟨_,e5,rfl,by simp only [List.size_toArray];rw [htot,k6],?_,fun j x hx2=>?_⟩
              ·simp only [List.size_toArray];rw [htot,List.length_append,hl1,hl2];omega
              ·have hx2':((List.take (sn * i.size) (List.drop sx.off lx0)) ++ (List.take (xm * i.size) (List.drop y.off lx)))[j]? =some x:=by simpa using hx2
               simp only [List.getElem?_toArray];by_cases hj:j < sn * i.size
               ·rw [List.getElem?_append_left (by omega)] at hx2'
                obtain⟨v',b1,b2⟩:=k8 (sx.off+j) x (by rw [List.getElem?_take_of_lt hj,List.getElem?_drop] at hx2';exact hx2');refine⟨v',?_,b2.ext hle3⟩;rw [List.append_assoc,List.getElem?_append_left (by simp;omega),List.getElem?_take_of_lt (by omega),Array.getElem?_toList,←b1]
                congr 1;omega
               ·rw [List.getElem?_append_right (by omega),hl1] at hx2'
                obtain⟨v',b1,b2⟩:=m3.get hx2';refine⟨v',?_,b2.ext hle3⟩;have hjm:=(List.getElem?_eq_some_iff.1 b1).1;rw [List.append_assoc,List.getElem?_append_right (by simp;omega),List.getElem?_append_left (by simp;omega),←b1]
                congr 1;simp;omega
            ·have holds:∃ om',om'.length=sn * i.size∧All2 (RV μ) (List.take (sn * i.size) (List.drop sx.off lx0)) om'∧∀ j u,om'[j]? =some u→w.cell? (y0.add j)=some u:=by
              rcases k9 with k9|⟨k9,_⟩
              ·have hsn:sn=0:=by omega
               subst hsn;exact⟨[],by simp,by simp [All2],fun j u hj=>by simp at hj⟩
              ·subst k9;exact⟨om,o1,o3,zoq o2⟩
             obtain⟨om',l1,l2,l3⟩:=holds;refine grow (μ.kill sx.block) (H.put sx.block none) om' m _ _ rc (sn+xm) hk hkp hn (RVs.ext hkp.le l2) (RVs.ext hkp.le m3) (by rw [l1,m1,Nat.add_mul]) q2 (by omega) h.1.symm h.2.symm ?_;exact run_append_grow (P:=P) w t ty e i z hu hi hz y0 sn rc om' l1 l3 ⟨p.block,p.off+y.off,none⟩ xm rcx m m1 (zoq m2) (by omega) (by omega) (growslice_fits (by omega) (by omega))
end Go.Proofs.YtpbmmoneeoijaaaGreatDoor.Ev
namespace Go.Proofs.YtpbmmoneeoijaaaGreatDoor.Ev
open Go
variable {P:Program} {w0:Frm} {w:World} {μ μ':Mu} {H H':AH} {tm:List Value} {a:Act}
def zq2 (c x y:Operand) (tm:Acc) (H:AH):Option (Next×AH):=match tm c with
 |some (.bool true)=>(tm x).bind fun v=>ret v H
 |some (.bool false)=>(tm y).bind fun v=>ret v H
 |_=>none
theorem zB7 {c x y:Operand} {nx:Next} (h:zq2 c x y (aev tm) H=some (nx,H')):Snd P w0 (fun ρ=>do pure (.value (if←asBool (ρ c) then ρ x else ρ y))) tm H nx H':=by
 unfold zq2 at h
 cases hc:aev tm c with
 |none=>rw [hc] at h;cases h
 |some v=>
  rw [hc] at h
  cases v<;>try (cases h;done)
  rename_i b
  cases b<;>simp only at h<;>rw [Option.bind_eq_some_iff] at h<;>obtain⟨v,h1,h2⟩:=h<;>obtain⟨rfl,rfl⟩:=ze2 h2
  ·refine Snd.of_value fun μ w a ht hr=>⟨_,?_,zaf ht h1⟩
   have:=zg7.1 (zaf ht hc);simp [this,asBool]
  ·refine Snd.of_value fun μ w a ht hr=>⟨_,?_,zaf ht h1⟩
   have:=zg7.1 (zaf ht hc);simp [this,asBool]
def ziu (x:Operand) (tm:Acc) (H:AH):Option (Next×AH):=(tm x).bind fun v=>ret v H
theorem zq3 {x:Operand} {nx:Next} (h:ziu x (aev tm) H=some (nx,H')):Snd P w0 (fun ρ=>pure (.value (ρ x))) tm H nx H':=by
 unfold ziu at h;rw [Option.bind_eq_some_iff] at h;obtain⟨v,h1,h2⟩:=h;obtain⟨rfl,rfl⟩:=ze2 h2;exact Snd.of_value fun μ w a ht hr=>⟨_,rfl,zaf ht h1⟩
def zey (x:Operand) (tm:Acc) (H:AH):Option (Next×AH):=match tm x with
 |some (.pointer (some a))=>ret (.pointer (some a)) H
 |some (.func (.func f) a c)=>ret (.func (.func f) a c) H
 |some (.func (.yield f) a c)=>ret (.func (.yield f) a c) H
 |_=>none
theorem zp6 {x:Operand} {o:Oper} (ho:o.op=.nilCheck x) {nx:Next} (h:zey x (aev tm) H=some (nx,H')):Snd P w0 (fun ρ=>execOp ρ o) tm H nx H':=by
 unfold zey at h
 cases hx:aev tm x with
 |none=>rw [hx] at h;cases h
 |some v=>
  rw [hx] at h
  cases v<;>try (cases h;done)
  ·rename_i p
   cases p with
   |none=>cases h
   |some p=>
    obtain⟨rfl,rfl⟩:=ze2 h;refine Snd.of_value fun μ w a ht hr=>?_;have hv:=zaf ht hx;obtain⟨y,e,_⟩:=zep.1 hv;refine⟨.pointer (some y),?_,by rw [←e];exact hv⟩;unfold execOp;simp only [ho,e];rfl
  ·rename_i fn f c
   cases fn<;>simp only at h<;>try (cases h;done)
   ·obtain⟨rfl,rfl⟩:=ze2 h
    refine Snd.of_value fun μ w a ht hr=>?_;have hv:=zaf ht hx;obtain⟨f',c',e,_⟩:=zh0.1 hv;refine⟨a.eval x,?_,hv⟩;unfold execOp;simp only [ho,e];rfl
   ·obtain⟨rfl,rfl⟩:=ze2 h
    refine Snd.of_value fun μ w a ht hr=>?_;have hv:=zaf ht hx;obtain⟨_,_,p,_,e⟩:=zna.1 hv;refine⟨a.eval x,?_,hv⟩;unfold execOp;simp only [ho,e];rfl
def zhv:List UInt8→List UInt8→Bool
 | [],[]=>true
 |x :: xs,y :: ys=>bif x.toNat.beq y.toNat then zhv xs ys else false
 |_,_=>false
theorem zie:∀ (l m:List UInt8),zhv l m=(l == m)
 | [],[]=>rfl
 | [],_ :: _=>rfl
 |_ :: _,[]=>rfl
 |x :: xs,y :: ys=>by
  unfold zhv;rw [zie xs ys,List.cons_beq_cons];have:x.toNat.beq y.toNat=(x == y):=by
   cases h:x.toNat.beq y.toNat with
   |true=>rw [UInt8.toNat_inj.1 (Nat.eq_of_beq_eq_true h)];simp
   |false=>
    cases h2:(x == y) with
    |false=>rfl
    |true=>
     have:=eq_of_beq h2;subst this;rw [Nat.beq_refl] at h;cases h
  rw [this]
  cases (x == y)<;>rfl
def zj9 (P:Program) (op:BinOp) (t:TypeId) (x y:Operand) (tm:Acc) (H:AH):Option (Next×AH):=match tm x,tm y with
 |some (.string s),some (.string r)=>match op with
  | .add=>bif (s.data.toList.length+r.data.toList.length).ble (2 ^ 40) then appK s.data.toList r.data.toList fun l=>some (.value (.string ⟨⟨l⟩⟩),H) else none
  | .eql=>zEk (zhv s.data.toList r.data.toList) fun b=>some (.value (.bool b),H)
  | .neq=>zEk (!zhv s.data.toList r.data.toList) fun b=>some (.value (.bool b),H)
  |_=>none
 |some (.pointer (some _)),some (.pointer none)=>match P.underlying t,op with
  |some (.pointer _),.eql=>some (.value (.bool false),H)
  |some (.pointer _),.neq=>some (.value (.bool true),H)
  |_,_=>none
 |some u,some v=>bif closedB 3 u && closedB 3 v then match zb1 P (do eqGuard op t x y u v;binOp op t u v) with
   |some r=>bif closedB 3 r then ret r H else none
   |none=>none
  else none
 |_,_=>none
theorem toList_eq (s:ByteArray):s.toList=s.data.toList:=by
 rw [ByteArray.toList];have loop:∀ (n i:Nat) (r:List UInt8),s.size - i=n→ByteArray.toList.loop s i r=r.reverse ++ s.data.toList.drop i:=by
  intro n
  induction n with
  |zero=>
   intro i r h;rw [ByteArray.toList.loop,if_neg (by omega),List.drop_eq_nil_of_le (by simp only [Array.length_toList];show s.size≤i;omega)];simp
  |succ n ih=>
   intro i r h;have hi:i < s.size:=by omega
   rw [ByteArray.toList.loop,if_pos hi,ih _ _ (by omega)];have:i < s.data.toList.length:=by simpa using hi
   rw [List.drop_eq_getElem_cons this];simp [ByteArray.get!,hi]
 simpa using loop s.size 0 [] (by omega)
theorem zD3 {op:BinOp} {t ty:TypeId} {x y:Operand} {o:Oper} (ho:o.op=.binOp op t x y ty) {nx:Next} (h:zj9 P op t x y (aev tm) H=some (nx,H')):Snd P w0 (fun ρ=>execOp ρ o) tm H nx H':=by
 unfold zj9 at h
 cases hx:aev tm x with
 |none=>rw [hx] at h;cases h
 |some u=>
  cases hy:aev tm y with
  |none=>rw [hx,hy] at h;cases u<;>first|cases h|(rename_i p;cases p<;>cases h)
  |some v=>
   rw [hx,hy] at h;have str:∀ (s r:ByteArray) (b:Value),u=.string s→v=.string r→(∀ (w:World),(do eqGuard op t x y (.string s) (.string r);binOp op t (.string s) (.string r):Sem Value).run P w=.ok b w)→closedB 3 b=true→nx=.value b→H'=H→Snd P w0 (fun ρ=>execOp ρ o) tm H nx H':=fun s r b hu hv hrun hb e1 e2=>by
    subst hu hv e1 e2;refine Snd.of_value fun μ w a ht hr=>⟨b,?_,(closed_iff 3 b b hb).2 rfl⟩;have e1:=zdp.1 (zaf ht hx);have e2:=zdp.1 (zaf ht hy);unfold execOp;have:=hrun w;simp only [ho,e1,e2];rw [Sem.run_bind,this];rfl
   have clo:(bif closedB 3 u && closedB 3 v then match zb1 P (do eqGuard op t x y u v;binOp op t u v) with
     |some r=>bif closedB 3 r then ret r H else none
     |none=>none
    else none)=some (nx,H')→Snd P w0 (fun ρ=>execOp ρ o) tm H nx H':=fun h=>by
    cases hc:(closedB 3 u && closedB 3 v) with
    |false=>rw [hc] at h;cases h
    |true=>
     rw [hc] at h;simp only [cond_true] at h;simp only [Bool.and_eq_true] at hc
     cases hp:zb1 P (do eqGuard op t x y u v;binOp op t u v) with
     |none=>rw [hp] at h;cases h
     |some r=>
      rw [hp] at h;simp only at h
      cases hr:closedB 3 r with
      |false=>rw [hr] at h;cases h
      |true=>
       rw [hr] at h;simp only [cond_true] at h;obtain⟨rfl,rfl⟩:=ze2 h;refine Snd.of_value fun μ w a ht hr2=>⟨r,?_,(closed_iff 3 r r hr).2 rfl⟩;have e1:=(closed_iff 3 u _ hc.1).1 (zaf ht hx);have e2:=(closed_iff 3 v _ hc.2).1 (zaf ht hy);unfold execOp;have:=zi3 _ hp w;simp only [ho,e1,e2];rw [Sem.run_bind,this];rfl
   have ptr:∀ (p:Addr) (e:TypeId) (b:Bool),u=.pointer (some p)→v=.pointer none→P.underlying t=some (.pointer e)→((op=.eql∧b=false)∨(op=.neq∧b=true))→nx=.value (.bool b)→H'=H→Snd P w0 (fun ρ=>execOp ρ o) tm H nx H':=fun p e b hu hv hty hop e1 e2=>by
    subst hu hv e1 e2;refine Snd.of_value fun μ w a ht hr=>⟨.bool b,?_,zg7.2 rfl⟩;obtain⟨q,e1,_⟩:=zep.1 (zaf ht hx);have e2:=zs0.1 (zaf ht hy);unfold execOp;simp only [ho,e1,e2];have heq:(Op.equal t (.pointer (some q)) (.pointer none)).run P w=.ok false w:=by
     show (Op.equalIn (9999+1) t (.pointer (some q)) (.pointer none)).run P w=_;unfold Op.equalIn;rw [Sem.run_bind,run_underlying hty];rfl
    rcases hop with ⟨rfl,rfl⟩|⟨rfl,rfl⟩
    ·have e3:binOp .eql t (.pointer (some q)) (.pointer none)=(do pure (.bool (←Op.equal t (.pointer (some q)) (.pointer none)))):=rfl
     rw [eqGuard_at_pointer,e3];simp only [pure_bind,Sem.run_bind,heq,Result.andThen_ok,Sem.run_pure]
    ·have e3:binOp .neq t (.pointer (some q)) (.pointer none)=(do pure (.bool (!(←Op.equal t (.pointer (some q)) (.pointer none))))):=rfl
     rw [eqGuard_at_pointer,e3];simp only [pure_bind,Sem.run_bind,heq,Result.andThen_ok,Sem.run_pure,Bool.not_false]
   cases u<;>try (exact clo (by simpa using h))
   ·rename_i s
    cases v<;>try (exact clo (by simpa using h))
    rename_i r;simp only at h
    cases op<;>simp only at h<;>try (cases h;done)
    ·cases hb:(s.data.toList.length+r.data.toList.length).ble (2 ^ 40) with
     |false=>rw [hb] at h;cases h
     |true=>
      rw [hb] at h;simp only [cond_true,zxi,Option.some.injEq,Prod.mk.injEq] at h;have hb:=Nat.le_of_ble_eq_true hb;refine str s r (.string ⟨⟨s.data.toList ++ r.data.toList⟩⟩) rfl rfl (fun w=>?_) rfl h.1.symm h.2.symm;have e1:s.size=s.data.toList.length:=rfl;have e2:r.size=r.data.toList.length:=rfl;have e3:¬ (9223372036854775807 < ((s.size:Int)+(r.size:Int))):=by omega
      have e4:s ++ r=⟨⟨s.data.toList ++ r.data.toList⟩⟩:=by
       apply ByteArray.ext;simp [ByteArray.data_append]
      simp [eqGuard,binOp,Op.stringOp,e3,e4]
    ·simp only [zkh,Option.some.injEq,Prod.mk.injEq] at h
     refine str s r (.bool (zhv s.data.toList r.data.toList)) rfl rfl (fun w=>?_) rfl h.1.symm h.2.symm;simp [eqGuard,binOp,Op.stringOp,zie,toList_eq]
    ·simp only [zkh,Option.some.injEq,Prod.mk.injEq] at h
     refine str s r (.bool (!zhv s.data.toList r.data.toList)) rfl rfl (fun w=>?_) rfl h.1.symm h.2.symm;simp [eqGuard,binOp,Op.stringOp,zie,toList_eq]
   ·rename_i p
    cases p with
    |none=>exact clo (by simpa using h)
    |some p=>
     cases v<;>try (exact clo (by simpa using h))
     rename_i q
     cases q with
     |some q=>exact clo (by simpa using h)
     |none=>
      simp only at h
      cases hty:P.underlying t with
      |none=>rw [hty] at h;cases h
      |some d=>
       rw [hty] at h
       cases d<;>try (cases h;done)
       rename_i e
       cases op<;>simp only at h<;>try (cases h;done)
       ·simp only [Option.some.injEq,Prod.mk.injEq] at h
        exact ptr p e false rfl rfl hty (.inl ⟨rfl,rfl⟩) h.1.symm h.2.symm
       ·simp only [Option.some.injEq,Prod.mk.injEq] at h
        exact ptr p e true rfl rfl hty (.inr ⟨rfl,rfl⟩) h.1.symm h.2.symm
def zck (P:Program) (xs:List Operand) (s:List Value→Sem Value) (tm:Acc) (H:AH):Option (Next×AH):=match xs.mapM tm with
 |some vs=>bif vs.all (closedB 3) then match zb1 P (s vs) with
   |some r=>bif closedB 3 r then ret r H else none
   |none=>none
  else none
 |none=>none
theorem zde (ht:RT μ tm a):∀ (xs:List Operand) {vs:List Value},xs.mapM (aev tm)=some vs→All2 (RV μ) vs (xs.map a.eval)
 | [],vs,h=>by simp at h;subst h;trivial
 |x :: xs,vs,h=>by
  simp only [List.mapM_cons,Option.bind_eq_bind,Option.bind_eq_some_iff] at h;obtain⟨v,h1,vs',h2,h3⟩:=h;simp at h3;subst h3;exact⟨zaf ht h1,zde ht xs h2⟩
theorem zeb {xs:List Operand} {s:List Value→Sem Value} {nx:Next} {f:(Operand→Value)→Sem Next} (hf:∀ ρ,f ρ=do pure (.value (←s (xs.map ρ)))) (h:zck P xs s (aev tm) H=some (nx,H')):Snd P w0 f tm H nx H':=by
 unfold zck at h
 cases hm:xs.mapM (aev tm) with
 |none=>rw [hm] at h;cases h
 |some vs=>
  rw [hm] at h;simp only at h
  cases hc:vs.all (closedB 3) with
  |false=>rw [hc] at h;cases h
  |true=>
   rw [hc] at h;simp only [cond_true] at h
   cases hp:zb1 P (s vs) with
   |none=>rw [hp] at h;cases h
   |some r=>
    rw [hp] at h;simp only at h
    cases hr:closedB 3 r with
    |false=>rw [hr] at h;cases h
    |true=>
     rw [hr] at h;simp only [cond_true] at h;obtain⟨rfl,rfl⟩:=ze2 h;refine Snd.of_value fun μ w a ht hr2=>⟨r,?_,(closed_iff 3 r r hr).2 rfl⟩;have e:=(zd7 (fun v v' hv=>closed_iff 3 v v' hv) _ _ hc).1 (zde ht xs hm);rw [hf,e,Sem.run_bind,zi3 _ hp w];rfl
def zD0 (P:Program) (t:TypeId) (cs:List Value) (off:Nat):Option Value:=match isRow P t,P.info? t with
 |some true,some i=>some (.agg ⟨(cs.drop off).take i.size⟩)
 |some false,some _=>cs[off]?
 |_,_=>none
theorem zun {t:TypeId} {cs:List Value} {cs':Array Value} {off:Nat} {r:Value} (hc:All2 (RV μ) cs cs'.toList) (h:zD0 P t cs off=some r) (w:World):∃ r',(part t cs' off).run P w=.ok r' w∧RV μ r r':=by
 unfold zD0 at h
 cases hu:P.underlying t with
 |none=>simp [isRow,hu] at h
 |some d=>
  cases hi:P.info? t with
  |none=>cases hr:isRow P t with
   |none=>rw [hr,hi] at h;cases h
   |some b=>cases b<;>rw [hr,hi] at h<;>cases h
  |some i=>
   have hsz:(sizeOf t).run P w=.ok i.size w:=by simp [sizeOf,typeInfo,hi]
   cases hrow:d.isRow with
   |true=>
    have hir:isRow P t=some true:=by unfold isRow;rw [hu];cases d<;>first|rfl|cases hrow
    rw [hir,hi] at h;simp only [Option.some.injEq] at h;subst h;have hagg:(isAgg t).run P w=.ok true w:=by
     unfold isAgg;rw [Sem.run_bind,run_underlying hu w]
     cases d<;>simp_all
    refine⟨.agg (cs'.extract off (off+i.size)),by simp [part,hagg,hsz],zri.2 ⟨_,rfl,?_⟩⟩;have e:(cs'.extract off (off+i.size)).toList=(cs'.toList.drop off).take i.size:=by
     rw [Array.toList_extract,List.extract_eq_take_drop];congr 1;omega
    rw [e];exact (hc.drop off).take i.size
   |false=>
    have hir:isRow P t=some false:=by unfold isRow;rw [hu];cases d<;>first|rfl|cases hrow
    rw [hir,hi] at h;simp only at h;have hagg:(isAgg t).run P w=.ok false w:=by
     unfold isAgg;rw [Sem.run_bind,run_underlying hu w]
     cases d<;>simp_all
    obtain⟨r',h1,h2⟩:=hc.get h;have h1':cs'[off]? =some r':=by simpa using h1
    exact⟨r',by simp [part,hagg,h1'],h2⟩
def zla (P:Program) (t:TypeId) (x:Operand) (f:Nat) (tm:Acc) (H:AH):Option (Next×AH):=match tm x,P.underlying t with
 |some (.agg cs),some (.struct fields)=>match fields[f]? with
  |some ff=>(zD0 P ff.type cs.toList ff.offset).bind fun v=>valK v fun v=>match v with
   | .agg cs=>zj6 cs.toList fun l=>some (.value (.agg ⟨l⟩),H)
   |v=>some (.value v,H)
  |none=>none
 |_,_=>none
theorem zws {t:TypeId} {x:Operand} {f:Nat} {nx:Next} (h:zla P t x f (aev tm) H=some (nx,H')):Snd P w0 (fun ρ=>do pure (.value (←Instr.field t (ρ x) f))) tm H nx H':=by
 unfold zla at h
 cases hx:aev tm x with
 |none=>rw [hx] at h;cases h
 |some v=>
  cases v<;>rw [hx] at h<;>try (cases h;done)
  rename_i cs
  cases hu:P.underlying t with
  |none=>rw [hu] at h;cases h
  |some d=>
   cases d<;>rw [hu] at h<;>try (cases h;done)
   rename_i fields;simp only at h
   cases hf:fields[f]? with
   |none=>rw [hf] at h;cases h
   |some ff=>
    rw [hf] at h;simp only at h;rw [Option.bind_eq_some_iff] at h;obtain⟨v,h1,h2⟩:=h;rw [zdw] at h2;have h3:nx=.value v∧H'=H:=by
     cases v<;>simp only [zcd,Option.some.injEq,Prod.mk.injEq] at h2<;>exact⟨h2.1.symm,h2.2.symm⟩
    obtain⟨rfl,rfl⟩:=h3;refine Snd.of_value fun μ w a ht hr=>?_;obtain⟨c',e1,e2⟩:=zri.1 (zaf ht hx);obtain⟨r',g1,g2⟩:=zun e2 h1 w;exact⟨r',by simp [Instr.field,e1,run_underlying hu,hf,asAgg,g1],g2⟩
def zgh (x:Operand) (i:Nat) (tm:Acc) (H:AH):Option (Next×AH):=match tm x with
 |some (.tuple vs)=>(vs.toList[i]?).bind fun v=>ret v H
 |_=>none
theorem zsk {x:Operand} {i:Nat} {nx:Next} (h:zgh x i (aev tm) H=some (nx,H')):Snd P w0 (fun ρ=>do pure (.value (←Instr.extract (ρ x) i))) tm H nx H':=by
 unfold zgh at h
 cases hx:aev tm x with
 |none=>rw [hx] at h;cases h
 |some v=>
  cases v<;>rw [hx] at h<;>try (cases h;done)
  rename_i cs;simp only at h;rw [Option.bind_eq_some_iff] at h;obtain⟨v,h1,h2⟩:=h;obtain⟨rfl,rfl⟩:=ze2 h2;refine Snd.of_value fun μ w a ht hr=>?_;obtain⟨c',e1,e2⟩:=zij.1 (zaf ht hx);obtain⟨r',g1,g2⟩:=e2.get h1;have g1':c'[i]? =some r':=by simpa using g1
  exact⟨r',by simp [Instr.extract,e1,g1'],g2⟩
def zd5 (P:Program) (s:TypeId) (x:Operand) (f:Nat) (tm:Acc) (H:AH):Option (Next×AH):=match tm x,P.underlying s with
 |some (.pointer (some q)),some (.struct fields)=>match fields[f]? with
  |some ff=>match P.info? ff.type,q.spot with
   |some i,none=>bif (1:Nat).ble i.size then ret (.pointer (some ⟨q.block,q.off+ff.offset,none⟩)) H else none
   |_,_=>none
  |none=>none
 |_,_=>none
theorem At.add {x y:Addr} (h:At μ x y) (n:Nat):At μ ⟨x.block,x.off+n,none⟩ (y.add n):=by
 refine⟨rfl,h.2.imp id fun ⟨p,hp,hy⟩=>⟨p,hp,?_⟩⟩;subst hy;rw [Addr.add_mid];simp only [Nat.add_assoc]
theorem zo6 {s:TypeId} {x:Operand} {f:Nat} {nx:Next} (h:zd5 P s x f (aev tm) H=some (nx,H')):Snd P w0 (fun ρ=>do pure (.value (←Instr.fieldAt s (ρ x) f))) tm H nx H':=by
 unfold zd5 at h
 cases hx:aev tm x with
 |none=>rw [hx] at h;cases h
 |some v=>
  cases v<;>rw [hx] at h<;>try (cases h;done)
  rename_i q
  cases q with
  |none=>cases h
  |some q=>
   cases hu:P.underlying s with
   |none=>rw [hu] at h;cases h
   |some d=>
    cases d<;>rw [hu] at h<;>try (cases h;done)
    rename_i fields;simp only at h
    cases hf:fields[f]? with
    |none=>rw [hf] at h;cases h
    |some ff=>
     rw [hf] at h;simp only at h
     cases hi:P.info? ff.type with
     |none=>rw [hi] at h;cases h
     |some i=>
      rw [hi] at h
      cases hq:q.spot with
      |some _=>rw [hq] at h;cases h
      |none=>
       rw [hq] at h;simp only at h
       cases hb:(1:Nat).ble i.size with
       |false=>rw [hb] at h;cases h
       |true=>
        rw [hb] at h;simp only [cond_true] at h;have hb:=Nat.le_of_ble_eq_true hb;obtain⟨rfl,rfl⟩:=ze2 h;refine Snd.of_value fun μ w a ht hr=>?_;obtain⟨y,e1,e2⟩:=zep.1 (zaf ht hx);refine⟨.pointer (some (y.add ff.offset)),?_,zep.2 ⟨_,rfl,e2.add _⟩⟩;have hsz:(sizeOf ff.type).run P w=.ok i.size w:=by simp [sizeOf,typeInfo,hi]
        simp [Instr.fieldAt,e1,run_underlying hu,hf,Instr.sureAddr,fieldPlace,hsz,show ¬ i.size=0 by omega]
def zd4 (P:Program) (t:TypeId) (x i:Operand) (tm:Acc) (H:AH):Option (Next×AH):=match tm x,tm i,P.underlying t with
 |some (.pointer (some q)),some (.int _ n),some (.array len e)=>match n,P.info? e,q.spot with
  | .ofNat m,some ie,none=>bif m.blt len then ret (.pointer (some ⟨q.block,q.off+m * ie.size,none⟩)) H else none
  |_,_,_=>none
 |some (.slice (some q) len es),some (.int _ n),some (.slice e)=>match n,P.info? e,q.spot with
  | .ofNat m,some ie,none=>bif m.blt len && es.beq ie.size then ret (.pointer (some ⟨q.block,q.off+m * ie.size,none⟩)) H else none
  |_,_,_=>none
 |_,_,_=>none
theorem zo5 {t:TypeId} {x i:Operand} {nx:Next} (h:zd4 P t x i (aev tm) H=some (nx,H')):Snd P w0 (fun ρ=>do pure (.value (←Instr.indexAt t (ρ x) (ρ i)))) tm H nx H':=by
 unfold zd4 at h
 cases hx:aev tm x with
 |none=>rw [hx] at h;cases h
 |some v=>
  cases hi:aev tm i with
  |none=>rw [hx,hi] at h;cases v<;>first|cases h|(rename_i p _ _;cases p<;>cases h)|(rename_i p;cases p<;>cases h)
  |some iv=>
   rw [hx,hi] at h
   cases v<;>try (cases h;done)
   ·rename_i q
    cases q with
    |none=>cases h
    |some q=>
     cases iv<;>try (cases h;done)
     rename_i k n
     cases hu:P.underlying t with
     |none=>rw [hu] at h;cases h
     |some d=>
      cases d<;>rw [hu] at h<;>try (cases h;done)
      rename_i len e;simp only at h
      cases n with
      |negSucc _=>cases h
      |ofNat m=>
       cases hie:P.info? e with
       |none=>rw [hie] at h;cases h
       |some ie=>
        cases hq:q.spot with
        |some _=>rw [hie,hq] at h;cases h
        |none=>
         rw [hie,hq] at h;simp only at h
         cases hb:m.blt len with
         |false=>rw [hb] at h;cases h
         |true=>
          rw [hb] at h;simp only [cond_true] at h;rw [blt_eq] at hb;have hb:m < len:=by simpa using hb
          obtain⟨rfl,rfl⟩:=ze2 h;refine Snd.of_value fun μ w a ht hr=>?_;obtain⟨y,e1,e2⟩:=zep.1 (zaf ht hx);have e3:=zhz.1 (zaf ht hi);refine⟨.pointer (some (y.add (m * ie.size))),?_,zep.2 ⟨_,rfl,e2.add _⟩⟩;have hsz:(sizeOf e).run P w=.ok ie.size w:=by simp [sizeOf,typeInfo,hie]
          have hm:(0:Int)≤Int.ofNat m∧Int.ofNat m < (len:Int):=⟨Int.natCast_nonneg m,Int.ofNat_lt.2 hb⟩;have h0:(0:Int)≤(m:Int):=Int.natCast_nonneg m;simp [Instr.indexAt,e1,e3,asIntOf,run_underlying hu,Instr.sureAddr,hsz,hb]
   ·rename_i q len es
    cases q with
    |none=>cases h
    |some q=>
     cases iv<;>try (cases h;done)
     rename_i k n
     cases hu:P.underlying t with
     |none=>rw [hu] at h;cases h
     |some d=>
      cases d<;>rw [hu] at h<;>try (cases h;done)
      rename_i e;simp only at h
      cases n with
      |negSucc _=>cases h
      |ofNat m=>
       cases hie:P.info? e with
       |none=>rw [hie] at h;cases h
       |some ie=>
        cases hq:q.spot with
        |some _=>rw [hie,hq] at h;cases h
        |none=>
         rw [hie,hq] at h;simp only at h
         cases hb:(m.blt len && es.beq ie.size) with
         |false=>rw [hb] at h;cases h
         |true=>
          rw [hb] at h;simp only [cond_true] at h;simp only [Bool.and_eq_true] at hb;obtain⟨hb,hes⟩:=hb;rw [blt_eq] at hb;have hb:m < len:=by simpa using hb
          obtain⟨rfl,rfl⟩:=ze2 h;refine Snd.of_value fun μ w a ht hr=>?_;obtain⟨y,rc,e1,hle,e2⟩:=zb4.1 (zaf ht hx);have e3:=zhz.1 (zaf ht hi);have hat:At μ q y:=⟨e2.1,e2.2.imp id fun ⟨p,hp,hy⟩=>⟨p,hp,(hy.resolve_left (by omega)).1⟩⟩;refine⟨.pointer (some (y.add (m * ie.size))),?_,zep.2 ⟨_,rfl,hat.add _⟩⟩;have hsz:(sizeOf e).run P w=.ok ie.size w:=by simp [sizeOf,typeInfo,hie]
          simp [Instr.indexAt,e1,e3,asIntOf,run_underlying hu,hsz,hb]
end Go.Proofs.YtpbmmoneeoijaaaGreatDoor.Ev
