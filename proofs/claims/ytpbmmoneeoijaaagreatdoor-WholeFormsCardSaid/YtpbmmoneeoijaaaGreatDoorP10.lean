/-
  A part of the proof: EvDrawT EvRun.
-/
import Derived.Test.YtpbmmoneeoijaaaGreatDoorP09
import Derived.RangeFuncRecord
import Derived.RangeFuncNested
namespace Go.Proofs.YtpbmmoneeoijaaaGreatDoor.Ev
open Go
variable {P:Program} {w0:Frm} {w:World} {μ μ':Mu} {H H':AH} {tm tm2:List Value} {a:Act}
structure Reck (P:Program) (rc:Rec) (l:List Oper) (tm tm1 tmF:List Value) (H H1:AH) (hs:List AH) (nm:Nat→Nat):Prop where
 dk:zAu l
 len:tmF.length=tm.length
 one:∀ t,(∀ (i:Nat) (o:Oper),l[i]? =some o→kd o=2→o.dst≠some t)→tm1.getD t undef=tm.getD t undef
 at_:∀ (i:Nat) (o:Oper),l[i]? =some o→WAt P rc l tm1 tmF i o ((H1 :: hs).getD (effs (l.take i)) H1) ((H1 :: hs).getD (effs (l.take i)+1) H1)
 pend:∀ (i:Nat) (o:Oper),l[i]? =some o→kd o=2→PAt P tmF o H.next H1 (nm i)
 inj:∀ (m m':Nat) (o o':Oper),l[m]? =some o→l[m']? =some o'→kd o=2→kd o'=2→nm m=nm m'→m=m'
 rest:∀ t,(∀ (i:Nat) (o:Oper),l[i]? =some o→o.dst≠some t)→tmF.getD t undef=tm.getD t undef
 chk:chk P l tmF (H1 :: hs) H1=true
structure DInv (P:Program) (w0:Frm) (l:List Oper) (tm tmF:List Value) (H H1:AH) (hs:List AH) (nm:Nat→Nat) (μ0:Mu) (ds:List Deferred) (listed:Array Bool) (μ:Mu) (a:Act) (w:World):Prop where
 size:listed.size=l.length
 closed:∀ (j:Nat) (o:Oper),l[j]? =some o→listed.getD j false=true→∀ e∈zb2 o,listed.getD e false=true
 tm:RT μ (curL l (fun j=>listed.getD j false) tm tmF) a
 ds:All2 (RD μ) ds a.defers
 r:R w0 μ ((H1 :: hs).getD (zax (fun j=>listed.getD j false) l 0) H1) w
 post:Post μ0 H μ ((H1 :: hs).getD (zax (fun j=>listed.getD j false) l 0) H1)
 pend:∀ (i:Nat) (o:Oper),l[i]? =some o→kd o=2→listed.getD i false=false→μ.pos (nm i)=none∧¬ μ.dead (nm i)∧((H1 :: hs).getD (zax (fun j=>listed.getD j false) l 0) H1).get (nm i)=H1.get (nm i)
theorem cur_uses {rc:Rec} {l:List Oper} {tm tm1 tmF:List Value} {H H1:AH} {hs:List AH} {nm:Nat→Nat} (rk:Reck P rc l tm tm1 tmF H H1 hs nm) {D:Nat→Bool} {i:Nat} {o:Oper} (ho:l[i]? =some o) (h0:kd o≠0) (hpre:∀ j,((preM l).getD i 0).testBit j=true→D j=true):
  ∀ t∈uses l o,(curL l D tm tmF).getD t undef=tmF.getD t undef:=by
 intro t ht;by_cases htl:t < tm.length
 ·rw [List.getD_eq_getElem?_getD,zg2 _ _ _ _ htl]
  simp only [Option.getD_some];by_cases hd:zke D t l 0=true
  ·rw [if_pos hd]
  ·rw [if_neg hd]
   refine (rk.rest t fun j q hq hdst=>hd ?_).symm;rw [zdn];exact⟨j,q,hq,by rw [Nat.zero_add];exact hpre j ((rk.dk.use i j o q t ho hq hdst ht).resolve_right fun h=>h0 h.1),hdst⟩
 ·rw [List.getD_eq_getElem?_getD,List.getD_eq_getElem?_getD,List.getElem?_eq_none (by rw [zcq];exact Nat.le_of_not_lt htl),List.getElem?_eq_none (by rw [rk.len];exact Nat.le_of_not_lt htl)]
theorem zvw {l:List Oper} {j i:Nat} {q:Oper} (hq:l[j]? =some q) (hk:kd q=2) (hback:∀ e∈zb2 q,e < j):((preM l).getD j 0).testBit i=false:=by
 cases hb:((preM l).getD j 0).testBit i with
 |false=>rfl
 |true=>
  obtain⟨e,h1,_⟩:=(zr2 hback hq).1 hb;have:zb2 q=[]:=by
   unfold kd at hk
   cases hk2:zfs q.op with
   |zero=>rw [hk2] at hk;cases hk
   |succ n=>cases n with
    |zero=>rw [hk2] at hk;cases hk
    |succ n=>cases n with
     |zero=>
      rw [hk2] at hk;simp only at hk
      cases hc:((zb2 q).isEmpty && q.guard.isNone) with
      |false=>rw [hc] at hk;cases hk
      |true=>
       simp only [Bool.and_eq_true,List.isEmpty_iff] at hc;exact hc.1
     |succ n=>rw [hk2] at hk;simp only at hk;omega
  rw [this] at h1;cases h1
theorem cur_env {rc:Rec} {l:List Oper} {tm tm1 tmF:List Value} {H H1:AH} {hs:List AH} {nm:Nat→Nat} (rk:Reck P rc l tm tm1 tmF H H1 hs nm) {D:Nat→Bool} {i:Nat} {o:Oper} (ho:l[i]? =some o) (hpre:∀ j,((preM l).getD i 0).testBit j=true→D j=true)
  (haft:∀ (j:Nat) (q:Oper),l[j]? =some q→D j=true→((preM l).getD j 0).testBit i=false) {env:List Value} (hel:env.length=tmF.length)
  (e1:∀ t,(∃ j q,j < i∧l[j]? =some q∧q.dst=some t)→env.getD t undef=tmF.getD t undef) (e2:∀ t,(∀ j q,j < i→l[j]? =some q→kd q≠2→q.dst≠some t)→env.getD t undef=tm1.getD t undef):
  ∀ t∈uses l o,(curL l D tm tmF).getD t undef=env.getD t undef:=by
 intro t ht;by_cases htl:t < tm.length
 ·rw [List.getD_eq_getElem?_getD,zg2 _ _ _ _ htl]
  simp only [Option.getD_some];by_cases hw:∃ (j:Nat) (q:Oper),l[j]? =some q∧q.dst=some t
  ·obtain⟨j,q,hq,hd⟩:=hw
   have huse:=rk.dk.use i j o q t ho hq hd ht;by_cases hji:j < i
   ·rw [e1 t ⟨j,q,hji,hq,hd⟩,if_pos]
    rw [zdn];refine⟨j,q,hq,?_,hd⟩;rw [Nat.zero_add];refine hpre j (huse.resolve_right fun h=>?_);have:=zx9 rk.dk.back j q hq i h.2;omega
   ·have hbit:((preM l).getD j 0).testBit i=true:=(huse.resolve_left fun h=>by have:=zx9 rk.dk.back i o ho j h;omega).2
    have hk2:kd q≠2:=fun e=>by rw [zvw hq e (rk.dk.back j q hq)] at hbit;cases hbit
    have only:∀ (m:Nat) (q':Oper),l[m]? =some q'→q'.dst=some t→m=j:=fun m q' hq' hd'=>rk.dk.dst j m q q' t hq hq' hd' hd;rw [e2 t fun m q' hm hq' _ hd'=>by have:=only m q' hq' hd';omega,rk.one t fun m q' hq' hk' hd'=>by
     have:=only m q' hq' hd';subst this;rw [hq] at hq';obtain rfl:=Option.some.inj hq';exact hk2 hk',if_neg]
    rw [zdn];rintro⟨m,q',hq',hD,hd'⟩;have:=only m q' hq' hd';subst this;rw [Nat.zero_add] at hD;rw [haft m q' hq' hD] at hbit;cases hbit
  ·have nw:∀ (m:Nat) (q:Oper),l[m]? =some q→q.dst≠some t:=fun m q hq hd=>hw ⟨m,q,hq,hd⟩
   rw [e2 t fun m q _ hq _=>nw m q hq,rk.one t fun m q hq _=>nw m q hq,if_neg];rw [zdn];rintro⟨m,q,hq,_,hd⟩;exact nw m q hq hd
 ·rw [List.getD_eq_getElem?_getD,List.getD_eq_getElem?_getD,List.getElem?_eq_none (by rw [zcq];exact Nat.le_of_not_lt htl),List.getElem?_eq_none (by rw [hel,rk.len];exact Nat.le_of_not_lt htl)]
theorem kd_kind {o:Oper} (h2:kd o≠2) (h3:kd o≠3):(zfs o.op=0∧kd o=0)∨(zfs o.op=1∧kd o=1):=by
 have hr:zfs o.op=0∨zfs o.op=1∨zfs o.op=2∨zfs o.op=3:=by
  cases o.op<;>first|exact .inl rfl|exact .inr (.inl rfl)|exact .inr (.inr (.inl rfl))|exact .inr (.inr (.inr rfl))|skip
  rename_i c;simp only [zfs]
  cases c.callee with
  |value f=>exact .inr (.inr (.inr rfl))
  |invoke _ _=>exact .inr (.inr (.inr rfl))
  |builtin b=>cases b<;>first|exact .inl rfl|exact .inr (.inr (.inr rfl))
 rcases hr with h|h|h|h
 ·exact .inl ⟨h,by simp [kd,h]⟩
 ·exact .inr ⟨h,by simp [kd,h]⟩
 ·exfalso
  unfold kd at h2 h3;rw [h] at h2 h3;simp only at h2 h3
  cases hc:((zb2 o).isEmpty && o.guard.isNone)<;>rw [hc] at h2 h3<;>simp at h2 h3
 ·exact absurd (by simp [kd,h]) h3
theorem zEa {rc:Rec} (hrc:zgm P w0 rc) {ops:Array Oper} {tm tm1 tmF:List Value} {H H1:AH} {hs:List AH} {nm:Nat→Nat} {μ0:Mu} {ds:List Deferred} (rk:Reck P rc ops.toList tm tm1 tmF H H1 hs nm) (b:Frame) (k:List Item) (cs:List Frame):
  ∀ (u t:Nat) (listed:Array Bool) (μ:Mu) (a:Act) (w:World),zio listed ops.size=u→DInv P w0 ops.toList tm tmF H H1 hs nm μ0 ds listed μ a w→
  ∃ a' w' μ' listed',Steps P (lone (b.atR a (.inRegion ops (Region.linearise.go .any ops u t listed []) :: k)) cs w) (lone (b.atR a' (.inRegion ops [] :: k)) cs w')∧zio listed' ops.size=0∧DInv P w0 ops.toList tm tmF H H1 hs nm μ0 ds listed' μ' a' w'
 |0,t,listed,μ,a,w,hu,inv=>⟨a,w,μ,listed,.refl P _,hu,inv⟩
 |u+1,t,listed,μ,a,w,hu,inv=>by
  have hsz:ops.toList.length=ops.size:=by simp
  have hat:∀ i:Nat,ops.toList[i]? =ops[i]?:=fun i=>Array.getElem?_toList;have hne:Region.ready .any ops listed≠[]:=by
   obtain⟨j,h1,h2,h3⟩:=zqu (listed:=listed) (n:=ops.size) (by omega);have hoj:ops[j]? =some ops[j]:=Array.getElem?_eq_getElem h1;have:j∈Region.ready .any ops listed:=mem_ready.2 ⟨getD_inB (by rw [inv.size,hsz];exact h1) h2,_,hoj,fun e he hb=>h3 _ (rk.dk.back j _ (by rw [hat];exact hoj) _ (zot.2 ⟨e,he,hb,rfl⟩))⟩;intro h0;rw [h0] at this;cases this
  have hlt:t % (Region.ready .any ops listed).length < (Region.ready .any ops listed).length:=Nat.mod_lt _ (List.length_pos_iff.2 hne);obtain⟨i,hi⟩:∃ i,(Region.ready .any ops listed)[t % (Region.ready .any ops listed).length]? =some i:=⟨_,List.getElem?_eq_getElem hlt⟩;have him:i∈Region.ready .any ops listed:=List.mem_of_getElem? hi;have hgo:Region.linearise.go .any ops (u+1) t listed []=i :: Region.linearise.go .any ops u (t / (Region.ready .any ops listed).length) (listed.setIfInBounds i true) []:=by
   have e0:Region.linearise.go .any ops (u+1) t listed []=match (Region.ready .any ops listed)[t % (Region.ready .any ops listed).length]? with
     |some i=>Region.linearise.go .any ops u (t / (Region.ready .any ops listed).length) (listed.setIfInBounds i true) [i]
     |none=>[].reverse:=rfl
   rw [e0,hi];simp only;rw [linearise_go_acc];rfl
  rw [hgo];generalize t / (Region.ready .any ops listed).length=t';obtain⟨hun,o,ho,hall⟩:=mem_ready.1 him;have hun:=zB4 hun;have hio:i < ops.size:=(Array.getElem?_eq_some_iff.1 ho).1;have his:i < listed.size:=by rw [inv.size,hsz];exact hio
  have hol:ops.toList[i]? =some o:=by rw [hat];exact ho
  have hbind:∀ e∈zb2 o,listed.getD e false=true:=fun e he=>by
   obtain⟨x,h1,h2,rfl⟩:=zot.1 he;exact hall x h1 h2
  have hpre:∀ j,((preM ops.toList).getD i 0).testBit j=true→listed.getD j false=true:=fun j hj=>
   zya (D:=fun j=>listed.getD j false=true) rk.dk.back inv.closed i o hol hbind j hj
  have hafter:∀ (j:Nat) (q:Oper),ops.toList[j]? =some q→listed.getD j false=true→((preM ops.toList).getD j 0).testBit i=false:=fun j q hq hj=>by
   cases hb:((preM ops.toList).getD j 0).testBit i with
   |false=>rfl
   |true=>
    have:=zya (D:=fun j=>listed.getD j false=true) rk.dk.back inv.closed j q hq (inv.closed j q hq hj) i hb;rw [hun] at this;cases this
  have hD':∀ j,(listed.setIfInBounds i true).getD j false=(decide (j=i) || listed.getD j false):=fun j=>zqx his j;have hcnt:zax (fun j=>(listed.setIfInBounds i true).getD j false) ops.toList 0=zax (fun j=>listed.getD j false) ops.toList 0+(bif (kd o).beq 3 then 1 else 0):=
   zrb i hun (by rw [hD'];simp) (fun j hj=>by rw [hD'];simp [hj]) ops.toList 0 o (Nat.zero_le _) (by simpa using hol)
  have hleft:zio (listed.setIfInBounds i true) ops.size=u:=by
   have:=zuc his hun ops.size;rw [if_pos hio] at this;omega
  have hclosed:∀ (j:Nat) (q:Oper),ops.toList[j]? =some q→(listed.setIfInBounds i true).getD j false=true→∀ e∈zb2 q,(listed.setIfInBounds i true).getD e false=true:=fun j q hq hj e he=>by
   rw [hD'] at hj ⊢;simp only [Bool.or_eq_true,decide_eq_true_eq] at hj ⊢;right;rcases hj with rfl|hj
   ·rw [hol] at hq
    obtain rfl:=Option.some.inj hq;exact hbind e he
   ·exact inv.closed j q hq hj e he
  have hsize:(listed.setIfInBounds i true).size=ops.toList.length:=by simp [inv.size]
  have hlen:=rk.len;have on:∀ (μ2:Mu) (a2:Act) (w2:World),Steps P (lone (b.atR a (.inRegion ops (i :: Region.linearise.go .any ops u t' (listed.setIfInBounds i true) []) :: k)) cs w) (lone (b.atR a2 (.inRegion ops (Region.linearise.go .any ops u t' (listed.setIfInBounds i true) []) :: k)) cs w2)→
    DInv P w0 ops.toList tm tmF H H1 hs nm μ0 ds (listed.setIfInBounds i true) μ2 a2 w2→
    ∃ a' w' μ' listed',Steps P (lone (b.atR a (.inRegion ops (i :: Region.linearise.go .any ops u t' (listed.setIfInBounds i true) []) :: k)) cs w) (lone (b.atR a' (.inRegion ops [] :: k)) cs w')∧zio listed' ops.size=0∧DInv P w0 ops.toList tm tmF H H1 hs nm μ0 ds listed' μ' a' w':=fun μ2 a2 w2 hst hinv=>by
   obtain⟨a',w',μ',l',s,h1,h2⟩:=zEa hrc rk b k cs u t' _ μ2 a2 w2 hleft hinv;exact⟨a',w',μ',l',hst.trans s,h1,h2⟩
  have hwant:=zs6 (ops:=ops) inv.tm o;rcases rk.at_ i o hol with k2|⟨hk2,v,env,hel,he1,he2,hv,hcase⟩
  ·
   obtain⟨e,inf,z,hop,hi1,hz,hcl,hlo,hhi,hget,hval⟩:=rk.pend i o hol k2;obtain⟨hp1,hp2,hp3⟩:=inv.pend i o hol k2 hun;have k3:(kd o).beq 3=false:=by rw [k2];rfl
   rw [k3] at hcnt;simp only [cond_false,Nat.add_zero] at hcnt;have hg:o.guard=none:=by
    unfold kd at k2
    cases hk:zfs o.op with
    |zero=>rw [hk] at k2;cases k2
    |succ n=>cases n with
     |zero=>rw [hk] at k2;cases k2
     |succ n=>cases n with
      |zero=>
       rw [hk] at k2;simp only at k2
       cases hc:((zb2 o).isEmpty && o.guard.isNone) with
       |false=>rw [hc] at k2;cases k2
       |true=>
        simp only [Bool.and_eq_true] at hc;exact Option.isNone_iff_eq_none.1 hc.2
      |succ n=>rw [hk] at k2;simp only at k2;omega
   have hw:Region.wanted o (yielded ops a.tmps)=true:=by unfold Region.wanted;rw [hg]
   have hrun:(execOp a.eval o).run P w=.ok (.value (.pointer (some ⟨w.heap.size,0,none⟩))) (w.alloc (.cells z.cells e)):=by
    unfold execOp;simp [hop,Instr.alloc,zeroValue,typeInfo,hi1,hz,newVar,newRow]
   have hgs:=stepGR_op (P:=P) (b:=b) (k:=k) (cs:=cs) (w:=w) (rest:=Region.linearise.go .any ops u t' (listed.setIfInBounds i true) []) ho hw;rw [Oper.semAt_eq _ _ _ (fun c hc=>by rw [hop] at hc;cases hc)] at hgs;have hfin:∀ v,(b.atR a (.inRegion ops (i :: Region.linearise.go .any ops u t' (listed.setIfInBounds i true) []) :: k)).finish v=b.atR (a.put o.dst v) (.inRegion ops (Region.linearise.go .any ops u t' (listed.setIfInBounds i true) []) :: k):=by
    intro v;rw [Frame.finish_atR,ho];rfl
   have hle:=Mu.add_le (p:=⟨w.heap.size,0,z.cells.size⟩) hp1;have hrl:=inv.r.lay (o:=.cells ⟨z.cells.toList⟩ e) (by rw [hp3];exact hget) hp1 (p:=⟨w.heap.size,0,z.cells.size⟩) rfl (r:=.cells z.cells e (0,0)) (zza (RVs.ext hle (zg6 ((closed_iff 3 z z hcl).2 rfl))) _ _ _ _);refine on (μ.add (nm i) ⟨w.heap.size,0,z.cells.size⟩) (a.put o.dst (.pointer (some ⟨w.heap.size,0,none⟩))) (w.alloc (.cells z.cells e)) (.one (step_lone_go (by rw [hgs,←hfin];simp [stepG.apply,hrun,Frame.atR]))) ?_;have hval2:RV (μ.add (nm i) ⟨w.heap.size,0,z.cells.size⟩) (.pointer (some ⟨nm i,0,none⟩)) (.pointer (some ⟨w.heap.size,0,none⟩)):=zep.2 ⟨_,rfl,rfl,.inr ⟨_,Mu.add_pos,by simp⟩⟩;refine⟨hsize,hclosed,?_,?_,by rw [hcnt];exact hrl,?_,fun j q hq hk hj=>?_⟩
   ·rw [zsr hol hD' (v:=.pointer (some ⟨nm i,0,none⟩)) fun t ht htl=>hval t ht (by rw [hlen];exact htl)]
    exact (inv.tm.ext hle).put _ hval2
   ·rw [zdx];exact inv.ds.mono fun _ _=>RD.ext hle
   ·rw [hcnt]
    refine⟨inv.post.le.trans hle,inv.post.next,fun n hn h1 h2=>?_,fun n hn h1=>inv.post.gone n hn h1⟩;obtain⟨c1,c2,c3⟩:=inv.post.pend n hn h1 h2;exact⟨c1,by unfold Mu.add;simp only;rw [if_neg (by omega)];exact c2,c3⟩
   ·rw [hD'] at hj
    simp only [Bool.or_eq_false_iff,decide_eq_false_iff_not] at hj;obtain⟨c1,c2,c3⟩:=inv.pend j q hq hk hj.2;rw [hcnt];have hnn:nm j≠nm i:=fun e2=>hj.1 (rk.inj j i q o hq hol hk k2 e2);exact⟨by unfold Mu.add;simp only;rw [if_neg hnn];exact c1,c2,c3⟩
  ·have huse:=cur_env rk hol hpre hafter hel he1 he2
   rw [zjm (tm2:=env) (by rw [zcq,hel,hlen]) huse] at hwant;rcases hcase with ⟨hwF,rfl,hsame⟩|hcase
   ·
    rw [hwF] at hwant;have hcount:(H1 :: hs).getD (zax (fun j=>(listed.setIfInBounds i true).getD j false) ops.toList 0) H1=(H1 :: hs).getD (zax (fun j=>listed.getD j false) ops.toList 0) H1:=by
     rw [hcnt]
     cases k3:(kd o).beq 3 with
     |false=>rfl
     |true=>
      have k3':=Nat.eq_of_beq_eq_true k3;have hc:zax (fun j=>listed.getD j false) ops.toList 0=effs (ops.toList.take i):=by
       rw [zkb];refine zfv _ _ fun m q hq hk=>?_;rw [Nat.zero_add];by_cases hmi:m < i
       ·rw [decide_eq_true hmi];exact hpre m (rk.dk.eff i m o q hol hq k3' hk hmi)
       ·rw [decide_eq_false hmi]
        by_cases e:m=i
        ·subst e;exact hun
        ·cases hl:listed.getD m false with
         |false=>rfl
         |true=>
          have h1:=hafter m q hq hl;rw [rk.dk.eff m i q o hq hol hk k3' (by omega)] at h1;cases h1
      rw [hc];exact hsame k3'
    refine on μ (a.put o.dst undef) w (ztk ho hwant b k cs) ⟨hsize,hclosed,?_,by rw [zdx];exact inv.ds,by rw [hcount];exact inv.r,by rw [hcount];exact inv.post,fun j q hq hk hj=>?_⟩
    ·rw [zsr hol hD' (v:=undef) fun t ht htl=>hv t ht (by rw [hlen];exact htl)]
     exact inv.tm.put _ zii
    ·rw [hD'] at hj
     simp only [Bool.or_eq_false_iff,decide_eq_false_iff_not] at hj;rw [hcount];exact inv.pend j q hq hk hj.2
   ·
    have key:Region.wanted o (yielded ops a.tmps)=true∧∃ v2,zfh P rc o (curL ops.toList (fun j=>listed.getD j false) tm tmF) ((H1 :: hs).getD (zax (fun j=>listed.getD j false) ops.toList 0) H1)=some (v2,(H1 :: hs).getD (zax (fun j=>(listed.setIfInBounds i true).getD j false) ops.toList 0) H1)∧
      ∀ t,o.dst=some t→t < tm.length→tmF.getD t undef=v2:=by
     rcases hcase with ⟨hwF,k3,he⟩|⟨hwF,k3,Hx,he⟩
     ·refine⟨by rw [hwant,hwF],v,?_,fun t ht htl=>hv t ht (by rw [hlen];exact htl)⟩
      have hc:zax (fun j=>listed.getD j false) ops.toList 0=effs (ops.toList.take i):=by
       rw [zkb];refine zfv _ _ fun m q hq hk=>?_;rw [Nat.zero_add];by_cases hmi:m < i
       ·rw [decide_eq_true hmi];exact hpre m (rk.dk.eff i m o q hol hq k3 hk hmi)
       ·rw [decide_eq_false hmi]
        by_cases e:m=i
        ·subst e;exact hun
        ·cases hl:listed.getD m false with
         |false=>rfl
         |true=>
          have h1:=hafter m q hq hl;rw [rk.dk.eff m i q o hq hol hk k3 (by omega)] at h1;cases h1
      rw [hcnt,hc,k3,zo1 (zsz huse)];exact he
     ·have hb3:(kd o).beq 3=false:=by
       cases hq:(kd o).beq 3 with
       |false=>rfl
       |true=>exact absurd (Nat.eq_of_beq_eq_true hq) k3
      rw [hcnt,hb3];simp only [cond_false,Nat.add_zero];have conv:∀ (v2:Value) (Hk:AH),zbi P o (aev env) Hk=some (.value v2,Hk)→zfh P rc o (curL ops.toList (fun j=>listed.getD j false) tm tmF) Hk=some (v2,Hk):=fun v2 Hk h=>by
       rw [zo1 (zsz huse)];unfold zfh;rw [h]
      rcases kd_kind hk2 k3 with ⟨q1,q2⟩|⟨q1,q2⟩
      ·refine⟨by rw [hwant,hwF],v,conv v _ ?_,fun t ht htl=>hv t ht (by rw [hlen];exact htl)⟩
       obtain⟨r,hr⟩:=zsl (P:=P) (tm:=env) q1;rw [hr] at he
       cases r with
       |none=>cases he
       |some v3=>
        simp only [Option.map_some,Option.some.injEq,Prod.mk.injEq,Next.value.injEq] at he;rw [hr,←he.1];rfl
      ·refine⟨by rw [hwant,hwF],?_⟩
       have hlo1:loOf ops.toList i≤zax (fun j=>listed.getD j false) ops.toList 0:=zc9 _ _ fun m q hq hk hp=>by
        rw [Nat.zero_add] at hp ⊢;exact hpre m hp
       have hhi1:zax (fun j=>listed.getD j false) ops.toList 0≤hiOf ops.toList i:=zc9 _ _ fun m q hq hk hp=>by
        rw [Nat.zero_add] at hp ⊢;rw [hafter m q hq hp];rfl
       have hlo2:loOf ops.toList i≤effs (ops.toList.take i):=by
        rw [zkb];exact zc9 _ _ fun m q hq hk hp=>by
         rw [Nat.zero_add] at hp ⊢;exact decide_eq_true (zx9 rk.dk.back i o hol m hp)
       have hhi2:effs (ops.toList.take i)≤hiOf ops.toList i:=by
        rw [zkb];refine zc9 _ _ fun m q hq hk hp=>?_;rw [Nat.zero_add] at hp ⊢;have hmi:m < i:=by simpa using hp
        cases hb:((preM ops.toList).getD m 0).testBit i with
        |false=>rfl
        |true=>have:=zx9 rk.dk.back m q hq i hb;omega
       have huF:=cur_uses rk hol (by rw [q2];simp) hpre;have henv:∀ t∈uses ops.toList o,env.getD t undef=tmF.getD t undef:=fun t ht=>(huse t ht).symm.trans (huF t ht);have hck:=zg4 rk.chk i o hol;rw [Nat.zero_add,q2,zjm (tm2:=env) hel.symm (fun t ht=>(henv t ht).symm),hwF] at hck;simp only [Nat.beq_refl,Bool.true_and,Bool.not_true,Bool.false_or,Bool.or_eq_true] at hck;rcases hck with hck|hck
       ·have heq:=Nat.eq_of_beq_eq_true hck
        have hcc:zax (fun j=>listed.getD j false) ops.toList 0=effs (ops.toList.take i):=by omega
        refine⟨v,conv v _ ?_,fun t ht htl=>hv t ht (by rw [hlen];exact htl)⟩;rw [hcc];have hx:=zlu q1 he;rw [hx] at he;exact he
       ·have hat2:=zly hck (zax (fun j=>listed.getD j false) ops.toList 0) hlo1 (by omega)
        unfold zCf at hat2
        cases he2:zbi P o (aev tmF) ((H1 :: hs).getD (zax (fun j=>listed.getD j false) ops.toList 0) H1) with
        |none=>rw [he2] at hat2;cases hat2
        |some x=>
         obtain⟨nx,Hy⟩:=x;rw [he2] at hat2
         cases nx<;>simp only at hat2<;>try (cases hat2;done)
         rename_i v2;have hy:=zlu q1 he2;subst hy;refine⟨v2,conv v2 _ (by rw [zhq (zsz henv)];exact he2),fun t ht htl=>?_⟩;rw [ht] at hat2;simp only at hat2;exact (zx4 3 _ _ hat2).symm
    obtain⟨hw,v2,he,hv2⟩:=key;obtain⟨v',w',μ',s,h1,h2,h3⟩:=zyd hrc he ho hw inv.tm inv.r b k cs (rest:=Region.linearise.go .any ops u t' (listed.setIfInBounds i true) []);refine on μ' _ w' s ⟨hsize,hclosed,?_,by rw [zdx];exact inv.ds.mono fun _ _=>RD.ext h2.le,h1,inv.post.trans h2,fun j q hq hk hj=>?_⟩
    ·rw [zsr hol hD' (v:=v2) hv2]
     exact (inv.tm.ext h2.le).put _ h3
    ·rw [hD'] at hj
     simp only [Bool.or_eq_false_iff,decide_eq_false_iff_not] at hj;obtain⟨c1,c2,c3⟩:=inv.pend j q hq hk hj.2;obtain⟨_,_,_,_,_,_,_,_,_,hget,_⟩:=rk.pend j q hq hk;obtain⟨d1,d2,d3⟩:=h2.pend (nm j) (AH.get_lt (by rw [c3];exact hget)) c1 c2;exact⟨d2,d3,d1.trans c3⟩
theorem zse:∀ (H:AH) (hs:List AH),zDp H hs=(H :: hs).getD hs.length H
 |H,[]=>rfl
 |H,H' :: r=>by
  show zDp H' r=_;rw [zse H' r];simp only [List.length_cons,List.getD_cons_succ];rw [List.getD_eq_getElem?_getD,List.getD_eq_getElem?_getD,List.getElem?_eq_getElem (by simp)];rfl
theorem zCd {rc:Rec} (hrc:zgm P w0 rc) (hm:P.follows .mixedOrders=true) {ops:Array Oper} {tmF:List Value} {HF:AH} (h:zq7 P rc ops.toList tm H=some (tmF,HF)) {ds:List Deferred} (ha:RA μ tm ds a) (hr:R w0 μ H w) (b:Frame) (k:List Item) (cs:List Frame) (id:Nat):
  ∃ a' w' μ',Steps P (lone (b.atR a (.code (.region id ops true) :: k)) cs w) (lone (b.atR a' k) cs w')∧RA μ' tmF ds a'∧R w0 μ' HF w'∧Post μ H μ' HF:=by
 unfold zq7 at h
 cases hd:zup ops.toList with
 |false=>rw [hd] at h;cases h
 |true=>
  rw [hd] at h;simp only [cond_true] at h;have dk:=zw3 hd
  cases hp:zr5 P ops.toList tm H with
  |none=>rw [hp] at h;cases h
  |some x=>
   obtain⟨tm1,H1⟩:=x;rw [hp] at h;simp only at h
   cases hw:zix P rc ops.toList ops.toList tm1 H1 with
   |none=>rw [hw] at h;cases h
   |some x=>
    obtain⟨tmF',hs⟩:=x;rw [hw] at h;simp only at h
    cases hc:chk P ops.toList tmF' (H1 :: hs) H1 with
    |false=>rw [hc] at h;cases h
    |true=>
     rw [hc] at h;simp only [cond_true,Option.some.injEq,Prod.mk.injEq] at h;obtain⟨rfl,rfl⟩:=h;have hsz:ops.toList.length=ops.size:=by simp
     obtain⟨p1,p2,p3,p4,p5,p6,nm,p7,p8⟩:=zky dk ops.toList 0 tm H hr.ok (fun m _=>by rw [Nat.zero_add]) hp;obtain⟨q1,q2,q3,q4⟩:=zkq dk (tm1:=tm1) ops.toList 0 tm1 H1 (fun m _=>by rw [Nat.zero_add]) (by omega) (fun _ _=>rfl) hw;have hpv:∀ (i:Nat) (o:Oper),ops.toList[i]? =some o→kd o=2→PAt P tmF' o H.next H1 (nm i):=fun i o ho hk=>by
      obtain⟨e,inf,z,b1,b2,b3,b4,b5,b6,b7,b8⟩:=p7 i o ho hk;refine⟨e,inf,z,b1,b2,b3,b4,b5,b6,b7,fun t ht htl=>?_⟩;rw [q3 t fun m q hq hkq hdq=>?_]
      ·exact b8 t ht (by rw [←q1];exact htl)
      ·have:=dk.dst i m o q t ho hq hdq ht
       subst this;rw [ho] at hq;obtain rfl:=Option.some.inj hq;exact hkq hk
     have rk:Reck P rc ops.toList tm tm1 tmF' H H1 hs nm:=⟨dk,by rw [q1,p1],p3,fun i o ho=>(by have:=q4 H1 i o ho;rw [Nat.zero_add] at this;exact this),hpv,p8,fun t ht=>by rw [q3 t fun m q hq _=>ht m q hq,p3 t fun m q hq _=>ht m q hq],hc⟩;obtain⟨r1,r2⟩:=p5 w0 μ _ (hr.drew (w.drawn+1));have zero:∀ (l:List Oper) (j:Nat),zax (fun _=>false) l j=0:=by
      intro l;induction l with
      |nil=>intro;rfl
      |cons x r ih=>intro j;unfold zax;simp [ih]
     have hf:(fun j=>(Array.replicate ops.size false).getD j false)=fun _=>false:=funext fun j=>by simp [Array.getElem?_replicate];split<;>rfl
     have hc0:zax (fun j=>(Array.replicate ops.size false).getD j false) ops.toList 0=0:=by rw [hf];exact zero _ _
     have hl0:∀ n,zio (Array.replicate ops.size false) n=n:=fun n=>by
      induction n with
      |zero=>rfl
      |succ n ih=>unfold zio;rw [ih,show (Array.replicate ops.size false).getD n false=false from congrFun hf n];rfl
     have hcur:curL ops.toList (fun j=>(Array.replicate ops.size false).getD j false) tm tmF'=tm:=by
      rw [hf];apply List.ext_getElem?;intro t;by_cases ht:t < tm.length
      ·rw [zg2 _ _ _ _ ht,if_neg (by rw [zdn];rintro⟨_,_,_,h,_⟩;cases h),List.getElem?_eq_getElem ht]
       simp [List.getD_eq_getElem?_getD,List.getElem?_eq_getElem ht]
      ·rw [List.getElem?_eq_none (by rw [zcq];exact Nat.le_of_not_lt ht),List.getElem?_eq_none (Nat.le_of_not_lt ht)]
     have inv0:DInv P w0 ops.toList tm tmF' H H1 hs nm μ ds (Array.replicate ops.size false) μ a { w with drawn:=w.drawn+1 }:=by
      refine⟨by simp,fun j o _ hj=>?_,by rw [hcur];exact ha.tm,ha.ds,by rw [hc0];exact r1,by rw [hc0];exact r2,fun i o ho hk _=>?_⟩
      ·rw [show (Array.replicate ops.size false).getD j false=false from congrFun hf j] at hj;cases hj
      ·obtain⟨_,_,_,_,_,_,_,b5,_,_,_⟩:=p7 i o ho hk
       have:=hr.fresh (nm i) b5;rw [hc0];exact⟨this.1,this.2,rfl⟩
     obtain⟨a',w',μ',listed',s,e1,inv⟩:=zEa hrc rk b k cs ops.size (w.tape w.drawn (.order b.fn id)) _ μ a _ (hl0 _) inv0;have hall:=zk4 e1;have hcF:zax (fun j=>listed'.getD j false) ops.toList 0=hs.length:=by
      rw [q2];refine zfv _ _ fun m o ho _=>?_;rw [Nat.zero_add];exact hall m (by rw [←hsz];exact (List.getElem?_eq_some_iff.1 ho).1)
     have hcurF:curL ops.toList (fun j=>listed'.getD j false) tm tmF'=tmF':=by
      apply List.ext_getElem?;intro t;by_cases ht:t < tm.length
      ·rw [zg2 _ _ _ _ ht]
       have htF:t < tmF'.length:=by rw [q1,p1];exact ht
       have hgd:tmF'.getD t undef=tmF'[t]:=by simp [List.getD_eq_getElem?_getD,List.getElem?_eq_getElem htF]
       rw [List.getElem?_eq_getElem htF,←hgd]
       congr 1
       by_cases hdn:zke (fun j=>listed'.getD j false) t ops.toList 0=true
       ·rw [if_pos hdn]
       ·rw [if_neg hdn]
        refine (rk.rest t fun i o ho hdst=>hdn ?_).symm;rw [zdn];exact⟨i,o,ho,by rw [Nat.zero_add];exact hall i (by rw [←hsz];exact (List.getElem?_eq_some_iff.1 ho).1),hdst⟩
      ·rw [List.getElem?_eq_none (by rw [zcq];exact Nat.le_of_not_lt ht),List.getElem?_eq_none (by rw [q1,p1];exact Nat.le_of_not_lt ht)]
     refine⟨a',w',μ',?_,⟨by have:=inv.tm;rw [hcurF] at this;exact this,inv.ds⟩,by have:=inv.r;rw [hcF,←zse] at this;exact this,by have:=inv.post;rw [hcF,←zse] at this;exact this⟩;refine .head stepR_region_draw (Steps.trans (m₁:=lone (b.atR a' (.inRegion ops [] :: k)) cs w') ?_ (.one stepR_region_end));simp only [Region.schedule,hm,Bool.true_or,if_true,Region.linearise];exact s
end Go.Proofs.YtpbmmoneeoijaaaGreatDoor.Ev
namespace Go.Proofs.YtpbmmoneeoijaaaGreatDoor.Ev
open Go
variable {P:Program} {w0:Frm} {w:World} {μ μ':Mu} {H H':AH} {tm tm2:List Value} {a:Act}
structure FS where
 tm:List Value
 ds:List Deferred
 todo:List Item
abbrev Out:=Option (Sum (FS×AH) (Option Code))
def go (fs:FS) (k:List Item) (H:AH):Out:=some (.inl (⟨fs.tm,fs.ds,k⟩,H))
def zq4 (fn:FuncId) (tm:List Value) (ps:Array Tmp) (as body:Code) (d:Nat):Loop:={ state:=.ready,pending:=none,fn,tmps:=⟨tm⟩,params:=ps,assign:=as,body,defers:=d }
def zg0 (ro:Option Nat) (fn:FuncId) (fs:FS) (ps:Array Tmp) (as body:Code) (H:AH):Option (Nat×List Deferred×AH):=match ro with
 |none=>bif zjr H.next && zjr (H.next+1) then natK H.next fun d=>natK (H.next+1) fun l=>natK (H.next+2) fun n=>BT.putK lv H.t d (some (.deferred (some []))) fun t=>BT.putK lv t l (some (.loop (zq4 fn fs.tm ps as body d))) fun t=>
   some (l,{ target:=.collected d,args:=#[] } :: fs.ds,⟨n,t⟩) else none
 |some l0=>match H.get l0 with
  |some (.loop L)=>bif zjr H.next then natK H.next fun l=>natK (H.next+1) fun n=>BT.putK lv H.t l (some (.loop (zq4 fn fs.tm ps as body L.defers))) fun t=>some (l,fs.ds,⟨n,t⟩) else none
  |_=>none
def zr9:LoopState→Bool
 | .busy=>false
 |_=>true
def zjc (P:Program) (rc:Rec) (ro:Option Nat) (fn:FuncId) (fs:FS) (g:Operand) (ps:Array Tmp) (as body:Code) (k:List Item) (H:AH):Out:=match zg0 ro fn fs ps as body H with
 |none=>none
 |some (l,ds,H2)=>match aev fs.tm g with
  |some (.func (.func f) first captured)=>bif zej P f then match rc (.enter f ⟨first.toList ++ [.func (.yield l) #[] #[]] ++ captured.toList⟩) H2 with
   |some (_,H3)=>match H3.get l with
    |some (.loop L)=>bif zr9 L.state then AH.putK H3 l (some (.loop { L with state:=.exhausted })) fun H4=>some (.inl (⟨fs.tm,ds,(L.pending.map Item.code).toList ++ k⟩,H4)) else none
    |_=>none
   |none=>none
   else none
  |_=>none
def zdm (P:Program) (rc:Rec) (ro:Option Nat) (fn:FuncId) (fs:FS) (H:AH):Out:=match fs.todo with
 | []=>some (.inr none)
 | .code c :: k=>match c with
  | .ret=>some (.inr (some .ret))
  | .skip=>go fs k H
  | .label _=>go fs k H
  | .seq x y=>go fs (.code x :: .code y :: k) H
  | .cond c x y=>match aev fs.tm c with
   |some (.bool true)=>go fs (.code x :: k) H
   |some (.bool false)=>go fs (.code y :: k) H
   |_=>none
  | .block id x=>go fs (.code x :: .inBlock id :: k) H
  | .loop x=>go fs (.code x :: .inLoop x :: k) H
  | .scope x=>go fs (.code x :: .inScope x :: k) H
  | .exit id=>match exitTo id k with
   |some k'=>go fs k' H
   |none=>some (.inr (some (.exit id)))
  | .goto l=>match gotoIn l k with
   |some k'=>go fs k' H
   |none=>some (.inr (some (.goto l)))
  | .rangeFunc g ps as body=>zjc P rc ro fn fs g ps as body k H
  | .region _ ops draw=>bif draw then match zq7 P rc ops.toList fs.tm H with
    |some (tm',H')=>some (.inl (⟨tm',fs.ds,k⟩,H'))
    |none=>none
   else match ziq P rc ro.isSome ops.toList ops.toList fs.tm fs.ds H with
    |some (tm',ds',H')=>some (.inl (⟨tm',ds',k⟩,H'))
    |none=>none
  | .refuse _=>none
 | .inBlock _ :: k=>go fs k H
 | .inScope _ :: k=>go fs k H
 | .inLoop x :: k=>go fs (.code x :: .inLoop x :: k) H
 | .beginRound :: k=>match ro with
  |some l=>match H.get l with
   |some (.loop L)=>match L.state with
    | .ready=>AH.putK H l (some (.loop { L with state:=.busy })) fun H'=>go fs k H'
    |_=>none
   |_=>none
  |none=>none
 |_=>none
def BR (μ:Mu) (ro:Option Nat) (b:Frame):Prop:=match ro with
 |none=>b.roundOf=none
 |some n=>∃ p,μ.pos n=some p∧b.roundOf=some p.block
theorem BR.ext (h:μ.Le μ') {ro:Option Nat} {b:Frame} (hb:BR μ ro b):BR μ' ro b:=by
 cases ro with
 |none=>exact hb
 |some n=>obtain⟨p,h1,h2⟩:=hb;exact⟨p,h.pos _ _ h1,h2⟩
theorem BR.some {ro:Option Nat} {b:Frame} (hb:BR μ ro b):b.roundOf.isSome=ro.isSome:=by
 cases ro with
 |none=>have:b.roundOf=none:=hb;rw [this]
 |some n=>obtain⟨p,_,h2⟩:=hb;rw [h2];rfl
theorem zou (hr:R w0 μ H w) {n:Nat} {L:Loop} {p:Pos} (hg:H.get n=some (.loop L)) (hp:μ.pos n=some p) {st:LoopState} {pe:Option Code}:
  ∃ L',w.heap[p.block]? =some (.loop L')∧L'.state=L.state∧L'.pending=L.pending∧R w0 μ (H.put n (some (.loop { L with state:=st,pending:=pe }))) (w.putObj p.block (.loop { L' with state:=st,pending:=pe }))∧Post μ H μ (H.put n (some (.loop { L with state:=st,pending:=pe }))):=by
 obtain⟨r,hb,L',h1,h2,h3,h4,h5,h6,h7,h8,h9⟩:=hr.blk _ _ _ hg hp;subst h1;have hlt:p.block < w.heap.size:=(Array.getElem?_eq_some_iff.1 hb).1;obtain⟨g1,g2⟩:=hr.turn (o':=.loop { L with state:=st,pending:=pe }) hg hp (w':=w.putObj p.block (.loop { L' with state:=st,pending:=pe })) (World.putObj_heap_same hlt) (fun b hb2=>World.putObj_heap_other hb2) (by simp) ⟨rfl,rfl,rfl⟩
  ⟨_,rfl,rfl,rfl,h4,h5,h6,h7,h8,h9⟩
 exact⟨L',hb,h2,h3,g1,g2⟩
theorem zo8 (hr:R w0 μ H w) {ro:Option Nat} {fn:FuncId} {fs:FS} {ps:Array Tmp} {as body:Code} {l:Nat} {ds:List Deferred} (h:zg0 ro fn fs ps as body H=some (l,ds,H')) (ha:RA μ fs.tm fs.ds a) {b:Frame} (hb:BR μ ro b):
  ∃ l' mark w' μ',(Instr.enterLoop fn a.tmps ps as body b.roundOf).run P w=.ok (l',mark) w'∧R w0 μ' H' w'∧Post μ H μ' H'∧(∃ p,μ'.pos l=some p∧p.block=l')∧RA μ' fs.tm ds { a with defers:=mark ++ a.defers }:=by
 unfold zg0 at h
 cases ro with
 |none=>
  simp only at h;have hb:b.roundOf=none:=hb
  cases hs:(zjr H.next && zjr (H.next+1)) with
  |false=>rw [hs] at h;cases h
  |true=>
   rw [hs] at h;simp only [cond_true,zco,BT.putK_eq,Option.some.injEq,Prod.mk.injEq] at h;obtain⟨rfl,rfl,rfl⟩:=h;simp only [Bool.and_eq_true] at hs;have hn:=zh4 hs.1;have hn2:=zh4 hs.2;have h1:=hr.new hn (o:=.deferred (some [])) (p:=⟨w.heap.size,0,0⟩) rfl (r:=.deferred (some [])) ⟨rfl,.inl rfl⟩;have p1:=hr.new_post hn (o:=.deferred (some [])) (p:=⟨w.heap.size,0,0⟩);have hnx:(H.new (.deferred (some []))).next=H.next+1:=rfl;have p2:=h1.new_post (by rw [hnx];exact hn2) (o:=.loop (zq4 fn fs.tm ps as body H.next)) (p:=⟨w.heap.size+1,0,0⟩);have hle:=p1.le.trans p2.le;have hd:((μ.add H.next ⟨w.heap.size,0,0⟩).add (H.next+1) ⟨w.heap.size+1,0,0⟩).pos H.next=some ⟨w.heap.size,0,0⟩:=p2.le.pos _ _ Mu.add_pos;have hrb:RB ((μ.add H.next ⟨w.heap.size,0,0⟩).add (H.next+1) ⟨w.heap.size+1,0,0⟩) (.loop (zq4 fn fs.tm ps as body H.next)) ⟨w.heap.size+1,0,0⟩ (.loop { state:=.ready,pending:=none,fn,tmps:=a.tmps,params:=ps,assign:=as,body,defers:=w.heap.size }):=
    ⟨_,rfl,rfl,rfl,rfl,RVs.ext hle ha.tm,rfl,rfl,rfl,_,hd,rfl⟩
   have h2:=h1.new (by rw [hnx];exact hn2) (p:=⟨w.heap.size+1,0,0⟩) (by show w.heap.size+1=_;rw [World.size_alloc]) hrb;rw [hb];refine⟨_,_,_,_,run_enterLoop_outer fn a.tmps ps as body,h2,p1.trans p2,⟨_,Mu.add_pos,rfl⟩,⟨RVs.ext hle ha.tm,?_⟩⟩;exact⟨.inl ⟨_,_,rfl,rfl,hd⟩,ha.ds.mono fun _ _=>RD.ext hle⟩
 |some l0=>
  simp only at h;obtain⟨p,hp,hro⟩:=hb
  cases hg:H.get l0 with
  |none=>rw [hg] at h;cases h
  |some o=>
   rw [hg] at h
   cases o<;>(try simp only at h)<;>try (cases h;done)
   rename_i L
   cases hs:zjr H.next with
   |false=>rw [hs] at h;cases h
   |true=>
    rw [hs] at h;simp only [cond_true,zco,BT.putK_eq,Option.some.injEq,Prod.mk.injEq] at h;obtain⟨rfl,rfl,rfl⟩:=h;have hn:=zh4 hs;obtain⟨r,hbk,L',e1,e2,e3,e4,e5,e6,e7,e8,q,e9,e10⟩:=hr.blk _ _ _ hg hp;subst e1;have p2:=hr.new_post hn (o:=.loop (zq4 fn fs.tm ps as body L.defers)) (p:=⟨w.heap.size,0,0⟩);have hrb:RB (μ.add H.next ⟨w.heap.size,0,0⟩) (.loop (zq4 fn fs.tm ps as body L.defers)) ⟨w.heap.size,0,0⟩ (.loop { state:=.ready,pending:=none,fn,tmps:=a.tmps,params:=ps,assign:=as,body,defers:=L'.defers }):=
     ⟨_,rfl,rfl,rfl,rfl,RVs.ext p2.le ha.tm,rfl,rfl,rfl,q,p2.le.pos _ _ e9,e10⟩
    have h2:=hr.new hn (p:=⟨w.heap.size,0,0⟩) rfl hrb;rw [hro];refine⟨_,_,_,_,run_enterLoop_inner hbk fn a.tmps ps as body,h2,p2,⟨_,Mu.add_pos,rfl⟩,⟨RVs.ext p2.le ha.tm,?_⟩⟩;exact ha.ds.mono fun _ _=>RD.ext p2.le
theorem zA1 {rc:Rec} (hrc:zgm P w0 rc) (hm:P.follows .mixedOrders=true) {ro:Option Nat} {fn:FuncId} {fs fs':FS} (h:zdm P rc ro fn fs H=some (.inl (fs',H'))) (ha:RA μ fs.tm fs.ds a) (hr:R w0 μ H w) {b:Frame} (hb:BR μ ro b) (hfn:b.fn=fn) (cs:List Frame):
  ∃ a' w' μ',Steps P (lone (b.atR a fs.todo) cs w) (lone (b.atR a' fs'.todo) cs w')∧RA μ' fs'.tm fs'.ds a'∧R w0 μ' H' w'∧Post μ H μ' H':=by
 have plain:∀ (k:List Item),go fs k H=some (.inl (fs',H'))→step P (lone (b.atR a fs.todo) cs w)=.next (lone (b.atR a k) cs w)→∃ a' w' μ',Steps P (lone (b.atR a fs.todo) cs w) (lone (b.atR a' fs'.todo) cs w')∧RA μ' fs'.tm fs'.ds a'∧R w0 μ' H' w'∧Post μ H μ' H':=fun k hg hs=>by
  simp only [go,Option.some.injEq,Sum.inl.injEq,Prod.mk.injEq] at hg;obtain⟨rfl,rfl⟩:=hg;exact⟨a,w,μ,.one hs,ha,hr,.refl _ _⟩
 unfold zdm at h
 cases hto:fs.todo with
 |nil=>rw [hto] at h;cases h
 |cons x k=>
  rw [hto] at h plain
  cases x<;>simp only at h<;>try (cases h;done)
  ·rename_i c
   cases c<;>simp only at h<;>try (cases h;done)
   ·exact plain _ h stepR_skip
   ·
    rename_i id ops draw
    cases draw with
    |true=>
     simp only [cond_true] at h
     cases hd:zq7 P rc ops.toList fs.tm H with
     |none=>rw [hd] at h;cases h
     |some y=>
      obtain⟨tm',H1⟩:=y;rw [hd] at h;simp only [Option.some.injEq,Sum.inl.injEq,Prod.mk.injEq] at h;obtain⟨rfl,rfl⟩:=h;exact zCd hrc hm hd ha hr b k cs id
    |false=>
     simp only [cond_false] at h
     cases hd:ziq P rc ro.isSome ops.toList ops.toList fs.tm fs.ds H with
     |none=>rw [hd] at h;cases h
     |some y=>
      obtain⟨tm',ds',H1⟩:=y;rw [hd] at h;simp only [Option.some.injEq,Sum.inl.injEq,Prod.mk.injEq] at h;obtain⟨rfl,rfl⟩:=h;exact ztu hrc b hb.some k cs id hd ha hr
   ·exact plain _ h stepR_seq
   ·rename_i c x y
    cases hc:aev fs.tm c with
    |none=>rw [hc] at h;cases h
    |some v=>
     rw [hc] at h
     cases v<;>(try simp only at h)<;>try (cases h;done)
     rename_i t;have hv:=zg7.1 (zaf ha.tm hc)
     cases t with
     |true=>exact plain _ h (stepR_cond (t:=true) hv)
     |false=>exact plain _ h (stepR_cond (t:=false) hv)
   ·exact plain _ h stepR_block
   ·exact plain _ h stepR_loop
   ·
    rename_i g ps as body;unfold zjc at h
    cases he:zg0 ro fn fs ps as body H with
    |none=>rw [he] at h;cases h
    |some y=>
     obtain⟨l,ds,H2⟩:=y;rw [he] at h;simp only at h;obtain⟨l',mark,w1,μ1,g1,g2,g3,⟨p,g4,g5⟩,g6⟩:=zo8 (P:=P) hr he ha hb;rw [←hfn] at g1
     cases hf:aev fs.tm g with
     |none=>rw [hf] at h;cases h
     |some v=>
      rw [hf] at h
      cases v<;>(try simp only at h)<;>try (cases h;done)
      rename_i fv first captured
      cases fv<;>(try simp only at h)<;>try (cases h;done)
      rename_i f
      cases hbd:zej P f with
      |false=>rw [hbd] at h;cases h
      |true=>
       rw [hbd] at h;simp only [cond_true] at h
       cases hcall:rc (.enter f ⟨first.toList ++ [.func (.yield l) #[] #[]] ++ captured.toList⟩) H2 with
       |none=>rw [hcall] at h;cases h
       |some y=>
        obtain⟨v2,H3⟩:=y;rw [hcall] at h;simp only at h
        cases hl:H3.get l with
        |none=>rw [hl] at h;cases h
        |some o=>
         rw [hl] at h
         cases o<;>(try simp only at h)<;>try (cases h;done)
         rename_i L
         cases hnb:zr9 L.state with
         |false=>rw [hnb] at h;cases h
         |true=>
          rw [hnb] at h;simp only [cond_true,AH.putK_eq,Option.some.injEq,Sum.inl.injEq,Prod.mk.injEq] at h;obtain⟨rfl,rfl⟩:=h;obtain⟨f',c',e1,e2,e3⟩:=zh0.1 (zaf ha.tm hf);have hres:(resolve a.eval (rangeCall g l') 0).run P w1=.ok { target:=.fn (.func f) c',args:=f' ++ #[.func (.yield l') #[] #[]] } w1:=by
           unfold resolve rangeCall;simp only [e1,Deferred.ofValue];have hmap:Array.map a.eval #[Operand.const (Value.func (Fn.yield l') #[] #[])]=#[Value.func (.yield l') #[] #[]]:=by simp [Act.eval]
           rw [hmap];rfl
          have hinv:(invoke (.fn (.func f) c') (f' ++ #[.func (.yield l') #[] #[]])).run P w1=.ok (.enter f (f' ++ #[.func (.yield l') #[] #[]] ++ c')) w1:=by
           simp only [invoke];exact zhi hbd _ _
          have hst:=stepR_rangeFunc (P:=P) (b:=b) (a:=a) (k:=k) (cs:=cs) (w:=w) g1 hres hinv;have hargs:All2 (RV μ1) (first.toList ++ [Value.func (.yield l) #[] #[]] ++ captured.toList) (f' ++ #[Value.func (.yield l') #[] #[]] ++ c').toList:=by
           simp only [Array.toList_append];have hy:All2 (RV μ1) [Value.func (.yield l) #[] #[]] [Value.func (.yield l') #[] #[]]:=⟨zna.2 ⟨rfl,rfl,p,g4,by rw [g5]⟩,trivial⟩;exact ((RVs.ext g3.le e2).append hy).append (RVs.ext g3.le e3)
          obtain⟨fr0,v',w3,μ3,k1,k2,k3,k4,k5⟩:=hrc _ _ _ _ hcall μ1 w1 (.enter f (f' ++ #[.func (.yield l') #[] #[]] ++ c')) ⟨_,rfl,hargs⟩ g2 (b.atR { a with defers:=mark ++ a.defers } (.inRangeFunc l' :: k)) cs;have k1:fr0=Frame.enter P f (f' ++ #[.func (.yield l') #[] #[]] ++ c') .normal:=(Option.some.inj k1).symm;subst k1;rw [finish_atR_inRangeFunc] at k2;obtain⟨L',m1,m2,m3,m4,m5⟩:=zou k3 hl (k4.le.pos _ _ g4) (st:=.exhausted) (pe:=L.pending);have hend:=run_endLoop (P:=P) m1 (by rw [m2];intro e;rw [e] at hnb;cases hnb);rw [m3] at hend;rw [g5] at hend m4;refine⟨{ a with defers:=mark ++ a.defers },_,μ3,(Steps.head hst k2).trans (.one (stepR_endRangeFunc hend)),g6.ext k4.le,m4,(g3.trans k4).trans m5⟩
   ·rename_i id
    cases hx:exitTo id k with
    |none=>rw [hx] at h;cases h
    |some k'=>rw [hx] at h;exact plain _ h (stepR_exit hx)
   ·exact plain _ h (step_lone_go (by simp [stepG,stepG.exec,Frame.atR]))
   ·exact plain _ h stepR_label
   ·rename_i l
    cases hx:gotoIn l k with
    |none=>rw [hx] at h;cases h
    |some k'=>rw [hx] at h;exact plain _ h (stepR_goto hx)
  ·exact plain _ h stepR_inBlock
  ·exact plain _ h stepR_inLoop
  ·exact plain _ h (step_lone_go (by simp [stepG,stepG.exec,Frame.atR]))
  ·cases ro with
   |none=>cases h
   |some l=>
    simp only at h
    cases hl:H.get l with
    |none=>rw [hl] at h;cases h
    |some o=>
     rw [hl] at h
     cases o<;>(try simp only at h)<;>try (cases h;done)
     rename_i L
     cases hst:L.state<;>rw [hst] at h<;>(try simp only at h)<;>try (cases h;done)
     simp only [AH.putK_eq,go,Option.some.injEq,Sum.inl.injEq,Prod.mk.injEq] at h;obtain⟨rfl,rfl⟩:=h;obtain⟨p,hp,hro⟩:=hb;obtain⟨L',m1,m2,m3,m4,m5⟩:=zou hr hl hp (st:=.busy) (pe:=L.pending);have hbr:=run_beginRound (P:=P) m1 (by rw [m2,hst]);have hwd:({ L' with state:=.busy }:Loop)= { L' with state:=.busy,pending:=L.pending }:=by cases L';simp only at m3;subst m3;rfl
     rw [hwd] at hbr;exact⟨a,_,μ,.one (stepR_beginRound hro hbr),ha,m4,m5⟩
end Go.Proofs.YtpbmmoneeoijaaaGreatDoor.Ev
