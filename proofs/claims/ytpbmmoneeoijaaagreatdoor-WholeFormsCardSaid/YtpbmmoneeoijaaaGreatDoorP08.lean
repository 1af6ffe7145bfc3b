/-
  A part of the proof: EvCongr EvStep EvOrder EvMask EvDraw.
-/
import Derived.Test.YtpbmmoneeoijaaaGreatDoorP07
namespace Go.Proofs.YtpbmmoneeoijaaaGreatDoor.Ev
open Go
variable {P:Program} {w0:Frm} {w:World} {μ μ':Mu} {H H':AH} {tm tm2:List Value} {a:Act} {e e2:Acc}
theorem zdf:∀ (xs:List Operand),(∀ x∈xs,e x=e2 x)→xs.mapM e=xs.mapM e2
 | [],_=>rfl
 |x :: xs,h=>by
  simp only [List.mapM_cons];rw [h x (by simp),zdf xs fun y hy=>h y (by simp [hy])]
theorem zgy:∀ (l:List (Nat×Operand)),(∀ p∈l,e p.2=e2 p.2)→zd3 e l=zd3 e2 l
 | [],_=>rfl
 |(i,x) :: r,h=>by
  unfold zd3;rw [h (i,x) (by simp),zgy r fun p hp=>h p (by simp [hp])]
theorem zq5 (x:Option Operand) (d:Nat) (h:∀ y,x=some y→e y=e2 y):evLo e x d=evLo e2 x d:=by
 cases x with
 |none=>rfl
 |some y=>unfold evLo;simp only;rw [h y rfl]
theorem zhq {o:Oper} (h:∀ x∈o.op.operands.toList,e x=e2 x):zbi P o e H=zbi P o e2 H:=by
 unfold zbi
 cases ho:o.op<;>rw [ho] at h<;>simp only
 case move x=>unfold ziu;rw [h x (by simp [Op.operands])]
 case assign x=>unfold ziu;rw [h x (by simp [Op.operands])]
 case pick c x y=>unfold zq2;rw [h c (by simp [Op.operands]),h x (by simp [Op.operands]),h y (by simp [Op.operands])]
 case box e x=>unfold zD2;rw [h x (by simp [Op.operands])]
 case build t parts=>unfold zlb;rw [zgy parts.toList fun p hp=>h p.2 (by simp only [Op.operands,List.mem_map];exact⟨p,hp,rfl⟩)]
 case buildSlice t len parts=>unfold zed;rw [zgy parts.toList fun p hp=>h p.2 (by simp only [Op.operands,List.mem_map];exact⟨p,hp,rfl⟩)]
 case load t x=>rw [h x (by simp [Op.operands])]
 case store t x y=>rw [h x (by simp [Op.operands]),h y (by simp [Op.operands])]
 case nilCheck x=>unfold zey;rw [h x (by simp [Op.operands])]
 case binOp op t x y ty=>unfold zj9;rw [h x (by simp [Op.operands]),h y (by simp [Op.operands])]
 case unOp op t x=>unfold zck;rw [zdf [x] fun y hy=>h y (by simpa [Op.operands] using hy)]
 case convert s d x=>
  have e:=zdf (e:=e) (e2:=e2) [x] fun y hy=>h y (by simpa [Op.operands] using hy);unfold zhr zck;rw [e,h x (by simp [Op.operands])]
 case makeFunc fn f c=>
  unfold zgg;rw [zdf f.toList fun y hy=>h y (by simp [Op.operands] at hy ⊢;exact .inl hy),zdf c.toList fun y hy=>h y (by simp [Op.operands] at hy ⊢;exact .inr hy)]
 case makeSlice t l c=>unfold zgz;rw [h l (by simp [Op.operands]),h c (by simp [Op.operands])]
 case slice t x lo hi mx=>
  unfold zk9;have e1:∀ d,evLo e lo d=evLo e2 lo d:=fun d=>zq5 lo d fun y hy=>h y (by subst hy;simp [Op.operands]);have e2:∀ d,evLo e hi d=evLo e2 hi d:=fun d=>zq5 hi d fun y hy=>h y (by subst hy;simp [Op.operands]);simp only [h x (by simp [Op.operands]),e1,e2]
 case fieldAddr s x f=>unfold zd5;rw [h x (by simp [Op.operands])]
 case field t x f=>unfold zla;rw [h x (by simp [Op.operands])]
 case indexAddr t x i=>unfold zd4;rw [h x (by simp [Op.operands]),h i (by simp [Op.operands])]
 case index t x i=>unfold zck;rw [zdf [x,i] fun y hy=>h y (by simpa [Op.operands] using hy)]
 case extract x i=>unfold zgh;rw [h x (by simp [Op.operands])]
 case call c=>
  have ha:zfa e c=zfa e2 c:=zdf _ fun y hy=>h y (by simp [Op.operands,Call.operands];right;simpa using hy)
  cases hc:c.callee with
  |value f=>simp only;unfold ze8;rw [ha,h f (by simp [Op.operands,Call.operands,hc])]
  |invoke _ _=>rfl
  |builtin b=>
   simp only;have hm:c.args.toList.mapM e=c.args.toList.mapM e2:=ha;unfold zgi zck;rw [ha,hm]
 case defer c=>
  have ha:zfa e c=zfa e2 c:=zdf _ fun y hy=>h y (by simp [Op.operands,Call.operands];right;simpa using hy)
  cases hc:c.callee with
  |value f=>simp only;unfold zo7;rw [ha,h f (by simp [Op.operands,Call.operands,hc])]
  |invoke _ _=>rfl
  |builtin b=>rfl
def zay (f:AH→Option (Next×AH)):Prop:=∃ r:Option Value,∀ H,f H=r.map fun v=>(Next.value v,H)
theorem zay.none:zay fun _=>none:=⟨.none,fun _=>rfl⟩
theorem zay.ret (v:Value):zay (ret v):=⟨some v,fun H=>by unfold Ev.ret;rw [zdw];rfl⟩
theorem zay.val (v:Value):zay fun H=>some (.value v,H):=⟨some v,fun _=>rfl⟩
theorem zay.bif {b:Bool} {f g:AH→Option (Next×AH)} (hf:zay f) (hg:zay g):zay fun H=>bif b then f H else g H:=by
 cases b
 ·exact hg
 ·exact hf
theorem zay.bind {x:Option Value} {f:Value→AH→Option (Next×AH)} (hf:∀ v,zay (f v)):zay fun H=>x.bind fun v=>f v H:=by
 cases x with
 |none=>exact .none
 |some v=>exact hf v
theorem zay.closed (xs:List Operand) (s:List Value→Sem Value):zay (zck P xs s (aev tm)):=by
 unfold zck
 cases xs.mapM (aev tm) with
 |none=>exact .none
 |some vs=>
  refine .bif ?_ .none
  cases zb1 P (s vs) with
  |none=>exact .none
  |some r=>exact .bif (.ret r) .none
theorem zsl {o:Oper} (hk:zfs o.op=0):zay (zbi P o (aev tm)):=by
 unfold zbi
 cases ho:o.op<;>rw [ho] at hk<;>simp only<;>try (cases hk;done)
 all_goals try (exact zay.none;done)
 case move x=>exact .bind fun v=>.ret v
 case assign x=>exact .bind fun v=>.ret v
 case pick c x y=>
  unfold zq2
  cases aev tm c with
  |none=>exact .none
  |some v=>
   cases v<;>try (exact zay.none;done)
   rename_i b;cases b
   ·exact .bind fun v=>.ret v
   ·exact .bind fun v=>.ret v
 case build t parts=>
  unfold zlb;refine .bif ?_ .none
  cases zd3 (aev tm) parts.toList with
  |none=>exact .none
  |some ps=>
   simp only
   cases P.built t ps with
   |none=>exact .none
   |some cells=>simp only [zcd];exact .val _
 case nilCheck x=>
  unfold zey
  cases aev tm x with
  |none=>exact .none
  |some v=>
   cases v<;>try (exact zay.none;done)
   ·rename_i p;cases p
    ·exact .none
    ·exact .ret _
   ·rename_i fn _ _;cases fn<;>first|exact zay.none|exact zay.ret _
 case binOp op t x y ty=>
  unfold zj9
  cases aev tm x with
  |none=>exact .none
  |some u=>
   cases aev tm y with
   |none=>cases u<;>first|exact zay.none|(rename_i p;cases p<;>exact zay.none)
   |some v=>
    have clo:zay fun H=>bif closedB 3 u && closedB 3 v then match zb1 P (do eqGuard op t x y u v;binOp op t u v) with
      |some r=>bif closedB 3 r then Ev.ret r H else none
      |none=>none
     else none:=by
     refine .bif ?_ .none
     cases zb1 P (do eqGuard op t x y u v;binOp op t u v) with
     |none=>exact .none
     |some r=>exact .bif (.ret r) .none
    cases u<;>try (exact clo;done)
    ·cases v<;>try (exact clo;done)
     rename_i s r
     cases op<;>simp only [zxi,zkh]<;>first|exact zay.none|exact zay.val _|exact .bif (.val _) .none
    ·rename_i p
     cases p with
     |none=>exact clo
     |some p=>
      cases v<;>try (exact clo;done)
      rename_i q
      cases q with
      |some q=>exact clo
      |none=>
       simp only
       cases P.underlying t with
       |none=>exact .none
       |some d=>cases d<;>cases op<;>first|exact zay.none|exact zay.val _
 case unOp op t x=>exact .closed _ _
 case makeFunc fn f c=>
  unfold zgg
  cases fn<;>try (exact zay.none;done)
  simp only
  cases f.toList.mapM (aev tm) with
  |none=>exact .none
  |some fs=>
   cases c.toList.mapM (aev tm) with
   |none=>exact .none
   |some cs=>simp only [zcd];exact .val _
 case fieldAddr s x f=>
  unfold zd5
  cases aev tm x with
  |none=>exact .none
  |some v=>
   cases v<;>try (exact zay.none;done)
   rename_i p
   cases p with
   |none=>exact .none
   |some q=>
    cases P.underlying s with
    |none=>exact .none
    |some d=>
     cases d<;>try (exact zay.none;done)
     rename_i fields;simp only
     cases fields[f]? with
     |none=>exact .none
     |some ff=>
      simp only
      cases P.info? ff.type with
      |none=>exact .none
      |some i=>
       cases q.spot with
       |none=>exact .bif (.ret _) .none
       |some _=>exact .none
 case field t x f=>
  unfold zla
  cases aev tm x with
  |none=>exact .none
  |some v=>
   cases v<;>try (exact zay.none;done)
   rename_i cs
   cases P.underlying t with
   |none=>exact .none
   |some d=>
    cases d<;>try (exact zay.none;done)
    rename_i fields;simp only
    cases fields[f]? with
    |none=>exact .none
    |some ff=>
     simp only [zdw];refine .bind fun v=>?_
     cases v<;>simp only [zcd]<;>exact .val _
 case indexAddr t x i=>
  unfold zd4
  cases aev tm x with
  |none=>exact .none
  |some v=>
   cases aev tm i with
   |none=>cases v<;>first|exact zay.none|(rename_i p;cases p<;>exact zay.none)|(rename_i p _ _;cases p<;>exact zay.none)
   |some iv=>
    cases v<;>try (exact zay.none;done)
    ·rename_i q
     cases q with
     |none=>exact .none
     |some q=>
      cases iv<;>try (exact zay.none;done)
      rename_i k n
      cases P.underlying t with
      |none=>exact .none
      |some d=>
       cases d<;>try (exact zay.none;done)
       rename_i len e
       cases n with
       |negSucc _=>exact .none
       |ofNat m=>
        simp only
        cases P.info? e with
        |none=>exact .none
        |some ie=>
         cases q.spot with
         |none=>exact .bif (.ret _) .none
         |some _=>exact .none
    ·rename_i q len es
     cases q with
     |none=>exact .none
     |some q=>
      cases iv<;>try (exact zay.none;done)
      rename_i k n
      cases P.underlying t with
      |none=>exact .none
      |some d=>
       cases d<;>try (exact zay.none;done)
       rename_i e
       cases n with
       |negSucc _=>exact .none
       |ofNat m=>
        simp only
        cases P.info? e with
        |none=>exact .none
        |some ie=>
         cases q.spot with
         |none=>exact .bif (.ret _) .none
         |some _=>exact .none
 case index t x i=>exact .closed _ _
 case extract x i=>
  unfold zgh
  cases aev tm x with
  |none=>exact .none
  |some v=>
   cases v<;>try (exact zay.none;done)
   exact .bind fun v=>.ret v
 case call c=>
  simp only [zfs] at hk
  cases hc:c.callee<;>rw [hc] at hk<;>try (cases hk;done)
  rename_i b
  cases b<;>try (cases hk;done)
  ·simp only
   unfold zgi;simp only
   cases zfa (aev tm) c with
   |none=>cases c.argTypes[0]?<;>exact .none
   |some vs=>
    cases c.argTypes[0]? with
    |none=>cases vs with|nil=>exact .none|cons _ v2=>cases v2<;>exact .none
    |some t1=>
     cases vs with
     |nil=>exact .none
     |cons v v2=>cases v2 with
      |cons _ _=>exact .none
      |nil=>
       simp only
       cases P.underlying t1 with
       |none=>exact .none
       |some d=>
        cases d<;>try (exact zay.none;done)
        ·cases v<;>try (exact zay.none;done)
         simp only [zco];exact .val _
        ·cases v<;>first|exact zay.none|exact zay.val _
  ·exact .closed _ _
  ·exact .closed _ _
end Go.Proofs.YtpbmmoneeoijaaaGreatDoor.Ev
namespace Go.Proofs.YtpbmmoneeoijaaaGreatDoor.Ev
open Go
variable {P:Program} {w0:Frm} {w:World} {μ μ':Mu} {H H':AH} {tm tm2:List Value} {a:Act}
abbrev Rec:=Next→AH→Option (Value×AH)
def zww (P:Program):Next→Option Frame
 | .enter f args=>some (Frame.enter P f args .normal)
 | .round l f tmps as body=>some (Frame.round l f tmps as body .normal)
 |_=>none
def zgm (P:Program) (w0:Frm) (rc:Rec):Prop:=
 ∀ (nx:Next) (H:AH) (v:Value) (H':AH),rc nx H=some (v,H')→∀ (μ:Mu) (w:World) (nx':Next),RN μ nx nx'→R w0 μ H w→∀ (c:Frame) (cs:List Frame),
  ∃ fr0 v' w' μ',zww P nx'=some fr0∧Steps P (lone fr0 (c :: cs) w) (lone (c.finish v') cs w')∧R w0 μ' H' w'∧Post μ H μ' H'∧RV μ' v v'
def zfh (P:Program) (rc:Rec) (o:Oper) (tm:List Value) (H:AH):Option (Value×AH):=match zbi P o (aev tm) H with
 |some (.value v,H')=>some (v,H')
 |some (.skip,H')=>some (undef,H')
 |some (.enter g args,H')=>rc (.enter g args) H'
 |some (.round l f tmps as body,H')=>rc (.round l f tmps as body) H'
 |_=>none
theorem zo1 {rc:Rec} {o:Oper} (h:∀ x∈o.op.operands.toList,aev tm x=aev tm2 x):zfh P rc o tm H=zfh P rc o tm2 H:=by
 unfold zfh;rw [zhq h]
theorem zDh {o:Oper} {v:Value} {rc:Rec} (h:zfh P rc o tm H=some (v,H')):∀ c,o.op≠.defer c:=by
 intro c hc;unfold zfh zbi at h;rw [hc] at h;simp only at h
 cases hcc:c.callee with
 |value f=>
  rw [hcc] at h;simp only [zo7] at h
  cases hf:aev tm f with
  |none=>rw [hf] at h;cases h
  |some v=>
   cases hg:zfa (aev tm) c with
   |none=>rw [hf,hg] at h;cases v<;>first|cases h|(rename_i fn _ _;cases fn<;>cases h)
   |some args=>rw [hf,hg] at h;cases v<;>first|cases h|(rename_i fn _ _;cases fn<;>cases h)
 |invoke _ _=>rw [hcc] at h;cases h
 |builtin _=>rw [hcc] at h;cases h
theorem All2.put {a:Act} (h:RT μ tm a) {d:Option Tmp} {v v':Value} (hv:RV μ v v'):RT μ (match d with|some t=>tm.set t v|none=>tm) (a.put d v'):=by
 cases d with
 |none=>exact h
 |some t=>
  unfold RT Act.put;simp only [Array.toList_setIfInBounds];exact All2.set h t hv
theorem RT.ext (h:μ.Le μ') (ht:RT μ tm a):RT μ' tm a:=RVs.ext h ht
theorem zyd {rc:Rec} (hrc:zgm P w0 rc) {o:Oper} {v:Value} (h:zfh P rc o tm H=some (v,H')) {ops:Array Oper} {i:Nat} {rest:List Nat} (ho:ops[i]? =some o) (hw:Region.wanted o (yielded ops a.tmps)=true)
  (ht:RT μ tm a) (hr:R w0 μ H w) (b:Frame) (k:List Item) (cs:List Frame):
  ∃ v' w' μ',Steps P (lone (b.atR a (.inRegion ops (i :: rest) :: k)) cs w) (lone (b.atR (a.put o.dst v') (.inRegion ops rest :: k)) cs w')∧R w0 μ' H' w'∧Post μ H μ' H'∧RV μ' v v':=by
 have hnd:=zDh h;have hg:=stepGR_op (P:=P) (b:=b) (k:=k) (cs:=cs) (w:=w) (rest:=rest) ho hw;rw [Oper.semAt_eq _ _ _ hnd] at hg;have hfin:∀ v,(b.atR a (.inRegion ops (i :: rest) :: k)).finish v=b.atR (a.put o.dst v) (.inRegion ops rest :: k):=by
  intro v;rw [Frame.finish_atR,ho];rfl
 unfold zfh at h
 cases he:zbi P o (aev tm) H with
 |none=>rw [he] at h;cases h
 |some r=>
  obtain⟨nx,H1⟩:=r;rw [he] at h;obtain⟨nx',w',μ1,hrun,hr1,hp1,hn⟩:=zq6 (w0:=w0) he μ w a ht hr;simp only at hrun;have call:∀ (fr0:Frame),stepG.apply P true (b.atR a (.inRegion ops (i :: rest) :: k)) cs none (execOp a.eval o) w=stepG.apply P true (b.atR a (.inRegion ops (i :: rest) :: k)) cs none (execOp a.eval o) w→
    step P (lone (b.atR a (.inRegion ops (i :: rest) :: k)) cs w)=.next (lone fr0 (b.atR a (.inRegion ops (i :: rest) :: k) :: cs) w')→
    (∀ c cs,∃ fr1 v' w2 μ',zww P nx'=some fr1∧Steps P (lone fr1 (c :: cs) w') (lone (c.finish v') cs w2)∧R w0 μ' H' w2∧Post μ1 H1 μ' H'∧RV μ' v v')→zww P nx'=some fr0→
    ∃ v' w' μ',Steps P (lone (b.atR a (.inRegion ops (i :: rest) :: k)) cs w) (lone (b.atR (a.put o.dst v') (.inRegion ops rest :: k)) cs w')∧R w0 μ' H' w'∧Post μ H μ' H'∧RV μ' v v':=fun fr0 _ hst hrec hen=>by
   obtain⟨fr1,v',w2,μ',e1,e2,e3,e4,e5⟩:=hrec (b.atR a (.inRegion ops (i :: rest) :: k)) cs;rw [hen] at e1;obtain rfl:=Option.some.inj e1;rw [hfin] at e2;exact⟨v',w2,μ',.head hst e2,e3,hp1.trans e4,e5⟩
  cases nx<;>simp only at h<;>try (cases h;done)
  ·
   rename_i u;simp only [Option.some.injEq,Prod.mk.injEq] at h;obtain⟨rfl,rfl⟩:=h;obtain⟨v',rfl,hv⟩:=hn;refine⟨v',w',μ1,.one (step_lone_go ?_),hr1,hp1,hv⟩;rw [hg,←hfin];simp [stepG.apply,hrun,Frame.atR]
  ·simp only [Option.some.injEq,Prod.mk.injEq] at h
   obtain⟨rfl,rfl⟩:=h;obtain rfl:=hn;refine⟨undef,w',μ1,.one (step_lone_go ?_),hr1,hp1,zii⟩;rw [hg,←hfin];simp [stepG.apply,hrun,Frame.atR]
  ·rename_i f args
   have hn':=hn;obtain⟨args',rfl,_⟩:=hn;refine call _ rfl ?_ (fun c cs=>hrc _ _ _ _ h μ1 w' _ hn' hr1 c cs) rfl;exact step_lone_go (by rw [hg];simp [stepG.apply,hrun,Frame.atR])
  ·rename_i l f tmps as body
   have hn':=hn;obtain⟨p,tmps',_,rfl,_⟩:=hn;refine call _ rfl ?_ (fun c cs=>hrc _ _ _ _ h μ1 w' _ hn' hr1 c cs) rfl;exact step_lone_go (by rw [hg];simp [stepG.apply,hrun,Frame.atR])
def zfl (l:List Oper) (tm:List Value) (g:Nat):Option Bool:=match (l[g]?).bind (·.dst) with
 |some d=>match tm[d]? with
  |some (.bool b)=>some b
  |_=>none
 |none=>none
def zb5 (l:List Oper) (tm:List Value) (o:Oper):Bool:=match o.guard with
 |none=>true
 |some (g,want)=>match zfl l tm g with
  |some b=>b == want
  |none=>false
theorem not_bool {v v':Value} (h:RV μ v v') (hb:∀ b,v≠.bool b):∀ b,v'≠.bool b:=by
 intro b e;subst e;obtain⟨d,h⟩:=h
 cases d with
 |zero=>exact h.elim
 |succ d=>
  cases v with
  |bool b=>exact hb b rfl
  |int k n=>cases h
  |float k b=>exact h.elim
  |complex k a b=>exact h.elim
  |string s=>cases h
  |pointer x=>cases x with
   |none=>cases h
   |some x=>obtain⟨_,h,_⟩:=h;cases h
  |slice x l c=>cases x with
   |none=>cases h.2
   |some x=>obtain⟨_,_,h,_⟩:=h;cases h
  |map x=>cases x with
   |none=>cases h
   |some x=>obtain⟨_,h⟩:=h;cases h
  |chan r=>exact h.elim
  |func fn f c=>cases fn with
   |yield l=>obtain⟨_,_,_,_,h⟩:=h;cases h
   |func g=>obtain⟨_,_,h,_⟩:=h;cases h
   |method n=>obtain⟨_,_,h,_⟩:=h;cases h
   |methodOf t n=>obtain⟨_,_,h,_⟩:=h;cases h
   |via t p g b=>obtain⟨_,_,h,_⟩:=h;cases h
  |nilFunc=>cases h
  |iface t v=>exact h.elim
  |nilIface=>cases h
  |agg cs=>obtain⟨_,h,_⟩:=h;cases h
  |tuple cs=>obtain⟨_,h,_⟩:=h;cases h
theorem zs6 {ops:Array Oper} (ht:RT μ tm a) (o:Oper):Region.wanted o (yielded ops a.tmps)=zb5 ops.toList tm o:=by
 unfold Region.wanted zb5
 cases hg:o.guard with
 |none=>rfl
 |some gw=>
  obtain⟨g,want⟩:=gw;simp only;have hy:yielded ops a.tmps g=zfl ops.toList tm g:=by
   unfold yielded zfl;have e:ops.toList[g]? =ops[g]?:=by simp
   rw [e]
   cases hd:(ops[g]?).bind (·.dst) with
   |none=>rfl
   |some d=>
    simp only [Option.bind_some]
    cases hv:tm[d]? with
    |none=>
     have:a.tmps[d]? =none:=by
      rw [←Array.getElem?_toList,List.getElem?_eq_none_iff,←All2.length ht,←List.getElem?_eq_none_iff];exact hv
     rw [this]
    |some v=>
     obtain⟨v',h1,h2⟩:=All2.get ht hv;have h1':a.tmps[d]? =some v':=by simpa using h1
     rw [h1']
     cases v with
     |bool b=>rw [zg7.1 h2]
     |_=>
      have:=not_bool h2 (by simp)
      cases v'<;>first|rfl|exact absurd rfl (this _)
  rw [hy]
  cases zfl ops.toList tm g with
  |none=>rfl
  |some b=>cases b<;>cases want<;>rfl
theorem ztk {ops:Array Oper} {i:Nat} {rest:List Nat} {o:Oper} (ho:ops[i]? =some o) (hw:Region.wanted o (yielded ops a.tmps)=false) (b:Frame) (k:List Item) (cs:List Frame):
  Steps P (lone (b.atR a (.inRegion ops (i :: rest) :: k)) cs w) (lone (b.atR (a.put o.dst undef) (.inRegion ops rest :: k)) cs w):=by
 have hs:=stepR_op_skip (P:=P) (b:=b) (a:=a) (k:=k) (cs:=cs) (w:=w) (ops:=ops) (i:=i) (rest:=rest) (by simp [ho,hw]);rw [ho] at hs;exact .one hs
end Go.Proofs.YtpbmmoneeoijaaaGreatDoor.Ev
namespace Go.Proofs.YtpbmmoneeoijaaaGreatDoor.Ev
open Go
variable {P:Program} {w0:Frm} {w:World} {μ μ':Mu} {H H':AH} {tm tm2:List Value} {a:Act}
def setLK {β:Type}:List Value→Nat→Value→(List Value→β)→β
 | [],_,_,k=>k []
 |_ :: xs,0,v,k=>k (v :: xs)
 |x :: xs,n+1,v,k=>setLK xs n v fun r=>k (x :: r)
theorem zx2 {β:Type}:∀ (l:List Value) (n:Nat) (v:Value) (k:List Value→β),setLK l n v k=k (l.set n v)
 | [],_,_,_=>rfl
 |_ :: _,0,_,_=>rfl
 |x :: xs,n+1,v,k=>by unfold setLK;rw [zx2];rfl
def putT (tm:List Value) (d:Option Tmp) (v:Value):List Value:=match d with|some t=>tm.set t v|none=>tm
def putK {β:Type} (tm:List Value) (d:Option Tmp) (v:Value) (k:List Value→β):β:=match d with|some t=>setLK tm t v k|none=>k tm
theorem putK_eq {β:Type} (tm:List Value) (d:Option Tmp) (v:Value) (k:List Value→β):putK tm d v k=k (putT tm d v):=by
 cases d<;>simp [putK,putT,zx2]
theorem RT.put (h:RT μ tm a) (d:Option Tmp) {v v':Value} (hv:RV μ v v'):RT μ (putT tm d v) (a.put d v'):=by
 have:=All2.put h (d:=d) hv
 cases d<;>exact this
def RD (μ:Mu) (d d':Deferred):Prop:=
 (∃ n p,d.target=.collected n∧d'.target=.collected p.block∧μ.pos n=some p)∨
 (∃ g c c',d.target=.fn (.func g) c∧d'.target=.fn (.func g) c'∧All2 (RV μ) c.toList c'.toList∧All2 (RV μ) d.args.toList d'.args.toList)
theorem RD.ext (h:μ.Le μ') {d d':Deferred} (hd:RD μ d d'):RD μ' d d':=
 hd.imp (fun ⟨n,p,h1,h2,h3⟩=>⟨n,p,h1,h2,h.pos _ _ h3⟩) fun ⟨g,c,c',h1,h2,h3,h4⟩=>⟨g,c,c',h1,h2,RVs.ext h h3,RVs.ext h h4⟩
def zo2 (P:Program) (rc:Rec) (ro:Bool) (o:Oper) (tm:List Value) (ds:List Deferred) (H:AH):Option (Value×List Deferred×AH):=match o.op with
 | .defer _=>bif ro then none else match zbi P o (aev tm) H with
  |some (.defer d,H')=>some (undef,d :: ds,H')
  |_=>none
 |_=>match zfh P rc o tm H with
  |some (v,H')=>some (v,ds,H')
  |none=>none
def ziq (P:Program) (rc:Rec) (ro:Bool) (l:List Oper):List Oper→List Value→List Deferred→AH→Option (List Value×List Deferred×AH)
 | [],tm,ds,H=>some (tm,ds,H)
 |o :: r,tm,ds,H=>bif zb5 l tm o then match zo2 P rc ro o tm ds H with
   |some (v,ds',H')=>putK tm o.dst v fun tm'=>ziq P rc ro l r tm' ds' H'
   |none=>none
  else putK tm o.dst undef fun tm'=>ziq P rc ro l r tm' ds H
structure RA (μ:Mu) (tm:List Value) (ds:List Deferred) (a:Act):Prop where
 tm:RT μ tm a
 ds:All2 (RD μ) ds a.defers
theorem RA.ext (h:μ.Le μ') {ds:List Deferred} (hr:RA μ tm ds a):RA μ' tm ds a:=⟨hr.tm.ext h,hr.ds.mono fun _ _=>RD.ext h⟩
theorem zdx (a:Act) (d:Option Tmp) (v:Value):(a.put d v).defers=a.defers:=by cases d<;>rfl
theorem RA.put {ds:List Deferred} (h:RA μ tm ds a) (d:Option Tmp) {v v':Value} (hv:RV μ v v'):RA μ (putT tm d v) ds (a.put d v'):=
 ⟨h.tm.put d hv,by rw [zdx];exact h.ds⟩
theorem one_step {rc:Rec} (hrc:zgm P w0 rc) {ro:Bool} {o:Oper} {v:Value} {ds ds':List Deferred} (h:zo2 P rc ro o tm ds H=some (v,ds',H')) {ops:Array Oper} {i:Nat} {rest:List Nat} (ho:ops[i]? =some o) (hw:Region.wanted o (yielded ops a.tmps)=true)
  (ha:RA μ tm ds a) (hr:R w0 μ H w) (b:Frame) (hb:b.roundOf.isSome=ro) (k:List Item) (cs:List Frame):
  ∃ a' w' μ',Steps P (lone (b.atR a (.inRegion ops (i :: rest) :: k)) cs w) (lone (b.atR a' (.inRegion ops rest :: k)) cs w')∧RA μ' (putT tm o.dst v) ds' a'∧R w0 μ' H' w'∧Post μ H μ' H':=by
 have plain:(match zfh P rc o tm H with
   |some (v,H')=>some (v,ds,H')
   |none=>none)=some (v,ds',H')→∃ a' w' μ',Steps P (lone (b.atR a (.inRegion ops (i :: rest) :: k)) cs w) (lone (b.atR a' (.inRegion ops rest :: k)) cs w')∧RA μ' (putT tm o.dst v) ds' a'∧R w0 μ' H' w'∧Post μ H μ' H':=fun h=>by
  cases he:zfh P rc o tm H with
  |none=>rw [he] at h;cases h
  |some r=>
   obtain⟨u,H1⟩:=r;rw [he] at h;simp only [Option.some.injEq,Prod.mk.injEq] at h;obtain⟨rfl,rfl,rfl⟩:=h;obtain⟨v',w',μ',h1,h2,h3,h4⟩:=zyd hrc he ho hw ha.tm hr b k cs (rest:=rest);exact⟨_,w',μ',h1,(ha.ext h3.le).put _ h4,h2,h3⟩
 unfold zo2 at h
 cases hop:o.op<;>rw [hop] at h<;>simp only at h<;>try (exact plain h)
 rename_i c
 cases ro with
 |true=>cases h
 |false=>
  simp only [cond_false] at h
  cases he:zbi P o (aev tm) H with
  |none=>rw [he] at h;cases h
  |some r=>
   obtain⟨nx,H1⟩:=r;rw [he] at h
   cases nx<;>simp only at h<;>try (cases h;done)
   rename_i d;simp only [Option.some.injEq,Prod.mk.injEq] at h;obtain⟨rfl,rfl,rfl⟩:=h;obtain⟨nx',w',μ1,hrun,hr1,hp1,hn⟩:=zq6 (w0:=w0) he μ w a ha.tm hr;simp only at hrun;obtain⟨d',rfl,⟨g,c1,c2,e1,e2,e3⟩,e4⟩:=hn;have hro:b.roundOf=none:=by cases hh:b.roundOf with|none=>rfl|some _=>rw [hh] at hb;cases hb
   have hg:=stepGR_op (P:=P) (b:=b) (k:=k) (cs:=cs) (w:=w) (rest:=rest) ho hw;rw [hro,Oper.semAt_none] at hg;have hfin:∀ (a:Act) (v:Value),(b.atR a (.inRegion ops (i :: rest) :: k)).finish v=b.atR (a.put o.dst v) (.inRegion ops rest :: k):=by
    intro a v;rw [Frame.finish_atR,ho];rfl
   refine⟨({ a with defers:=d' :: a.defers }:Act).put o.dst undef,w',μ1,.one (step_lone_go ?_),?_,hr1,hp1⟩
   ·rw [hg,←hfin]
    simp only [stepG.apply,Sem.runT_eq,hrun,GStep.bare_after];rfl
   ·have h1:=ha.ext hp1.le
    have h2:RA μ1 tm (d :: ds) ({ a with defers:=d' :: a.defers }:Act):=⟨h1.tm,.inr ⟨g,c1,c2,e1,e2,e3,e4⟩,h1.ds⟩;exact h2.put _ zii
theorem zop {rc:Rec} (hrc:zgm P w0 rc) {ro:Bool} {ops:Array Oper} (b:Frame) (hb:b.roundOf.isSome=ro) (k:List Item) (cs:List Frame):∀ (r:List Oper) (i:Nat) (tm:List Value) (ds:List Deferred) (H:AH) {tm':List Value} {ds':List Deferred} {H':AH},
  (∀ j,j < r.length→ops[i+j]? =r[j]?)→ziq P rc ro ops.toList r tm ds H=some (tm',ds',H')→∀ (μ:Mu) (a:Act) (w:World),RA μ tm ds a→R w0 μ H w→
  ∃ a' w' μ',Steps P (lone (b.atR a (.inRegion ops (List.range' i r.length) :: k)) cs w) (lone (b.atR a' (.inRegion ops [] :: k)) cs w')∧RA μ' tm' ds' a'∧R w0 μ' H' w'∧Post μ H μ' H'
 | [],i,tm,ds,H,tm',ds',H',_,h,μ,a,w,ha,hr=>by
  simp only [ziq,Option.some.injEq,Prod.mk.injEq] at h;obtain⟨rfl,rfl,rfl⟩:=h;exact⟨a,w,μ,.refl P _,ha,hr,.refl _ _⟩
 |o :: r,i,tm,ds,H,tm',ds',H',hat,h,μ,a,w,ha,hr=>by
  have ho:ops[i]? =some o:=by simpa using hat 0 (by simp)
  have hat':∀ j,j < r.length→ops[i+1+j]? =r[j]?:=fun j hj=>by
   have:=hat (j+1) (by simp;omega);rw [show i+1+j=i+(j+1) by omega];simpa using this
  simp only [List.length_cons,List.range'_succ];unfold ziq at h;have hw:=zs6 (ops:=ops) ha.tm o
  cases hwl:zb5 ops.toList tm o with
  |true=>
   rw [hwl] at h hw;simp only [cond_true] at h
   cases h1:zo2 P rc ro o tm ds H with
   |none=>rw [h1] at h;cases h
   |some x=>
    obtain⟨v,ds1,H1⟩:=x;rw [h1] at h;simp only [putK_eq] at h;obtain⟨a1,w1,μ1,s1,g1,g2,g3⟩:=one_step hrc h1 ho hw ha hr b hb k cs (rest:=List.range' (i+1) r.length);obtain⟨a2,w2,μ2,s2,k1,k2,k3⟩:=zop hrc b hb k cs r (i+1) _ _ _ hat' h μ1 a1 w1 g1 g2;exact⟨a2,w2,μ2,s1.trans s2,k1,k2,g3.trans k3⟩
  |false=>
   rw [hwl] at h hw;simp only [cond_false,putK_eq] at h;have s1:=ztk (P:=P) (w:=w) (rest:=List.range' (i+1) r.length) ho hw b k cs;obtain⟨a2,w2,μ2,s2,k1,k2,k3⟩:=zop hrc b hb k cs r (i+1) _ _ _ hat' h μ _ w (ha.put o.dst zii) hr;exact⟨a2,w2,μ2,s1.trans s2,k1,k2,k3⟩
theorem ztu {rc:Rec} (hrc:zgm P w0 rc) {ro:Bool} {ops:Array Oper} (b:Frame) (hb:b.roundOf.isSome=ro) (k:List Item) (cs:List Frame) (id:Nat) {ds tm' ds' H'} (h:ziq P rc ro ops.toList ops.toList tm ds H=some (tm',ds',H')) (ha:RA μ tm ds a) (hr:R w0 μ H w):
  ∃ a' w' μ',Steps P (lone (b.atR a (.code (.region id ops false) :: k)) cs w) (lone (b.atR a' k) cs w')∧RA μ' tm' ds' a'∧R w0 μ' H' w'∧Post μ H μ' H':=by
 obtain⟨a',w',μ',s,h1,h2,h3⟩:=zop hrc b hb k cs ops.toList 0 tm ds H (fun j _=>by simp) h μ a w ha hr;refine⟨a',w',μ',.head stepR_region ?_,h1,h2,h3⟩;rw [List.range_eq_range'];have e:ops.size=ops.toList.length:=by simp
 rw [e];exact s.trans (.one stepR_region_end)
end Go.Proofs.YtpbmmoneeoijaaaGreatDoor.Ev
namespace Go.Proofs.YtpbmmoneeoijaaaGreatDoor.Ev
open Go
def zb2 (o:Oper):List Nat:=(o.after.toList.filter fun e=>Region.binds .any e).map (·.on)
def kd (o:Oper):Nat:=match zfs o.op with
 |2=>bif (zb2 o).isEmpty && o.guard.isNone then 2 else 3
 |k=>k
def zqs (acc:List Nat) (o:Oper):Nat:=(zb2 o).foldl (fun s j=>s |||2 ^ j |||acc.getD j 0) 0
def zsb:List Oper→List Nat→List Nat
 | [],acc=>acc
 |o :: r,acc=>zsb r (acc ++ [zqs acc o])
def preM (l:List Oper):List Nat:=zsb l []
theorem zui (acc:List Nat):∀ (l:List Nat) (s i:Nat),(l.foldl (fun s j=>s |||2 ^ j |||acc.getD j 0) s).testBit i=true↔s.testBit i=true∨∃ j,j∈l∧(j=i∨(acc.getD j 0).testBit i=true)
 | [],s,i=>by simp
 |j :: l,s,i=>by
  simp only [List.foldl_cons];rw [zui acc l];simp only [Nat.testBit_or,Nat.testBit_two_pow,Bool.or_eq_true,decide_eq_true_eq,List.mem_cons];constructor
  ·rintro (((h|h)|h)|⟨k,h1,h2⟩)
   ·exact .inl h
   ·exact .inr ⟨j,.inl rfl,.inl h⟩
   ·exact .inr ⟨j,.inl rfl,.inr h⟩
   ·exact .inr ⟨k,.inr h1,h2⟩
  ·rintro (h|⟨k,rfl|h1,h2⟩)
   ·exact .inl (.inl (.inl h))
   ·rcases h2 with h2|h2
    ·exact .inl (.inl (.inr h2))
    ·exact .inl (.inr h2)
   ·exact .inr ⟨k,h1,h2⟩
theorem zym:∀ (r:List Oper) (acc:List Nat),(zsb r acc).length=acc.length+r.length∧(∀ j,j < acc.length→(zsb r acc)[j]? =acc[j]?)∧∀ (m:Nat) (o:Oper),r[m]? =some o→(zsb r acc)[acc.length+m]? =some (zqs ((zsb r acc).take (acc.length+m)) o)
 | [],acc=>⟨by simp [zsb],fun j hj=>rfl,fun m o h=>by simp at h⟩
 |x :: r,acc=>by
  obtain⟨h1,h2,h3⟩:=zym r (acc ++ [zqs acc x]);simp only [List.length_append,List.length_cons,List.length_nil] at h1 h2 h3;have heq:zsb (x :: r) acc=zsb r (acc ++ [zqs acc x]):=rfl;refine⟨by rw [heq,h1,List.length_cons];omega,fun j hj=>?_,fun m o hm=>?_⟩
  ·rw [heq,h2 j (by omega),List.getElem?_append_left hj]
  ·rw [heq]
   cases m with
   |zero=>
    simp only [List.getElem?_cons_zero,Option.some.injEq] at hm;subst hm;simp only [Nat.add_zero];rw [h2 _ (by omega),List.getElem?_append_right (Nat.le_refl _)];simp only [Nat.sub_self,List.getElem?_cons_zero,Option.some.injEq]
    congr 1
    apply List.ext_getElem?;intro i;by_cases hi:i < acc.length
    ·rw [List.getElem?_take_of_lt hi,h2 i (by omega),List.getElem?_append_left hi]
    ·rw [List.getElem?_eq_none (by omega),List.getElem?_eq_none (by simp;omega)]
   |succ m=>
    have:=h3 m o (by simpa using hm);rw [show acc.length+(m+1)=acc.length+1+m by omega];exact this
theorem preM_at {l:List Oper} {j:Nat} {o:Oper} (h:l[j]? =some o):(preM l).getD j 0=zqs ((preM l).take j) o:=by
 have:=(zym l []).2.2 j o h;simp only [List.length_nil,Nat.zero_add] at this;rw [List.getD_eq_getElem?_getD];unfold preM;rw [this];rfl
theorem zr2 {l:List Oper} {j i:Nat} {o:Oper} (hback:∀ e∈zb2 o,e < j) (h:l[j]? =some o):((preM l).getD j 0).testBit i=true↔∃ e,e∈zb2 o∧(e=i∨((preM l).getD e 0).testBit i=true):=by
 rw [preM_at h];unfold zqs;rw [zui];simp only [Nat.zero_testBit,Bool.false_eq_true,false_or];constructor
 ·rintro⟨e,h1,h2⟩
  refine⟨e,h1,h2.imp id fun h3=>?_⟩;rw [List.getD_eq_getElem?_getD,List.getElem?_take_of_lt (hback e h1),←List.getD_eq_getElem?_getD] at h3;exact h3
 ·rintro⟨e,h1,h2⟩
  refine⟨e,h1,h2.imp id fun h3=>?_⟩;rw [List.getD_eq_getElem?_getD,List.getElem?_take_of_lt (hback e h1),←List.getD_eq_getElem?_getD];exact h3
theorem zya {l:List Oper} {D:Nat→Prop} (hback:∀ (j:Nat) (o:Oper),l[j]? =some o→∀ e∈zb2 o,e < j) (hcl:∀ (j:Nat) (o:Oper),l[j]? =some o→D j→∀ e∈zb2 o,D e):
  ∀ (j:Nat) (o:Oper),l[j]? =some o→(∀ e∈zb2 o,D e)→∀ i,((preM l).getD j 0).testBit i=true→D i:=by
 intro j
 induction j using Nat.strongRecOn with
 |_ j ih=>
  intro o ho hd i hi;obtain⟨e,h1,h2⟩:=(zr2 (hback j o ho) ho).1 hi;rcases h2 with rfl|h2
  ·exact hd e h1
  ·have hlt:=hback j o ho e h1
   have hel:e < l.length:=by have:=(List.getElem?_eq_some_iff.1 ho).1;omega
   have hoe:l[e]? =some l[e]:=List.getElem?_eq_getElem hel;exact ih e hlt _ hoe (hcl e _ hoe (hd e h1)) i h2
theorem zx9 {l:List Oper} (hback:∀ (j:Nat) (o:Oper),l[j]? =some o→∀ e∈zb2 o,e < j):∀ (j:Nat) (o:Oper),l[j]? =some o→∀ i,((preM l).getD j 0).testBit i=true→i < j:=by
 intro j
 induction j using Nat.strongRecOn with
 |_ j ih=>
  intro o ho i hi;obtain⟨e,h1,h2⟩:=(zr2 (hback j o ho) ho).1 hi;have hlt:=hback j o ho e h1;rcases h2 with rfl|h2
  ·exact hlt
  ·have hel:e < l.length:=by have:=(List.getElem?_eq_some_iff.1 ho).1;omega
   have:=ih e hlt _ (List.getElem?_eq_getElem hel) i h2;omega
def zax (p:Nat→Bool):List Oper→Nat→Nat
 | [],_=>0
 |o :: r,j=>bif (kd o).beq 3 && p j then zax p r (j+1)+1 else zax p r (j+1)
theorem zc9 {p q:Nat→Bool}:∀ (l:List Oper) (j0:Nat),(∀ (m:Nat) (o:Oper),l[m]? =some o→kd o=3→p (j0+m)=true→q (j0+m)=true)→zax p l j0≤zax q l j0
 | [],_,_=>Nat.le_refl _
 |o :: r,j0,h=>by
  have ih:=zc9 r (j0+1) fun m o hm hk hp=>by
   have:=h (m+1) o (by simpa using hm) hk;rw [show j0+(m+1)=j0+1+m by omega] at this;exact this hp
  have h0:=h 0 o (by simp);unfold zax
  cases hk:(kd o).beq 3 with
  |false=>simp only [Bool.false_and,cond_false];exact ih
  |true=>
   have hk':=Nat.eq_of_beq_eq_true hk;simp only [Bool.true_and]
   cases hp:p j0 with
   |false=>simp only [cond_false];cases q j0<;>simp only [cond_true,cond_false]<;>omega
   |true=>
    have:q j0=true:=by simpa using h0 hk' (by simpa using hp)
    rw [this];simp only [cond_true];omega
theorem zfv {p q:Nat→Bool} (l:List Oper) (j0:Nat) (h:∀ (m:Nat) (o:Oper),l[m]? =some o→kd o=3→p (j0+m)=q (j0+m)):zax p l j0=zax q l j0:=
 Nat.le_antisymm (zc9 l j0 fun m o hm hk hp=>(h m o hm hk)▸hp) (zc9 l j0 fun m o hm hk hp=>(h m o hm hk).symm▸hp)
theorem zrb {p q:Nat→Bool} (i:Nat) (hp:p i=false) (hq:q i=true) (hpq:∀ j,j≠i→q j=p j):∀ (l:List Oper) (j0:Nat) (o:Oper),j0≤i→l[i - j0]? =some o→zax q l j0=zax p l j0+(bif (kd o).beq 3 then 1 else 0)
 | [],_,_,_,h=>by simp at h
 |x :: r,j0,o,hle,h=>by
  unfold zax;by_cases e:j0=i
  ·subst e
   simp only [Nat.sub_self,List.getElem?_cons_zero,Option.some.injEq] at h;subst h;have hc:=zfv (p:=q) (q:=p) r (j0+1) fun m _ _ _=>hpq (j0+1+m) (by omega);rw [hp,hq,hc]
   cases (kd x).beq 3<;>simp
  ·have ih:=zrb i hp hq hpq r (j0+1) o (by omega) (by rw [show i - j0=(i - (j0+1))+1 by omega] at h;simpa using h)
   rw [ih,hpq j0 e]
   cases (kd x).beq 3<;>cases p j0<;>cases (kd o).beq 3<;>simp<;>omega
def effs (l:List Oper):Nat:=zax (fun _=>true) l 0
theorem zlv (p:Nat→Bool):∀ (l:List Oper) (j0:Nat),zax p l j0=zax (fun j=>p (j0+j)) l 0:=by
 have gen:∀ (l:List Oper) (a b:Nat) (p q:Nat→Bool),(∀ m,p (a+m)=q (b+m))→zax p l a=zax q l b:=by
  intro l
  induction l with
  |nil=>intros;rfl
  |cons o r ih=>
   intro a b p q h;unfold zax;rw [ih (a+1) (b+1) p q fun m=>by have:=h (m+1);rw [show a+(m+1)=a+1+m by omega,show b+(m+1)=b+1+m by omega] at this;exact this];have h0:p a=q b:=h 0;rw [h0]
 intro l j0;exact gen l j0 0 p _ fun m=>by simp
theorem zkc (o:Oper) (l:List Oper):effs (o :: l)=effs l+(bif (kd o).beq 3 then 1 else 0):=by
 unfold effs;show (bif (kd o).beq 3 && true then zax (fun _=>true) l 1+1 else zax (fun _=>true) l 1)=_;rw [zlv _ l 1]
 cases (kd o).beq 3<;>simp
theorem zkb (l:List Oper) (i:Nat):effs (l.take i)=zax (fun j=>decide (j < i)) l 0:=by
 induction l generalizing i with
 |nil=>simp [effs,zax]
 |cons o r ih=>
  cases i with
  |zero=>
   simp only [List.take_zero,Nat.not_lt_zero,decide_false];show 0=_;have:∀ (l:List Oper) (j:Nat),zax (fun _=>false) l j=0:=by
    intro l;induction l with
    |nil=>intro;rfl
    |cons x r ih=>intro j;unfold zax;simp [ih]
   rw [this]
  |succ i=>
   have hcons:∀ (p:Nat→Bool),zax p (o :: r) 0=(bif (kd o).beq 3 && p 0 then zax p r 1+1 else zax p r 1):=fun _=>rfl;rw [List.take_succ_cons,zkc,ih,hcons];rw [zlv _ r 1];have e:(fun j=>decide (1+j < i+1))=fun j=>decide (j < i):=funext fun j=>by
    by_cases h:j < i
    ·rw [decide_eq_true h,decide_eq_true (by omega)]
    ·rw [decide_eq_false h,decide_eq_false (by omega)]
   simp only [Nat.zero_lt_succ,decide_true,Bool.and_true,e]
   cases (kd o).beq 3<;>simp
variable {P:Program} {w0:Frm} {w:World} {μ μ':Mu} {H H':AH} {tm tm2:List Value} {a:Act}
def memN (t:Nat):List Nat→Bool
 | []=>false
 |x :: xs=>bif x.beq t then true else memN t xs
theorem zyl {t:Nat}:∀ {l:List Nat},t∈l→memN t l=true
 |x :: xs,h=>by
  unfold memN
  cases hb:x.beq t with
  |true=>rfl
  |false=>
   rcases List.mem_cons.1 h with rfl|h
   ·rw [Nat.beq_refl] at hb;cases hb
   ·exact zyl h
def uses (l:List Oper) (o:Oper):List Tmp:=
 (o.op.operands.toList.filterMap fun| .tmp t=>some t|_=>none) ++ (match o.guard with|some (g,_)=>((l[g]?).bind (·.dst)).toList|none=>[])
def dstIs (o:Oper) (t:Nat):Bool:=match o.dst with|some d=>d.beq t|none=>false
theorem zuo {o:Oper} {t:Nat}:dstIs o t=true↔o.dst=some t:=by
 unfold dstIs
 cases o.dst with
 |none=>simp
 |some d=>simp
def zqq (M:List Nat) (o:Oper) (j:Nat) (us:List Tmp) (q:Oper) (i:Nat):Bool:=
 (match q.dst with
 |none=>true
 |some t=>(!memN t us || ((M.getD j 0).testBit i || ((kd o).beq 0 && (M.getD i 0).testBit j))) && (i.beq j || !dstIs o t)) &&
 (!((kd o).beq 3 && (kd q).beq 3 && i.blt j) || (M.getD j 0).testBit i)
def zkj (f:Oper→Nat→Bool):List Oper→Nat→Bool
 | [],_=>true
 |o :: r,j=>f o j && zkj f r (j+1)
theorem zg4 {f:Oper→Nat→Bool}:∀ {l:List Oper} {j0:Nat},zkj f l j0=true→∀ (m:Nat) (o:Oper),l[m]? =some o→f o (j0+m)=true
 | [],_,_,m,o,h=>by simp at h
 |x :: r,j0,h,m,o,hm=>by
  unfold zkj at h;simp only [Bool.and_eq_true] at h
  cases m with
  |zero=>simp only [List.getElem?_cons_zero,Option.some.injEq] at hm;subst hm;exact h.1
  |succ m=>
   have:=zg4 h.2 m o (by simpa using hm);rw [show j0+(m+1)=j0+1+m by omega];exact this
def zup (l:List Oper):Bool:=
 zkj (fun o j=>(zb2 o).all (fun e=>e.blt j) && zkj (zqq (preM l) o j (uses l o)) l 0) l 0
structure zAu (l:List Oper):Prop where
 back:∀ (j:Nat) (o:Oper),l[j]? =some o→∀ e∈zb2 o,e < j
 use:∀ (j i:Nat) (o q:Oper) (t:Tmp),l[j]? =some o→l[i]? =some q→q.dst=some t→t∈uses l o→((preM l).getD j 0).testBit i=true∨(kd o=0∧((preM l).getD i 0).testBit j=true)
 dst:∀ (j i:Nat) (o q:Oper) (t:Tmp),l[j]? =some o→l[i]? =some q→q.dst=some t→o.dst=some t→i=j
 eff:∀ (j i:Nat) (o q:Oper),l[j]? =some o→l[i]? =some q→kd o=3→kd q=3→i < j→((preM l).getD j 0).testBit i=true
theorem zw3 {l:List Oper} (h:zup l=true):zAu l:=by
 have h1:∀ (j:Nat) (o:Oper),l[j]? =some o→((zb2 o).all (fun e=>e.blt j) && zkj (zqq (preM l) o j (uses l o)) l 0)=true:=fun j o ho=>by
  have:=zg4 h j o ho;rw [Nat.zero_add] at this;exact this
 have h2:∀ (j i:Nat) (o q:Oper),l[j]? =some o→l[i]? =some q→zqq (preM l) o j (uses l o) q i=true:=fun j i o q ho hq=>by
  have:=h1 j o ho;simp only [Bool.and_eq_true] at this;have:=zg4 this.2 i q hq;rw [Nat.zero_add] at this;exact this
 refine⟨fun j o ho e he=>?_,fun j i o q t ho hq hd hu=>?_,fun j i o q t ho hq hd hd2=>?_,fun j i o q ho hq k1 k2 hij=>?_⟩
 ·have:=h1 j o ho
  simp only [Bool.and_eq_true,List.all_eq_true] at this;have:=this.1 e he;rw [blt_eq] at this;simpa using this
 ·have:=h2 j i o q ho hq
  unfold zqq at this;rw [hd] at this;simp only [Bool.and_eq_true,Bool.or_eq_true,zyl hu,Bool.not_true,Bool.false_eq_true,false_or] at this;exact this.1.1.imp id fun h=>⟨Nat.eq_of_beq_eq_true h.1,h.2⟩
 ·have:=h2 j i o q ho hq
  unfold zqq at this;rw [hd] at this;simp only [Bool.and_eq_true,Bool.or_eq_true,zuo.2 hd2,Bool.not_true,Bool.false_eq_true,or_false] at this;exact Nat.eq_of_beq_eq_true this.1.2
 ·have:=h2 j i o q ho hq
  unfold zqq at this;rw [k1,k2,blt_eq,decide_eq_true hij] at this;simp only [Bool.and_eq_true,Bool.or_eq_true,Nat.beq_refl,Bool.true_and,Bool.not_true,Bool.false_eq_true,false_or] at this;exact this.2
def zob:Nat→Value→Value→Bool
 |0,_,_=>false
 |d+1,a,b=>match a,b with
  | .bool x,.bool y=>x == y
  | .int k n,.int k' m=>decide (k=k') && decide (n=m)
  | .string s,.string r=>zhv s.data.toList r.data.toList
  | .pointer none,.pointer none=>true
  | .pointer (some x),.pointer (some y)=>x.block.beq y.block && x.off.beq y.off && x.spot.isNone && y.spot.isNone
  | .slice none l c,.slice none l' c'=>l.beq l' && c.beq c'
  | .slice (some x) l c,.slice (some y) l' c'=>x.block.beq y.block && x.off.beq y.off && x.spot.isNone && y.spot.isNone && l.beq l' && c.beq c'
  | .nilFunc,.nilFunc=>true
  | .nilIface,.nilIface=>true
  | .map none,.map none=>true
  | .map (some n),.map (some m)=>n.beq m
  | .func (.func g) f c,.func (.func g') f' c'=>g.beq g' && all2 (zob d) f.toList f'.toList && all2 (zob d) c.toList c'.toList
  | .func (.yield g) f c,.func (.yield g') f' c'=>g.beq g' && all2 (zob d) f.toList f'.toList && all2 (zob d) c.toList c'.toList
  | .agg cs,.agg cs'=>all2 (zob d) cs.toList cs'.toList
  |_,_=>false
where all2 (f:Value→Value→Bool):List Value→List Value→Bool
 | [],[]=>true
 |x :: xs,y :: ys=>f x y && all2 f xs ys
 |_,_=>false
theorem zlg {f:Value→Value→Bool} (h:∀ a b,f a b=true→a=b):∀ (l m:List Value),zob.all2 f l m=true→l=m
 | [],[],_=>rfl
 | [],_ :: _,h2=>by cases h2
 |_ :: _,[],h2=>by cases h2
 |x :: xs,y :: ys,h2=>by
  unfold zob.all2 at h2;simp only [Bool.and_eq_true] at h2;rw [h x y h2.1,zlg h xs ys h2.2]
theorem zu1 {x y:Addr} (h1:x.block.beq y.block=true) (h2:x.off.beq y.off=true) (h3:x.spot.isNone=true) (h4:y.spot.isNone=true):x=y:=by
 cases x;cases y
 simp only at h1 h2 h3 h4;obtain rfl:=Nat.eq_of_beq_eq_true h1;obtain rfl:=Nat.eq_of_beq_eq_true h2;rw [Option.isNone_iff_eq_none.1 h3,Option.isNone_iff_eq_none.1 h4]
theorem zx4:∀ (d:Nat) (a b:Value),zob d a b=true→a=b
 |0,_,_,h=>by cases h
 |d+1,a,b,h=>by
  have ih:=zx4 d;unfold zob at h
  split at h
  ·rw [eq_of_beq h]
  ·simp only [Bool.and_eq_true,decide_eq_true_eq] at h;rw [h.1,h.2]
  ·rename_i s r
   rw [zie] at h;have:=eq_of_beq h
   congr 1
   apply ByteArray.ext;exact Array.toList_inj.1 this
  ·rfl
  ·simp only [Bool.and_eq_true] at h
   rw [zu1 h.1.1.1 h.1.1.2 h.1.2 h.2]
  ·simp only [Bool.and_eq_true] at h
   rw [Nat.eq_of_beq_eq_true h.1,Nat.eq_of_beq_eq_true h.2]
  ·simp only [Bool.and_eq_true] at h
   rw [zu1 h.1.1.1.1.1 h.1.1.1.1.2 h.1.1.1.2 h.1.1.2,Nat.eq_of_beq_eq_true h.1.2,Nat.eq_of_beq_eq_true h.2]
  ·rfl
  ·rfl
  ·rfl
  ·rw [Nat.eq_of_beq_eq_true h]
  ·simp only [Bool.and_eq_true] at h
   rw [Nat.eq_of_beq_eq_true h.1.1,Array.toList_inj.1 (zlg ih _ _ h.1.2),Array.toList_inj.1 (zlg ih _ _ h.2)]
  ·simp only [Bool.and_eq_true] at h
   rw [Nat.eq_of_beq_eq_true h.1.1,Array.toList_inj.1 (zlg ih _ _ h.1.2),Array.toList_inj.1 (zlg ih _ _ h.2)]
  ·rw [Array.toList_inj.1 (zlg ih _ _ h)]
  ·cases h
def zr5 (P:Program):List Oper→List Value→AH→Option (List Value×AH)
 | [],tm,H=>some (tm,H)
 |o :: r,tm,H=>bif (kd o).beq 2 then match o.op with
   | .alloc e=>match zf1 P e H with
    |some (.value v,H')=>putK tm o.dst v fun tm'=>zr5 P r tm' H'
    |_=>none
   |_=>none
  else zr5 P r tm H
def zix (P:Program) (rc:Rec) (l:List Oper):List Oper→List Value→AH→Option (List Value×List AH)
 | [],tm,_=>some (tm,[])
 |o :: r,tm,H=>bif (kd o).beq 2 then zix P rc l r tm H else
  bif zb5 l tm o then
   bif (kd o).beq 3 then match zfh P rc o tm H with
    |some (v,H')=>putK tm o.dst v fun tm'=>match zix P rc l r tm' H' with
     |some (tmF,hs)=>some (tmF,H' :: hs)
     |none=>none
    |none=>none
   else match zbi P o (aev tm) H with
    |some (.value v,_)=>putK tm o.dst v fun tm'=>zix P rc l r tm' H
    |_=>none
  else putK tm o.dst undef fun tm'=>bif (kd o).beq 3 then match zix P rc l r tm' H with
    |some (tmF,hs)=>some (tmF,H :: hs)
    |none=>none
   else zix P rc l r tm' H
def loOf (l:List Oper) (i:Nat):Nat:=zax (fun j=>((preM l).getD i 0).testBit j) l 0
def hiOf (l:List Oper) (i:Nat):Nat:=zax (fun j=>!((preM l).getD j 0).testBit i) l 0
def zCf (P:Program) (tmF:List Value) (o:Oper) (Hk:AH):Bool:=match zbi P o (aev tmF) Hk with
 |some (.value v,_)=>match o.dst with
  |none=>true
  |some t=>zob 3 v (tmF.getD t undef)
 |_=>false
def zhs (P:Program) (tmF:List Value) (o:Oper) (HS:List AH) (H1:AH):Nat→Nat→Bool
 |0,_=>true
 |n+1,k=>zCf P tmF o (HS.getD k H1) && zhs P tmF o HS H1 n (k+1)
theorem zly {P:Program} {tmF:List Value} {o:Oper} {HS:List AH} {H1:AH}:∀ {n k:Nat},zhs P tmF o HS H1 n k=true→∀ m,k≤m→m < k+n→zCf P tmF o (HS.getD m H1)=true
 |0,k,_,m,h1,h2=>by omega
 |n+1,k,h,m,h1,h2=>by
  unfold zhs at h;simp only [Bool.and_eq_true] at h;by_cases e:m=k
  ·subst e;exact h.1
  ·exact zly h.2 m (by omega) (by omega)
def chk (P:Program) (l:List Oper) (tmF:List Value) (HS:List AH) (H1:AH):Bool:=
 zkj (fun o i=>!((kd o).beq 1 && zb5 l tmF o) || (loOf l i).beq (hiOf l i) || zhs P tmF o HS H1 (hiOf l i - loOf l i+1) (loOf l i)) l 0
def zDp:AH→List AH→AH
 |H,[]=>H
 |_,H' :: r=>zDp H' r
def zq7 (P:Program) (rc:Rec) (l:List Oper) (tm:List Value) (H:AH):Option (List Value×AH):=bif zup l then match zr5 P l tm H with
  |some (tm1,H1)=>match zix P rc l l tm1 H1 with
   |some (tmF,hs)=>bif chk P l tmF (H1 :: hs) H1 then some (tmF,zDp H1 hs) else none
   |none=>none
  |none=>none
 else none
end Go.Proofs.YtpbmmoneeoijaaaGreatDoor.Ev
