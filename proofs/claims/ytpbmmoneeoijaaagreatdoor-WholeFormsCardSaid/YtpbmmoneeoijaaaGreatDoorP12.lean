/-
  A part of the proof: EvFast2 EvFast3 EvKnown.
-/
import Derived.Test.YtpbmmoneeoijaaaGreatDoorP11
namespace Go.Proofs.YtpbmmoneeoijaaaGreatDoor.Ev
open Go
variable {P:Program} {w0:Frm} {w:World} {μ μ':Mu} {H H':AH} {tm tm2:List Value} {a:Act}
def zhc (l:List Oper) (o:Oper):Fn1 TT Bool:=match o.guard with
 |none=>⟨fun _=>true⟩
 |some (g,want)=>match (l[g]?).bind (·.dst) with
  |none=>⟨fun _=>false⟩
  |some d=>match want with
   |true=>⟨fun T=>match (BT.getB 2 d).f T with
    | .bool b=>b
    |_=>false⟩
   |false=>⟨fun T=>match (BT.getB 2 d).f T with
    | .bool b=>!b
    |_=>false⟩
theorem zD9 {n:Nat} {o:Oper} (ho:okOp n o=true) {d:Tmp} (hd:o.dst=some d):Nat.lt d n:=by
 unfold okOp at ho;rw [hd] at ho;simp only [Bool.and_eq_true] at ho;simpa [blt_eq] using ho.2
theorem zvd {n:Nat} {T:TT} (h:Rel n T tm) {l:List Oper} (hl:l.all (okOp n)=true) (o:Oper):(zhc l o).f T=zb5 l tm o:=by
 have hle:=h.le;unfold zhc zb5
 cases o.guard with
 |none=>rfl
 |some gw=>
  obtain⟨g,want⟩:=gw;simp only;unfold zfl
  cases hb:(l[g]?).bind (·.dst) with
  |none=>rfl
  |some d=>
   simp only;rw [Option.bind_eq_some_iff] at hb;obtain⟨q,hq,hd⟩:=hb;have hlt:Nat.lt d n:=zD9 (List.all_eq_true.1 hl q (List.mem_of_getElem? hq)) hd;have hg:(BT.getB 2 d).f T=tm.getD d undef:=h.get d (Nat.lt_of_lt_of_le hlt hle);have hs:tm[d]? =some (tm.getD d undef):=by
    have:d < tm.length:=by rw [h.len];exact hlt
    rw [List.getD_eq_getElem?_getD,List.getElem?_eq_getElem this];rfl
   rw [hs]
   cases want with
   |true=>
    show (match (BT.getB 2 d).f T with| .bool b=>b|_=>false)=_;rw [hg]
    cases tm.getD d undef<;>simp
   |false=>
    show (match (BT.getB 2 d).f T with| .bool b=>!b|_=>false)=_;rw [hg]
    cases tm.getD d undef<;>simp
def putD {β:Type}:Option Tmp→Fn1 TT (Value→(TT→β)→β)
 |none=>⟨fun T _ k=>k T⟩
 |some t=>put2K t
theorem zfr {β:Type} {n:Nat} {T:TT} (h:Rel n T tm) {o:Oper} (ho:okOp n o=true) (v:Value) (k:TT→β):∃ T',(putD o.dst).f T v k=k T'∧Rel n T' (putT tm o.dst v):=by
 cases hd:o.dst with
 |none=>exact⟨T,rfl,h⟩
 |some t=>exact⟨_,BT.putK_eq 2 T t v k,h.put (zD9 ho hd) v⟩
def opsB (P:Program) {β:Type} (n:Nat) (ro:Bool) (l:List Oper):List Oper→Fn1 TT (RecF→List Deferred→AH→(TT→List Deferred→AH→Option β)→Option β)
 | []=>⟨fun T _ ds H k=>k T ds H⟩
 |o :: r=>bif okOp n o then match o.op with
   | .defer _=>bif ro then ⟨fun _ _ _ _ _=>none⟩ else ⟨fun T rc ds H k=>bif (zhc l o).f T then match (exB P o).f (accT T) H with
     |some (.defer d,H')=>(putD o.dst).f T undef fun T'=>(opsB P n ro l r).f T' rc (d :: ds) H' k
     |_=>none
    else (putD o.dst).f T undef fun T'=>(opsB P n ro l r).f T' rc ds H k⟩
   |_=>match o.guard with
    |none=>⟨fun T rc ds H k=>(opK P o).f T rc H fun v H'=>(putD o.dst).f T v fun T'=>(opsB P n ro l r).f T' rc ds H' k⟩
    |some _=>⟨fun T rc ds H k=>bif (zhc l o).f T then (opK P o).f T rc H fun v H'=>(putD o.dst).f T v fun T'=>(opsB P n ro l r).f T' rc ds H' k
     else (putD o.dst).f T undef fun T'=>(opsB P n ro l r).f T' rc ds H k⟩
  else ⟨fun _ _ _ _ _=>none⟩
theorem zm4 {β:Type} {n:Nat} {ro:Bool} {l:List Oper} (hl:l.all (okOp n)=true) {rc:RecF}:∀ (r:List Oper) {T:TT} {tm:List Value} {ds:List Deferred} {H:AH} {k:TT→List Deferred→AH→Option β} {x:β},Rel n T tm→(opsB P n ro l r).f T rc ds H k=some x→
  ∃ T' tm' ds' H',ziq P (zbo rc) ro l r tm ds H=some (tm',ds',H')∧Rel n T' tm'∧k T' ds' H'=some x
 | [],T,tm,ds,H,k,x,h,he=>⟨T,tm,ds,H,rfl,h,he⟩
 |o :: r,T,tm,ds,H,k,x,h,he=>by
  unfold opsB at he
  cases ho:okOp n o with
  |false=>rw [ho] at he;cases he
  |true=>
   rw [ho] at he;simp only [cond_true] at he;unfold ziq;rw [←zvd h hl o];have skip:(putD o.dst).f T undef (fun T'=>(opsB P n ro l r).f T' rc ds H k)=some x→(zhc l o).f T=false→∃ T' tm' ds' H',(bif (zhc l o).f T then match zo2 P (zbo rc) ro o tm ds H with
     |some (v,ds',H')=>putK tm o.dst v fun tm'=>ziq P (zbo rc) ro l r tm' ds' H'
     |none=>none
    else putK tm o.dst undef fun tm'=>ziq P (zbo rc) ro l r tm' ds H)=some (tm',ds',H')∧Rel n T' tm'∧k T' ds' H'=some x:=fun he hw=>by
    obtain⟨T1,e1,e2⟩:=zfr h ho undef (fun T'=>(opsB P n ro l r).f T' rc ds H k);rw [e1] at he;rw [hw];simp only [cond_false,putK_eq];exact zm4 hl r e2 he
   have plain:(∀ c,o.op≠.defer c)→((opK P o).f T rc H fun v H'=>(putD o.dst).f T v fun T'=>(opsB P n ro l r).f T' rc ds H' k)=some x→(zhc l o).f T=true→∃ T' tm' ds' H',(bif (zhc l o).f T then match zo2 P (zbo rc) ro o tm ds H with
     |some (v,ds',H')=>putK tm o.dst v fun tm'=>ziq P (zbo rc) ro l r tm' ds' H'
     |none=>none
    else putK tm o.dst undef fun tm'=>ziq P (zbo rc) ro l r tm' ds H)=some (tm',ds',H')∧Rel n T' tm'∧k T' ds' H'=some x:=fun hnd he hw=>by
    rw [opK_eq] at he;unfold onK at he
    cases hx:(opF P o).f T rc H with
    |none=>rw [hx] at he;cases he
    |some y=>
     obtain⟨v,H1⟩:=y;rw [hx] at he;simp only at he;have h1:=zDd h ho hx;obtain⟨T1,e1,e2⟩:=zfr h ho v (fun T'=>(opsB P n ro l r).f T' rc ds H1 k);rw [e1] at he;rw [hw];have hone:zo2 P (zbo rc) ro o tm ds H=some (v,ds,H1):=by
      unfold zo2
      cases hop:o.op<;>simp only [h1]
      exact absurd hop (hnd _)
     simp only [cond_true,hone,putK_eq];exact zm4 hl r e2 he
   have nodef:(∀ c,o.op≠.defer c)→(match o.guard with
    |none=>(⟨fun T rc ds H k=>(opK P o).f T rc H fun v H'=>(putD o.dst).f T v fun T'=>(opsB P n ro l r).f T' rc ds H' k⟩:Fn1 TT (RecF→List Deferred→AH→(TT→List Deferred→AH→Option β)→Option β))
    |some _=>⟨fun T rc ds H k=>bif (zhc l o).f T then (opK P o).f T rc H fun v H'=>(putD o.dst).f T v fun T'=>(opsB P n ro l r).f T' rc ds H' k
     else (putD o.dst).f T undef fun T'=>(opsB P n ro l r).f T' rc ds H k⟩).f T rc ds H k=some x→∃ T' tm' ds' H',(bif (zhc l o).f T then match zo2 P (zbo rc) ro o tm ds H with
     |some (v,ds',H')=>putK tm o.dst v fun tm'=>ziq P (zbo rc) ro l r tm' ds' H'
     |none=>none
    else putK tm o.dst undef fun tm'=>ziq P (zbo rc) ro l r tm' ds H)=some (tm',ds',H')∧Rel n T' tm'∧k T' ds' H'=some x:=fun hnd he=>by
    cases hg:o.guard with
    |none=>
     rw [hg] at he;exact plain hnd he (by unfold zhc;rw [hg])
    |some gw=>
     rw [hg] at he;simp only at he
     cases hw:(zhc l o).f T with
     |true=>rw [hw] at he;rw [←hw];exact plain hnd he hw
     |false=>rw [hw] at he;rw [←hw];exact skip he hw
   cases hop:o.op<;>rw [hop] at he<;>simp only at he<;>try (exact nodef (fun c hc=>by rw [hop] at hc;cases hc) he)
   cases ro with
   |true=>cases he
   |false=>
    simp only [cond_false] at he;rcases Bool.eq_false_or_eq_true ((zhc l o).f T) with hw|hw
    case inr=>rw [hw] at he;exact skip he hw
    case inl=>
     rw [hw] at he;rw [hw];simp only [cond_true,zDy h ho] at he ⊢
     cases hx:zbi P o (aev tm) H with
     |none=>rw [hx] at he;cases he
     |some y=>
      obtain⟨nx,H1⟩:=y;rw [hx] at he
      cases nx<;>simp only at he<;>try (cases he;done)
      rename_i d;obtain⟨T1,e1,e2⟩:=zfr h ho undef (fun T'=>(opsB P n false l r).f T' rc (d :: ds) H1 k);rw [e1] at he;have hone:zo2 P (zbo rc) false o tm ds H=some (undef,d :: ds,H1):=by
       unfold zo2;rw [hop];simp only [cond_false,hx]
      simp only [hone,putK_eq];exact zm4 hl r e2 he
def zt0 (P:Program):List Oper→Fn1 TT (AH→Option (TT×AH))
 | []=>⟨fun T H=>some (T,H)⟩
 |o :: r=>bif (kd o).beq 2 then match o.op with
   | .alloc e=>⟨fun T H=>match zf1 P e H with
    |some (.value v,H')=>(putD o.dst).f T v fun T'=>(zt0 P r).f T' H'
    |_=>none⟩
   |_=>⟨fun _ _=>none⟩
  else zt0 P r
theorem zol {n:Nat}:∀ (r:List Oper),r.all (okOp n)=true→∀ {T T':TT} {tm:List Value} {H H':AH},Rel n T tm→(zt0 P r).f T H=some (T',H')→∃ tm',zr5 P r tm H=some (tm',H')∧Rel n T' tm'
 | [],_,T,T',tm,H,H',h,he=>by
  simp only [zt0,Option.some.injEq,Prod.mk.injEq] at he;obtain⟨rfl,rfl⟩:=he;exact⟨tm,rfl,h⟩
 |o :: r,hl,T,T',tm,H,H',h,he=>by
  simp only [List.all_cons,Bool.and_eq_true] at hl;unfold zt0 at he;unfold zr5
  cases hk:(kd o).beq 2 with
  |false=>rw [hk] at he;exact zol r hl.2 h he
  |true=>
   rw [hk] at he;simp only [cond_true] at he ⊢
   cases hop:o.op<;>rw [hop] at he<;>simp only at he<;>try (cases he;done)
   rename_i e;simp only
   cases hx:zf1 P e H with
   |none=>rw [hx] at he;cases he
   |some y=>
    obtain⟨nx,H1⟩:=y;rw [hx] at he
    cases nx<;>simp only at he<;>try (cases he;done)
    rename_i v;obtain⟨T1,e1,e2⟩:=zfr h hl.1 v (fun T'=>(zt0 P r).f T' H1);rw [e1] at he;simp only [putK_eq];exact zol r hl.2 e2 he
def zil (P:Program) (l:List Oper):List Oper→Fn1 TT (RecF→AH→Option (TT×List AH))
 | []=>⟨fun T _ _=>some (T,[])⟩
 |o :: r=>bif (kd o).beq 2 then zil P l r else bif (kd o).beq 3 then
   ⟨fun T rc H=>bif (zhc l o).f T then match (opF P o).f T rc H with
     |some (v,H')=>(putD o.dst).f T v fun T'=>match (zil P l r).f T' rc H' with
      |some (TF,hs)=>some (TF,H' :: hs)
      |none=>none
     |none=>none
    else (putD o.dst).f T undef fun T'=>match (zil P l r).f T' rc H with
     |some (TF,hs)=>some (TF,H :: hs)
     |none=>none⟩
  else ⟨fun T rc H=>bif (zhc l o).f T then match (exB P o).f (accT T) H with
     |some (.value v,_)=>(putD o.dst).f T v fun T'=>(zil P l r).f T' rc H
     |_=>none
    else (putD o.dst).f T undef fun T'=>(zil P l r).f T' rc H⟩
theorem zf7 {n:Nat} {l:List Oper} (hal:l.all (okOp n)=true) {rc:RecF}:∀ (r:List Oper),r.all (okOp n)=true→∀ {T T':TT} {tm:List Value} {H:AH} {hs:List AH},Rel n T tm→(zil P l r).f T rc H=some (T',hs)→∃ tm',zix P (zbo rc) l r tm H=some (tm',hs)∧Rel n T' tm'
 | [],_,T,T',tm,H,hs,h,he=>by
  simp only [zil,Option.some.injEq,Prod.mk.injEq] at he;obtain⟨rfl,rfl⟩:=he;exact⟨tm,rfl,h⟩
 |o :: r,hl,T,T',tm,H,hs,h,he=>by
  simp only [List.all_cons,Bool.and_eq_true] at hl;unfold zil at he;unfold zix
  cases hk:(kd o).beq 2 with
  |true=>rw [hk] at he;exact zf7 hal r hl.2 h he
  |false=>
   rw [hk] at he;simp only [cond_false] at he ⊢;rw [←zvd h hal o]
   cases hk3:(kd o).beq 3 with
   |true=>
    rw [hk3] at he;simp only [cond_true] at he ⊢
    cases hw:(zhc l o).f T with
    |true=>
     rw [hw] at he;simp only [cond_true] at he ⊢
     cases hx:(opF P o).f T rc H with
     |none=>rw [hx] at he;cases he
     |some y=>
      obtain⟨v,H1⟩:=y;rw [hx] at he;simp only at he;rw [zDd h hl.1 hx];obtain⟨T1,e1,e2⟩:=zfr h hl.1 v (fun T'=>match (zil P l r).f T' rc H1 with
       |some (TF,hs)=>some (TF,H1 :: hs)
       |none=>none)
      rw [e1] at he;simp only [putK_eq]
      cases hy:(zil P l r).f T1 rc H1 with
      |none=>rw [hy] at he;cases he
      |some z=>
       obtain⟨TF,hs1⟩:=z;rw [hy] at he;simp only [Option.some.injEq,Prod.mk.injEq] at he;obtain⟨rfl,rfl⟩:=he;obtain⟨tm',g1,g2⟩:=zf7 hal r hl.2 e2 hy;rw [g1];exact⟨tm',rfl,g2⟩
    |false=>
     rw [hw] at he;simp only [cond_false] at he ⊢;obtain⟨T1,e1,e2⟩:=zfr h hl.1 undef (fun T'=>match (zil P l r).f T' rc H with
       |some (TF,hs)=>some (TF,H :: hs)
       |none=>none)
     rw [e1] at he;simp only [putK_eq]
     cases hy:(zil P l r).f T1 rc H with
     |none=>rw [hy] at he;cases he
     |some z=>
      obtain⟨TF,hs1⟩:=z;rw [hy] at he;simp only [Option.some.injEq,Prod.mk.injEq] at he;obtain⟨rfl,rfl⟩:=he;obtain⟨tm',g1,g2⟩:=zf7 hal r hl.2 e2 hy;rw [g1];exact⟨tm',rfl,g2⟩
   |false=>
    rw [hk3] at he;simp only [cond_false] at he ⊢
    cases hw:(zhc l o).f T with
    |true=>
     rw [hw] at he;simp only [cond_true,zDy h hl.1] at he ⊢
     cases hx:zbi P o (aev tm) H with
     |none=>rw [hx] at he;cases he
     |some y=>
      obtain⟨nx,H1⟩:=y;rw [hx] at he
      cases nx<;>simp only at he<;>try (cases he;done)
      rename_i v;obtain⟨T1,e1,e2⟩:=zfr h hl.1 v (fun T'=>(zil P l r).f T' rc H);rw [e1] at he;simp only [putK_eq];exact zf7 hal r hl.2 e2 he
    |false=>
     rw [hw] at he;simp only [cond_false] at he ⊢;obtain⟨T1,e1,e2⟩:=zfr h hl.1 undef (fun T'=>(zil P l r).f T' rc H);rw [e1] at he;simp only [putK_eq];exact zf7 hal r hl.2 e2 he
def zEg (P:Program) (o:Oper):Fn1 TT (AH→Bool):=match o.dst with
 |none=>⟨fun T Hk=>match (exB P o).f (accT T) Hk with
  |some (.value _,_)=>true
  |_=>false⟩
 |some t=>⟨fun T Hk=>match (exB P o).f (accT T) Hk with
  |some (.value v,_)=>zob 3 v ((BT.getB 2 t).f T)
  |_=>false⟩
theorem zEf {n:Nat} {T:TT} (h:Rel n T tm) {o:Oper} (ho:okOp n o=true) (Hk:AH):(zEg P o).f T Hk=zCf P tm o Hk:=by
 have hle:=h.le;unfold zEg zCf
 cases hd:o.dst with
 |none=>
  simp only [zDy h ho]
  cases zbi P o (aev tm) Hk with
  |none=>rfl
  |some y=>obtain⟨nx,H1⟩:=y;cases nx<;>rfl
 |some t=>
  have hg:(BT.getB 2 t).f T=tm.getD t undef:=h.get t (Nat.lt_of_lt_of_le (zD9 ho hd) hle);simp only [zDy h ho,hg]
  cases zbi P o (aev tm) Hk with
  |none=>rfl
  |some y=>obtain⟨nx,H1⟩:=y;cases nx<;>rfl
def zm8 (P:Program) (o:Oper) (T:TT) (HS:List AH) (H1:AH):Nat→Nat→Bool
 |0,_=>true
 |n+1,k=>bif (zEg P o).f T (HS.getD k H1) then zm8 P o T HS H1 n (k+1) else false
theorem zpg {n:Nat} {T:TT} (h:Rel n T tm) {o:Oper} (ho:okOp n o=true) (HS:List AH) (H1:AH):∀ (m k:Nat),zm8 P o T HS H1 m k=zhs P tm o HS H1 m k
 |0,_=>rfl
 |m+1,k=>by
  unfold zm8 zhs;rw [zEf h ho,zpg h ho HS H1 m]
  cases zCf P tm o (HS.getD k H1)<;>rfl
def chkB (P:Program) (l:List Oper):List Oper→Nat→Fn1 TT (List AH→AH→Bool)
 | [],_=>⟨fun _ _ _=>true⟩
 |o :: r,i=>bif (kd o).beq 1 && !(loOf l i).beq (hiOf l i) then ⟨fun T HS H1=>bif (bif (zhc l o).f T then zm8 P o T HS H1 (hiOf l i - loOf l i+1) (loOf l i) else true) then (chkB P l r (i+1)).f T HS H1 else false⟩ else chkB P l r (i+1)
theorem zEe {n:Nat} {T:TT} (h:Rel n T tm) {l:List Oper} (hal:l.all (okOp n)=true) (HS:List AH) (H1:AH):∀ (r:List Oper),r.all (okOp n)=true→∀ (i:Nat),(chkB P l r i).f T HS H1=zkj (fun o i=>!((kd o).beq 1 && zb5 l tm o) || (loOf l i).beq (hiOf l i) || zhs P tm o HS H1 (hiOf l i - loOf l i+1) (loOf l i)) r i
 | [],_,_=>rfl
 |o :: r,hl,i=>by
  simp only [List.all_cons,Bool.and_eq_true] at hl;unfold chkB zkj;have ih:=zEe h hal HS H1 r hl.2 (i+1)
  cases hk:(kd o).beq 1 with
  |false=>simp only [Bool.false_and,cond_false,Bool.not_false,Bool.true_or,Bool.true_and];exact ih
  |true=>
   cases hq:(loOf l i).beq (hiOf l i) with
   |true=>simp only [Bool.not_true,Bool.and_false,cond_false,Bool.or_true,Bool.true_or,Bool.true_and];exact ih
   |false=>
    simp only [Bool.not_false,Bool.and_true,cond_true,Bool.true_and,Bool.or_false];rw [ih,zvd h hal o,zpg h hl.1]
    cases zb5 l tm o<;>cases zhs P tm o HS H1 (hiOf l i - loOf l i+1) (loOf l i)<;>simp
def drawB (P:Program) (n:Nat) (l:List Oper):Fn1 TT (RecF→AH→Option (TT×AH)):=bif zup l && l.all (okOp n) then ⟨fun T rc H=>match (zt0 P l).f T H with
  |some (T1,H1)=>match (zil P l l).f T1 rc H1 with
   |some (TF,hs)=>bif (chkB P l l 0).f TF (H1 :: hs) H1 then some (TF,zDp H1 hs) else none
   |none=>none
  |none=>none⟩
 else ⟨fun _ _ _=>none⟩
theorem zEb {n:Nat} {T T':TT} (h:Rel n T tm) {l:List Oper} {rc:RecF} (he:(drawB P n l).f T rc H=some (T',H')):∃ tm',zq7 P (zbo rc) l tm H=some (tm',H')∧Rel n T' tm':=by
 unfold drawB at he;unfold zq7
 cases hd:zup l with
 |false=>rw [hd] at he;cases he
 |true=>
  cases hal:l.all (okOp n) with
  |false=>rw [hd,hal] at he;cases he
  |true=>
   rw [hd,hal] at he;simp only [Bool.and_true,cond_true] at he ⊢
   cases h1:(zt0 P l).f T H with
   |none=>rw [h1] at he;cases he
   |some y=>
    obtain⟨T1,H1⟩:=y;rw [h1] at he;simp only at he;obtain⟨tm1,g1,g2⟩:=zol l hal h h1;rw [g1]
    cases h2:(zil P l l).f T1 rc H1 with
    |none=>rw [h2] at he;cases he
    |some z=>
     obtain⟨TF,hs⟩:=z;rw [h2] at he;simp only at he;obtain⟨tmF,g3,g4⟩:=zf7 hal l hal g2 h2;simp only [g3];have hc:(chkB P l l 0).f TF (H1 :: hs) H1=chk P l tmF (H1 :: hs) H1:=zEe g4 hal _ _ l hal 0;rw [hc] at he
     cases hck:chk P l tmF (H1 :: hs) H1 with
     |false=>rw [hck] at he;cases he
     |true=>
      rw [hck] at he;simp only [cond_true,Option.some.injEq,Prod.mk.injEq] at he;obtain⟨rfl,rfl⟩:=he;exact⟨tmF,rfl,g4⟩
end Go.Proofs.YtpbmmoneeoijaaaGreatDoor.Ev
namespace Go.Proofs.YtpbmmoneeoijaaaGreatDoor.Ev
open Go
variable {P:Program} {w0:Frm} {w:World} {μ μ':Mu} {H H':AH} {tm tm2:List Value} {a:Act}
theorem zwo {rc:Rec} {fr:zxq} (hfr:zEz P w0 fr) {g:FuncId} {fn:Func} {c:Code} {args:List Value} {j:Option Code} {fs:FS} {H H1 H2:AH} {v1:Value} (hf:P.funcs[g]? =some fn) (hb:fn.body=some c)
  (hsim:Sim P w0 none g ⟨args ++ List.replicate (fn.ntmps - args.length) undef,[],[.code c]⟩ H fs H1) (hend:zdm P rc none g fs H1=some (.inr j)) (hj:zok j=true) (hu:zul P fr fs.ds H1=some H2) (hres:zhp P fn fs.tm H2=some v1)
  (μ:Mu) (w:World) (args':Array Value) (hargs:All2 (RV μ) args args'.toList) (hr:R w0 μ H w) (kind:CallKind) (cs:List Frame):
  ∃ f v' w' μ',Steps P (lone (Frame.enter P g args' kind) cs w) (lone f cs w')∧f.mode=.returning∧f.defers=[]∧f.kind=kind∧f.fn=g∧(∃ fn,P.funcs[g]? =some fn∧(results fn f.tmps).run P w'=.ok v' w')∧
   R w0 μ' H2 w'∧Post μ H μ' H2∧RV μ' v1 v':=by
 obtain⟨b,hbd⟩:∃ b:Frame,b= { (default:Frame) with fn:=g,kind:=kind }:=⟨_,rfl⟩;have hbk:b.kind=kind:=by rw [hbd]
 have hbf:b.fn=g:=by rw [hbd]
 have hbr:b.roundOf=none:=by rw [hbd];rfl
 have henter:Frame.enter P g args' kind=b.atR { tmps:=args' ++ Array.replicate (fn.ntmps - args'.size) undef,defers:=[] } [.code c]:=by
  rw [hbd];simp [Frame.enter,Frame.atR,hf,hb];rfl
 have hlen:args.length=args'.size:=by simpa using hargs.length
 have hra:RA μ (args ++ List.replicate (fn.ntmps - args.length) undef) [] { tmps:=args' ++ Array.replicate (fn.ntmps - args'.size) undef,defers:=[] }:=by
  refine⟨?_,trivial⟩;show All2 (RV μ) _ (args' ++ Array.replicate (fn.ntmps - args'.size) undef).toList;rw [Array.toList_append,Array.toList_replicate,hlen];exact hargs.append (All2.replicate zii _)
 obtain⟨a1,w1,μ1,s1,g1,g2,g3⟩:=hsim μ _ w b hra hr hbr hbf cs;have hout:Steps P (lone (b.atR a1 fs.todo) cs w1) (lone { b.atR a1 fs.todo with mode:=.returning } cs w1):=by
  rcases zyr hend with ⟨e1,rfl⟩|⟨k,e1,rfl⟩|⟨id,k,e1,e2,rfl⟩|⟨l,k,e1,e2,rfl⟩
  ·rw [e1];exact .one (stepR_end hbr)
  ·rw [e1];exact .one (stepR_ret hbr)
  ·cases hj
  ·cases hj
 obtain⟨w2,μ2,s2,k1,k2⟩:=znt hfr fs.ds H1 hu μ1 w1 { b.atR a1 fs.todo with mode:=.returning } cs rfl g1.ds g2;obtain⟨v',r1,r2⟩:=zry (P:=P) (a:=a1) (g1.tm.ext k2.le) k1 hres;refine⟨{ { b.atR a1 fs.todo with mode:=.returning } with defers:=[] },v',w2,μ2,?_,rfl,rfl,hbk,hbf,⟨fn,hf,r1⟩,k1,g3.trans k2,r2⟩
 ·rw [henter]
  exact (s1.trans hout).trans s2
theorem zp3 {rc:Rec} {l:Nat} {f:FuncId} {tmps:List Value} {as body:Code} {j:Option Code} {fs:FS} {H1:AH} {L:Loop}
  (hsim:Sim P w0 (some l) f ⟨tmps,[],[.code as,.beginRound,.code body]⟩ H fs H1) (hend:zdm P rc (some l) f fs H1=some (.inr j)) (hl:H1.get l=some (.loop L)) {p:Pos} {tmps':Array Value} (hp:μ.pos l=some p) (ht:All2 (RV μ) tmps tmps'.toList) (hr:R w0 μ H w) (c:Frame) (cs:List Frame):
  ∃ v' w' μ',Steps P (lone (Frame.round p.block f tmps' as body .normal) (c :: cs) w) (lone (c.finish v') cs w')∧R w0 μ' (H1.put l (some (.loop { L with state:=if j.isNone then .ready else .done,pending:=j }))) w'∧Post μ H μ' (H1.put l (some (.loop { L with state:=if j.isNone then .ready else .done,pending:=j })))∧RV μ' (.bool j.isNone) v':=by
 obtain⟨b,hbd⟩:∃ b:Frame,b= { (default:Frame) with fn:=f,kind:=.normal,roundOf:=some p.block }:=⟨_,rfl⟩;have hbk:b.kind=.normal:=by rw [hbd]
 have hbf:b.fn=f:=by rw [hbd]
 have hbr:b.roundOf=some p.block:=by rw [hbd]
 have henter:Frame.round p.block f tmps' as body .normal=b.atR { tmps:=tmps',defers:=[] } [.code as,.beginRound,.code body]:=by
  rw [hbd];rfl
 obtain⟨a1,w1,μ1,s1,g1,g2,g3⟩:=hsim μ { tmps:=tmps',defers:=[] } w b ⟨ht,trivial⟩ hr ⟨p,hp,hbr⟩ hbf (c :: cs);obtain⟨L',m1,m2,m3,m4,m5⟩:=zou g2 hl (g3.le.pos _ _ hp) (st:=if j.isNone then .ready else .done) (pe:=j);have hrun:=run_endRound (P:=P) j m1;have hout:step P (lone (b.atR a1 fs.todo) (c :: cs) w1)=.next (lone (c.finish (.bool j.isNone)) cs (w1.putObj p.block (.loop { L' with state:=if j.isNone then .ready else .done,pending:=j }))):=by
  rcases zyr hend with ⟨e1,rfl⟩|⟨k,e1,rfl⟩|⟨id,k,e1,e2,rfl⟩|⟨q,k,e1,e2,rfl⟩
  ·rw [e1];exact stepR_round_end hbr hbk hrun
  ·rw [e1];exact stepR_round_ret hbr hbk hrun
  ·rw [e1];exact stepR_round_exit hbr hbk e2 hrun
  ·rw [e1];exact stepR_round_goto hbr hbk e2 hrun
 refine⟨.bool j.isNone,_,μ1,?_,m4,g3.trans m5,zg7.2 rfl⟩;rw [henter];exact s1.trans (.one hout)
abbrev RR:=Option (Option Code)×TT×List Deferred×List Item×AH
abbrev Kont:=TT→List Deferred→List Item→AH→Option RR
abbrev Run:=RecF→Option Nat→List Deferred→List Item→AH→Kont→Option RR
def noRun:Fn1 TT Run:=⟨fun _ _ _ _ _ _ _=>none⟩
def zte:Nat→Nat→Fn1 TT (List Value)
 |0,_=>⟨fun _=>[]⟩
 |m+1,i=>⟨fun T=>(BT.getB 2 i).f T :: (zte m (i+1)).f T⟩
theorem ztd {n:Nat} {T:TT} (h:Rel n T tm):∀ (m i:Nat),i+m=n→(zte m i).f T=tm.drop i
 |0,i,e=>by
  have:=h.len;rw [List.drop_eq_nil_of_le (by omega)];rfl
 |m+1,i,e=>by
  have h1:=h.len;have h2:=h.le;have hi:i < tm.length:=by omega
  show BT.get 2 T i :: (zte m (i+1)).f T=tm.drop i;rw [ztd h m (i+1) (by omega),h.get i (by omega),List.drop_eq_getElem_cons hi,List.getD_eq_getElem?_getD,List.getElem?_eq_getElem hi];rfl
def zjg (P:Program) (n:Nat) (rb:Bool) (fn:FuncId):Code→Fn1 TT Run
 | .ret=>⟨fun T _ _ ds _ H _=>some (some (some .ret),T,ds,[],H)⟩
 | .skip=>⟨fun T _ _ ds k H next=>next T ds k H⟩
 | .label _=>⟨fun T _ _ ds k H next=>next T ds k H⟩
 | .seq x y=>⟨fun T rc ro ds k H next=>(zjg P n rb fn x).f T rc ro ds (.code y :: k) H next⟩
 | .cond c x y=>bif okX n c then ⟨fun T rc ro ds k H next=>match (accB c).f T with
   |some (.bool b)=>bif b then (zjg P n rb fn x).f T rc ro ds k H next else (zjg P n rb fn y).f T rc ro ds k H next
   |_=>none⟩ else noRun
 | .block id x=>⟨fun T rc ro ds k H next=>(zjg P n rb fn x).f T rc ro ds (.inBlock id :: k) H next⟩
 | .loop x=>⟨fun T rc ro ds k H next=>(zjg P n rb fn x).f T rc ro ds (.inLoop x :: k) H next⟩
 | .scope x=>⟨fun T rc ro ds k H next=>(zjg P n rb fn x).f T rc ro ds (.inScope x :: k) H next⟩
 | .exit id=>⟨fun T _ _ ds k H next=>match exitTo id k with
  |some k'=>next T ds k' H
  |none=>some (some (some (.exit id)),T,ds,[],H)⟩
 | .goto l=>⟨fun T _ _ ds k H next=>match gotoIn l k with
  |some k'=>next T ds k' H
  |none=>some (some (some (.goto l)),T,ds,[],H)⟩
 | .rangeFunc g ps as body=>⟨fun T rc ro ds k H next=>zj6 ((zte n 0).f T) fun tm=>match zjc P (zbo rc) ro fn ⟨tm,ds,[]⟩ g ps as body k H with
  |some (.inl (fs',H'))=>next T fs'.ds fs'.todo H'
  |_=>none⟩
 | .region _ ops draw=>bif draw then ⟨fun T rc _ ds k H next=>match (drawB P n ops.toList).f T rc H with
   |some (T',H')=>next T' ds k H'
   |none=>none⟩
  else bif ops.toList.all (okOp n) then ⟨fun T rc _ ds k H next=>(opsB P n rb ops.toList ops.toList).f T rc ds H fun T' ds' H'=>next T' ds' k H'⟩ else noRun
 | .refuse _=>noRun
def itemB (P:Program) (n:Nat) (rb:Bool) (fn:FuncId):Item→Fn1 TT Run
 | .code c=>zjg P n rb fn c
 | .inBlock _=>⟨fun T _ _ ds k H next=>next T ds k H⟩
 | .inScope _=>⟨fun T _ _ ds k H next=>next T ds k H⟩
 | .inLoop x=>⟨fun T rc ro ds k H next=>(zjg P n rb fn x).f T rc ro ds (.inLoop x :: k) H next⟩
 | .beginRound=>⟨fun T _ ro ds k H next=>match ro with
  |some l=>match H.get l with
   |some (.loop L)=>match L.state with
    | .ready=>AH.putK H l (some (.loop { L with state:=.busy })) fun H'=>next T ds k H'
    |_=>none
   |_=>none
  |none=>none⟩
 |_=>noRun
def runF (P:Program) (n:Nat) (rb:Bool) (fn:FuncId) (rc:RecF) (ro:Option Nat) (stop:Kont):Nat→Kont
 |0,T,ds,todo,H=>stop T ds todo H
 |m+1,T,ds,todo,H=>match todo with
  | []=>some (some none,T,ds,[],H)
  |it :: k=>(itemB P n rb fn it).f T rc ro ds k H (runF P n rb fn rc ro stop m)
def zyi:Kont:=fun _ _ _ _=>none
def Good (P:Program) (w0:Frm) (n:Nat) (fn:FuncId) (rc:RecF) (ro:Option Nat) (x:RR) (tm:List Value) (ds:List Deferred) (todo:List Item) (H:AH):Prop:=
 ∃ tmE todoE,Sim P w0 ro fn ⟨tm,ds,todo⟩ H ⟨tmE,x.2.2.1,todoE⟩ x.2.2.2.2∧(∀ j,x.1=some j→zdm P (zbo rc) ro fn ⟨tmE,x.2.2.1,todoE⟩ x.2.2.2.2=some (.inr j))∧(x.1=none→todoE=x.2.2.2.1)∧Rel n x.2.1 tmE
section
variable {n:Nat} {fn:FuncId} {rc:RecF} {ro:Option Nat} {x:RR} {ds ds':List Deferred} {todo todo':List Item}
theorem Good.step (hrc:zgm P w0 (zbo rc)) (hm:P.follows .mixedOrders=true) (h:zdm P (zbo rc) ro fn ⟨tm,ds,todo⟩ H=some (.inl (⟨tm2,ds',todo'⟩,H'))) (hg:Good P w0 n fn rc ro x tm2 ds' todo' H'):Good P w0 n fn rc ro x tm ds todo H:=by
 obtain⟨tmE,todoE,g1,g2,g3,g4⟩:=hg;exact⟨tmE,todoE,Sim.trans (fun _ _ _ _ ha hr hb hfn cs=>zA1 hrc hm h ha hr hb hfn cs) g1,g2,g3,g4⟩
theorem Good.stop {T:TT} {j:Option Code} (h:zdm P (zbo rc) ro fn ⟨tm,ds,todo⟩ H=some (.inr j)) (hT:Rel n T tm):Good P w0 n fn rc ro (some j,T,ds,[],H) tm ds todo H:=
 ⟨tm,todo,fun μ a w _ ha hr _ _ _=>⟨a,w,μ,.refl P _,ha,hr,.refl _ _⟩,fun _ e=>(by cases e;exact h),fun e=>(by cases e),hT⟩
theorem zee (hrc:zgm P w0 (zbo rc)) (hm:P.follows .mixedOrders=true) {rb:Bool} (hrb:ro.isSome=rb) {next:Kont} (hn:∀ (T:TT) (tm:List Value) (ds:List Deferred) (k:List Item) (H:AH),Rel n T tm→next T ds k H=some x→Good P w0 n fn rc ro x tm ds k H):
  ∀ (c:Code) {T:TT} {tm:List Value} {ds:List Deferred} {k:List Item} {H:AH},Rel n T tm→(zjg P n rb fn c).f T rc ro ds k H next=some x→Good P w0 n fn rc ro x tm ds (.code c :: k) H
 | .ret,T,tm,ds,k,H,h,he=>by
  simp only [zjg,Option.some.injEq] at he;subst he;exact Good.stop rfl h
 | .skip,T,tm,ds,k,H,h,he=>Good.step hrc hm rfl (hn T tm ds k H h he)
 | .label _,T,tm,ds,k,H,h,he=>Good.step hrc hm rfl (hn T tm ds k H h he)
 | .seq c d,T,tm,ds,k,H,h,he=>Good.step hrc hm rfl (zee hrc hm hrb hn c h he)
 | .block id c,T,tm,ds,k,H,h,he=>Good.step hrc hm rfl (zee hrc hm hrb hn c h he)
 | .loop c,T,tm,ds,k,H,h,he=>Good.step hrc hm rfl (zee hrc hm hrb hn c h he)
 | .scope c,T,tm,ds,k,H,h,he=>Good.step hrc hm rfl (zee hrc hm hrb hn c h he)
 | .cond c d e,T,tm,ds,k,H,h,he=>by
  unfold zjg at he
  cases hx:okX n c with
  |false=>rw [hx] at he;cases he
  |true=>
   rw [hx] at he;simp only [cond_true,show (accB c).f T=aev tm c from zy7 h hx] at he
   cases hv:aev tm c with
   |none=>rw [hv] at he;cases he
   |some v=>
    rw [hv] at he
    cases v<;>simp only at he<;>try (cases he;done)
    rename_i b
    cases b with
    |true=>exact Good.step hrc hm (by unfold zdm;simp only [hv];rfl) (zee hrc hm hrb hn d h he)
    |false=>exact Good.step hrc hm (by unfold zdm;simp only [hv];rfl) (zee hrc hm hrb hn e h he)
 | .exit id,T,tm,ds,k,H,h,he=>by
  unfold zjg at he
  cases hx:exitTo id k with
  |some k'=>simp only [hx] at he;exact Good.step hrc hm (by unfold zdm;simp only [hx];rfl) (hn T tm ds k' H h he)
  |none=>
   simp only [hx,Option.some.injEq] at he;subst he;exact Good.stop (by unfold zdm;simp only [hx]) h
 | .goto l,T,tm,ds,k,H,h,he=>by
  unfold zjg at he
  cases hx:gotoIn l k with
  |some k'=>simp only [hx] at he;exact Good.step hrc hm (by unfold zdm;simp only [hx];rfl) (hn T tm ds k' H h he)
  |none=>
   simp only [hx,Option.some.injEq] at he;subst he;exact Good.stop (by unfold zdm;simp only [hx]) h
 | .rangeFunc g ps as body,T,tm,ds,k,H,h,he=>by
  unfold zjg at he;have ht:(zte n 0).f T=tm:=ztd h n 0 (by omega);simp only [zcd,ht] at he;have hev:zdm P (zbo rc) ro fn ⟨tm,ds,.code (.rangeFunc g ps as body) :: k⟩ H=zjc P (zbo rc) ro fn ⟨tm,ds,[]⟩ g ps as body k H:=rfl
  cases hx:zjc P (zbo rc) ro fn ⟨tm,ds,[]⟩ g ps as body k H with
  |none=>rw [hx] at he;cases he
  |some y=>
   rw [hx] at he
   cases y with
   |inr _=>cases he
   |inl z=>
    obtain⟨fs',H1⟩:=z;simp only at he;have htm:fs'.tm=tm:=by
     unfold zjc at hx
     split at hx
     ·cases hx
     ·split at hx
      ·rename_i f _ _ _
       generalize zej P f=bb at hx
       cases bb with
       |false=>cases hx
       |true=>
        simp only [cond_true] at hx
        split at hx
        ·split at hx
         ·rename_i L _
          cases hnb:zr9 L.state with
          |false=>rw [hnb] at hx;cases hx
          |true=>
           rw [hnb] at hx;simp only [cond_true,AH.putK_eq,Option.some.injEq,Sum.inl.injEq,Prod.mk.injEq] at hx;rw [←hx.1]
         ·cases hx
        ·cases hx
      ·cases hx
    obtain⟨tm1,ds1,todo1⟩:=fs';simp only at htm he;subst htm;exact Good.step hrc hm (hev.trans hx) (hn T tm1 ds1 todo1 H1 h he)
 | .region id ops draw,T,tm,ds,k,H,h,he=>by
  unfold zjg at he
  cases draw with
  |true=>
   simp only [cond_true] at he
   cases hx:(drawB P n ops.toList).f T rc H with
   |none=>rw [hx] at he;cases he
   |some y=>
    obtain⟨T1,H1⟩:=y;rw [hx] at he;simp only at he;obtain⟨tm1,g1,g2⟩:=zEb h hx;exact Good.step hrc hm (by unfold zdm;simp only [cond_true,g1]) (hn T1 tm1 ds k H1 g2 he)
  |false=>
   simp only [cond_false] at he
   cases hal:ops.toList.all (okOp n) with
   |false=>rw [hal] at he;cases he
   |true=>
    rw [hal] at he;simp only [cond_true] at he;obtain⟨T1,tm1,ds1,H1,g1,g2,g3⟩:=zm4 hal ops.toList h he;exact Good.step hrc hm (by unfold zdm;simp only [cond_false,hrb,g1]) (hn T1 tm1 ds1 k H1 g2 g3)
 | .refuse _,T,tm,ds,k,H,h,he=>by cases he
theorem zrs (hrc:zgm P w0 (zbo rc)) (hm:P.follows .mixedOrders=true) {rb:Bool} (hrb:ro.isSome=rb) {stop:Kont} (hstop:∀ (T:TT) (tm:List Value) (ds:List Deferred) (todo:List Item) (H:AH),Rel n T tm→stop T ds todo H=some x→Good P w0 n fn rc ro x tm ds todo H):∀ (m:Nat) (T:TT) (tm:List Value) (ds:List Deferred) (todo:List Item) (H:AH),Rel n T tm→runF P n rb fn rc ro stop m T ds todo H=some x→Good P w0 n fn rc ro x tm ds todo H
 |0,T,tm,ds,todo,H,h,he=>hstop T tm ds todo H h he
 |m+1,T,tm,ds,[],H,h,he=>by
  simp only [runF,Option.some.injEq] at he;subst he;exact Good.stop rfl h
 |m+1,T,tm,ds,it :: k,H,h,he=>by
  have ih:=zrs hrc hm hrb hstop m;simp only [runF] at he
  cases it<;>(try (cases he;done))
  case code c=>exact zee hrc hm hrb ih c h he
  case inBlock id=>exact Good.step hrc hm rfl (ih T tm ds k H h he)
  case inScope y=>exact Good.step hrc hm rfl (ih T tm ds k H h he)
  case inLoop y=>exact Good.step hrc hm rfl (zee hrc hm hrb ih y h he)
  case beginRound=>
   simp only [itemB] at he
   cases ro with
   |none=>cases he
   |some l=>
    simp only at he
    cases hl:H.get l with
    |none=>rw [hl] at he;cases he
    |some ob=>
     rw [hl] at he
     cases ob<;>simp only at he<;>try (cases he;done)
     rename_i L
     cases hs:L.state<;>rw [hs] at he<;>simp only at he<;>try (cases he;done)
     rw [AH.putK_eq] at he;exact Good.step hrc hm (by unfold zdm;simp only [hl,hs,AH.putK_eq];rfl) (ih T tm ds k _ h he)
end
def resB (P:Program):List ResultVar→Fn1 TT (AH→Option (List Value))
 | []=>⟨fun _ _=>some []⟩
 | .tmp t :: r=>⟨fun T H=>match (resB P r).f T H with
  |some vs=>some ((BT.getB 2 t).f T :: vs)
  |none=>none⟩
 | .cell y t :: r=>⟨fun T H=>match zj8 P t ((BT.getB 2 y).f T) H,(resB P r).f T H with
  |some v,some vs=>some (v :: vs)
  |_,_=>none⟩
def okR (n:Nat):ResultVar→Bool
 | .tmp t=>t.blt n
 | .cell y _=>y.blt n
theorem zvq {n:Nat} {T:TT} (h:Rel n T tm) (H:AH):∀ (r:List ResultVar),r.all (okR n)=true→(resB P r).f T H=zjb P tm H r
 | [],_=>rfl
 | .tmp t :: r,hr=>by
  simp only [List.all_cons,Bool.and_eq_true] at hr;have hle:=h.le;have ht:Nat.lt t n:=by simpa [okR,blt_eq] using hr.1
  have hg:(BT.getB 2 t).f T=tm.getD t undef:=h.get t (Nat.lt_of_lt_of_le ht hle);unfold resB zjb;simp only [zvq h H r hr.2,hg]
  cases zjb P tm H r<;>rfl
 | .cell y t :: r,hr=>by
  simp only [List.all_cons,Bool.and_eq_true] at hr;have hle:=h.le;have ht:Nat.lt y n:=by simpa [okR,blt_eq] using hr.1
  have hg:(BT.getB 2 y).f T=tm.getD y undef:=h.get y (Nat.lt_of_lt_of_le ht hle);unfold resB zjb;simp only [zvq h H r hr.2,hg]
  cases zj8 P t (tm.getD y undef) H<;>cases zjb P tm H r<;>rfl
def zyq (v:Value) (H:AH):Option (Value×AH):=match v with
 | .tuple cs=>zj6 cs.toList fun l=>some (.tuple ⟨l⟩,H)
 |v=>valK v fun v=>some (v,H)
theorem zow (v:Value) (H:AH):zyq v H=some (v,H):=by
 unfold zyq
 cases v<;>simp [zdw,zcd]
def fnF (P:Program) (rc:RecF) (fr:zxq) (fuel:Nat) (g:FuncId) (args:List Value) (H:AH):Option (Value×AH):=match P.funcs[g]? with
 |none=>none
 |some fn=>match fn.body with
  |none=>none
  |some c=>bif fn.ntmps.ble 256 && fn.results.toList.all (okR fn.ntmps) && args.length.ble fn.ntmps then setAK args 0 (BT.full undef 2) fun T=>match runF P fn.ntmps false g rc none zyi fuel T [] [.code c] H with
   |some (some j,T',ds,_,H1)=>bif zok j then match zul P fr ds H1 with
    |some H2=>match (resB P fn.results.toList).f T' H2 with
     |some [v]=>zyq v H2
     |some vs=>zyq (.tuple ⟨vs⟩) H2
     |none=>none
    |none=>none
    else none
   |_=>none
   else none
def zts (P:Program) (rc:RecF) (fuel:Nat) (l:Nat) (f:FuncId) (n:Nat) (T:TT) (as body:Code) (H:AH):Option (Value×AH):=match runF P n true f rc (some l) zyi fuel T [] [.code as,.beginRound,.code body] H with
 |some (some j,_,_,_,H1)=>match H1.get l with
  |some (.loop L)=>AH.putK H1 l (some (.loop { L with state:=if j.isNone then .ready else .done,pending:=j })) fun H2=>some (.bool j.isNone,H2)
  |_=>none
 |_=>none
theorem zDu {rc:RecF} {fr:zxq} (hrc:zgm P w0 (zbo rc)) (hfr:zEz P w0 fr) (hm:P.follows .mixedOrders=true) (fuel:Nat):zEz P w0 (fnF P rc fr fuel):=by
 intro g args H v H' h μ w args' hargs hr kind cs;unfold fnF at h
 cases hf:P.funcs[g]? with
 |none=>rw [hf] at h;cases h
 |some fn=>
  rw [hf] at h;simp only at h
  cases hb:fn.body with
  |none=>rw [hb] at h;cases h
  |some c=>
   rw [hb] at h;simp only at h
   cases hok:(fn.ntmps.ble 256 && fn.results.toList.all (okR fn.ntmps) && args.length.ble fn.ntmps) with
   |false=>rw [hok] at h;cases h
   |true=>
    rw [hok] at h;simp only [Bool.and_eq_true] at hok;obtain⟨⟨k1,k2⟩,k3⟩:=hok;have k1:=Nat.le_of_ble_eq_true k1;have k3:=Nat.le_of_ble_eq_true k3;simp only [cond_true,zx3] at h;have hrel:=Rel.start k3 k1
    cases hi:runF P fn.ntmps false g rc none zyi fuel (zhg args 0 (BT.full undef 2)) [] [.code c] H with
    |none=>rw [hi] at h;cases h
    |some y=>
     obtain⟨j,T',ds,todo',H1⟩:=y;rw [hi] at h
     cases j with
     |none=>cases h
     |some j=>
     simp only at h
     cases hj:zok j with
     |false=>rw [hj] at h;cases h
     |true=>
      rw [hj] at h;simp only [cond_true] at h
      cases hu:zul P fr ds H1 with
      |none=>rw [hu] at h;cases h
      |some H2=>
       rw [hu] at h;simp only at h;obtain⟨tmE,todoE,s1,s2,_,s3⟩:=zrs (n:=fn.ntmps) hrc hm (rb:=false) rfl (fun _ _ _ _ _ _ e=>by cases e) fuel _ _ _ _ _ hrel hi;have hrs:=zvq (P:=P) s3 H2 fn.results.toList k2;have hres:∃ v1,zhp P fn tmE H2=some v1∧v1=v∧H2=H':=by
        unfold zhp;rw [←hrs]
        cases hvs:(resB P fn.results.toList).f T' H2 with
        |none=>rw [hvs] at h;cases h
        |some vs=>
         rw [hvs] at h
         cases vs with
         |nil=>simp only [zow,Option.some.injEq,Prod.mk.injEq] at h ⊢;exact⟨_,rfl,h.1,h.2⟩
         |cons v1 r=>cases r with
          |nil=>simp only [zow,Option.some.injEq,Prod.mk.injEq] at h ⊢;exact⟨_,rfl,h.1,h.2⟩
          |cons v2 r=>simp only [zow,Option.some.injEq,Prod.mk.injEq] at h ⊢;exact⟨_,rfl,h.1,h.2⟩
       obtain⟨v1,hres,rfl,rfl⟩:=hres;have fin:=zwo hfr hf hb s1 (s2 j rfl) hj hu hres μ w args' hargs hr kind cs;rw [hf] at fin;exact fin
theorem ztr {rc:RecF} (hrc:zgm P w0 (zbo rc)) (hm:P.follows .mixedOrders=true) {fuel:Nat} {l:Nat} {f:FuncId} {n:Nat} {T:TT} {tmps:List Value} (hrel:Rel n T tmps) {as body:Code} {v:Value} (h:zts P rc fuel l f n T as body H=some (v,H')) {p:Pos} {tmps':Array Value} (hp:μ.pos l=some p) (ht:All2 (RV μ) tmps tmps'.toList) (hr:R w0 μ H w) (c:Frame) (cs:List Frame):
  ∃ v' w' μ',Steps P (lone (Frame.round p.block f tmps' as body .normal) (c :: cs) w) (lone (c.finish v') cs w')∧R w0 μ' H' w'∧Post μ H μ' H'∧RV μ' v v':=by
 unfold zts at h
 cases hi:runF P n true f rc (some l) zyi fuel T [] [.code as,.beginRound,.code body] H with
 |none=>rw [hi] at h;cases h
 |some y=>
  obtain⟨j,T',ds,todo',H1⟩:=y;rw [hi] at h
  cases j with
  |none=>cases h
  |some j=>
  simp only at h
  cases hl:H1.get l with
  |none=>rw [hl] at h;cases h
  |some o=>
   rw [hl] at h
   cases o<;>(try simp only at h)<;>try (cases h;done)
   rename_i L;simp only [AH.putK_eq,Option.some.injEq,Prod.mk.injEq] at h;obtain⟨rfl,rfl⟩:=h;obtain⟨tmE,todoE,s1,s2,_,s3⟩:=zrs (n:=n) hrc hm (rb:=true) rfl (fun _ _ _ _ _ _ e=>by cases e) fuel _ _ _ _ _ hrel hi;exact zp3 s1 (s2 j rfl) hl hp ht hr c cs
def recF (P:Program) (kn:Known) (fuel:Nat):Nat→RecF×zxq
 |0=>(⟨fun _ _ _=>none,fun _ _ _ _ _ _ _=>none⟩,fun _ _ _=>none)
 |n+1=>(⟨fun g args H=>match kn g args H with
   |some r=>some r
   |none=>fnF P (recF P kn fuel n).1 (recF P kn fuel n).2 fuel g args H,zts P (recF P kn fuel n).1 fuel⟩,fnF P (recF P kn fuel n).1 (recF P kn fuel n).2 fuel)
theorem recF_sound {kn:Known} (hk:SndKnown P w0 kn) (hm:P.follows .mixedOrders=true) (fuel:Nat):∀ (n:Nat),zgm P w0 (zbo (recF P kn fuel n).1)∧zEz P w0 (recF P kn fuel n).2
 |0=>by
  refine⟨fun nx H v H' h=>?_,fun g args H v H' h=>(by cases h)⟩;unfold zbo recF at h
  cases nx<;>simp only at h<;>try (cases h;done)
  rename_i tmps _ _
  cases hq:tmps.toList.length.ble 256<;>rw [hq] at h<;>cases h
 |n+1=>by
  obtain⟨ih1,ih2⟩:=recF_sound hk hm fuel n;have hfn:=zDu ih1 ih2 hm fuel;refine⟨?_,hfn⟩;intro nx H v H' h μ w nx' hn hr c cs;unfold zbo at h
  cases nx<;>simp only at h<;>try (cases h;done)
  ·rename_i g args
   obtain⟨args',rfl,hargs⟩:=hn;simp only [recF] at h
   cases hkn:kn g args.toList H with
   |some r=>
    rw [hkn] at h;obtain⟨v1,H1⟩:=r;simp only [Option.some.injEq,Prod.mk.injEq] at h;obtain⟨rfl,rfl⟩:=h;obtain⟨v',w',μ',s,k1,k2,k3⟩:=hk g args.toList H _ _ hkn μ w args' hargs hr c cs;exact⟨_,v',w',μ',rfl,s,k1,k2,k3⟩
   |none=>
    rw [hkn] at h;obtain⟨f,v',w',μ',s,m1,m2,m3,m4,m5,m6,m7,m8⟩:=hfn g args.toList H v H' h μ w args' hargs hr .normal (c :: cs);exact⟨_,v',w',μ',rfl,zho s m1 m2 m3 m4 m5,m6,m7,m8⟩
  ·rename_i l f tmps as body
   obtain⟨p,tmps',hp,rfl,ht⟩:=hn
   cases hle:tmps.toList.length.ble 256 with
   |false=>rw [hle] at h;cases h
   |true=>
    rw [hle] at h;simp only [cond_true,recF] at h;obtain⟨v',w',μ',s,k1,k2,k3⟩:=ztr ih1 hm (Rel.canon (Nat.le_of_ble_eq_true hle)) h hp ht hr c cs;exact⟨_,v',w',μ',rfl,s,k1,k2,k3⟩
theorem zqc {g:FuncId} {kn:Known} {fuel n:Nat} {v:Value} (hm:P.follows .mixedOrders=true) (h:((recF P kn fuel n).2 g [] AH.empty).map Prod.fst=some v) (hc:closedB 3 v=true) (w:World) (hk:SndKnown P (Frm.of w) kn):
  Calls P g #[] w fun e w'=>e=.returned v∧RowKit.Below w.heap.size w w':=by
 intro cs
 cases hr:(recF P kn fuel n).2 g [] AH.empty with
 |none=>rw [hr] at h;cases h
 |some y=>
  obtain⟨v1,H1⟩:=y;rw [hr] at h;simp only [Option.map_some,Option.some.injEq] at h;subst h;obtain⟨f,v',w',μ',s,m1,m2,m3,m4,⟨fn,m5,m6⟩,m7,m8,m9⟩:=(recF_sound hk hm fuel n).2 g [] AH.empty v1 H1 hr Mu.empty w #[] trivial (R.empty w) .normal cs;have hv:=(closed_iff 3 v1 v' hc).1 m9;subst hv;exact⟨.returned v',w',f,⟨rfl,m7.same.os,m7.same.tape,m7.same.output,m7.size,m7.kept⟩,s,m4,m1,m2,m3,fn,by rw [m4];exact m5,m6⟩
end Go.Proofs.YtpbmmoneeoijaaaGreatDoor.Ev
namespace Go.Proofs.YtpbmmoneeoijaaaGreatDoor.Ev
open Go
variable {P:Program} {w0:Frm} {w:World} {μ μ':Mu} {H H':AH}
theorem R.grow (h:R w0 μ H w) {w':World} (hs:w.heap.size≤w'.heap.size) (hk:∀ b,b < w.heap.size→w'.heap[b]? =w.heap[b]?) (hsm:Same w w'):R w0 μ H w':=
 ⟨h.ok,h.fresh,h.live,fun n o p h1 h2=>by
  obtain⟨r,h3,h4⟩:=h.blk n o p h1 h2;exact⟨r,by rw [hk _ (Array.getElem?_eq_some_iff.1 h3).1];exact h3,h4⟩,h.inj,h.old,
  fun b hb=>by rw [hk b (Nat.lt_of_lt_of_le (w0.lt _ hb) h.size)];exact h.kept b hb,Nat.le_trans h.size hs,h.same.trans hsm⟩
theorem zpe:∀ (l m:List Value),l.all (closedB 3)=true→All2 (RV μ) l m→m=l
 | [],[],_,_=>rfl
 | [],_ :: _,_,h=>h.elim
 |_ :: _,[],_,h=>h.elim
 |x :: xs,y :: ys,hc,h=>by
  simp only [List.all_cons,Bool.and_eq_true] at hc;rw [(closed_iff 3 x y hc.1).1 h.1,zpe xs ys hc.2 h.2]
def SndAt (P:Program) (w0:Frm) (g:FuncId) (args:List Value) (H:AH) (v:Value) (H':AH):Prop:=
 ∀ (μ:Mu) (w:World) (args':Array Value),All2 (RV μ) args args'.toList→R w0 μ H w→∀ (c:Frame) (cs:List Frame),
  ∃ v' w' μ',Steps P (lone (Frame.enter P g args' .normal) (c :: cs) w) (lone (c.finish v') cs w')∧R w0 μ' H' w'∧Post μ H μ' H'∧RV μ' v v'
theorem zls {g:FuncId} {args:List Value} {v:Value} (hargs:args.all (closedB 3)=true) (hv:closedB 3 v=true)
  (h:∀ w:World,w0.base.heap.size≤w.heap.size→(∀ b,w0.K b→w.heap[b]? =w0.base.heap[b]?)→Calls P g ⟨args⟩ w fun e w'=>e=.returned v∧RowKit.Below w.heap.size w w') (H:AH):SndAt P w0 g args H v H:=by
 intro μ w args' ha hr c cs;have ha':args'=⟨args⟩:=by
  have:=zpe _ _ hargs ha
  cases args';simp only at this;rw [this]
 subst ha';obtain⟨e,w',f,⟨rfl,h1⟩,s,m4,m1,m2,m3,fn,m5,m6⟩:=h w hr.size hr.kept (c :: cs);exact⟨v,w',μ,zho s m1 m2 m3 m4 ⟨fn,by rw [←m4];exact m5,m6⟩,hr.grow h1.size h1.block ⟨h1.os,h1.tape,h1.output⟩,.refl _ _,(closed_iff 3 v v hv).2 rfl⟩
end Go.Proofs.YtpbmmoneeoijaaaGreatDoor.Ev
