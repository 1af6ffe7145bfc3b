/-
  A part of the proof: EvOp2 EvExec.
-/
import Derived.Test.YtpbmmoneeoijaaaGreatDoorP06
import Derived.Laws.MakeOwn
import Derived.Laws.BytesString
import Derived.Laws.Slices
namespace Go.Proofs.YtpbmmoneeoijaaaGreatDoor.Ev
open Go
variable {P:Program} {w0:Frm} {w:World} {μ μ':Mu} {H H':AH} {tm:List Value} {a:Act}
def evLo (tm:Acc) (x:Option Operand) (d:Nat):Option Nat:=match x with
 |none=>some d
 |some x=>match tm x with
  |some (.int _ (.ofNat n))=>some n
  |_=>none
theorem zig (ht:RT μ tm a) {lo hi:Option Operand} {b:Bool} {len cap l h:Nat} (hl:evLo (aev tm) lo 0=some l) (hh:evLo (aev tm) hi len=some h) (h1:l≤h) (h2:h≤cap) (w:World):
  (Instr.sliceBounds b len cap (lo.map a.eval) (hi.map a.eval) none).run P w=.ok (l,h,cap) w:=by
 have hiE:hi=none∧h=len∨∃ x k,hi=some x∧a.eval x=.int k (h:Int):=by
  cases hi with
  |none=>left;simp only [evLo,Option.some.injEq] at hh;exact⟨rfl,hh.symm⟩
  |some x=>
   right;unfold evLo at hh
   cases hx:aev tm x with
   |none=>simp [hx] at hh
   |some v=>
    have hv:=zaf ht hx;simp only [hx] at hh
    cases v<;>try (cases hh;done)
    rename_i k n
    cases n with
    |negSucc _=>cases hh
    |ofNat n=>
     simp only [Option.some.injEq] at hh;subst hh;exact⟨x,k,rfl,zhz.1 hv⟩
 have loE:lo=none∧l=0∨∃ x k,lo=some x∧a.eval x=.int k (l:Int):=by
  cases lo with
  |none=>left;simp only [evLo,Option.some.injEq] at hl;exact⟨rfl,hl.symm⟩
  |some x=>
   right;unfold evLo at hl
   cases hx:aev tm x with
   |none=>simp [hx] at hl
   |some v=>
    have hv:=zaf ht hx;simp only [hx] at hl
    cases v<;>try (cases hl;done)
    rename_i k n
    cases n with
    |negSucc _=>cases hl
    |ofNat n=>
     simp only [Option.some.injEq] at hl;subst hl;exact⟨x,k,rfl,zhz.1 hv⟩
 have bnd:∀ (k:IntKind) (x y:Nat) (code:BoundsCode),x≤y→(Instr.sliceBound (.int k (x:Int)) y code).run P w=.ok x w:=fun k x y code hxy=>by
  rw [run_sliceBound w k x y code (Int.natCast_nonneg x) (by omega)];simp
 unfold Instr.sliceBounds;rcases hiE with ⟨rfl,rfl⟩|⟨x,k,rfl,hx⟩<;>rcases loE with ⟨rfl,rfl⟩|⟨x2,k2,rfl,hx2⟩
 ·simp
 ·simp [hx2,bnd k2 l h _ h1]
 ·simp [hx,bnd k h cap _ h2]
 ·simp [hx,hx2,bnd k h cap _ h2,bnd k2 l h _ h1]
def zk9 (P:Program) (t:TypeId) (x:Operand) (lo hi mx:Option Operand) (tm:Acc) (H:AH):Option (Next×AH):=match mx with
 |some _=>none
 |none=>match tm x,P.underlying t with
  |some (.pointer (some q)),some (.array n e)=>match lo,hi,P.info? e,zc2 H q with
   |none,none,some ie,some (l,_)=>bif (q.off+n * ie.size).ble l.length && (1:Nat).ble n then ret (.slice (some q) n ie.size) H else none
   |_,_,_,_=>none
  |some (.string s),some .string=>match evLo tm lo 0,evLo tm hi s.data.toList.length with
   |some l,some h=>bif l.ble h && h.ble s.data.toList.length then zuw ((s.data.toList.drop l).take (h - l)) fun b=>some (.value (.string ⟨⟨b⟩⟩),H) else none
   |_,_=>none
  |some (.slice none sl sc),some (.slice e)=>match evLo tm lo 0,evLo tm hi 0,P.info? e with
   |some l,some h,some _=>bif l.beq 0 && h.beq 0 && sl.beq 0 && sc.beq 0 then some (.value (.slice none 0 0),H) else none
   |_,_,_=>none
  |some (.slice (some q) len es),some (.slice e)=>match evLo tm lo 0,evLo tm hi len,P.info? e,q.spot with
   |some l,some h,some ie,none=>bif l.ble h && h.ble len && es.beq ie.size then ret (.slice (some ⟨q.block,q.off+l * es,none⟩) (h - l) es) H else none
   |_,_,_,_=>none
  |_,_=>none
theorem zuk (s:ByteArray) (l h:Nat):s.extract l h=⟨⟨(s.data.toList.drop l).take (h - l)⟩⟩:=by
 apply ByteArray.ext;rw [ByteArray.data_extract];apply Array.ext';rw [Array.toList_extract,List.extract_eq_take_drop]
theorem zwq {t:TypeId} {x:Operand} {lo hi mx:Option Operand} {nx:Next} (h:zk9 P t x lo hi mx (aev tm) H=some (nx,H')):
  Snd P w0 (fun ρ=>do pure (.value (←Instr.sliceAt t (ρ x) (lo.map ρ) (hi.map ρ) (mx.map ρ)))) tm H nx H':=by
 unfold zk9 at h
 cases mx with
 |some _=>cases h
 |none=>
  simp only at h
  cases hx:aev tm x with
  |none=>rw [hx] at h;cases h
  |some v=>
   rw [hx] at h
   cases hu:P.underlying t with
   |none=>rw [hu] at h;cases v<;>first|cases h|(rename_i p;cases p<;>cases h)|(rename_i p _ _;cases p<;>cases h)
   |some d=>
    rw [hu] at h
    cases v<;>try (cases h;done)
    ·
     rename_i s
     cases d<;>try (cases h;done)
     simp only at h
     cases hl:evLo (aev tm) lo 0 with
     |none=>rw [hl] at h;cases h
     |some l=>
      cases hh:evLo (aev tm) hi s.data.toList.length with
      |none=>rw [hl,hh] at h;cases h
      |some hn=>
       rw [hl,hh] at h;simp only at h
       cases hb:(l.ble hn && hn.ble s.data.toList.length) with
       |false=>rw [hb] at h;cases h
       |true=>
        rw [hb] at h;simp only [cond_true,zhu,Option.some.injEq,Prod.mk.injEq] at h;obtain⟨rfl,rfl⟩:=h;simp only [Bool.and_eq_true] at hb;have b1:=Nat.le_of_ble_eq_true hb.1;have b2:=Nat.le_of_ble_eq_true hb.2;refine Snd.of_value fun μ w a ht hr=>⟨.string ⟨⟨(s.data.toList.drop l).take (hn - l)⟩⟩,?_,zdp.2 rfl⟩;have e1:=zdp.1 (zaf ht hx);have hbr:=zig (P:=P) (b:=false) ht hl hh b1 b2 w;have hsz:s.data.toList.length=s.size:=rfl;rw [hsz] at hbr;simp only [Instr.sliceAt,Instr.slice,e1,Sem.run_bind,run_underlying hu,Result.andThen_ok,Option.map_none,Option.isSome_none,Bool.false_eq_true,if_false,hbr,Sem.run_pure,zuk]
    ·
     rename_i q
     cases q with
     |none=>cases d<;>cases h
     |some q=>
      cases d<;>try (cases h;done)
      rename_i n e;simp only at h
      cases lo with
      |some _=>cases h
      |none=>
       cases hi with
       |some _=>cases h
       |none=>
        cases hie:P.info? e with
        |none=>rw [hie] at h;cases h
        |some ie=>
         cases hc:zc2 H q with
         |none=>rw [hie,hc] at h;cases h
         |some le=>
          obtain⟨l,e2⟩:=le;rw [hie,hc] at h;simp only at h
          cases hb:((q.off+n * ie.size).ble l.length && (1:Nat).ble n) with
          |false=>rw [hb] at h;cases h
          |true=>
           rw [hb] at h;simp only [cond_true] at h;obtain⟨rfl,rfl⟩:=ze2 h;simp only [Bool.and_eq_true] at hb;have b1:=Nat.le_of_ble_eq_true hb.1;have b2:=Nat.le_of_ble_eq_true hb.2;refine Snd.of_value fun μ w a ht hr=>?_;obtain⟨y,e1,ha⟩:=zep.1 (zaf ht hx);obtain⟨p,c',e',f,h1,h2,h3,h4,h5,h6,h7⟩:=zic hr hc ha;refine⟨.slice (some y) n n,?_,zb4.2 ⟨y,n,rfl,Nat.le_refl _,ha.1,.inr ⟨p,h2,.inr ⟨h3,by omega⟩⟩⟩⟩;have hbr:=zig (P:=P) (b:=false) (lo:=none) (hi:=none) (len:=n) (cap:=n) ht rfl rfl (Nat.zero_le _) (Nat.le_refl _) w;have hsz:(sizeOf e).run P w=.ok ie.size w:=by simp [sizeOf,typeInfo,hie]
           have hne:¬ n=0:=by omega
           simp only [Option.map_none] at hbr;simp [Instr.sliceAt,e1,run_underlying hu,Instr.sureAddr,hbr,hsz,hne,Addr.add]
    ·
     rename_i q len es
     cases q with
     |none=>
      cases d<;>try (cases h;done)
      rename_i e;simp only at h
      cases hl:evLo (aev tm) lo 0 with
      |none=>rw [hl] at h;cases h
      |some l=>
       cases hh:evLo (aev tm) hi 0 with
       |none=>rw [hl,hh] at h;cases h
       |some hn=>
        cases hie:P.info? e with
        |none=>rw [hl,hh,hie] at h;cases h
        |some ie=>
         rw [hl,hh,hie] at h;simp only at h
         cases hb:(l.beq 0 && hn.beq 0 && len.beq 0 && es.beq 0) with
         |false=>rw [hb] at h;cases h
         |true=>
          rw [hb] at h;simp only [cond_true,Option.some.injEq,Prod.mk.injEq] at h;obtain⟨rfl,rfl⟩:=h;simp only [Bool.and_eq_true] at hb;obtain rfl:=Nat.eq_of_beq_eq_true hb.1.1.1;obtain rfl:=Nat.eq_of_beq_eq_true hb.1.1.2;obtain rfl:=Nat.eq_of_beq_eq_true hb.1.2;obtain rfl:=Nat.eq_of_beq_eq_true hb.2;refine Snd.of_value fun μ w a ht hr=>⟨.slice none 0 0,?_,zf3.2 ⟨rfl,rfl⟩⟩;have e1:=(zf3.1 (zaf ht hx)).2;have hbr:=zig (P:=P) (b:=true) (len:=0) (cap:=0) ht hl hh (Nat.le_refl _) (Nat.le_refl _) w;have hsz:(sizeOf e).run P w=.ok ie.size w:=by simp [sizeOf,typeInfo,hie]
          simp [Instr.sliceAt,Instr.slice,e1,run_underlying hu,hbr,hsz]
     |some q=>
      cases d<;>try (cases h;done)
      rename_i e;simp only at h
      cases hl:evLo (aev tm) lo 0 with
      |none=>rw [hl] at h;cases h
      |some l=>
       cases hh:evLo (aev tm) hi len with
       |none=>rw [hl,hh] at h;cases h
       |some hn=>
        cases hie:P.info? e with
        |none=>rw [hl,hh,hie] at h;cases h
        |some ie=>
         cases hq:q.spot with
         |some _=>rw [hl,hh,hie,hq] at h;cases h
         |none=>
          rw [hl,hh,hie,hq] at h;simp only at h
          cases hb:(l.ble hn && hn.ble len && es.beq ie.size) with
          |false=>rw [hb] at h;cases h
          |true=>
           rw [hb] at h;simp only [cond_true] at h;obtain⟨rfl,rfl⟩:=ze2 h;simp only [Bool.and_eq_true] at hb;have b1:=Nat.le_of_ble_eq_true hb.1.1;have b2:=Nat.le_of_ble_eq_true hb.1.2;obtain rfl:=Nat.eq_of_beq_eq_true hb.2;refine Snd.of_value fun μ w a ht hr=>?_;obtain⟨y,rc,e1,hle,e2⟩:=zb4.1 (zaf ht hx);have hbr:=zig (P:=P) (b:=true) (cap:=rc) ht hl hh b1 (by omega) w;have hsz:(sizeOf e).run P w=.ok ie.size w:=by simp [sizeOf,typeInfo,hie]
           refine⟨.slice (some (if rc=l then y else y.add (l * ie.size))) (hn - l) (rc - l),?_,zb4.2 ⟨_,rc - l,rfl,by omega,rfl,e2.2.imp id fun ⟨p,hp,hy⟩=>⟨p,hp,?_⟩⟩⟩
           ·simp only [Instr.sliceAt,Instr.slice,e1,Sem.run_bind,run_underlying hu,Result.andThen_ok,Option.map_none,hbr,hsz,Sem.run_pure,Option.map_some]
            by_cases hrl:rc=l<;>simp [hrl]
           ·by_cases hrl:rc=l
            ·left;omega
            ·right
             obtain⟨hy,hrm⟩:=hy.resolve_left (by omega);subst hy;rw [if_neg hrl,Addr.add_mid];refine⟨by simp only [Nat.add_assoc],?_⟩;have e3:l * ie.size+(rc - l) * ie.size=rc * ie.size:=by rw [←Nat.add_mul];congr 1;omega
             simp only;omega
def zDz (z:Value) (e:TypeId) (H:AH) (k:Nat→AH→Option (Next×AH)):Option (Next×AH):=
 bif zjr H.next then natK H.next fun n=>natK (H.next+1) fun n1=>BT.putK lv H.t n (some (.pending ⟨[zca z 3]⟩ e)) fun t=>k n ⟨n1,t⟩ else none
theorem zwp {z:Value} {e:TypeId} {k:Nat→AH→Option (Next×AH)} {r:Next×AH} (h:zDz z e H k=some r):H.next < 2 ^ depth∧k H.next (H.new (.pending ⟨[zca z 3]⟩ e))=some r:=by
 unfold zDz at h
 cases hs:zjr H.next with
 |false=>rw [hs] at h;cases h
 |true=>
  rw [hs] at h;simp only [cond_true,zco,BT.putK_eq] at h;exact⟨zh4 hs,h⟩
theorem tree_new (hr:R w0 μ H w) (hn:H.next < 2 ^ depth) {z:Value} {c':Array Value} (h:All2 (RV μ) (List.replicate 4096 z) c'.toList) (e e':TypeId):
  R w0 (μ.add H.next ⟨w.heap.size,0,c'.size⟩) (H.new (.pending ⟨[zca z 3]⟩ e)) (w.alloc (.cells c' e' (0,0)))∧Post μ H (μ.add H.next ⟨w.heap.size,0,c'.size⟩) (H.new (.pending ⟨[zca z 3]⟩ e))∧
   At (μ.add H.next ⟨w.heap.size,0,c'.size⟩) ⟨H.next,0,none⟩ ⟨w.heap.size,0,none⟩:=by
 have hp:=hr.new_post hn (o:=.pending ⟨[zca z 3]⟩ e) (p:=⟨w.heap.size,0,c'.size⟩);obtain⟨f1,f2⟩:=zqz z 3;have f3:zek 3 (zca z 3)=List.replicate 4096 z:=f2;have hl:=h.length;simp only [List.length_replicate,Array.length_toList] at hl;refine⟨hr.new hn rfl ⟨_,rfl,f1,c',e',rfl,rfl,by rw [f3,List.length_replicate];show 0+4096≤c'.size;omega,fun i x hx=>?_⟩,hp,rfl,.inr ⟨_,Mu.add_pos,by simp⟩⟩;rw [f3] at hx;obtain⟨v,h1,h2⟩:=h.get hx;exact⟨v,by simpa using h1,h2.ext hp.le⟩
def zgz (P:Program) (t:TypeId) (l c:Operand) (tm:Acc) (H:AH):Option (Next×AH):=match tm l,tm c,P.underlying t with
 |some (.int _ (.ofNat n)),some (.int _ (.ofNat m)),some (.slice e)=>match P.info? e with
  |none=>none
  |some i=>match i.zero with
   |none=>none
   |some z=>bif n.beq m && n.ble (2 ^ 20) && (i.bytes * n).ble (2 ^ 40) && i.size.beq 1 && closedB 3 z && z.oneCell' then
     bif n.beq 4096 then zDz z e H fun nm H'=>some (.value (.slice (some ⟨nm,0,none⟩) 4096 1),H')
     else natK n fun n=>zum (List.replicate n z) e H fun nm H'=>some (.value (.slice (some ⟨nm,0,none⟩) n 1),H') else none
 |_,_,_=>none
theorem made_one (z:Value) (hz:z.oneCell'=true) (n:Nat):(madeCells z.cells n).toList=List.replicate n z:=by
 have hc:z.cells=#[z]:=by cases z<;>first|rfl|cases hz
 unfold madeCells;rw [hc];apply List.ext_getElem?;intro i;simp only [Array.toList_map,Array.toList_range,List.getElem?_map];by_cases hi:i < n
 ·rw [List.getElem?_range hi,List.getElem?_replicate_of_lt hi]
  simp [Nat.mod_one]
 ·rw [List.getElem?_eq_none (by simpa using hi),List.getElem?_eq_none (by simpa using hi)];rfl
theorem zo3 {t:TypeId} {l c:Operand} {nx:Next} (h:zgz P t l c (aev tm) H=some (nx,H')):Snd P w0 (fun ρ=>do pure (.value (←Instr.makeSlice t (ρ l) (ρ c)))) tm H nx H':=by
 intro μ w a ht hr;unfold zgz at h
 cases hl:aev tm l with
 |none=>simp [hl] at h
 |some lv=>
  cases hc:aev tm c with
  |none=>simp [hl,hc] at h
  |some cv=>
   cases hu:P.underlying t with
   |none=>simp [hl,hc,hu] at h
   |some d=>
    simp only [hl,hc,hu] at h
    cases lv<;>try (cases h;done)
    rename_i kl nl
    cases nl<;>try (cases h;done)
    cases cv<;>try (cases h;done)
    rename_i n kc nc
    cases nc<;>try (cases h;done)
    cases d<;>try (cases h;done)
    rename_i m e;simp only at h
    cases hi:P.info? e with
    |none=>rw [hi] at h;cases h
    |some i=>
     rw [hi] at h;simp only at h
     cases hz:i.zero with
     |none=>rw [hz] at h;cases h
     |some z=>
      rw [hz] at h;simp only at h
      cases hb:(n.beq m && n.ble (2 ^ 20) && (i.bytes * n).ble (2 ^ 40) && i.size.beq 1 && closedB 3 z && z.oneCell') with
      |false=>rw [hb] at h;cases h
      |true=>
       rw [hb] at h;simp only [cond_true,zco] at h;simp only [Bool.and_eq_true] at hb;obtain⟨⟨⟨⟨⟨b1,b2⟩,b3⟩,b4⟩,b5⟩,b6⟩:=hb;obtain rfl:=Nat.eq_of_beq_eq_true b1;have b2:=Nat.le_of_ble_eq_true b2;have b3:=Nat.le_of_ble_eq_true b3;have b4:=Nat.eq_of_beq_eq_true b4;have e1:a.eval l=.int kl (n:Int):=zhz.1 (zaf ht hl);have e2:a.eval c=.int kc (n:Int):=zhz.1 (zaf ht hc);have hb3:(i.bytes:Int) * (n:Int)≤281474976710656:=by
        have:((i.bytes * n:Nat):Int)≤281474976710656:=by omega
        rwa [Int.natCast_mul] at this
       have hrun:=run_make (P:=P) w t e i z hu hi hz kl kc (n:Int) (n:Int) (Int.natCast_nonneg n) (Int.le_refl _) hb3 (by omega);simp only [Int.toNat_natCast,b4,Nat.mul_one] at hrun;have hrel:All2 (RV μ) (List.replicate n z) (madeCells z.cells n).toList:=by rw [made_one z b6];exact All2.replicate ((closed_iff 3 z z b5).2 rfl) n
       cases h4:n.beq 4096 with
       |true=>
        rw [h4] at h;simp only [cond_true] at h;obtain rfl:=Nat.eq_of_beq_eq_true h4;obtain⟨hn,h⟩:=zwp h;simp only [Option.some.injEq,Prod.mk.injEq] at h;obtain⟨rfl,rfl⟩:=h;obtain⟨h1,h2,_⟩:=tree_new hr hn hrel e e;refine⟨.value (.slice (some ⟨w.heap.size,0,none⟩) 4096 4096),_,_,?_,h1,h2,_,rfl,zb4.2 ⟨_,4096,rfl,Nat.le_refl _,rfl,.inr ⟨_,Mu.add_pos,.inr ⟨by simp,?_⟩⟩⟩⟩
        ·simp only [e1,e2,Sem.run_bind,hrun,Result.andThen_ok,Sem.run_pure]
        ·simp only [size_madeCells];omega
       |false=>
       rw [h4] at h;simp only [cond_false] at h;obtain⟨hn,h⟩:=zd2 h;simp only [Option.some.injEq,Prod.mk.injEq] at h;obtain⟨rfl,rfl⟩:=h;obtain⟨h1,h2,_⟩:=zrv hr hn hrel e e;refine⟨.value (.slice (some ⟨w.heap.size,0,none⟩) n n),_,_,?_,h1,h2,_,rfl,zb4.2 ⟨_,n,rfl,Nat.le_refl _,rfl,.inr ⟨_,Mu.add_pos,.inr ⟨by simp,?_⟩⟩⟩⟩
       ·simp only [e1,e2,Sem.run_bind,hrun,Result.andThen_ok,Sem.run_pure]
       ·simp only [size_madeCells];omega
def zo4 (r:Option Operand) (H:AH):Option (Next×AH):=match r with
 |some _=>none
 |none=>bif zjr H.next then natK H.next fun n=>natK (H.next+1) fun n1=>BT.putK lv H.t n (some (.map #[] 0)) fun t=>some (.value (.map (some n)),⟨n1,t⟩) else none
theorem zsj {t:TypeId} {r:Option Operand} {nx:Next} (h:zo4 r H=some (nx,H')):Snd P w0 (fun ρ=>do pure (.value (←Instr.makeMap t (r.map ρ)))) tm H nx H':=by
 intro μ w a ht hr;unfold zo4 at h
 cases r with
 |some _=>cases h
 |none=>
  simp only at h
  cases hs:zjr H.next with
  |false=>rw [hs] at h;cases h
  |true=>
   rw [hs] at h;simp only [cond_true,zco,BT.putK_eq,Option.some.injEq,Prod.mk.injEq] at h;obtain⟨rfl,rfl⟩:=h;have hn:=zh4 hs;have h1:=hr.new hn (o:=.map #[] 0) (p:=⟨w.heap.size,0,0⟩) rfl (r:=.map #[] 0) trivial;refine⟨.value (.map (some w.heap.size)),_,_,?_,h1,hr.new_post hn,_,rfl,zE0.2 ⟨_,rfl⟩⟩;simp [Instr.makeMap]
   try rfl
def zgg (fn:Fn) (f c:Array Operand) (tm:Acc) (H:AH):Option (Next×AH):=match fn with
 | .func g=>match f.toList.mapM tm,c.toList.mapM tm with
  |some fs,some cs=>zj6 fs fun fs=>zj6 cs fun cs=>some (.value (.func (.func g) ⟨fs⟩ ⟨cs⟩),H)
  |_,_=>none
 |_=>none
theorem zp7 {fn:Fn} {f c:Array Operand} {nx:Next} (h:zgg fn f c (aev tm) H=some (nx,H')):Snd P w0 (fun ρ=>do pure (.value (←Instr.makeFunc fn (f.map ρ) (c.map ρ)))) tm H nx H':=by
 unfold zgg at h
 cases fn<;>try (cases h;done)
 rename_i g;simp only at h
 cases hf:f.toList.mapM (aev tm) with
 |none=>rw [hf] at h;cases h
 |some fs=>
  cases hc:c.toList.mapM (aev tm) with
  |none=>rw [hf,hc] at h;cases h
  |some cs=>
   rw [hf,hc] at h;simp only [zcd,Option.some.injEq,Prod.mk.injEq] at h;obtain⟨rfl,rfl⟩:=h;refine Snd.of_value fun μ w a ht hr=>⟨.func (.func g) (f.map a.eval) (c.map a.eval),rfl,zh0.2 ⟨_,_,rfl,?_,?_⟩⟩
   ·simpa using zde ht _ hf
   ·simpa using zde ht _ hc
def zpl:Value→Option UInt8
 | .int .u8 n=>some (UInt8.ofNat n.toNat)
 |_=>none
def zhr (P:Program) (s d:TypeId) (x:Operand) (tm:Acc) (H:AH):Option (Next×AH):=match P.underlying s,P.underlying d with
 |some (.slice e),some .string=>match tm x,P.underlying e with
  |some (.slice (some q) n es),some (.int .u8)=>bif es.beq 1 && (1:Nat).ble n then match ze9 H q n 1 with
   |some l=>match l.mapM zpl with
    |some bs=>zuw bs fun bs=>some (.value (.string ⟨⟨bs⟩⟩),H)
    |none=>none
   |none=>none
   else none
  |_,_=>none
 |_,_=>zck P [x] (fun vs=>convert s d (vs.getD 0 undef)) tm H
theorem zpk:∀ {l m:List Value} {bs:List UInt8},All2 (RV μ) l m→l.mapM zpl=some bs→∃ ns:List Int,m=ns.map (Value.int .u8)∧bs=ns.map fun n=>UInt8.ofNat n.toNat
 | [],[],bs,_,h=>by simp at h;subst h;exact⟨[],rfl,rfl⟩
 |x :: xs,y :: ys,bs,hr,h=>by
  simp only [List.mapM_cons,Option.bind_eq_bind,Option.bind_eq_some_iff] at h;obtain⟨b,h1,bs',h2,h3⟩:=h;simp at h3;subst h3;obtain⟨ns,e1,e2⟩:=zpk hr.2 h2
  cases x<;>try (cases h1;done)
  rename_i k n
  cases k<;>try (cases h1;done)
  simp only [zpl,Option.some.injEq] at h1;have e3:=zhz.1 hr.1;exact⟨n :: ns,by rw [e3,e1];rfl,by rw [←h1,e2];rfl⟩
theorem zx8:∀ (ns:List Int) (s:ByteArray),ns.foldl (fun r n=>r.push (UInt8.ofNat n.toNat)) s=⟨⟨s.data.toList ++ ns.map fun n=>UInt8.ofNat n.toNat⟩⟩
 | [],s=>by cases s;simp
 |n :: ns,s=>by
  simp only [List.foldl_cons];rw [zx8 ns];simp
theorem zsm {s d:TypeId} {x:Operand} {nx:Next} (h:zhr P s d x (aev tm) H=some (nx,H')):Snd P w0 (fun ρ=>do pure (.value (←convert s d (ρ x)))) tm H nx H':=by
 have clo:zck P [x] (fun vs=>convert s d (vs.getD 0 undef)) (aev tm) H=some (nx,H')→Snd P w0 (fun ρ=>do pure (.value (←convert s d (ρ x)))) tm H nx H':=fun h=>zeb (fun ρ=>rfl) h;unfold zhr at h
 split at h
 ·rename_i e hs hd
  cases hx:aev tm x with
  |none=>simp [hx] at h
  |some v=>
   cases hu:P.underlying e with
   |none=>simp [hx,hu] at h
   |some k=>
    simp only [hx,hu] at h
    cases v<;>try (cases h;done)
    rename_i q n es
    cases q<;>try (cases h;done)
    rename_i q
    cases k<;>try (cases h;done)
    rename_i k
    cases k<;>try (cases h;done)
    simp only at h
    cases hb:(es.beq 1 && (1:Nat).ble n) with
    |false=>rw [hb] at h;cases h
    |true=>
     rw [hb] at h;simp only [cond_true] at h;simp only [Bool.and_eq_true] at hb;obtain rfl:=Nat.eq_of_beq_eq_true hb.1;have hn:=Nat.le_of_ble_eq_true hb.2
     cases hel:ze9 H q n 1 with
     |none=>rw [hel] at h;cases h
     |some l=>
      rw [hel] at h;simp only at h
      cases hm:l.mapM zpl with
      |none=>rw [hm] at h;cases h
      |some bs=>
       rw [hm] at h;simp only [zhu,Option.some.injEq,Prod.mk.injEq] at h;obtain⟨rfl,rfl⟩:=h;refine Snd.of_value fun μ w a ht hr=>⟨.string ⟨⟨bs⟩⟩,?_,zdp.2 rfl⟩;obtain⟨y,rc,e1,hle,hsx⟩:=zb4.1 (zaf ht hx);obtain⟨p,lx,c',e',f,g1,g2,g3,g4,g5,g6,g7,g8,g9⟩:=zet hr hel hsx;have hy:y=⟨p.block,p.off+q.off,none⟩:=(g9.resolve_left (by omega)).1;obtain⟨m,m1,m2,m3⟩:=zjz g5 g8 q.off (n * 1) g4;rw [←g3] at m3;obtain⟨ns,k1,k2⟩:=zpk m3 hm;have hload:(loadCells y n).run P w=.ok (ns.map (Value.int .u8)).toArray w:=by
        have:=run_loadCells_list (P:=P) w ⟨p.block,p.off+q.off,none⟩ m (zoq m2);rw [m1,Nat.mul_one] at this;rw [hy,this,k1]
       have hrun:=run_bytesToString w y n rc ns hload;rw [zx8,←k2] at hrun;simp only [e1,convert,Sem.run_bind,run_underlying hs,run_underlying hd,run_underlying hu,Result.andThen_ok,hrun,Sem.run_pure];simp
 ·exact clo h
def zfa (tm:Acc) (c:Call):Option (List Value):=c.args.toList.mapM tm
def zej (P:Program) (g:FuncId):Bool:=match P.funcs[g]? with
 |some fn=>fn.body.isSome && !(fn.name == "runtime.NumGoroutine")
 |none=>false
def zcg:List Tmp→List Value→List Value→List Value
 |t :: ts,v :: vs,l=>zcg ts vs (l.set t v)
 |_,_,l=>l
def ze8 (P:Program) (f:Operand) (c:Call) (tm:Acc) (H:AH):Option (Next×AH):=match tm f,zfa tm c with
 |some (.func (.func g) first captured),some args=>bif zej P g then some (.enter g ⟨first.toList ++ args ++ captured.toList⟩,H) else none
 |some (.func (.yield l) _ _),some args=>match H.get l with
  |some (.loop L)=>bif args.length.beq L.params.toList.length then zj6 (zcg L.params.toList args L.tmps.toList) fun tmps=>some (.round l L.fn ⟨tmps⟩ L.assign L.body,H) else none
  |_=>none
 |_,_=>none
def zgi (P:Program) (b:Builtin) (c:Call) (tm:Acc) (H:AH):Option (Next×AH):=match b with
 | .len=>match zfa tm c,c.argTypes[0]? with
  |some [v],some t=>match P.underlying t with
   |some (.slice _)=>match v with
    | .slice _ n _=>some (.value (.int .i64 (.ofNat n)),H)
    |_=>none
   |some .string=>match v with
    | .string s=>natK s.data.toList.length fun n=>some (.value (.int .i64 (.ofNat n)),H)
    |_=>none
   |_=>none
  |_,_=>none
 | .append=>match zfa tm c,c.argTypes.toList with
  |some [s,x],[t,u]=>bif t.beq u then zso P t s x H else none
  |_,_=>none
 | .max=>zck P c.args.toList (fun vs=>Builtin.max_ #[] 0 ⟨vs⟩) tm H
 | .min=>zck P c.args.toList (fun vs=>Builtin.min_ #[] 0 ⟨vs⟩) tm H
 |_=>none
theorem zu0 (c:Call):(c.args.map a.eval)=⟨c.args.toList.map a.eval⟩:=by
 apply Array.ext';simp
theorem zrg (ρ:Operand→Value) (c:Call):(c.args.map ρ)=⟨c.args.toList.map ρ⟩:=by
 apply Array.ext';simp
theorem zsn {b:Builtin} {c:Call} (hb:c.callee=.builtin b) {t:TypeId} {nx:Next} (h:zgi P b c (aev tm) H=some (nx,H')):Snd P w0 (fun ρ=>do let d←resolve ρ c t;invoke d.target d.args) tm H nx H':=by
 have hres:∀ (ρ:Operand→Value),(do let d←resolve ρ c t;invoke d.target d.args:Sem Next)=builtin b c.argTypes t (c.args.map fun| .const _=>true|_=>false) (c.args.map ρ):=fun ρ=>by
  unfold resolve;simp only [hb];rfl
 unfold zgi at h
 cases b<;>try (cases h;done)
 ·
  simp only at h;intro μ w a ht hr
  cases ha:zfa (aev tm) c with
  |none=>simp [ha] at h
  |some vs=>
   cases hty:c.argTypes.toList with
   |nil=>rw [ha,hty] at h;cases vs with|nil=>cases h|cons _ v2=>cases v2 with|nil=>cases h|cons _ v3=>cases v3<;>cases h
   |cons t1 ts=>
    cases ts with
    |nil=>rw [ha,hty] at h;cases vs with|nil=>cases h|cons _ v2=>cases v2 with|nil=>cases h|cons _ v3=>cases v3<;>cases h
    |cons t2 ts=>
     cases ts with
     |cons _ _=>rw [ha,hty] at h;cases vs with|nil=>cases h|cons _ v2=>cases v2 with|nil=>cases h|cons _ v3=>cases v3<;>cases h
     |nil=>
      rw [ha,hty] at h
      cases vs with
      |nil=>cases h
      |cons s v2=>cases v2 with
       |nil=>cases h
       |cons x v3=>cases v3 with
        |cons _ _=>cases h
        |nil=>
         simp only at h
         cases hq:t1.beq t2 with
         |false=>rw [hq] at h;cases h
         |true=>
          rw [hq] at h;simp only [cond_true] at h;obtain rfl:=Nat.eq_of_beq_eq_true hq;have hty':c.argTypes=#[t1,t1]:=Array.toList_inj.1 hty;have hm:=zde ht _ ha
          cases hargs:c.args.toList.map a.eval with
          |nil=>rw [hargs] at hm;exact hm.elim
          |cons s' r2=>cases r2 with
           |nil=>rw [hargs] at hm;exact hm.2.elim
           |cons x' r3=>cases r3 with
            |cons _ _=>rw [hargs] at hm;exact hm.2.2.elim
            |nil=>
             rw [hargs] at hm;obtain⟨v,v',w',μ',rfl,hrun,h1,h2,h3⟩:=zp8 (ty:=t) hr hm.1 hm.2.1 h;refine⟨.value v',w',μ',?_,h1,h2,v',rfl,h3⟩;show Sem.run P (do let d←resolve a.eval c t;invoke d.target d.args) w=_;rw [hres,zu0,hargs,hty'];show Sem.run P (do pure (Next.value (←Builtin.append_ #[t1,t1] t #[s',x'])):Sem Next) w=_;rw [Sem.run_bind,hrun];rfl
 ·
  simp only at h
  cases ha:zfa (aev tm) c with
  |none=>simp [ha] at h
  |some vs=>
   cases hty:c.argTypes[0]? with
   |none=>rw [ha,hty] at h;cases vs with|nil=>cases h|cons _ v2=>cases v2<;>cases h
   |some t1=>
    rw [ha,hty] at h
    cases vs with
    |nil=>cases h
    |cons v v2=>cases v2 with
     |cons _ _=>cases h
     |nil=>
      simp only at h;have fin:∀ (n:Nat) (r:Value),(∀ (μ:Mu) (w:World) (v':Value),RV μ v v'→(Builtin.len_ c.argTypes t #[v']).run P w=.ok (goInt n) w)→nx=.value (.int .i64 (.ofNat n))→H'=H→Snd P w0 (fun ρ=>do let d←resolve ρ c t;invoke d.target d.args) tm H nx H':=fun n r hrun e1 e2=>by
       subst e1 e2;refine Snd.of_value fun μ w a ht hr=>⟨.int .i64 (n:Int),?_,zhz.2 rfl⟩;have hm:=zde ht _ ha;show Sem.run P (do let d←resolve a.eval c t;invoke d.target d.args) w=_
       cases hargs:c.args.toList.map a.eval with
       |nil=>rw [hargs] at hm;exact hm.elim
       |cons s' r2=>cases r2 with
        |cons _ _=>rw [hargs] at hm;exact hm.2.elim
        |nil=>
         rw [hargs] at hm;rw [hres,zu0,hargs];show Sem.run P (do pure (Next.value (←Builtin.len_ c.argTypes t #[s'])):Sem Next) w=_;rw [Sem.run_bind,hrun μ w s' hm.1];rfl
      cases hu:P.underlying t1 with
      |none=>rw [hu] at h;cases h
      |some d=>
       rw [hu] at h
       cases d<;>try (cases h;done)
       ·simp only at h
        cases v<;>try (cases h;done)
        rename_i s;simp only [zco,Option.some.injEq,Prod.mk.injEq] at h;refine fin s.data.toList.length undef (fun μ w v' hv=>?_) h.1.symm h.2.symm;have e1:=zdp.1 hv;subst e1;have hsz:s.data.toList.length=s.size:=rfl;simp [Builtin.len_,hty,run_underlying hu,hsz]
       ·simp only at h
        cases v<;>try (cases h;done)
        rename_i q n es;simp only [Option.some.injEq,Prod.mk.injEq] at h;refine fin n undef (fun μ w v' hv=>?_) h.1.symm h.2.symm
        cases q with
        |none=>
         obtain⟨e0,e1⟩:=zf3.1 hv;simp only [Value.slice.injEq] at e0;subst e1;simp [Builtin.len_,hty,run_underlying hu,e0.2.1]
        |some q=>
         obtain⟨y,rc,e1,_⟩:=zb4.1 hv;subst e1;simp [Builtin.len_,hty,run_underlying hu]
 ·exact zeb (s:=fun vs=>Builtin.max_ #[] 0 ⟨vs⟩) (fun ρ=>by rw [hres];show (do pure (Next.value (←Builtin.max_ c.argTypes t (c.args.map ρ))):Sem Next)=_;rw [zrg];rfl) h
 ·exact zeb (s:=fun vs=>Builtin.min_ #[] 0 ⟨vs⟩) (fun ρ=>by rw [hres];show (do pure (Next.value (←Builtin.min_ c.argTypes t (c.args.map ρ))):Sem Next)=_;rw [zrg];rfl) h
end Go.Proofs.YtpbmmoneeoijaaaGreatDoor.Ev
namespace Go.Proofs.YtpbmmoneeoijaaaGreatDoor.Ev
open Go
variable {P:Program} {w0:Frm} {w:World} {μ μ':Mu} {H H':AH} {tm:List Value} {a:Act}
theorem zhi {g:FuncId} (h:zej P g=true) (args:Array Value) (w:World):(callFunc g args).run P w=.ok (.enter g args) w:=by
 unfold zej at h
 cases hf:P.funcs[g]? with
 |none=>rw [hf] at h;cases h
 |some fn=>
  rw [hf] at h;simp only [Bool.and_eq_true,Bool.not_eq_true'] at h;unfold callFunc;have hb:¬ fn.body=none:=fun e=>by rw [e] at h;cases h.1
  have hn:¬ fn.name= "runtime.NumGoroutine":=fun e=>by rw [e] at h;simp at h
  simp [hf,hn,hb,program,Sem.run]
theorem zju:∀ (ts:List Tmp) (vs vs' l l':List Value),All2 (RV μ) vs vs'→All2 (RV μ) l l'→All2 (RV μ) (zcg ts vs l) (zcg ts vs' l')
 | [],vs,vs',_,_,_,h=>by cases vs<;>cases vs'<;>exact h
 |t :: ts,[],[],_,_,_,h=>h
 |t :: ts,v :: vs,v' :: vs',l,l',h1,h2=>zju ts vs vs' _ _ h1.2 (h2.set t h1.1)
theorem zjt:∀ (ts:List Tmp) (vs:List Value) (l:Array Value),((ts.zip vs).foldl (fun (tmps:Array Value) (x:Tmp×Value)=>tmps.setIfInBounds x.1 x.2) l).toList=zcg ts vs l.toList
 | [],_,_=>rfl
 |_ :: _,[],_=>rfl
 |t :: ts,v :: vs,l=>by
  simp only [List.zip_cons_cons,List.foldl_cons];rw [zjt ts vs];simp [zcg]
theorem zo0 {f:Operand} {c:Call} (hc:c.callee=.value f) {t:TypeId} {nx:Next} (h:ze8 P f c (aev tm) H=some (nx,H')):Snd P w0 (fun ρ=>do let d←resolve ρ c t;invoke d.target d.args) tm H nx H':=by
 intro μ w a ht hr;unfold ze8 at h
 cases hf:aev tm f with
 |none=>rw [hf] at h;cases h
 |some v=>
  cases hg:zfa (aev tm) c with
  |none=>rw [hf,hg] at h;cases v<;>first|cases h|(rename_i fn _ _;cases fn<;>cases h)
  |some args=>
   rw [hf,hg] at h
   cases v<;>try (cases h;done)
   rename_i fn first captured;have hm:=zde ht _ hg
   cases fn<;>try (cases h;done)
   ·rename_i g
    simp only at h
    cases hb:zej P g with
    |false=>rw [hb] at h;cases h
    |true=>
     rw [hb] at h;simp only [cond_true,Option.some.injEq,Prod.mk.injEq] at h;obtain⟨rfl,rfl⟩:=h;obtain⟨f',c',e1,e2,e3⟩:=zh0.1 (zaf ht hf);refine⟨.enter g (f' ++ c.args.map a.eval ++ c'),w,μ,?_,hr,.refl _ _,_,rfl,?_⟩
     ·simp only [resolve,hc,e1,Deferred.ofValue,Sem.run_bind,Sem.run_pure,Result.andThen_ok,invoke,zhi hb]
     ·simp only [Array.toList_append,Array.toList_map]
      exact (e2.append hm).append e3
   ·rename_i l
    simp only at h
    cases hl:H.get l with
    |none=>rw [hl] at h;cases h
    |some o=>
     rw [hl] at h
     cases o<;>try (cases h;done)
     rename_i L;simp only at h
     cases hq:args.length.beq L.params.toList.length with
     |false=>rw [hq] at h;cases h
     |true=>
      rw [hq] at h;simp only [cond_true,zcd,Option.some.injEq,Prod.mk.injEq] at h;obtain⟨rfl,rfl⟩:=h;have hq:=Nat.eq_of_beq_eq_true hq;obtain⟨e1,e2,p,hp,e3⟩:=zna.1 (zaf ht hf);obtain⟨r,hb,L',h1,h2,h3,h4,h5,h6,h7,h8,h9⟩:=hr.blk _ _ _ hl hp;subst h1;have hlen:=hm.length;have hget:(Instr.getLoop p.block).run P w=.ok L' w:=by
       simp [Instr.getLoop,getObj,Sem.run,hb]
      have hsz:(c.args.map a.eval).size=L'.params.size:=by
       rw [h6];simp only [Array.size_map];simp only [List.length_map,Array.length_toList] at hlen hq;omega
      refine⟨.round p.block L'.fn ((L'.params.zip (c.args.map a.eval)).foldl (fun tmps (t,a)=>tmps.setIfInBounds t a) L'.tmps) L'.assign L'.body,w,μ,?_,hr,.refl _ _,p,(L'.params.zip (c.args.map a.eval)).foldl (fun tmps (t,a)=>tmps.setIfInBounds t a) L'.tmps,hp,?_,?_⟩
      ·simp only [resolve,hc,e3,Deferred.ofValue,Sem.run_bind,Sem.run_pure,Result.andThen_ok,invoke,Array.empty_append,Instr.yield,hget]
       rw [if_neg (by simpa using hsz)];rfl
      ·rw [h4,h7,h8]
      ·rw [←Array.foldl_toList,Array.toList_zip,zjt,h6]
       simp only [Array.toList_map];exact zju _ _ _ _ _ hm h5
def zo7 (f:Operand) (c:Call) (tm:Acc) (H:AH):Option (Next×AH):=match tm f,zfa tm c with
 |some (.func (.func g) first captured),some args=>some (.defer { target:=.fn (.func g) captured,args:=⟨first.toList ++ args⟩ },H)
 |_,_=>none
theorem zwt {f:Operand} {c:Call} (hc:c.callee=.value f) {t:TypeId} {nx:Next} (h:zo7 f c (aev tm) H=some (nx,H')):Snd P w0 (fun ρ=>do pure (.defer (←resolve ρ c t))) tm H nx H':=by
 intro μ w a ht hr;unfold zo7 at h
 cases hf:aev tm f with
 |none=>rw [hf] at h;cases h
 |some v=>
  cases hg:zfa (aev tm) c with
  |none=>rw [hf,hg] at h;cases v<;>first|cases h|(rename_i fn _ _;cases fn<;>cases h)
  |some args=>
   rw [hf,hg] at h
   cases v<;>try (cases h;done)
   rename_i fn first captured;have hm:=zde ht _ hg
   cases fn<;>try (cases h;done)
   rename_i g;simp only [Option.some.injEq,Prod.mk.injEq] at h;obtain⟨rfl,rfl⟩:=h;obtain⟨f',c',e1,e2,e3⟩:=zh0.1 (zaf ht hf);refine⟨.defer { target:=.fn (.func g) c',args:=f' ++ c.args.map a.eval },w,μ,?_,hr,.refl _ _,_,rfl,⟨g,captured,c',rfl,rfl,e3⟩,?_⟩
   ·simp only [resolve,hc,e1,Deferred.ofValue,Sem.run_bind,Sem.run_pure,Result.andThen_ok]
   ·simp only [Array.toList_append,Array.toList_map]
    exact e2.append hm
def zfs:Op→Nat
 | .load _ _=>1
 | .alloc _=>2
 | .box .. | .buildSlice .. | .store .. | .makeSlice .. | .makeMap .. | .defer _=>3
 | .slice .. | .convert ..=>1
 | .call c=>match c.callee with
  | .builtin .len=>0
  | .builtin .max=>0
  | .builtin .min=>0
  |_=>3
 |_=>0
def zbi (P:Program) (o:Oper) (tm:Acc) (H:AH):Option (Next×AH):=match o.op with
 | .move x=>ziu x tm H
 | .assign x=>ziu x tm H
 | .pick c x y=>zq2 c x y tm H
 | .alloc e=>zf1 P e H
 | .box e x=>zD2 e x tm H
 | .build t parts=>zlb P t parts tm H
 | .buildSlice t len parts=>zed P t len parts tm H
 | .load t x=>(tm x).bind fun v=>(zj8 P t v H).bind fun r=>valK r fun r=>match r with
  | .agg cs=>zj6 cs.toList fun l=>some (.value (.agg ⟨l⟩),H)
  |r=>some (.value r,H)
 | .store t x y=>(tm x).bind fun v=>(tm y).bind fun u=>zsi P t v u H
 | .nilCheck x=>zey x tm H
 | .binOp op t x y _=>zj9 P op t x y tm H
 | .unOp op _ x=>zck P [x] (fun vs=>Op.unary op (vs.getD 0 undef)) tm H
 | .convert s d x=>zhr P s d x tm H
 | .makeFunc fn f c=>zgg fn f c tm H
 | .makeMap _ r=>zo4 r H
 | .makeSlice t l c=>zgz P t l c tm H
 | .slice t x lo hi mx=>zk9 P t x lo hi mx tm H
 | .fieldAddr s x f=>zd5 P s x f tm H
 | .field t x f=>zla P t x f tm H
 | .indexAddr t x i=>zd4 P t x i tm H
 | .index t x i=>zck P [x,i] (fun vs=>Instr.index t (vs.getD 0 undef) (vs.getD 1 undef)) tm H
 | .extract x i=>zgh x i tm H
 | .call c=>match c.callee with
  | .value f=>ze8 P f c tm H
  | .builtin b=>zgi P b c tm H
  | .invoke ..=>none
 | .defer c=>match c.callee with
  | .value f=>zo7 f c tm H
  |_=>none
 |_=>none
theorem zq6 {o:Oper} {nx:Next} (h:zbi P o (aev tm) H=some (nx,H')):Snd P w0 (fun ρ=>execOp ρ o) tm H nx H':=by
 have conv:∀ {s s':(Operand→Value)→Sem Next},s=s'→Snd P w0 s tm H nx H'→Snd P w0 s' tm H nx H':=fun e h=>e▸h;unfold zbi at h
 cases ho:o.op<;>rw [ho] at h<;>simp only at h<;>try (cases h;done)
 ·exact conv (funext fun ρ=>by unfold execOp;simp only [ho]) (zq3 h)
 ·exact conv (funext fun ρ=>by unfold execOp;simp only [ho]) (zq3 h)
 ·exact conv (funext fun ρ=>by unfold execOp;simp only [ho]) (zB7 h)
 ·exact conv (funext fun ρ=>by unfold execOp;simp only [ho]) (zwv h)
 ·exact conv (funext fun ρ=>by unfold execOp;simp only [ho]) (zD1 h)
 ·exact conv (funext fun ρ=>by unfold execOp;simp only [ho]) (zwu h)
 ·exact conv (funext fun ρ=>by unfold execOp;simp only [ho]) (zmz h)
 ·
  rename_i t x;rw [Option.bind_eq_some_iff] at h;obtain⟨v,h1,h⟩:=h;rw [Option.bind_eq_some_iff] at h;obtain⟨r,h2,h⟩:=h;rw [zdw] at h;have h3:nx=.value r∧H'=H:=by
   cases r<;>simp only [zcd,Option.some.injEq,Prod.mk.injEq] at h<;>exact⟨h.1.symm,h.2.symm⟩
  obtain⟨rfl,rfl⟩:=h3;refine Snd.of_value fun μ w a ht hr=>?_;obtain⟨r',g1,g2⟩:=zlt hr (zaf ht h1) h2;exact⟨r',by unfold execOp;simp only [ho];rw [Sem.run_bind,g1];rfl,g2⟩
 ·
  rename_i t x y;rw [Option.bind_eq_some_iff] at h;obtain⟨v,h1,h⟩:=h;rw [Option.bind_eq_some_iff] at h;obtain⟨u,h2,h⟩:=h;intro μ w a ht hr;obtain⟨rfl,w',g1,g2,g3⟩:=zsh hr (zaf ht h1) (zaf ht h2) h;exact⟨.skip,w',μ,by unfold execOp;simp only [ho];rw [Sem.run_bind,g1];rfl,g2,g3,rfl⟩
 ·exact zp6 ho h
 ·exact zD3 ho h
 ·exact zeb (fun ρ=>by unfold execOp;simp only [ho];rfl) h
 ·exact conv (funext fun ρ=>by unfold execOp;simp only [ho]) (zsm h)
 ·exact conv (funext fun ρ=>by unfold execOp;simp only [ho]) (zp7 h)
 ·rename_i t r;exact conv (funext fun ρ=>by unfold execOp;simp only [ho]) (zsj (t:=t) h)
 ·exact conv (funext fun ρ=>by unfold execOp;simp only [ho]) (zo3 h)
 ·exact conv (funext fun ρ=>by unfold execOp;simp only [ho]) (zwq h)
 ·exact conv (funext fun ρ=>by unfold execOp;simp only [ho]) (zo6 h)
 ·exact conv (funext fun ρ=>by unfold execOp;simp only [ho]) (zws h)
 ·exact conv (funext fun ρ=>by unfold execOp;simp only [ho]) (zo5 h)
 ·exact zeb (fun ρ=>by unfold execOp;simp only [ho];rfl) h
 ·exact conv (funext fun ρ=>by unfold execOp;simp only [ho]) (zsk h)
 ·
  rename_i c
  cases hc:c.callee with
  |value f=>rw [hc] at h;exact conv (funext fun ρ=>by unfold execOp;simp only [ho]) (zo0 (t:=o.type) hc h)
  |invoke _ _=>rw [hc] at h;cases h
  |builtin b=>rw [hc] at h;exact conv (funext fun ρ=>by unfold execOp;simp only [ho]) (zsn (t:=o.type) hc h)
 ·rename_i c
  cases hc:c.callee with
  |value f=>rw [hc] at h;exact conv (funext fun ρ=>by unfold execOp;simp only [ho]) (zwt (t:=o.type) hc h)
  |invoke _ _=>rw [hc] at h;cases h
  |builtin b=>rw [hc] at h;cases h
end Go.Proofs.YtpbmmoneeoijaaaGreatDoor.Ev
