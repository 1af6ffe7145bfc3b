/-
  A part of the proof: ReaderQueue.
-/
import Derived.Test.YtpbmmoneeoijaaaGreatDoorP18
namespace Go.Proofs.YtpbmmoneeoijaaaGreatDoor
open Go.RowKit Go.Deep Go.Shelf
set_option maxRecDepth 100000
set_option maxHeartbeats 8000000
attribute [local go_sem] zaq
set_option maxRecDepth 100000
theorem zeq:∀ (ms:List (Nat×List (Nat→Int))) (vs:List Value),vs.length=ms.length→(zem ms vs).length=2 * ms.length
 | [],[],_=>rfl
 |a :: ms,b :: vs,h=>by
  have:=zeq ms vs (by simpa using h);simp only [zem,List.length_cons,this];omega
 | [],b :: vs,h=>by simp at h
 |a :: ms,[],h=>by simp at h
section
variable {base b:Nat} {W:World} {s:St} {P:List (List UInt8)} {v:RdV}
theorem RdAt.addQ (h:RdAt base b W s P v) {ms0:List (Nat×List (Nat→Int))} {m:Nat×List (Nat→Int)} {q0:List Value} {u:Value} (hm:s.ms=ms0 ++ [m]) (hq:v.q=q0 ++ [u]) {gM cM:Nat} (hM:v.M=.slice (some ⟨gM,0,none⟩) (ms0.length+1) cM) (f:Nat→Int) {v':Value} {W1:World}
  (ho:W1.ownsRow base 74 2 v' (m.2 ++ [f]).length (zc1 (m.2 ++ [f]))) (hg:W.grownBy W1 u.ownBlock) (hb:v'.ownBlock=u.ownBlock∨v'.ownBlock=some W.heap.size):
  RdAt base b (W1.setCell ⟨gM,2 * ms0.length+1,none⟩ v') { s with ms:=ms0 ++ [(m.1,m.2 ++ [f])] } P { v with q:=q0 ++ [v'] }∧Frm2 base b W (W1.setCell ⟨gM,2 * ms0.length+1,none⟩ v')∧W1.cell? ⟨gM,2 * ms0.length+1,none⟩=some u∧W1.frozen? ⟨gM,2 * ms0.length+1,none⟩=false:=by
 have hql:q0.length=ms0.length:=by have:=h.ql;rw [hm,hq] at this;simpa using this
 have hu:W.ownsRow base 74 2 u m.2.length (zc1 m.2):=h.Q ms0.length m u (by rw [hm];simp) (by rw [hq,←hql];simp);have hb1:=zdo h.blk hg fun g hg=>by have:=(zbj hu hg).1;have:=h.hb;omega
 have hM1:=zah h.M hg (zbv hu (by decide));rw [hM,hm,hq,zdy _ _ _ _ hql,List.length_append,List.length_singleton] at hM1;obtain⟨hgM,cs,hcs⟩:=zbj hM1 (g:=gM) rfl;have hne:gM≠b:=by have:=h.hb;omega
 have hst:=hM1.stored (2 * ms0.length+1) v';have hlen:=zeq ms0 q0 hql;have hset:(zem ms0 q0 ++ [qU (m.1:Nat),u]).set (2 * ms0.length+1) v'=zem (ms0 ++ [(m.1,m.2 ++ [f])]) (q0 ++ [v']):=by
  rw [zdy _ _ _ _ hql,List.set_append_right _ _ (by omega),hlen,show 2 * ms0.length+1 - 2 * ms0.length=1 by omega];rfl
 rw [hset] at hst;have oth:∀ {e:TypeId} {K:Nat} {x:Value} {n:Nat} {xs:List Value},71≠e→W1.ownsRow base e K x n xs→(W1.setCell ⟨gM,2 * ms0.length+1,none⟩ v').ownsRow base e K x n xs:=fun he hx=>
  zah hx (zbu W1 ⟨gM,_,none⟩ v') fun g hg=>by cases hg;exact⟨_,hcs,fun cs f hc=>by injection hc with _ h2 _;exact he h2⟩
 refine⟨⟨(Below.heap_setCell W1 ⟨gM,_,none⟩ v' b (fun e=>hne e.symm)).trans hb1,oth (by decide) (zah h.T hg (zbv hu (by decide))),?_,by simp [hql],fun i m' x h1 h2=>oth (by decide) ?_,fun i j x y g hij h1 h2 h3=>?_,oth (by decide) (zah h.E hg (zbv hu (by decide))),oth (by decide) (zah h.P hg (zbv hu (by decide))),h.hb⟩,(Frm2.own hu hg).trans (Frm2.grown (zbu W1 ⟨gM,_,none⟩ v') fun g hg=>by cases hg;exact⟨hgM,_,hcs,rfl⟩),?_,hM1.frozenAt _⟩
 ·show (W1.setCell _ v').ownsRow base 71 2 v.M (ms0 ++ [(m.1,m.2 ++ [f])]).length (zem (ms0 ++ [(m.1,m.2 ++ [f])]) (q0 ++ [v']))
  rw [hM,List.length_append,List.length_singleton];exact hst.1
 ·dsimp only at h1 h2
  rcases Nat.lt_or_ge i ms0.length with hi|hi
  ·rw [List.getElem?_append_left hi] at h1
   rw [List.getElem?_append_left (by omega)] at h2;refine (h.Q i m' x (by rw [hm,List.getElem?_append_left hi];exact h1) (by rw [hq,List.getElem?_append_left (by omega)];exact h2)).kept hg ?_
   cases hx:u.ownBlock with
   |none=>cases x.ownBlock<;>simp
   |some g=>
    right;exact h.ap i ms0.length x u g hi (by rw [hq,List.getElem?_append_left (by omega)];exact h2) (by rw [hq,←hql];simp) hx
  ·rw [List.getElem?_append_right hi] at h1
   rw [List.getElem?_append_right (by omega),hql] at h2;have h0:i - ms0.length=0:=by
    have:=(List.getElem?_eq_some_iff.1 h1).1;simp at this;omega
   rw [h0] at h1 h2;simp at h1 h2;subst h1 h2;exact ho
 ·dsimp only at h1 h2
  rcases Nat.lt_or_ge j ms0.length with hj|hj
  ·rw [List.getElem?_append_left (by omega)] at h1 h2
   exact h.ap i j x y g hij (by rw [hq,List.getElem?_append_left (by omega)];exact h1) (by rw [hq,List.getElem?_append_left (by omega)];exact h2) h3
  ·rw [List.getElem?_append_right (by omega),hql] at h2
   have h0:j - ms0.length=0:=by
    have:=(List.getElem?_eq_some_iff.1 h2).1;simp at this;omega
   rw [h0] at h2;simp at h2;subst h2;rw [List.getElem?_append_left (by omega)] at h1;have h1':v.q[i]? =some x:=by rw [hq,List.getElem?_append_left (by omega)];exact h1
   rcases hb with hb|hb
   ·exact h.ap i ms0.length x u g (by omega) h1' (by rw [hq,←hql];simp) (by rw [←hb];exact h3)
   ·intro hx
    have hil:i < s.ms.length:=by rw [hm];simp;omega
    have:=((h.Q i _ x (List.getElem?_eq_getElem hil) h1').lt g hx).2;rw [hb] at h3;cases h3;omega
 ·rw [hM1.cellAt _ (by omega),List.getElem?_append_right (by omega),hlen,show 2 * ms0.length+1 - 2 * ms0.length=1 by omega]
  rfl
end
theorem polW_eq {p q:Int} (h1:1≤p) (h2:p≤3) (h3:1≤q) (h4:q≤3):polW p=polW q↔p=q:=by
 obtain rfl|rfl|rfl:p=1∨p=2∨p=3:=by omega
 all_goals
  obtain rfl|rfl|rfl:q=1∨q=2∨q=3:=by omega
  all_goals simp [polW]
theorem zvt (base b:Nat) (W:World) (s:St) (v:RdV) (f:Nat→Int) (ms0:List (Nat×List (Nat→Int))) (m:Nat×List (Nat→Int)) (hbase:base≤W.heap.size) (h:RdAt base b W s (zdd f) v) (hm:s.ms=ms0 ++ [m]) (h0:0≤f 0) (h1:f 0 < 2147483648) (h2:1≤f 1) (h3:f 1≤3) (hn:s.ms.length≤1000) (hmn:m.2.length≤1000):
  Calls Tryz.prog 149 #[qP b] W (zpw base b W { s with ms:=ms0 ++ [(m.1,m.2 ++ [f])] } (zdd f)):=by
 obtain⟨g,cap,e0,hc1,hc2,hcell⟩:=h.pieces (by simp [zdd]);have e:v.P=.slice (some ⟨g,0,none⟩) 3 cap:=e0;have c4:=h.cell4;rw [e] at c4;have p2:=hcell 2 _ (show (zdd f)[2]? =some (polW (f 1)) from rfl);have HN:=hid (zex b g 1 3 cap (f 0) W h0 h1 (by omega) (by omega) c4 (hcell 1 _ rfl));have hql:=h.ql;rw [hm,List.length_append,List.length_singleton] at hql;obtain⟨q0,u,hq⟩:∃ q0 u,v.q=q0 ++ [u]:=⟨v.q.dropLast,v.q.getLast (by intro hz;rw [hz] at hql;simp at hql),(List.dropLast_concat_getLast _).symm⟩;obtain⟨mao,cM,hM,_,hMs⟩:=zar h.M;obtain⟨gM,rfl,_⟩:=hMs (by rw [hm];simp);have hml:s.ms.length=ms0.length+1:=by rw [hm];simp
 rw [hml] at hM hn;have c2:W.cell? ⟨b,2,none⟩=some (.slice (some ⟨gM,0,none⟩) (ms0.length+1) cM):=by rw [zaa h.blk,←hM];rfl
 have HH:=hid h;obtain⟨NM,hNM⟩:∃ n,ms0.length=n:=⟨_,rfl⟩;have HQ:=hid fun (X:World) (hX:Below W.heap.size W X) (v':Value) (W1:World) (ho:W1.ownsRow base 74 2 v' (m.2.length+1) (zc1 m.2 ++ [qI (f 0),qI (f 1)])) (hg:X.grownBy W1 u.ownBlock) (hb:v'.ownBlock=u.ownBlock∨v'.ownBlock=some X.heap.size)=>
  (h.below hX).addQ hm hq (by rw [hM]) f (by rw [List.length_append,zln];exact ho) hg hb
 have HU:=hid fun (X:World) (hX:Below W.heap.size W X)=>(show X.ownsRow base 74 2 u m.2.length (zc1 m.2)∧X.cell? ⟨gM,2 * ms0.length+1,none⟩=some u from by
  have hu:=(h.below hX).Q ms0.length m u (by rw [hm];simp) (by rw [hq,←show q0.length=ms0.length by have:=h.ql;rw [hm,hq] at this;simpa using this];simp);refine⟨hu,?_⟩;have hM2:=(h.below hX).M;rw [hM,hm,hq,List.length_append,List.length_singleton] at hM2;have hql2:q0.length=ms0.length:=by have:=h.ql;rw [hm,hq] at this;simpa using this
  rw [hM2.cellAt _ (by omega),zdy _ _ _ _ hql2,List.getElem?_append_right (by rw [zeq _ _ hql2];omega),zeq _ _ hql2,show 2 * ms0.length+1 - 2 * ms0.length=1 by omega];rfl)
 rw [hNM] at hM hn c2 HQ HU;clear hql hml hM e e0 hc1 hcell h hNM hMs;go_enter Tryz.func149,Tryz.ntmps149
 go_wp2_with (go_at_call 215;refine (HN.out).mono ?_;rintro e w2 ⟨rfl,rfl⟩)
 go_loopw [5] (fun p_ wr=>∃ p:Int,1≤p∧p≤f 1∧p_=qI p∧Hid (Below W.heap.size W wr)) (fun p_ _=>4 - (intOf p_).toNat)
 case atStart=>exact⟨1,by omega,h2,by go_num,Below.refl _ _⟩
 case round=>
  obtain⟨p,hp1,hp2,rfl,HB⟩:=hrel;have t0:decide (p≤3)=true:=by simp;omega
  have C4:=Cls.cell (kept c4 HB.out);have C5:=Cls.cell (kept p2 HB.out);have HPO:=hid fun (X:Cls wr)=>Calls.below (zqo p X.wd hp1 (by omega));by_cases heq:p=f 1
  ·subst heq
   obtain⟨S1,hS1⟩:∃ S,bs (polW (f 1))=S:=⟨_,rfl⟩;have hqe:(S1.toList == S1.toList)=true:=by simp
   rw [hS1] at HPO C5;clear hS1;go_wp2;refine zag (by kernel_rfl) (by kernel_rfl) ?_
   repeat (go_big_quiet_step ((first|(go_at_call 72;exact Calls.cls _ (HPO.out _)))))
   refine wpQuiet_nil ?_;intro _ hw';obtain⟨cq,rfl⟩:=hw';have HB4:=hid (HB.out.trans (cq.below.mono HB.out.size));have c4':=kept c4 HB4.out;have c2':=kept c2 HB4.out;clear HPO C4 C5;have k0:(0:Int)≤(NM:Int):=by omega
   have k1:(NM:Int) < (NM:Int)+1:=by omega
   go_wp2
   go_quiet (fail)
   have HB5:=hid (show Below W.heap.size W (cq.wd.drewN nq) from HB4.out.trans ⟨rfl,rfl,rfl,Nat.le_refl _,fun _ _=>rfl⟩);obtain⟨W5,hW5⟩:∃ X,X=cq.wd.drewN nq:=⟨_,rfl⟩;rw [←hW5] at HB5 ⊢;clear hW5 HB4 c4' c2' HB HN;have HBA:=hid (HB5.out.alloc HB5.out.size (qC #[qI (f 0),qI (f 1)] 74));obtain⟨hUo,_⟩:=HU.out _ HBA.out;obtain⟨_,hUc⟩:=HU.out _ HB5.out;rw [Nat.mul_comm] at hUc;have HUO:=hid hUo;have HSZ:=hid (show base≤(W5.alloc (qC #[qI (f 0),qI (f 1)] 74)).heap.size from Nat.le_trans hbase HBA.out.size);have HNW:=hid (show ∀ (j:Nat) (u:Value),[qI (f 0),qI (f 1)][j]? =some u→(W5.alloc (qC #[qI (f 0),qI (f 1)] 74)).cell? ((⟨W5.heap.size,0,none⟩:Addr).add j)=some u from fun j u hj=>by rw [zbn,Nat.zero_add];exact (World.cell?_alloc_new W5 _ _ j).trans (by rw [←hj];simp));have HPO:=hid (HQ.out _ HBA.out);have HFA:=hid (Frm2.below (base:=base) (b:=b) HBA.out);have hq63:m.2.length+1≤maxLen:=by unfold maxLen;omega
   obtain⟨i0,hi,hz0,hz1,hz2⟩:=info_parts infoQu;clear hUo HU HQ
   go_wp2_with (at_builtin;refine wpList_append_own_at _ rfl _ _ 69 rfl base 74 i0 (.agg #[qI 0,qI 0]) 2 16 Tryz.underlying69 hi hz0 hz1 hz2 rfl (by decide) u m.2.length _ rfl HUO.out ⟨W5.heap.size,0,none⟩ 1 1 [qI (f 0),qI (f 1)] rfl rfl HNW.out (by simp [Value.oneCell']) hq63 (by omega) HSZ.out ?_;intro v5 w5 h5 g5 _ b5;obtain⟨HR5,HF5,c5,f5⟩:=HPO.out v5 w5 h5 g5 b5;rw [Nat.mul_comm] at c5 f5 HR5 HF5;replace HR5:=hid HR5;replace HF5:=hid HF5;obtain⟨va,vc,rfl,_,_⟩:=zar h5;clear h5 g5 b5)
   go_ret;exact⟨rfl,⟨_,HR5.out⟩,HFA.out.trans HF5.out⟩
  ·have hqe:((bs (polW p)).toList == (bs (polW (f 1))).toList)=false:=by
    rw [za1,za1];simp;exact fun hz=>heq ((polW_eq hp1 (by omega) h2 h3).1 hz)
   obtain⟨S1,hS1⟩:∃ S,bs (polW p)=S:=⟨_,rfl⟩;obtain⟨S2,hS2⟩:∃ S,bs (polW (f 1))=S:=⟨_,rfl⟩;rw [hS1] at HPO hqe;rw [hS2] at C5 hqe;clear hS1 hS2;go_wp2;refine zag (by kernel_rfl) (by kernel_rfl) ?_
   repeat (go_big_quiet_step ((first|(go_at_call 72;exact Calls.cls _ (HPO.out _)))))
   refine wpQuiet_nil ?_;intro _ hw';obtain⟨nq,rfl⟩:=hw';have HB4:=hid (HB.out.trans (nq.below.mono HB.out.size));clear HPO C4 C5;go_wp2;go_roundw
   case rel=>exact⟨p+1,by omega,by omega,by go_num,HB4⟩
   case measure=>simp [intOf];omega
end Go.Proofs.YtpbmmoneeoijaaaGreatDoor
