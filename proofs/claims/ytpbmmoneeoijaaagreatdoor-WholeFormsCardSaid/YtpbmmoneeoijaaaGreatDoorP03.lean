/-
  A part of the proof: DigText Bits MaskFn LineD PrintFn ReadFn.
-/
import Derived.Test.YtpbmmoneeoijaaaGreatDoorP02
import Derived.BigRegion
import Derived.Laws.IdiomStrings
import Derived.Test.YtpbmmoneeoijaaaGreatDoorProg
namespace Go.Proofs.YtpbmmoneeoijaaaGreatDoor
open Go.RowKit
set_option maxRecDepth 100000
def byV (l:List UInt8):List Value:=l.map fun c=>.int .u8 (c.toNat:Int)
theorem byV_snoc (l:List UInt8) (c:UInt8):byV (l ++ [c])=byV l ++ [.int .u8 (c.toNat:Int)]:=by simp [byV]
theorem infoU8s:(Tryz.prog.info? 5).map (fun i=>(i.zero,i.size,i.bytes))=some (some (.int .u8 0),1,1):=by kernel_rfl
theorem zEc (n:Nat):48+(n:Int) % 10=((dg n).toNat:Int):=by
 rw [zkf];omega
theorem zqr {w:World} {base n:Nat} {v:Value} {L:List Value} (h:w.ownsRow base 5 1 v n L) (hn:0 < n):∃ b cap,v=.slice (some ⟨b,0,none⟩) n cap∧n≤cap∧cap≤maxLen∧base≤b:=by
 rcases h.2 with ⟨_,h2⟩|⟨g,cap,cur,rfl,h1,_,h2,h3,_⟩
 ·omega
 ·exact⟨g,cap,rfl,h2,h3,h1⟩
theorem own_one (w:World) (t:TypeId) (v:Value):(w.alloc (qC #[v] t)).ownsRow w.heap.size t 1 (.slice (some ⟨w.heap.size,0,none⟩) 1 1) 1 [v]:=
 ⟨rfl,.inr ⟨w.heap.size,1,#[v],rfl,Nat.le_refl _,heap_alloc_new w _,Nat.le_refl _,by decide,rfl,rfl⟩⟩
def zu6 (b r:List UInt8) (i:Nat):Prop:=r.length=b.length∧∀ p,p < b.length→r[p]? =if p < i∨b.length - i≤p then b[b.length - 1 - p]? else b[p]?
theorem zu6.done {b r:List UInt8} {i:Nat} (h:zu6 b r i) (h2:2 * i≤b.length) (h3:b.length - 1 - i≤i):r=b.reverse:=by
 apply List.ext_getElem?;intro p;rcases Nat.lt_or_ge p b.length with hp|hp
 ·rw [h.2 p hp,List.getElem?_reverse hp]
  split
  ·rfl
  ·rw [show b.length - 1 - p=p by omega]
 ·rw [List.getElem?_eq_none (by rw [h.1];exact hp),List.getElem?_eq_none (by simpa using hp)]
theorem zu6.swap {b r:List UInt8} {i:Nat} (h:zu6 b r i) (h3:i < b.length - 1 - i) {x y:UInt8} (hx:r[i]? =some x) (hy:r[b.length - 1 - i]? =some y):zu6 b ((r.set i y).set (b.length - 1 - i) x) (i+1):=by
 refine⟨by simpa using h.1,fun p hp=>?_⟩;have hl:=h.1;have ei:=h.2 i (by omega);have ej:=h.2 (b.length - 1 - i) (by omega);rw [if_neg (by omega),hx] at ei;rw [if_neg (by omega),hy] at ej;by_cases h1:p=b.length - 1 - i
 ·subst h1
  rw [List.getElem?_set_self (by simp;omega),if_pos (by omega),ei]
  congr 1
  omega
 ·rw [List.getElem?_set_ne (Ne.symm h1)]
  by_cases h2:p=i
  ·subst h2
   rw [List.getElem?_set_self (by omega),if_pos (by omega),ej]
  ·rw [List.getElem?_set_ne (Ne.symm h2),h.2 p hp]
   by_cases h4:p < i∨b.length - i≤p
   ·rw [if_pos h4,if_pos (by omega)]
   ·rw [if_neg h4,if_neg (by omega)]
theorem zEh (l:List UInt8) (i:Nat) (c:UInt8):(byV l).set i (.int .u8 (c.toNat:Int))=byV (l.set i c):=by simp [byV,List.map_set]
theorem zEi {l:List UInt8} {i:Nat} {c:UInt8} (h:l[i]? =some c):(byV l)[i]? =some (.int .u8 (c.toNat:Int)):=by simp [byV,h]
set_option maxHeartbeats 2000000 in
theorem text_val (n:Nat) (w:World) (hn:n < 2147483648):Calls Tryz.prog 70 #[qI n] w fun e w'=>e=.returned (.string (bs (txt n)))∧Below w.heap.size w w':=by
 obtain⟨i0,hi,hz0,hz1,hz2⟩:=info_parts infoU8s;have HT0:=hid (zta 9 n);have HO0:=hid (own_one w 5 (.int .u8 (48+(n:Int) % 10)));have HB0:=hid (qBr (w:=w) (qC #[.int .u8 (48+(n:Int) % 10)] 5));obtain⟨T,hT⟩:∃ T,txt n=T:=⟨_,rfl⟩;have HTT:=hid hT;rw [hT];clear hT;go_enter Tryz.func70,Tryz.ntmps70;go_wp2;obtain⟨W0,hW0⟩:∃ X,X=w.alloc (qC #[.int .u8 (48+(n:Int) % 10)] 5):=⟨_,rfl⟩;rw [←hW0] at HO0 HB0 ⊢;clear hW0
 go_loopw [0,3] (fun n_ v wr=>∃ (m k L:Nat) (b:List UInt8),n_=qI m∧m < 2147483648∧Hid (k+L=10)∧0 < L∧Hid (b.length=L)∧Hid (m < 10 ^ k)∧Hid (T=txtZ k m ++ b.reverse)∧Hid (wr.ownsRow w.heap.size 5 1 v L (byV b))∧Hid (Below w.heap.size w wr)) (fun n_ _ _=>(intOf n_).toNat)
 case atStart=>exact⟨n / 10,9,1,[dg n],by go_num,by omega,rfl,Nat.zero_lt_one,rfl,by unfold Hid;omega,by rw [←HTT.out];exact HT0.out,by have:=HO0.out;rw [zEc] at this;exact this,HB0⟩
 case round=>
  clear HO0 HB0 HT0;obtain⟨m,k,L,b,rfl,hm,hkb,hb0,HL,hmk,HT,HO,HB⟩:=hrel;by_cases h0:0 < m
  ·have t0:decide ((0:Int) < (m:Int))=true:=by simp;omega
   have hsz:=HB.out.size;have hbl:L≤10:=by have:=hkb.out;omega
   have HSN:=hid (fun k'=>znv k' m h0)
   go_wp2_with (at_builtin;refine wpList_append_own _ rfl _ _ 277 rfl w.heap.size 5 i0 (.int .u8 0) 1 1 Tryz.underlying277 hi hz0 hz1 hz2 rfl (by decide) u3 L _ rfl (HO.out.alloc _) ⟨wr.heap.size,0,none⟩ 1 1 [.int .u8 (48+(m:Int) % 10)] rfl rfl (by intro j u hj;rw [zbn,Nat.zero_add,World.cell?_alloc_at _ _ _ _ rfl];simpa using hj) (by simp [Value.oneCell']) (by unfold maxLen;omega) (by omega) (by simp;omega) ?_;intro v' w1 hown1 hgrow _;have HO1:=hid (show w1.ownsRow w.heap.size 5 1 v' (L+1) (byV (b ++ [dg m])) by rw [byV_snoc,←zEc];simpa using hown1);obtain⟨b2,cap,rfl,hc1,hc2,_⟩:=zqr HO1.out (by omega);have HB1:=hid ((HB.out.alloc hsz _).grown hgrow (by simp;omega) fun j hj=>(HO.out.lt j hj).1);clear hown1 hgrow)
   go_roundw
   case rel=>
    obtain⟨k',rfl⟩:∃ k',k=k'+1:=⟨k - 1,by
                             rcases k with _|k;· have:=hmk.out;simp at this;omega
                             ·omega⟩
    exact⟨m / 10,k',L+1,b ++ [dg m],by go_num,by omega,by have:=hkb.out;unfold Hid;omega,by omega,by unfold Hid;rw [List.length_append,HL.out];rfl,by have:=hmk.out;rw [Nat.pow_succ] at this;unfold Hid;omega,by unfold Hid;rw [HT.out,HSN.out k'];simp,HO1,HB1⟩
   case measure=>simp [intOf];omega
  ·obtain rfl:m=0:=by omega
   have t0:decide ((0:Int) < ((0:Nat):Int))=false:=by simp
   have HT1:=hid (show T=b.reverse by rw [HT.out];rfl);have hbl:L≤10:=by have:=hkb.out;omega
   obtain⟨g,cap,rfl,hc1,hc2,_⟩:=zqr HO.out hb0;have HR0:=hid (show zu6 b b 0 from ⟨rfl,fun p hp=>by rw [if_neg (by omega)]⟩);go_wp2
   go_loopw [4,5] (fun i_ j_ wr=>∃ (i j:Nat) (r:List UInt8),i_=qI i∧j_=qI j∧i+j+1=L∧i≤j+1∧Hid (zu6 b r i)∧Hid (wr.ownsRow w.heap.size 5 1 (.slice (some ⟨g,0,none⟩) L cap) L (byV r))∧Hid (Below w.heap.size w wr)) (fun i_ _ _=>L - (intOf i_).toNat)
   case atStart=>exact⟨0,L - 1,b,by go_num,by go_num,by omega,by omega,HR0,HO,HB⟩
   case round=>
    clear HR0 HO HB;obtain⟨i,j,r,rfl,rfl,hij,hi2,HR,HO,HB⟩:=hrel;have hrl:=HR.out.1;rw [HL.out] at hrl;by_cases hlt:i < j
    ·have t1:decide ((i:Int) < (j:Int))=true:=by simp;omega
     obtain⟨x,hx⟩:∃ x,r[i]? =some x:=⟨_,List.getElem?_eq_getElem (by omega)⟩;obtain⟨y,hy⟩:∃ y,r[j]? =some y:=⟨_,List.getElem?_eq_getElem (by omega)⟩;have HSW:=hid (show zu6 b ((r.set i y).set j x) (i+1) by have:=HR.out.swap (x:=x) (y:=y) (by rw [HL.out];omega) hx (by rw [HL.out,show L - 1 - i=j by omega];exact hy);rw [HL.out,show L - 1 - i=j by omega] at this;exact this);have ci:wr.cell? ⟨g,i,none⟩=some (.int .u8 (x.toNat:Int)):=by rw [HO.out.cellAt i (by omega)];exact zEi hx
     have cj:wr.cell? ⟨g,j,none⟩=some (.int .u8 (y.toNat:Int)):=by rw [HO.out.cellAt j (by omega)];exact zEi hy
     have fi:=HO.out.frozenAt i;have fj:=HO.out.frozenAt j;have k0:(0:Int)≤(i:Int):=by omega
     have k1:(i:Int) < (L:Int):=by omega
     have k2:(0:Int)≤(j:Int):=by omega
     have k3:(j:Int) < (L:Int):=by omega
     have hst1:=HO.out.stored i (.int .u8 (y.toNat:Int));have hst2:=hst1.1.stored j (.int .u8 (x.toNat:Int));rw [zEh,zEh] at hst2;have HOW:=hid hst2.1;have HBW:=hid ((HB.out.grown hst1.2 HB.out.size fun k hk=>(HO.out.lt k hk).1).grown hst2.2 (by simp;exact HB.out.size) fun k hk=>(hst1.1.lt k hk).1);clear hst1 hst2 hrl hx hy HO HB HR;go_wp2
     go_region
     go_wp2;go_roundw
     case rel=>exact⟨i+1,j - 1,_,by go_num,by go_num,by omega,by omega,HSW,HOW.out,HBW.out.trans ⟨rfl,rfl,rfl,Nat.le_refl _,fun _ _=>rfl⟩⟩
     case measure=>simp [intOf];omega
    ·have t1:decide ((i:Int) < (j:Int))=false:=by simp;omega
     have HE:=hid (HR.out.done (by rw [HL.out];omega) (by rw [HL.out];omega));have hrT:r=T:=by rw [HT1.out];exact HE.out
     subst hrT;have hcv:∀ cp,(convert 277 9 (.slice (some ⟨g,0,none⟩) L cp)).run Tryz.prog wr=.ok (.string (bs r)) wr:=fun cp=>by
      rw [←hrl];refine run_convert_bytes_back wr 277 9 5 _ cp r Tryz.underlying277 Tryz.underlying5 Tryz.underlying9 fun p hp=>?_;rw [zbn,Nat.zero_add,HO.out.cellAt p (by omega)];exact zEi (List.getElem?_eq_getElem hp)
     clear hrl HE HT1 HTT HT;go_wp2;go_ret;exact⟨rfl,HB.out⟩
theorem zy1 (w:World) (n:Nat):(convert 277 9 (.slice (some ⟨w.heap.size,0,none⟩) 1 1)).run Tryz.prog (w.alloc (qC #[.int .u8 (48+(n:Int) % 10)] 5))=.ok (.string (bs [dg n])) (w.alloc (qC #[.int .u8 (48+(n:Int) % 10)] 5)):=
 run_convert_bytes_back _ 277 9 5 _ 1 [dg n] Tryz.underlying277 Tryz.underlying5 Tryz.underlying9 fun p hp=>by
  obtain rfl:p=0:=by simp at hp;omega
  rw [zbn,Nat.zero_add,World.cell?_alloc_at _ _ _ _ rfl,zEc];rfl
theorem ziv {a b:ByteArray} {x y:List UInt8} (ha:a=bs x) (hb:b=bs y) (h:x.length+y.length≤1000000):a.size+b.size≤9223372036854775807:=by
 rw [ha,hb,zhw,zhw];omega
set_option maxHeartbeats 2000000 in
theorem zvr (n:Nat) (w:World) (hn:n < 2147483648):Calls Tryz.prog 83 #[qI n] w fun e w'=>e=.returned (.string (bs (txt n)))∧Below w.heap.size w w':=by
 have HT0:=hid (zta 9 n);have HB0:=hid (qBr (w:=w) (qC #[.int .u8 (48+(n:Int) % 10)] 5));have hcv:=zy1 w n;have t1:decide ((n:Int) < 0)=false:=by simp
 have t2:decide ((2147483647:Int) < (n:Int))=false:=by simp;omega
 obtain⟨T,hT⟩:∃ T,txt n=T:=⟨_,rfl⟩;have HTT:=hid hT;rw [hT];clear hT;obtain⟨S0,hS0⟩:∃ S,bs [dg n]=S:=⟨_,rfl⟩;have HS0:=hid hS0.symm;rw [hS0] at hcv;clear hS0;go_enter Tryz.func83,Tryz.ntmps83;go_wp2;obtain⟨W0,hW0⟩:∃ X,X=w.alloc (qC #[.int .u8 (48+(n:Int) % 10)] 5):=⟨_,rfl⟩;rw [←hW0] at HB0 ⊢;clear hW0 hcv t1 t2
 go_loopw [0,3] (fun n_ v wr=>∃ (m k:Nat) (b:List UInt8) (S:ByteArray),n_=qI m∧v=.string S∧m < 2147483648∧Hid (k+b.length=10)∧Hid (m < 10 ^ k)∧Hid (T=txtZ k m ++ b)∧Hid (S=bs b)∧Hid (Below w.heap.size w wr)) (fun n_ _ _=>(intOf n_).toNat)
 case atStart=>exact⟨n / 10,9,[dg n],S0,by go_num,rfl,by omega,rfl,by unfold Hid;omega,by rw [←HTT.out];exact HT0.out,HS0,HB0⟩
 case round=>
  clear HB0 HT0 HS0;obtain⟨m,k,b,S,rfl,rfl,hm,hkb,hmk,HT,HS,HB⟩:=hrel;by_cases h0:0 < m
  ·have t0:decide ((0:Int) < (m:Int))=true:=by simp;omega
   have HSN:=hid (fun k'=>znv k' m h0);have hcv:=zy1 wr m;have HB1:=hid (qBr (w:=wr) (qC #[.int .u8 (48+(m:Int) % 10)] 5));obtain⟨D,hD⟩:∃ D,bs [dg m]=D:=⟨_,rfl⟩;rw [hD] at hcv;have hsz:D.size+S.size≤9223372036854775807:=ziv hD.symm HS.out (by have:=hkb.out;simp;omega);obtain⟨R,hR⟩:∃ R,D ++ S=R:=⟨_,rfl⟩;have HR:=hid (show R=bs (dg m :: b) by rw [←hR,←hD,HS.out,zc6];rfl);clear hD;go_wp2;go_roundw
   case rel=>
    obtain⟨k',rfl⟩:∃ k',k=k'+1:=⟨k - 1,by
                             rcases k with _|k;· have:=hmk.out;simp at this;omega
                             ·omega⟩
    exact⟨m / 10,k',dg m :: b,R,by go_num,rfl,by omega,by have:=hkb.out;unfold Hid;simp;omega,by have:=hmk.out;rw [Nat.pow_succ] at this;unfold Hid;omega,by unfold Hid;rw [HT.out,HSN.out k'];simp,HR,HB.out.trans (HB1.out.mono HB.out.size)⟩
   case measure=>simp [intOf];omega
  ·obtain rfl:m=0:=by omega
   have t0:decide ((0:Int) < ((0:Nat):Int))=false:=by simp
   have HST:=hid (show S=bs T by rw [HS.out,HT.out];rfl);go_wp2;go_ret;exact⟨by rw [HST.out];rfl,HB.out⟩
end Go.Proofs.YtpbmmoneeoijaaaGreatDoor
namespace Go.Proofs.YtpbmmoneeoijaaaGreatDoor
open Go.RowKit
def B (x:BitVec 32):Int:=(x.toNat:Int)
theorem B_lt (x:BitVec 32):x.toNat < 4294967296:=x.isLt
theorem zk2 (x:BitVec 32):BitVec.ofInt 32 (B x)=x:=by
 unfold B;rw [BitVec.ofInt_natCast];exact BitVec.eq_of_toNat_eq (by simp)
theorem zCm (x:BitVec 32):IntKind.u32.wrap (x.toNat:Int)=B x:=by
 rw [IntKind.wrap_u32'];have:=B_lt x;unfold B;omega
theorem B_and (x y:BitVec 32):bits .and .u32 (B x) (B y)=B (x &&& y):=by
 show IntKind.u32.wrap ((BitVec.ofInt 32 (B x) &&& BitVec.ofInt 32 (B y)).toNat:Int)=_;rw [zk2,zk2,zCm]
theorem B_or (x y:BitVec 32):bits .or .u32 (B x) (B y)=B (x |||y):=by
 show IntKind.u32.wrap ((BitVec.ofInt 32 (B x) |||BitVec.ofInt 32 (B y)).toNat:Int)=_;rw [zk2,zk2,zCm]
theorem B_andNot (x y:BitVec 32):bits .andNot .u32 (B x) (B y)=B (x &&& ~~~y):=by
 show IntKind.u32.wrap ((BitVec.ofInt 32 (B x) &&& ~~~BitVec.ofInt 32 (B y)).toNat:Int)=_;rw [zk2,zk2,zCm]
def bt (x:BitVec 32) (i:Nat):Bool:=x.getLsbD i
end Go.Proofs.YtpbmmoneeoijaaaGreatDoor
namespace Go.Proofs.YtpbmmoneeoijaaaGreatDoor
open Go.RowKit
set_option maxRecDepth 100000
theorem zoo {s t:Nat} (hs:s < 4294967296) (ht:t < 4294967296):bits .or .u32 (s:Int) (t:Int)=((s |||t:Nat):Int):=by
 have h:=B_or (BitVec.ofNat 32 s) (BitVec.ofNat 32 t);simp only [B,BitVec.toNat_ofNat,Nat.mod_eq_of_lt hs,Nat.mod_eq_of_lt ht,BitVec.toNat_or] at h;exact h
theorem zsy {s t:Nat} (hs:s < 4294967296) (ht:t < 4294967296):bits .and .u32 (s:Int) (t:Int)=((s &&& t:Nat):Int):=by
 have h:=B_and (BitVec.ofNat 32 s) (BitVec.ofNat 32 t);simp only [B,BitVec.toNat_ofNat,Nat.mod_eq_of_lt hs,Nat.mod_eq_of_lt ht,BitVec.toNat_and] at h;exact h
def zcl (s t:Nat):Nat:=(BitVec.ofNat 32 s &&& ~~~(BitVec.ofNat 32 t)).toNat
theorem zub (s t i:Nat) (hs:s < 4294967296):(zcl s t).testBit i=(s.testBit i && !t.testBit i):=by
 unfold zcl;rw [←BitVec.getLsbD,BitVec.getLsbD_and,BitVec.getLsbD_not];simp only [BitVec.getLsbD_ofNat];by_cases hi:i < 32
 ·simp [hi]
 ·have:s.testBit i=false:=Nat.testBit_lt_two_pow (Nat.lt_of_lt_of_le hs (show 2 ^ 32≤2 ^ i from Nat.pow_le_pow_right (by decide) (by omega)))
  simp [hi,this]
theorem zes (s t:Nat):zcl s t≤s:=by
 unfold zcl;rw [BitVec.toNat_and];exact Nat.le_trans Nat.and_le_left (by simp;exact Nat.mod_le _ _)
theorem zez {s t:Nat} (hs:s < 4294967296) (ht:t < 4294967296):bits .andNot .u32 (s:Int) (t:Int)=((zcl s t:Nat):Int):=by
 have h:=B_andNot (BitVec.ofNat 32 s) (BitVec.ofNat 32 t);simp only [B,BitVec.toNat_ofNat,Nat.mod_eq_of_lt hs,Nat.mod_eq_of_lt ht] at h;exact h
def bitN (n:Int):Nat:=if 0≤n∧n≤31 then 2 ^ n.toNat else 0
theorem zsx (n:Int):bitN n < 4294967296:=by
 unfold bitN
 split
 ·exact Nat.lt_of_lt_of_le (Nat.pow_lt_pow_right (by decide) (show n.toNat < 32 by omega)) (by decide)
 ·decide
theorem zih (n:Int) (i:Nat):(bitN n).testBit i=(decide (0≤n∧n≤31) && decide (i=n.toNat)):=by
 unfold bitN
 split
 ·rename_i h
  rw [Nat.testBit_two_pow];simp [h,eq_comm]
 ·rename_i h
  simp [h]
theorem zyb (n:Int) (h0:0≤n) (h1:n≤31):(2:Int) ^ n.toNat % 4294967296=((2 ^ n.toNat:Nat):Int):=by
 have h2:2 ^ n.toNat < 4294967296:=Nat.lt_of_lt_of_le (Nat.pow_lt_pow_right (by decide) (show n.toNat < 32 by omega)) (by decide);have e:(2:Int) ^ n.toNat=((2 ^ n.toNat:Nat):Int):=by rw [Int.natCast_pow];rfl
 rw [e];generalize 2 ^ n.toNat=p at h2;omega
theorem zEm (n:Int) (w:World):Calls Tryz.prog 210 #[qI n] w fun e w'=>e=.returned (qU (bitN n:Nat))∧w'=w:=by
 by_cases h0:n < 0
 ·have t1:decide (n < 0)=true:=by simp;omega
  go_enter Tryz.func210,Tryz.ntmps210;go_wp2;go_ret;exact⟨by unfold bitN;rw [if_neg (by omega)];rfl,rfl⟩
 ·have t1:decide (n < 0)=false:=by simp;omega
  by_cases h1:31 < n
  ·have t2:decide (31 < n)=true:=by simp;omega
   go_enter Tryz.func210,Tryz.ntmps210;go_wp2;go_ret;exact⟨by unfold bitN;rw [if_neg (by omega)];rfl,rfl⟩
  ·have t2:decide (31 < n)=false:=by simp;omega
   go_enter Tryz.func210,Tryz.ntmps210;go_wp2;go_ret;refine⟨?_,rfl⟩;unfold bitN;rw [if_pos (by omega)];have this:=zyb n (by omega) (by omega);simp [this]
def hasN (s:Nat) (n:Int):Bool:=decide (0≤n∧n≤31) && s.testBit n.toNat
theorem has_nat {s:Nat} (n:Int):(!(((s &&& bitN n:Nat):Int) == 0))=hasN s n:=by
 have key:s &&& bitN n=if hasN s n=true then bitN n else 0:=by
  apply Nat.eq_of_testBit_eq;intro i;rw [Nat.testBit_and,zih];unfold hasN;by_cases hn:0≤n∧n≤31
  ·by_cases hi:i=n.toNat
   ·subst hi
    cases hb:s.testBit n.toNat<;>simp [hn,zih]
   ·cases hb:s.testBit n.toNat<;>simp [hn,hi,zih]
  ·simp [hn]
 rw [key]
 cases hh:hasN s n with
 |false=>simp
 |true=>
  unfold hasN at hh;simp only [Bool.and_eq_true,decide_eq_true_eq] at hh;have:bitN n≠0:=by
   unfold bitN;rw [if_pos hh.1];exact Nat.pos_iff_ne_zero.1 (Nat.pow_pos (by decide))
  simp;omega
theorem zhm (s:Nat) (hs:s < 4294967296) (n:Int) (w:World):Calls Tryz.prog 189 #[qU s,qI n] w fun e w'=>e=.returned (.bool (hasN s n))∧w'=w:=by
 have h2:=zsy hs (zsx n);have h3:=has_nat n (s:=s);obtain⟨b,hb⟩:∃ b,bitN n=b:=⟨_,rfl⟩;rw [hb] at h2 h3;go_enter Tryz.func189,Tryz.ntmps189
 go_wp2_with (go_at_call 210;refine (zEm n _).mono ?_;rw [hb];rintro e w2 ⟨rfl,rfl⟩)
 go_ret;refine⟨?_,rfl⟩;rw [←h3,←h2];rfl
theorem zjl (s:Nat) (hs:s < 4294967296) (n:Int) (w:World):Calls Tryz.prog 138 #[qU s,qI n] w fun e w'=>e=.returned (qU (s |||bitN n:Nat))∧w'=w:=by
 have h2:=zoo hs (zsx n);obtain⟨b,hb⟩:∃ b,bitN n=b:=⟨_,rfl⟩;rw [hb] at h2 ⊢;go_enter Tryz.func138,Tryz.ntmps138
 go_wp2_with (go_at_call 210;refine (zEm n _).mono ?_;rw [hb];rintro e w2 ⟨rfl,rfl⟩)
 go_ret;refine⟨?_,rfl⟩;rw [←h2];rfl
end Go.Proofs.YtpbmmoneeoijaaaGreatDoor
namespace Go.Proofs.YtpbmmoneeoijaaaGreatDoor
open Go.RowKit Go.Deep Go.Shelf
set_option maxRecDepth 100000
set_option maxHeartbeats 8000000
def wRes:List UInt8:=[114,101,115]
def zrm:List UInt8:=[116,97,115,107]
def zff:List UInt8:=[109,111,100,101]
def zg9:List UInt8:=[113,117,101,117,101]
def zmu:List UInt8:=[101,100,103,101]
def tk (n:Int):List UInt8:=txt n.toNat
def zbl (sg:UInt8) (f:Nat→Int) (k:Nat):List (List UInt8):=(List.range k).flatMap fun i=>if f i=0 then [] else [txt i ++ sg :: tk (f i)]
theorem zh8 (sg:UInt8) (f:Nat→Int) (k:Nat):zbl sg f (k+1)=zbl sg f k ++ (if f k=0 then [] else [txt k ++ sg :: tk (f k)]):=by simp [zbl,List.range_succ]
def bitP (t:Nat) (k:Nat):List (List UInt8):=(List.range k).flatMap fun (i:Nat)=>if hasN t (i:Int)=true then [txt i] else []
theorem zki (t:Nat) (k:Nat):bitP t (k+1)=bitP t k ++ (if hasN t (k:Int)=true then [txt k] else []):=by simp [bitP,List.range_succ]
def polW (p:Int):List UInt8:=if p=1 then [114,101,102,117,115,101] else if p=2 then [111,108,100] else [110,101,119]
def zgr (p:Int):List UInt8:=if p=1 then [105,100,108,101] else if p=2 then [108,111,110,103,101,115,116] else [97,112,97,114,116]
structure zb8 where
 k:Nat
 f:Nat→Int
 t:Nat
def zfz (y:Nat→Int):List (List UInt8):=[zrm,tk (y 0),tk (y 1),tk (y 2)] ++ zbl 58 (fun j=>y (3+j)) 8
def zdz (t:Nat):List (List UInt8):=zff :: bitP t 32
def zdd (f:Nat→Int):List (List UInt8):=[zg9,tk (f 0),polW (f 1)]
def zfj (f:Nat→Int):List (List UInt8):=[zmu,tk (f 0),tk (f 1),zgr (f 2)] ++ (zbl 62 (fun j=>f (19+j)) 4 ++ zbl 58 (fun j=>f (3+j)) 16)
def zb8.ps (d:zb8):List (List UInt8):=if d.k=0 then [wRes,tk (d.f 0)] else if d.k=1 then zfz d.f else if d.k=2 then zdz d.t else if d.k=3 then zdd d.f else zfj d.f
def lnB (ps:List (List UInt8)):List UInt8:=zd0 ps ++ [10]
def zat (L:List zb8):List UInt8:=L.flatMap fun d=>lnB d.ps
theorem zew (L:List zb8) (d:zb8):zat (L ++ [d])=zat L ++ lnB d.ps:=by simp [zat]
theorem zlh (L K:List zb8):zat (L ++ K)=zat L ++ zat K:=by simp [zat]
theorem zkr (d:zb8) (L:List zb8):zat (d :: L)=lnB d.ps ++ zat L:=by simp [zat]
def zc0 (g:Nat→Nat→Int) (n:Nat):List zb8:=(List.range n).map fun i=>⟨1,g i,0⟩
def zj0 (q:Nat→Int):zb8:=⟨3,q,0⟩
def za8 (q:Nat→Nat→Int) (n:Nat):List zb8:=(List.range n).map fun j=>zj0 (q j)
def zmw (M:Nat→zas) (q:Nat→Nat→Nat→Int) (i:Nat):List zb8:=⟨2,fun _=>0,(M i).t⟩ :: za8 (q i) (M i).qn
def za3 (M:Nat→zas) (q:Nat→Nat→Nat→Int) (n:Nat):List zb8:=(List.range n).flatMap (zmw M q)
def zdb (h:Nat→Nat→Int) (n:Nat):List zb8:=(List.range n).map fun i=>⟨4,h i,0⟩
theorem zh3 (g:Nat→Nat→Int) (n:Nat):zc0 g (n+1)=zc0 g n ++ [⟨1,g n,0⟩]:=by simp [zc0,List.range_succ]
theorem zfq (q:Nat→Nat→Int) (n:Nat):za8 q (n+1)=za8 q n ++ [zj0 (q n)]:=by simp [za8,List.range_succ]
theorem zc8 (M:Nat→zas) (q:Nat→Nat→Nat→Int) (n:Nat):za3 M q (n+1)=za3 M q n ++ zmw M q n:=by simp [za3,List.range_succ]
theorem zid (h:Nat→Nat→Int) (n:Nat):zdb h (n+1)=zdb h n ++ [⟨4,h n,0⟩]:=by simp [zdb,List.range_succ]
def resD (r:Int):zb8:=⟨0,fun _=>r,0⟩
def imgD (x:Img) (g:Nat→Nat→Int) (M:Nat→zas) (q:Nat→Nat→Nat→Int) (h:Nat→Nat→Int):List zb8:=[resD x.r] ++ zc0 g x.n ++ za3 M q x.mn ++ zdb h x.en
structure St where
 r:Int
 ts:List (Nat→Int)
 ms:List (Nat×List (Nat→Int))
 es:List (Nat→Int)
def addQ:List (Nat×List (Nat→Int))→(Nat→Int)→List (Nat×List (Nat→Int))
 | [],_=>[]
 | [m],f=>[(m.1,m.2 ++ [f])]
 |m :: k :: r,f=>m :: addQ (k :: r) f
theorem zpu (m:Nat×List (Nat→Int)) (f:Nat→Int):∀ ms,addQ (ms ++ [m]) f=ms ++ [(m.1,m.2 ++ [f])]
 | []=>rfl
 | [a]=>rfl
 |a :: b :: r=>by
  have:=zpu m f (b :: r);simp only [List.cons_append] at this ⊢;rw [addQ,this]
def St.step (s:St) (d:zb8):St:=
 if d.k=0 then { s with r:=d.f 0 } else if d.k=1 then { s with ts:=s.ts ++ [d.f] } else if d.k=2 then { s with ms:=s.ms ++ [(d.t,[])] } else if d.k=3 then { s with ms:=addQ s.ms d.f } else { s with es:=s.es ++ [d.f] }
def St.run (s:St) (L:List zb8):St:=L.foldl St.step s
theorem St.run_append (s:St) (L K:List zb8):s.run (L ++ K)=(s.run L).run K:=by simp [St.run]
theorem St.run_one (s:St) (d:zb8):s.run [d]=s.step d:=rfl
theorem zhh (g:Nat→Nat→Int) (s:St):∀ n,s.run (zc0 g n)= { s with ts:=s.ts ++ (List.range n).map g }
 |0=>by simp [St.run,zc0]
 |n+1=>by
  rw [zh3,St.run_append,zhh g s n,St.run_one];simp [St.step,List.range_succ]
theorem zoc (h:Nat→Nat→Int) (s:St):∀ n,s.run (zdb h n)= { s with es:=s.es ++ (List.range n).map h }
 |0=>by simp [St.run,zdb]
 |n+1=>by
  rw [zid,St.run_append,zoc h s n,St.run_one];simp [St.step,List.range_succ]
theorem zku (q:Nat→Nat→Int) (s:St) (ms:List (Nat×List (Nat→Int))) (t:Nat) (hs:s.ms=ms ++ [(t,[])]):∀ n,s.run (za8 q n)= { s with ms:=ms ++ [(t,(List.range n).map q)] }
 |0=>by
  obtain⟨r,ts,m,es⟩:=s;dsimp only at hs;subst hs;simp [St.run,za8]
 |n+1=>by
  rw [zfq,St.run_append,zku q s ms t hs n,St.run_one];simp [St.step,zj0,List.range_succ,zpu]
theorem zjw (M:Nat→zas) (q:Nat→Nat→Nat→Int) (s:St):∀ n,s.run (za3 M q n)= { s with ms:=s.ms ++ (List.range n).map fun i=>((M i).t,(List.range (M i).qn).map (q i)) }
 |0=>by simp [St.run,za3]
 |n+1=>by
  rw [zc8,St.run_append,zjw M q s n,zmw,←List.singleton_append,St.run_append,St.run_one,zku (q n) _ (s.ms ++ (List.range n).map fun i=>((M i).t,(List.range (M i).qn).map (q i))) (M n).t (by simp [St.step])];simp [St.step,List.range_succ]
def St.none:St:=⟨0,[],[],[]⟩
def zmy (x:Img) (g:Nat→Nat→Int) (M:Nat→zas) (q:Nat→Nat→Nat→Int) (h:Nat→Nat→Int):St:=
 ⟨x.r,(List.range x.n).map g,(List.range x.mn).map fun i=>((M i).t,(List.range (M i).qn).map (q i)),(List.range x.en).map h⟩
theorem run_img (x:Img) (g:Nat→Nat→Int) (M:Nat→zas) (q:Nat→Nat→Nat→Int) (h:Nat→Nat→Int):St.none.run (imgD x g M q h)=zmy x g M q h:=by
 unfold imgD;rw [St.run_append,St.run_append,St.run_append,St.run_one,zhh,zjw,zoc];simp [St.step,St.none,resD,zmy]
theorem zh2 (n:Int):zct (tk n):=znu _
theorem sg_piece (i:Nat) (sg:UInt8) (n:Int) (h:sg≠32∧sg≠10∧sg≠35):zct (txt i ++ sg :: tk n):=
 ⟨by simp,fun c hc=>by
  rcases List.mem_append.1 hc with hc|hc
  ·exact (znu i).2 c hc
  ·rcases List.mem_cons.1 hc with rfl|hc
   ·exact h
   ·exact (zh2 n).2 c hc⟩
theorem zi4 (sg:UInt8) (f:Nat→Int) (h:sg≠32∧sg≠10∧sg≠35) (k:Nat):∀ p∈zbl sg f k,zct p:=fun p hp=>by
 obtain⟨i,_,hp⟩:=List.mem_flatMap.1 hp
 split at hp
 ·cases hp
 ·simp at hp;rw [hp];exact sg_piece i sg _ h
theorem zCh (t k:Nat):∀ p∈bitP t k,zct p:=fun p hp=>by
 obtain⟨i,_,hp⟩:=List.mem_flatMap.1 hp
 split at hp
 ·simp at hp;rw [hp];exact znu i
 ·cases hp
theorem zBa (p:Int):zct (polW p):=by
 unfold polW
 split
 ·exact⟨by simp,by decide⟩
 ·split
  ·exact⟨by simp,by decide⟩
  ·exact⟨by simp,by decide⟩
theorem zvv (p:Int):zct (zgr p):=by
 unfold zgr
 split
 ·exact⟨by simp,by decide⟩
 ·split
  ·exact⟨by simp,by decide⟩
  ·exact⟨by simp,by decide⟩
theorem zb8.piece (d:zb8):∀ p∈d.ps,zct p:=by
 have w:zct wRes∧zct zrm∧zct zff∧zct zg9∧zct zmu:=⟨⟨by decide,by decide⟩,⟨by decide,by decide⟩,⟨by decide,by decide⟩,⟨by decide,by decide⟩,⟨by decide,by decide⟩⟩;intro p hp;unfold zb8.ps at hp
 split at hp
 ·simp only [List.mem_cons,List.not_mem_nil,or_false] at hp
  rcases hp with rfl|rfl
  ·exact w.1
  ·exact zh2 _
 ·split at hp
  ·unfold zfz at hp
   rcases List.mem_append.1 hp with hp|hp
   ·simp only [List.mem_cons,List.not_mem_nil,or_false] at hp
    rcases hp with rfl|rfl|rfl|rfl
    ·exact w.2.1
    all_goals exact zh2 _
   ·exact zi4 58 _ (by decide) _ p hp
  ·split at hp
   ·rcases List.mem_cons.1 hp with rfl|hp
    ·exact w.2.2.1
    ·exact zCh _ _ p hp
   ·split at hp
    ·unfold zdd at hp
     simp only [List.mem_cons,List.not_mem_nil,or_false] at hp;rcases hp with rfl|rfl|rfl
     ·exact w.2.2.2.1
     ·exact zh2 _
     ·exact zBa _
    ·unfold zfj at hp
     rcases List.mem_append.1 hp with hp|hp
     ·simp only [List.mem_cons,List.not_mem_nil,or_false] at hp
      rcases hp with rfl|rfl|rfl|rfl
      ·exact w.2.2.2.2
      ·exact zh2 _
      ·exact zh2 _
      ·exact zvv _
     ·rcases List.mem_append.1 hp with hp|hp
      ·exact zi4 62 _ (by decide) _ p hp
      ·exact zi4 58 _ (by decide) _ p hp
theorem zcp {N:Nat}:∀ {ps:List (List UInt8)},(∀ p∈ps,p.length≤N)→(zau ps).length≤ps.length * (N+1)
 | [],_=>by simp [zau]
 |p :: ps,h=>by
  have:=zcp (N:=N) (ps:=ps) fun q hq=>h q (by simp [hq]);have hp:=h p (by simp);have e:zau (p :: ps)=32 :: (p ++ zau ps):=rfl;rw [e,List.length_cons,List.length_append,List.length_cons,Nat.add_mul];omega
theorem zBv {N:Nat} {ps:List (List UInt8)} (h:∀ p∈ps,p.length≤N):(lnB ps).length≤ps.length * (N+1)+1:=by
 unfold lnB;rw [List.length_append]
 cases ps with
 |nil=>simp [zd0]
 |cons p ps=>
  have:=zcp (N:=N) (ps:=ps) fun q hq=>h q (by simp [hq]);have hp:=h p (by simp);rw [zd0,List.length_append,List.length_singleton,List.length_cons,Nat.add_mul];omega
theorem zqo (p:Int) (w:World) (h1:1≤p) (h2:p≤3):Calls Tryz.prog 72 #[qI p] w fun e w'=>e=.returned (.string (bs (polW p)))∧w=w':=by
 obtain rfl|rfl|rfl:p=1∨p=2∨p=3:=by omega
 all_goals
  go_enter Tryz.func72,Tryz.ntmps72;go_wp2;go_ret;exact⟨rfl,rfl⟩
theorem zlp (p:Int) (w:World) (h1:1≤p) (h2:p≤3):Calls Tryz.prog 73 #[qI p] w fun e w'=>e=.returned (.string (bs (zgr p)))∧w=w':=by
 obtain rfl|rfl|rfl:p=1∨p=2∨p=3:=by omega
 all_goals
  go_enter Tryz.func73,Tryz.ntmps73;go_wp2;go_ret;exact⟨rfl,rfl⟩
theorem zrz (p:Int) (w:World) (h1:1≤p) (h2:p≤3):Calls Tryz.prog 86 #[qI p] w fun e w'=>e=.returned (.string (bs (polW p)))∧Below w.heap.size w w':=by
 have hb:=qBr (w:=w) (qC #[.string ⟨#[114,101,102,117,115,101]⟩,.string ⟨#[111,108,100]⟩,.string ⟨#[110,101,119]⟩] 9);obtain rfl|rfl|rfl:p=1∨p=2∨p=3:=by omega
 all_goals
  go_enter Tryz.func86,Tryz.ntmps86;go_wp2;go_ret;exact⟨rfl,hb⟩
theorem zog (p:Int) (w:World) (h1:1≤p) (h2:p≤3):Calls Tryz.prog 87 #[qI p] w fun e w'=>e=.returned (.string (bs (zgr p)))∧Below w.heap.size w w':=by
 have hb:=qBr (w:=w) (qC #[.string ⟨#[105,100,108,101]⟩,.string ⟨#[108,111,110,103,101,115,116]⟩,.string ⟨#[97,112,97,114,116]⟩] 9);obtain rfl|rfl|rfl:p=1∨p=2∨p=3:=by omega
 all_goals
  go_enter Tryz.func87,Tryz.ntmps87;go_wp2;go_ret;exact⟨rfl,hb⟩
theorem textI (x:Int) (w:World) (h0:0≤x) (h1:x < 2147483648):Calls Tryz.prog 70 #[qI x] w fun e w'=>e=.returned (.string (bs (tk x)))∧Below w.heap.size w w':=by
 obtain⟨n,rfl⟩:=Int.eq_ofNat_of_zero_le h0;exact text_val n w (by omega)
theorem zx7 (x:Int) (w:World) (h0:0≤x) (h1:x < 2147483648):Calls Tryz.prog 83 #[qI x] w fun e w'=>e=.returned (.string (bs (tk x)))∧Below w.heap.size w w':=by
 obtain⟨n,rfl⟩:=Int.eq_ofNat_of_zero_le h0;exact zvr n w (by omega)
theorem zdg (a b:List (List UInt8)):zau (a ++ b)=zau a ++ zau b:=by simp [zau]
theorem zt3 (b o k cap:Nat) (f:Nat→Int) (sg:UInt8) (SG:ByteArray) (w:World) (hSG:SG=bs [sg]) (hk:k≤16) (hf:∀ j,j < k→0≤f j∧f j < 2147483648) (hc:∀ j,j < k→w.cell? ⟨b,o+j,none⟩=some (qI (f j))):
  Calls Tryz.prog 71 #[.slice (some ⟨b,o,none⟩) k cap,.string SG] w fun e w'=>e=.returned (.string (bs (zau (zbl sg f k))))∧Below w.heap.size w w':=by
 obtain⟨T,hT⟩:∃ T,zau (zbl sg f k)=T:=⟨_,rfl⟩;have HTT:=hid hT;rw [hT];clear hT;have HSG:=hid hSG;clear hSG;have HC:=hid hc;have HF:=hid hf;clear hc hf;go_enter Tryz.func71,Tryz.ntmps71;go_wp2
 go_loopw [5,10] (fun s_ i_ wr=>∃ (i:Nat) (S:ByteArray),i≤k∧i_=qI i∧s_=.string S∧Hid (S=bs (zau (zbl sg f i)))∧Hid ((zau (zbl sg f i)).length≤i * 23)∧Hid (Below w.heap.size w wr)) (fun _ i_ _=>k - (intOf i_).toNat)
 case atStart=>exact⟨0,_,by omega,by go_num,rfl,rfl,by unfold Hid;simp [zbl,zau],Below.refl _ _⟩
 case round=>
  obtain⟨i,S,hi,rfl,rfl,HS,HL,HB⟩:=hrel;by_cases hlt:i < k
  ·have t0:decide ((i:Int) < (k:Int))=true:=by simp;omega
   have c0:=kept (HC.out i hlt) HB.out;have hfi:=HF.out i hlt;have HPS:=hid (zh8 sg f i);have k0:(0:Int)≤(i:Int):=by omega
   have k1:(i:Int) < (k:Int):=by omega
   obtain⟨z,hz⟩:∃ z,f i=z:=⟨_,rfl⟩;rw [hz] at c0 hfi HPS;by_cases hz0:z=0
   ·subst hz0
    have HN:=hid (show zau (zbl sg f (i+1))=zau (zbl sg f i) by rw [HPS.out,if_pos rfl,List.append_nil]);go_wp2;go_roundw
    case rel=>exact⟨i+1,S,by omega,by go_num,rfl,by unfold Hid;rw [HN.out];exact HS.out,by have:=HL.out;unfold Hid;rw [HN.out];omega,HB⟩
    case measure=>simp [intOf];omega
   ·have t1:(z != 0)=true:=by simp;omega
    have l1:(tk (i:Int)).length≤10:=zbx _;have l2:(tk z).length≤10:=zbx _;have HN:=hid (show zau (zbl sg f (i+1))=zau (zbl sg f i) ++ (32 :: tk (i:Int) ++ [sg] ++ tk z) by rw [HPS.out,if_neg hz0,zdg];simp [zau,tk]);obtain⟨C1,h1⟩:∃ C,(⟨#[32]⟩:ByteArray) ++ bs (tk (i:Int))=C:=⟨_,rfl⟩;obtain⟨C2,h2⟩:∃ C,C1 ++ SG=C:=⟨_,rfl⟩;obtain⟨C3,h3⟩:∃ C,C2 ++ bs (tk z)=C:=⟨_,rfl⟩;obtain⟨C4,h4⟩:∃ C,S ++ C3=C:=⟨_,rfl⟩;have e1:C1=bs (32 :: tk (i:Int)):=by rw [←h1,show (⟨#[32]⟩:ByteArray)=bs [32] from rfl,zc6];rfl
    have e2:C2=bs (32 :: tk (i:Int) ++ [sg]):=by rw [←h2,e1,HSG.out,zc6]
    have e3:C3=bs (32 :: tk (i:Int) ++ [sg] ++ tk z):=by rw [←h3,e2,zc6]
    have e4:C4=bs (zau (zbl sg f i) ++ (32 :: tk (i:Int) ++ [sg] ++ tk z)):=by rw [←h4,e3,HS.out,zc6]
    have g1:(⟨#[32]⟩:ByteArray).size+(bs (tk (i:Int))).size≤9223372036854775807:=ziv (x:=[32]) rfl rfl (by simp;omega);have g2:C1.size+SG.size≤9223372036854775807:=ziv e1 HSG.out (by simp;omega);have g3:C2.size+(bs (tk z)).size≤9223372036854775807:=ziv e2 rfl (by simp;omega);have g4:S.size+C3.size≤9223372036854775807:=ziv HS.out e3 (by have:=HL.out;simp;omega);have HE4:=hid e4;have HL4:=hid (show (zau (zbl sg f i) ++ (32 :: tk (i:Int) ++ [sg] ++ tk z)).length≤(i+1) * 23 by have:=HL.out;simp;omega);clear e1 e2 e3 e4 l1 l2 HC HF
    go_wp2_with (go_at_call 70;refine (textI _ _ (by omega) (by omega)).mono ?_;rintro e w2 ⟨rfl,hb2⟩;replace HB:=hid (HB.out.trans (hb2.mono HB.out.size));clear hb2)
    go_roundw
    case rel=>exact⟨i+1,C4,by omega,by go_num,rfl,by unfold Hid;rw [HN.out];exact HE4,by unfold Hid;rw [HN.out];exact HL4,HB⟩
    case measure=>simp [intOf];omega
  ·obtain rfl:i=k:=by omega
   have t0:decide ((i:Int) < (i:Int))=false:=by simp
   go_wp2;go_ret;exact⟨by rw [HS.out,HTT.out];rfl,HB.out⟩
theorem zx0 (b o k cap:Nat) (f:Nat→Int) (sg:UInt8) (SG:ByteArray) (w:World) (hSG:SG=bs [sg]) (hk:k≤16) (hf:∀ j,j < k→0≤f j∧f j < 2147483648) (hc:∀ j,j < k→w.cell? ⟨b,o+j,none⟩=some (qI (f j))):
  Calls Tryz.prog 84 #[.slice (some ⟨b,o,none⟩) k cap,.string SG] w fun e w'=>e=.returned (.string (bs (zau (zbl sg f k))))∧Below w.heap.size w w':=by
 obtain⟨T,hT⟩:∃ T,zau (zbl sg f k)=T:=⟨_,rfl⟩;have HTT:=hid hT;rw [hT];clear hT;have HSG:=hid hSG;clear hSG;have HC:=hid hc;have HF:=hid hf;clear hc hf;go_enter Tryz.func84,Tryz.ntmps84;go_wp2
 go_loopw [5,6] (fun s_ i_ wr=>∃ (i:Nat) (S:ByteArray),i≤k∧i_=qI i∧s_=.string S∧Hid (S=bs (zau (zbl sg f i)))∧Hid ((zau (zbl sg f i)).length≤i * 23)∧Hid (Below w.heap.size w wr)) (fun _ i_ _=>k - (intOf i_).toNat)
 case atStart=>exact⟨0,_,by omega,by go_num,rfl,rfl,by unfold Hid;simp [zbl,zau],Below.refl _ _⟩
 case round=>
  obtain⟨i,S,hi,rfl,rfl,HS,HL,HB⟩:=hrel;by_cases hlt:i < k
  ·have t0:decide ((i:Int) < (k:Int))=true:=by simp;omega
   have c0:=kept (HC.out i hlt) HB.out;have hfi:=HF.out i hlt;have HPS:=hid (zh8 sg f i);have k0:(0:Int)≤(i:Int):=by omega
   have k1:(i:Int) < (k:Int):=by omega
   obtain⟨z,hz⟩:∃ z,f i=z:=⟨_,rfl⟩;rw [hz] at c0 hfi HPS;by_cases hz0:z=0
   ·subst hz0
    have HN:=hid (show zau (zbl sg f (i+1))=zau (zbl sg f i) by rw [HPS.out,if_pos rfl,List.append_nil]);go_wp2;go_roundw
    case rel=>exact⟨i+1,S,by omega,by go_num,rfl,by unfold Hid;rw [HN.out];exact HS.out,by have:=HL.out;unfold Hid;rw [HN.out];omega,HB⟩
    case measure=>simp [intOf];omega
   ·have t1:decide (0 < z)=true:=by simp;omega
    have l1:(tk (i:Int)).length≤10:=zbx _;have l2:(tk z).length≤10:=zbx _;have HN:=hid (show zau (zbl sg f (i+1))=zau (zbl sg f i) ++ (32 :: tk (i:Int) ++ [sg] ++ tk z) by rw [HPS.out,if_neg hz0,zdg];simp [zau,tk]);obtain⟨C1,h1⟩:∃ C,(⟨#[32]⟩:ByteArray) ++ bs (tk (i:Int))=C:=⟨_,rfl⟩;obtain⟨C2,h2⟩:∃ C,C1 ++ SG=C:=⟨_,rfl⟩;obtain⟨C3,h3⟩:∃ C,C2 ++ bs (tk z)=C:=⟨_,rfl⟩;obtain⟨C4,h4⟩:∃ C,S ++ C3=C:=⟨_,rfl⟩;have e1:C1=bs (32 :: tk (i:Int)):=by rw [←h1,show (⟨#[32]⟩:ByteArray)=bs [32] from rfl,zc6];rfl
    have e2:C2=bs (32 :: tk (i:Int) ++ [sg]):=by rw [←h2,e1,HSG.out,zc6]
    have e3:C3=bs (32 :: tk (i:Int) ++ [sg] ++ tk z):=by rw [←h3,e2,zc6]
    have e4:C4=bs (zau (zbl sg f i) ++ (32 :: tk (i:Int) ++ [sg] ++ tk z)):=by rw [←h4,e3,HS.out,zc6]
    have g1:(⟨#[32]⟩:ByteArray).size+(bs (tk (i:Int))).size≤9223372036854775807:=ziv (x:=[32]) rfl rfl (by simp;omega);have g2:C1.size+SG.size≤9223372036854775807:=ziv e1 HSG.out (by simp;omega);have g3:C2.size+(bs (tk z)).size≤9223372036854775807:=ziv e2 rfl (by simp;omega);have g4:S.size+C3.size≤9223372036854775807:=ziv HS.out e3 (by have:=HL.out;simp;omega);have HE4:=hid e4;have HL4:=hid (show (zau (zbl sg f i) ++ (32 :: tk (i:Int) ++ [sg] ++ tk z)).length≤(i+1) * 23 by have:=HL.out;simp;omega);clear e1 e2 e3 e4 l1 l2 HC HF;have HT:=hid fun (x:Int) (X:World) (h0:0≤x) (h1:x < 2147483648)=>zx7 x X h0 h1;have C0:=Cls.cell c0;go_wp2;refine zag (by kernel_rfl) (by kernel_rfl) ?_
    repeat (go_big_quiet_step ((go_at_call 83;exact Calls.cls _ (HT.out _ _ (by omega) (by omega)))))
    refine wpQuiet_nil ?_;intro _ hw';obtain⟨nq,rfl⟩:=hw';have HB3:=hid (HB.out.trans (nq.below.mono HB.out.size));go_wp2;go_roundw
    case rel=>exact⟨i+1,C4,by omega,by go_num,rfl,by unfold Hid;rw [HN.out];exact HE4,by unfold Hid;rw [HN.out];exact HL4,HB3⟩
    case measure=>simp [intOf];omega
  ·obtain rfl:i=k:=by omega
   have t0:decide ((i:Int) < (i:Int))=false:=by simp
   go_wp2;go_ret;exact⟨by rw [HS.out,HTT.out];rfl,HB.out⟩
theorem zy2 {l:List UInt8} {i:Nat} {c:UInt8} (h:l[i]? =some c) (h':i < (bs l).size):(bs l)[i]'h'=c:=by
 have:=List.getElem?_eq_some_iff.1 h;obtain⟨h1,h2⟩:=this;rw [←h2];rfl
theorem za1 (l:List UInt8):(bs l).toList=l:=by
 rw [ByteArray.toList_eq];rfl
theorem zCt {l:List UInt8} {i:Nat} {c:UInt8} (h:l[i]? =some c):l.take (i+1)=l.take i ++ [c]:=by
 rw [List.take_add_one,h];rfl
theorem zus:∀ (l:List UInt8) (a:Nat),(∀ c∈l,c.toNat≤57)→l.foldl (fun a c=>10 * a+(c.toNat - 48)) a < (a+1) * 10 ^ l.length
 | [],a,_=>by simp
 |c :: l,a,h=>by
  have hc:=h c (by simp);have:=zus l (10 * a+(c.toNat - 48)) fun d hd=>h d (by simp [hd]);rw [List.foldl_cons,List.length_cons,Nat.pow_succ];refine Nat.lt_of_lt_of_le this ?_;rw [Nat.mul_comm (10 ^ l.length) 10,←Nat.mul_assoc];exact Nat.mul_le_mul_right _ (by omega)
theorem digV_le {l:List UInt8} (h:∀ c∈l,c.toNat≤57):digV l < 10 ^ l.length:=by
 have:=zus l 0 h;simpa [digV] using this
theorem read_val (n:Nat) (w:World) (hn:n < 2147483648):Calls Tryz.prog 270 #[.string (bs (txt n))] w fun e w'=>e=.returned (.tuple #[qI n,qI 0])∧w=w':=by
 obtain⟨l,hl⟩:∃ l,txt n=l:=⟨_,rfl⟩;have hlen:=zbx n;have hne:=txt_ne n;have HD:=hid (zvh n);have HV:=hid (digV_txt hn);have hhd:=txt_head hn;rw [hl] at hlen hne HD HV hhd ⊢;clear hl;obtain⟨S,hS⟩:∃ S,bs l=S:=⟨_,rfl⟩;have HG:=hid fun (i:Nat) (c:UInt8) (h:l[i]? =some c)=>zy2 h;have hsz:=zhw l;have hq:(S.toList == [])=false:=by rw [←hS,za1];simp [hne]
 have h0:0 < l.length:=List.length_pos_iff.2 hne;obtain⟨c0,hc0⟩:∃ c,l[0]? =some c:=⟨_,List.getElem?_eq_getElem h0⟩;rw [hS] at HG hsz ⊢;have hg0:=HG.out 0 c0 hc0;have hz0:1 < l.length→c0.toNat≠48:=fun h=>by
  obtain⟨c,r,rfl,hc⟩:=hhd h;simp at hc0
  rwa [←hc0]
 have HBD:=hid fun i=>digV_le (l:=l.take i) fun c hc=>(HD.out c (List.mem_of_mem_take hc)).2;obtain⟨L,hL⟩:∃ L,l.length=L:=⟨_,rfl⟩;rw [hL] at hlen hsz h0 hz0;have HL:=hid hL;clear hS hL hne hhd hc0;have tA:decide ((10:Int) < (L:Int))=false:=by simp;omega
 have HX:∀ K:Prop,(decide ((1:Int) < (L:Int))=false→K)→(decide ((1:Int) < (L:Int))=true→((c0.toNat:Int) == 48)=false→K)→K:=fun K h1 h2=>by
  by_cases h:1 < L
  ·exact h2 (by simp;omega) (by have:=hz0 h;simp;omega)
  ·exact h1 (by simp;omega)
 clear hz0;refine HX _ (fun tB=>?_) (fun tB tC=>?_)
 all_goals
  go_enter Tryz.func270,Tryz.ntmps270;go_wp2;clear hg0 tA tB hq
  go_loopw [4,25] (fun n_ i_ wr=>∃ i:Nat,i≤L∧i_=qI i∧n_=qI (digV (l.take i):Nat)∧w=wr) (fun _ i_ _=>L - (intOf i_).toNat)
  case atStart=>exact⟨0,by omega,by go_num,by simp [digV],rfl⟩
  case round=>
   obtain⟨i,hi,rfl,rfl,rfl⟩:=hrel;by_cases hlt:i < L
   ·have t0:decide ((i:Int) < (L:Int))=true:=by simp;omega
    obtain⟨c,hc⟩:∃ c,l[i]? =some c:=⟨_,List.getElem?_eq_getElem (by rw [HL.out];exact hlt)⟩;have hgi:=HG.out i c hc;have hd:=HD.out c (List.mem_of_getElem? hc);have t1:decide ((c.toNat:Int) < 48)=false:=by simp;omega
    have t2:decide ((57:Int) < (c.toNat:Int))=false:=by simp;omega
    have hb:=HBD.out i;rw [List.length_take,HL.out,Nat.min_eq_left (by omega)] at hb;have hb9:10 ^ i≤10 ^ 9:=Nat.pow_le_pow_right (by omega) (by omega);have HN:=hid (show digV (l.take (i+1))=10 * digV (l.take i)+(c.toNat - 48) by rw [zCt hc,zur]);generalize digV (l.take i)=v at hb HN;have hv:v < 1000000000:=by omega
    have k0:(0:Int)≤(i:Int):=by omega
    have k1:(i:Int) < (L:Int):=by omega
    clear hb hb9 hc;go_wp2;go_roundw
    case rel=>exact⟨i+1,by omega,by go_num,by rw [HN.out];go_num,trivial⟩
    case measure=>simp [intOf];omega
   ·obtain rfl:i=L:=by omega
    have t0:decide ((i:Int) < (i:Int))=false:=by simp
    have hv:digV (l.take i)=n:=by rw [←HL.out,List.take_length,HV.out]
    rw [hv];have t1:decide ((2147483647:Int) < (n:Int))=false:=by simp;omega
    clear hv;go_wp2;go_ret2;exact⟨rfl,rfl⟩
end Go.Proofs.YtpbmmoneeoijaaaGreatDoor
