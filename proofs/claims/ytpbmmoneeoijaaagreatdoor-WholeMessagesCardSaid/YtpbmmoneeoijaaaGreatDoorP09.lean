/-
  A part of the proof: OffsFn EdgeOk EngKit FlatRow.
-/
import Derived.Test.YtpbmmoneeoijaaaGreatDoorP06
import Derived.Test.YtpbmmoneeoijaaaGreatDoorP08
import Derived.Laws.AppendOwn
import Derived.Laws.OwnMore
namespace Go.Proofs.YtpbmmoneeoijaaaGreatDoor
open Go.RowKit Go.Deep
set_option maxRecDepth 100000
def zqv (f:Nat→Int):List Value:=(List.range 16).map fun j=>.int .i64 (f (3+j))
theorem zj8 (f:Nat→Int):(zqv f).length=16:=by simp [zqv]
theorem zqu (f:Nat→Int) {j:Nat} (hj:j < 16):(zqv f)[j]? =some (.int .i64 (f (3+j))):=by simp [zqv,hj]
theorem zx7 (f:Nat→Int):(Tryz.prog.info? 62).map (·.size)=some (zqv f).length:=by rw [zj8];kernel_rfl
def ztp (f:Nat→Int):Obj:=.cells (zc3 f).toArray 176
theorem zn5 {W:World} {b:Nat} {f:Nat→Int} (h:W.heap[b]? =some (ztp f)) {j:Nat} (hj:j < 23):W.cell? ⟨b,j,none⟩=some (.int .i64 (f j)):=by
 unfold ztp at h;rw [zaa h];simp only [List.getElem?_toArray];exact zi6 f hj
def offB (f:Nat→Int) (s i:Nat):Bool:=!(decide (f (3+i) < 0) || decide (16384 < f (3+i)) || (decide (0 < f (3+i)) && (decide (f 2≠3) || !hasN s (i:Int))))
def zlo (f:Nat→Int) (s:Nat):Nat→Bool
 |0=>true
 |k+1=>offB f s (15 - k) && zlo f s k
theorem offsR_at (f:Nat→Int) (s:Nat) {i:Nat} (hi:i < 16):zlo f s (16 - i)=(offB f s i && zlo f s (16 - (i+1))):=by
 have e:16 - i=(16 - (i+1))+1:=by omega
 rw [e]
 conv=>lhs;unfold zlo
 rw [show 15 - (16 - (i+1))=i by omega]
set_option maxHeartbeats 4000000 in
theorem zm4 (f:Nat→Int) (s:Nat) (hs:s < 4294967296) (w:World):Calls Tryz.prog 218 #[.agg (zc3 f).toArray,.int .u32 s] w fun e w'=>e=.returned (.bool (zlo f s 16))∧Below w.heap.size w w':=by
 have hb1:=(Below.refl w.heap.size w).alloc (Nat.le_refl _) (ztp f);have hblk:=heap_alloc_new w (ztp f);have c2:=zn5 hblk (j:=2) (by decide);have hr:(w.alloc (ztp f)).rangeAt w.heap.size 3 (zqv f):=fun j v hv=>by
  have hj:j < 16:=by rw [←zj8 f];exact (List.getElem?_eq_some_iff.1 hv).1
  rw [zqu f hj] at hv;cases hv;exact zn5 hblk (by omega)
 have HL:=hid fun (i:Nat) (hi:i < 16)=>offsR_at f s hi;obtain⟨R,hR⟩:∃ R,zlo f s 16=R:=⟨_,rfl⟩;rw [hR];have HR0:=hid (show zlo f s (16 - 0)=R from hR);clear hR;go_enter Tryz.func218,Tryz.ntmps218
 go_upto_region 1 with fail
 refine wp_region_lit ?_;refine wpList_plain rfl fun K hK=>?_;go_simp;refine hK _ _ ?_;clear hK K;refine wpList_load_mid rfl 62 _ rfl w.heap.size 3 rfl (zqv f) _ hr Tryz.underlying62 rfl (zx7 f) ?_;refine wpList_plain rfl fun K hK=>?_;go_simp;refine hK _ _ ?_;clear hK K;show Exit.then _ _ _ _ _
 obtain⟨W0,hW0⟩:∃ W,W=w.alloc (ztp f):=⟨_,rfl⟩;unfold ztp at hW0 hb1 c2;rw [←hW0] at hb1 c2 ⊢;have HB:=hid hb1;clear hW0 hb1 hblk hr;go_simp;go_wp2
 go_loopw [9] (fun i_ wr=>∃ i:Nat,i≤16∧i_=.int .i64 i∧Hid (zlo f s (16 - i)=R)∧W0=wr) (fun i_ _=>16 - (intOf i_).toNat)
 case atStart=>exact⟨0,by omega,rfl,HR0,rfl⟩
 case round=>
  clear HR0;obtain⟨i,hi,rfl,HR,rfl⟩:=hrel;by_cases hlt:i < 16
  ·have t0:decide ((i:Int) < 16)=true:=by simp;omega
   obtain⟨l,hl⟩:∃ l,f (3+i)=l:=⟨_,rfl⟩;have hix:(zqv f).toArray[i]? =some (.int .i64 l):=by
    rw [←hl,List.getElem?_toArray];exact zqu f hlt
   have i0':(0:Int)≤(i:Int):=by omega
   have i1:(i:Int) < 16:=by omega
   have hrun:=zc0 (w:=W0) 62 3 16 _ .i64 i l .i64 Tryz.underlying62 Tryz.underlying3 (by kernel_rfl) hlt hix
   go_upto_region 4 with (rw [hrun];simp only [Result.andThen];rw [Oper.upon_value])
   clear hrun hix;obtain⟨y,hy⟩:∃ y,f 2=y:=⟨_,rfl⟩;rw [hy] at c2;have HRi:=HL.out i hlt;rw [HR.out] at HRi;unfold offB at HRi;rw [hl,hy] at HRi;clear HL;by_cases k1:l < 0
   ·have u1:decide (l < 0)=true:=by simp [k1]
    have hR:Hid (R=false):=by unfold Hid;rw [HRi];simp [k1]
    clear HRi;go_wp2;go_ret;exact⟨by rw [hR.out];rfl,HB.out⟩
   have u1:decide (l < 0)=false:=by simp [k1]
   by_cases k2:16384 < l
   ·have u2:decide (16384 < l)=true:=by simp [k2]
    have hR:Hid (R=false):=by unfold Hid;rw [HRi];simp [k2]
    clear HRi;go_wp2;go_ret;exact⟨by rw [hR.out];rfl,HB.out⟩
   have u2:decide (16384 < l)=false:=by simp [k2]
   by_cases k3:0 < l
   ·have u3:decide (0 < l)=true:=by simp [k3]
    by_cases k4:y=3
    ·have u4:(y == 3)=true:=by simp [k4]
     have u5:(y != 3)=false:=by simp [k4]
     cases hh:hasN s (i:Int)
     ·have hR:Hid (R=false):=by unfold Hid;rw [HRi];simp [k3,hh]
      clear HRi
      go_wp2_with (go_at_call 189;refine (zfx s hs (i:Int) _).mono ?_;rw [hh];rintro e w2 ⟨rfl,rfl⟩)
      go_ret;exact⟨by rw [hR.out];rfl,HB.out⟩
     ·have HR2:=hid (show zlo f s (16 - (i+1))=R by rw [HRi];simp [k1,k2,k4,hh])
      clear HRi
      go_wp2_with (go_at_call 189;refine (zfx s hs (i:Int) _).mono ?_;rw [hh];rintro e w2 ⟨rfl,rfl⟩)
      go_roundw
      case rel=>exact⟨i+1,by omega,by go_num,HR2,trivial⟩
      case measure=>simp [intOf];omega
    ·have u4:(y == 3)=false:=by simp [k4]
     have u5:(y != 3)=true:=by simp [k4]
     have hR:Hid (R=false):=by unfold Hid;rw [HRi];simp [k3,k4]
     clear HRi;go_wp2;go_ret;exact⟨by rw [hR.out];rfl,HB.out⟩
   ·have u3:decide (0 < l)=false:=by simp [k3]
    have HR2:=hid (show zlo f s (16 - (i+1))=R by rw [HRi];simp [k1,k2,k3]);clear HRi;go_wp2;go_roundw
    case rel=>exact⟨i+1,by omega,by go_num,HR2,trivial⟩
    case measure=>simp [intOf];omega
  ·obtain rfl:i=16:=by omega
   have hR:=hid HR.out.symm;go_wp2;go_ret;exact⟨by rw [hR.out];rfl,HB.out⟩
theorem zdm {P:Program} {o:Oper} {a:Act} {C:World→Prop} {K:Act→Prop} (t:TypeId) (x:Operand) (ho:o.op=.load t x) (b off:Nat) (hx:a.eval x=.pointer (some ⟨b,off,none⟩)) (L:List Value) (d:TypeDesc)
  (hr:∀ w,C w→w.rangeAt b off L) (hu:P.underlying t=some d) (hrow:d.isRow=true) (hi:(P.info? t).map (·.size)=some L.length) (hk:K (a.put o.dst (.agg L.toArray))):o.quiet P a C K:=by
 refine⟨_,fun w hw=>?_,hk⟩;unfold Oper.quietAt execOp;simp only [ho,hx,Instr.loadAt,Instr.sureAddr,Sem.run_bind,Sem.run_pure,Result.andThen_ok,run_loadVar_mid w b off t L d (hr w hw) hu hrow hi];exact⟨rfl,rfl⟩
structure OkE (x:Img) (f:Nat→Int):Prop where
 f1:0≤f 0
 f2:f 0 < x.mn
 t1:0≤f 1
 t2:f 1 < x.mn
 p1:1≤f 2
 p2:f 2≤3
set_option maxHeartbeats 4000000 in
theorem ztb (x:Img) (g:Nat→Nat→Int) (M:Nat→za9) (q:Nat→Nat→Nat→Int) (h:Nat→Nat→Int) (i:Nat) (w:World) (hx:znd w x g M q h) (hi:i < x.en):
  Calls Tryz.prog 154 #[iv x,.int .i64 i] w (AnsB (OkE x (h i)) w):=by
 have hen:=hx.en;have HE:=hid hx.edges;have HM:=hid hx.modes;have HTB:=hid hx.tb;have HT:=hid fun (m:Int) X (hX:Below w.heap.size w X)=>zij x M m X (hx.modes.below hX);have HTL:=hid fun (m:Int)=>show zax x M m < 4294967296 by
  unfold zax
  split
  ·rename_i hm;exact hx.tb _ (by omega)
  ·decide
 have HED:=hid fun (p q:Int) X (hX:Below w.heap.size w X)=>zpl x h p q X (hx.edges.below hX) hx.en;have HOK:=hid fun (a1:0≤h i 0) (a2:h i 0 < x.mn) (a3:0≤h i 1) (a4:h i 1 < x.mn) (a5:1≤h i 2) (a6:h i 2≤3)=>(⟨a1,a2,a3,a4,a5,a6⟩:OkE x (h i));clear hx;obtain⟨r,ao,n,cap,mo,mn,mc,eo,en,ec⟩:=x;unfold iv at HT HED ⊢;dsimp only at hen HE HM HTB HT HTL HED HOK hi ⊢;unfold maxLen at hen;obtain⟨b,o,rfl,hc⟩:=HE.out i hi;clear HE;have hb1:Below w.heap.size w (w.alloc (Obj.cells #[.int .i64 r,.slice ao n cap,.slice mo mn mc,.slice (some ⟨b,o,none⟩) en ec] 26)):=(Below.refl _ _).alloc (Nat.le_refl _) _;have bI:=heap_alloc_new w (Obj.cells #[.int .i64 r,.slice ao n cap,.slice mo mn mc,.slice (some ⟨b,o,none⟩) en ec] 26);have c3:=zaa bI 3;have hr1:=zf4 fun j hj=>kept (hc j hj) hb1;clear hc;have i0':(0:Int)≤(i:Int):=by omega
 have i1:(i:Int) < (en:Int):=by omega
 go_enter Tryz.func154,Tryz.ntmps154
 go_upto_region 1 with fail
 obtain⟨W0,hW0⟩:∃ W,W=w.alloc (Obj.cells #[.int .i64 r,.slice ao n cap,.slice mo mn mc,.slice (some ⟨b,o,none⟩) en ec] 26):=⟨_,rfl⟩;rw [←hW0] at hb1 bI c3 hr1 ⊢;have HS0:=hid (show W0.heap.size=w.heap.size+1 by rw [hW0];simp);clear hW0;refine wp_region_lit ?_;refine wpList_plain rfl fun K hK=>?_;go_simp;refine hK _ _ ?_;clear hK K;refine wpList_plain rfl fun K hK=>?_;go_simp;refine hK _ _ ?_;clear hK K;refine wpList_plain rfl fun K hK=>?_;go_simp;refine hK _ _ ?_;clear hK K;refine wpList_plain rfl fun K hK=>?_;go_simp;refine hK _ _ ?_;clear hK K;refine wpList_load_mid rfl 176 _ rfl b (o+i * 23) rfl (zc3 (h i)) _ hr1 Tryz.underlying176 rfl (zcd _) ?_;refine wpList_plain rfl fun K hK=>?_;go_simp;refine hK _ _ ?_;clear hK K;refine wpList_store_mid rfl 176 _ _ rfl W0.heap.size 0 (zc3 (h i)).toArray rfl rfl (zfl W0 (h i)) (by simpa using zcd (h i)) (zi5 _) ?_;have hbx:=zkz W0 (h i);unfold zgw at hbx;obtain⟨W2,hW2⟩:∃ X,X=((W0.alloc zgw).setCells W0.heap.size 0 (zc3 (h i)).toArray.toList):=⟨_,rfl⟩;unfold zgw at hW2;rw [←hW2] at hbx;show Exit.then _ _ _ _ _
 rw [←hW2];clear hW2 hr1 c3;go_simp;have bI2:=(hbx.below.block _ (by have:=HS0.out;omega)).trans bI;have HB2:=hid (hb1.trans (hbx.below.mono hb1.size));have c0:=zaa bI2 0;have c1:=zaa bI2 1;have c2:=zaa bI2 2;have c3:=zaa bI2 3;have e0:=hbx.cell 0 (by decide);have e1:=hbx.cell 1 (by decide);have e2:=hbx.cell 2 (by decide);have e19:=hbx.cell 19 (by decide);have e20:=hbx.cell 20 (by decide);have e21:=hbx.cell 21 (by decide);have e22:=hbx.cell 22 (by decide);have HR:=hid (show W2.rangeAt W0.heap.size 0 (zc3 (h i)) from fun j v hv=>by
  have hj:j < 23:=by rw [←ze1 (h i)];exact (List.getElem?_eq_some_iff.1 hv).1
  rw [zi6 _ hj] at hv;cases hv;rw [Nat.zero_add];exact hbx.cell j hj)
 have HS2:=hid hbx.size;clear hbx bI bI2 hb1;obtain⟨f,hf⟩:∃ f:Int,h i 0=f:=⟨_,rfl⟩;obtain⟨t,ht⟩:∃ t:Int,h i 1=t:=⟨_,rfl⟩;obtain⟨y,hy⟩:∃ y:Int,h i 2=y:=⟨_,rfl⟩;rw [hf] at e0 HOK;rw [ht] at e1 HOK;rw [hy] at e2 HOK;clear hf ht hy;by_cases k1:f < 0
 ·have u1:decide (f < 0)=true:=by simp [k1]
  go_wp2;go_ret;exact .no HB2.out
 have u1:decide (f < 0)=false:=by simp [k1]
 by_cases k2:(mn:Int)≤f
 ·have u2:decide ((mn:Int)≤f)=true:=by simp [k2]
  go_wp2;go_ret;exact .no HB2.out
 have u2:decide ((mn:Int)≤f)=false:=by simp [k2]
 by_cases k3:t < 0
 ·have u3:decide (t < 0)=true:=by simp [k3]
  go_wp2;go_ret;exact .no HB2.out
 have u3:decide (t < 0)=false:=by simp [k3]
 by_cases k4:(mn:Int)≤t
 ·have u4:decide ((mn:Int)≤t)=true:=by simp [k4]
  go_wp2;go_ret;exact .no HB2.out
 have u4:decide ((mn:Int)≤t)=false:=by simp [k4]
 by_cases k5:f=t
 ·have u5:(f == t)=true:=by simp [k5]
  go_wp2;go_ret;exact .no HB2.out
 have u5:(f == t)=false:=by simp [k5]
 by_cases k6:y < 1
 ·have u6:decide (y < 1)=true:=by simp [k6]
  go_wp2;go_ret;exact .no HB2.out
 have u6:decide (y < 1)=false:=by simp [k6]
 by_cases k7:3 < y
 ·have u7:decide (3 < y)=true:=by simp [k7]
  go_wp2;go_ret;exact .no HB2.out
 have u7:decide (3 < y)=false:=by simp [k7]
 have HOK2:=hid (HOK.out (by omega) (by omega) (by omega) (by omega) (by omega) (by omega))
 go_upto_region 7 with (go_at_call 122;refine (HED.out f t _ HB2.out).mono ?_;rintro e W3 ⟨ix,ok,rfl,_,hb3⟩)
 by_cases k8:ix=(i:Int)
 case neg=>
  have u8:(ix == (i:Int))=false:=by simp [k8]
  have HB3:=hid (HB2.out.trans (hb3.mono HB2.out.size));go_wp2;go_ret;exact .no HB3.out
 subst k8
 go_upto_region 9 with fail
 have HB3:=hid (HB2.out.trans (hb3.mono HB2.out.size));obtain⟨fk,rfl⟩:∃ k:Nat,f=k:=⟨f.toNat,by omega⟩;obtain⟨tk,rfl⟩:∃ k:Nat,t=k:=⟨t.toNat,by omega⟩;obtain⟨mb,mf,rfl,_,d1⟩:=HM.out fk (by omega);obtain⟨mb2,mf2,e,_,d2⟩:=HM.out tk (by omega);cases e;have C2:=Cls.cell (kept c2 hb3);have C0:=Cls.cell (kept c0 hb3);have C1:=Cls.cell (kept c1 hb3);have C3:=Cls.cell (kept c3 hb3);have E0:=Cls.cell (kept e0 hb3);have E1:=Cls.cell (kept e1 hb3);have E19:=Cls.cell (kept e19 hb3);have E20:=Cls.cell (kept e20 hb3);have E21:=Cls.cell (kept e21 hb3);have E22:=Cls.cell (kept e22 hb3);have D1:=Cls.cell (kept d1 HB3.out);have D2:=Cls.cell (kept d2 HB3.out);have HR3:=hid fun (X:World) (hX:∃ j:Cls W3,X=j.wd)=>show X.rangeAt W0.heap.size 0 (zc3 (h i)) from fun j v hv=>by
  obtain⟨c,rfl⟩:=hX;exact Cls.cell (kept (HR.out j v hv) hb3) c
 obtain⟨qf,hqf⟩:∃ k,(M fk).qn=k:=⟨_,rfl⟩;obtain⟨qt,hqt⟩:∃ k,(M tk).qn=k:=⟨_,rfl⟩;rw [hqf] at D1;rw [hqt] at D2;obtain⟨R1,hR1⟩:∃ R,zlt (fun j=>h i (19+j)) qf qt 4 0=R:=⟨_,rfl⟩;have HMP:=hid fun (j:Cls W3)=>zta (fun j=>h i (19+j)) qf qt j.wd;rw [hR1] at HMP;have HTT:=hid fun (m:Int) (j:Cls W3)=>HT.out m j.wd (HB3.out.trans (j.below.mono HB3.out.size));obtain⟨T,hT⟩:∃ T:Int→Nat,T=fun m=>zax { r:=r,ao:=ao,n:=n,cap:=cap,mo:=some ⟨mb,mf,none⟩,mn:=mn,mc:=mc,eo:=some ⟨b,o,none⟩,en:=en,ec:=ec } M m:=⟨_,rfl⟩;have HTT2:=hid fun (m:Int) (j:Cls W3)=>show Calls Tryz.prog 89 #[.agg #[.int .i64 r,.slice ao n cap,.slice (some ⟨mb,mf,none⟩) mn mc,.slice (some ⟨b,o,none⟩) en ec],.int .i64 m] j.wd fun e w'=>e=.returned (.int .u32 (T m:Nat))∧Below j.wd.heap.size j.wd w' by
  rw [hT];exact HTT.out m j
 have hta:T tk < 4294967296:=by rw [hT];exact HTL.out tk
 have hfa:T fk < 4294967296:=by rw [hT];exact HTL.out fk
 have hAN:=zfo hta hfa;have hsn:=Nat.lt_of_le_of_lt (zd5 (T tk) (T fk)) hta;generalize zdq (T tk) (T fk)=s at hAN hsn;obtain⟨R2,hR2⟩:∃ R,zlo (h i) s 16=R:=⟨_,rfl⟩;have HOF:=hid fun (j:Cls W3)=>zm4 (h i) s hsn j.wd;rw [hR2] at HOF;have j0:(0:Int)≤(fk:Int):=by omega
 have j1:(fk:Int) < (mn:Int):=by omega
 have j2:(0:Int)≤(tk:Int):=by omega
 have j3:(tk:Int) < (mn:Int):=by omega
 clear HTT hT hR1 hR2 hqf hqt d1 d2 hta hfa hsn c0 c1 c2 c3 e0 e1 e2 e19 e20 e21 e22 hb3 HB2 HT HTL HM HTB HED HOK HR k1 k2 k3 k4 k5 k6 k7 u1 u2 u3 u4 u5 u6 u7;cases R1
 ·refine zcw (by kernel_rfl) (by kernel_rfl) ?_
  repeat (go_big_quiet_step ((first|(go_at_call 217;exact Calls.cls _ (HMP.out _)))))
  refine wpQuiet_nil ?_;intro _ hw';obtain⟨nq,rfl⟩:=hw';go_wp2;go_ret;exact .no (HB3.out.trans (nq.below.mono HB3.out.size))
 ·refine zcw (by kernel_rfl) (by kernel_rfl) ?_
  repeat (go_big_quiet_step ((first|(go_at_call 217;exact Calls.cls _ (HMP.out _)))))
  go_big_quiet_want
  refine zdm 176 _ rfl W0.heap.size 0 rfl (zc3 (h i)) _ HR3.out Tryz.underlying176 rfl (zcd _) ?_;go_simp
  go_big_quiet_on
  repeat (go_big_quiet_step ((first|(go_at_call 89;exact Calls.cls _ (HTT2.out _ _))|(go_at_call 218;exact Calls.cls _ (HOF.out _)))))
  refine wpQuiet_nil ?_;intro _ hw';obtain⟨nq,rfl⟩:=hw';go_wp2;go_ret;exact⟨R2,rfl,fun _=>HOK2.out,HB3.out.trans (nq.below.mono HB3.out.size)⟩
variable {M:TypeId→Prop} {base:Nat} {W W':World}
def TyAt (W:World) (ao:Option Addr) (t:TypeId):Prop:=∀ b o,ao=some ⟨b,o,none⟩→∃ cur,W.heap[b]? =some (.cells cur t (0,0))
theorem TyAt.keep {ao:Option Addr} {t:TypeId} (h:TyAt W ao t) (ht:¬ M t) (k:FT M base W W'):TyAt W' ao t:=fun b o e=>by
 obtain⟨cur,hc⟩:=h b o e;exact⟨cur,k.blk hc ht⟩
theorem TyAt.cell {b o i:Nat} {t:TypeId} {v:Value} (h:TyAt W (some ⟨b,o,none⟩) t) (ht:¬ M t) (k:FT M base W W') (hc:W.cell? ⟨b,i,none⟩=some v):W'.cell? ⟨b,i,none⟩=some v:=by
 obtain⟨cur,h1⟩:=h b o rfl;have h2:=k.blk h1 ht;exact (World.cell?_of_block (w:=W) (w':=W') (a:=⟨b,i,none⟩) (h2.trans h1.symm)).trans hc
theorem zbj.keep {ao:Option Addr} {n K:Nat} {g:Nat→Nat→Int} {t:TypeId} (h:zbj W ao n K g) (ha:TyAt W ao t) (ht:¬ M t) (k:FT M base W W'):zbj W' ao n K g:=fun i hi=>by
 obtain⟨b,o,e,hc⟩:=h i hi;subst e;exact⟨b,o,rfl,fun j hj=>ha.cell ht k (hc j hj)⟩
theorem zck.keep {ao:Option Addr} {n:Nat} {g:Nat→Nat→Int} {t:TypeId} (h:zck W ao n g) (ha:TyAt W ao t) (ht:¬ M t) (k:FT M base W W'):zck W' ao n g:=fun i hi=>by
 obtain⟨b,o,e,hc⟩:=h i hi;subst e;exact⟨b,o,rfl,fun j hj=>ha.cell ht k (hc j hj)⟩
theorem zbh.keep {mo:Option Addr} {mn:Nat} {R:Nat→za9} {t:TypeId} (h:zbh W mo mn R) (ha:TyAt W mo t) (ht:¬ M t) (k:FT M base W W'):zbh W' mo mn R:=fun i hi=>by
 obtain⟨b,o,e,h1,h2⟩:=h i hi;subst e;exact⟨b,o,rfl,ha.cell ht k h1,ha.cell ht k h2⟩
def zpu (M:TypeId→Prop):Prop:=¬ M 165∧¬ M 71∧¬ M 74∧¬ M 176∧¬ M 154
structure Env (W:World) (y:Img) (R:Nat→za9) (h:Nat→Nat→Int) (ce:Option Addr) (cn:Nat) (sp:Nat→Nat→Int):Prop where
 modes:zbh W y.mo y.mn R
 edges:zbj W y.eo y.en 23 h
 spans:zbj W ce cn 2 sp
 tm:TyAt W y.mo 71
 te:TyAt W y.eo 176
 ts:TyAt W ce 154
 ok:∀ i,i < y.en→OkE y (h i)
 tb:∀ i,i < y.mn→(R i).t < 4294967296
 en:y.en≤24
 mn:y.mn≤8
 cn:cn≤24
theorem Env.keep {y:Img} {R:Nat→za9} {h:Nat→Nat→Int} {ce:Option Addr} {cn:Nat} {sp:Nat→Nat→Int} (e:Env W y R h ce cn sp) (s:zpu M) (k:FT M base W W'):Env W' y R h ce cn sp:=
 ⟨e.modes.keep e.tm s.2.1 k,e.edges.keep e.te s.2.2.2.1 k,e.spans.keep e.ts s.2.2.2.2 k,e.tm.keep s.2.1 k,e.te.keep s.2.2.2.1 k,e.ts.keep s.2.2.2.2 k,e.ok,e.tb,e.en,e.mn,e.cn⟩
structure zko where
 bg:Bool
 cm:Bool
 ov:Bool
 ed:Int
 mo:Int
 ti:Int
def zoy (n:zko):List Value:=[.bool n.bg,.bool n.cm,.bool n.ov,.int .i64 n.ed,.int .i64 n.mo,.int .i64 n.ti]
def zfe (l:List zko):List Value:=l.flatMap zoy
theorem zqx (l m:List zko):zfe (l ++ m)=zfe l ++ zfe m:=by simp [zfe]
theorem zj9 (l:List zko):(zfe l).length=l.length * 6:=by
 induction l with
 |nil=>rfl
 |cons x l ih=>
  show (zoy x ++ zfe l).length=_;rw [List.length_append,ih,List.length_cons];show 6+l.length * 6=(l.length+1) * 6;omega
def zrz (en:Nat) (l:List zko):Prop:=∀ n,n∈l→n.cm=true→0≤n.ed∧n.ed < en
structure EngS where
 mo:Int
 ed:Int
 ph:Int
 si:Int
 nw:Int
 he:Int
 op:Nat
structure zdk (W:World) (base eb:Nat) (y:Img) (cm ce:Value) (s:EngS) (r:Dl.TL):Prop where
 c0:W.cell? ⟨eb,0,none⟩=some (.int .i64 y.r)
 c1:W.cell? ⟨eb,1,none⟩=some (.slice y.ao y.n y.cap)
 c2:W.cell? ⟨eb,2,none⟩=some (.slice y.mo y.mn y.mc)
 c3:W.cell? ⟨eb,3,none⟩=some (.slice y.eo y.en y.ec)
 c4:W.cell? ⟨eb,4,none⟩=some cm
 c5:W.cell? ⟨eb,5,none⟩=some ce
 c6:W.cell? ⟨eb,6,none⟩=some (.int .i64 s.mo)
 c7:W.cell? ⟨eb,7,none⟩=some (.int .i64 s.ed)
 c8:W.cell? ⟨eb,8,none⟩=some (.int .i64 s.ph)
 c9:W.cell? ⟨eb,9,none⟩=some (.int .i64 s.si)
 c10:W.cell? ⟨eb,10,none⟩=some (.int .i64 s.nw)
 c11:W.cell? ⟨eb,11,none⟩=some (.int .i64 s.he)
 c12:W.cell? ⟨eb,12,none⟩=some (.int .u32 (s.op:Nat))
 fz:∀ o,W.frozen? ⟨eb,o,none⟩=false
 ty:Dl.IsE W eb
 q:Dl.QS W base eb 13 r
 lo:base≤eb
theorem zdk.lt {eb:Nat} {y:Img} {cm ce:Value} {s:EngS} {r:Dl.TL} (h:zdk W base eb y cm ce s r):eb < W.heap.size:=zal h.c0
theorem zdk.keep {eb:Nat} {y:Img} {cm ce:Value} {s:EngS} {r:Dl.TL} (h:zdk W base eb y cm ce s r) (k:FT M base W W') (h1:¬ M 259) (h2:¬ M 343):zdk W' base eb y cm ce s r:=by
 obtain⟨cur,hc⟩:=h.ty;have hb:W'.heap[eb]? =W.heap[eb]?:=(k.blk hc h1).trans hc.symm;have cc:∀ o,W'.cell? ⟨eb,o,none⟩=W.cell? ⟨eb,o,none⟩:=fun o=>World.cell?_of_block (w:=W) (w':=W') (a:=⟨eb,o,none⟩) hb;have ff:∀ o,W'.frozen? ⟨eb,o,none⟩=W.frozen? ⟨eb,o,none⟩:=fun o=>by simp [World.frozen?,hb]
 exact⟨(cc _).trans h.c0,(cc _).trans h.c1,(cc _).trans h.c2,(cc _).trans h.c3,(cc _).trans h.c4,(cc _).trans h.c5,(cc _).trans h.c6,(cc _).trans h.c7,(cc _).trans h.c8,(cc _).trans h.c9,(cc _).trans h.c10,(cc _).trans h.c11,(cc _).trans h.c12,
  fun o=>(ff o).trans (h.fz o),⟨cur,k.blk hc h1⟩,h.q.save k (fun o _=>cc o) ff fun j cur' hj hs=>by
   obtain⟨_,c2,t2,h3,h4⟩:=hs;rw [hj] at h3;cases h3;exact h2 h4,h.lo⟩
theorem zdk.below {eb:Nat} {y:Img} {cm ce:Value} {s:EngS} {r:Dl.TL} (h:zdk W base eb y cm ce s r) (hb:Below W.heap.size W W'):zdk W' base eb y cm ce s r:=
 h.keep (M:=fun _=>False) (FT.of_below hb) id id
theorem zdk.timers {eb:Nat} {y:Img} {cm ce:Value} {s:EngS} {r r':Dl.TL} (h:zdk W base eb y cm ce s r) (k:Dl.QKeep base eb 13 W W') (q:Dl.QS W' base eb 13 r'):zdk W' base eb y cm ce s r':=by
 have cc:∀ o,o < 13→W'.cell? ⟨eb,o,none⟩=W.cell? ⟨eb,o,none⟩:=fun o ho=>k.c o (by omega) (by omega);obtain⟨cur,hc⟩:=h.ty;exact⟨(cc _ (by omega)).trans h.c0,(cc _ (by omega)).trans h.c1,(cc _ (by omega)).trans h.c2,(cc _ (by omega)).trans h.c3,(cc _ (by omega)).trans h.c4,(cc _ (by omega)).trans h.c5,(cc _ (by omega)).trans h.c6,(cc _ (by omega)).trans h.c7,(cc _ (by omega)).trans h.c8,(cc _ (by omega)).trans h.c9,(cc _ (by omega)).trans h.c10,(cc _ (by omega)).trans h.c11,(cc _ (by omega)).trans h.c12,
  fun o=>(k.f o).trans (h.fz o),k.t _ _ hc,q,h.lo⟩
theorem zdk.set {eb:Nat} {y:Img} {cm ce:Value} {s s':EngS} {r:Dl.TL} (h:zdk W base eb y cm ce s r) {j:Nat} {v:Value} (hj:j < 13)
  (h6:(if j=6 then v else .int .i64 s.mo)=.int .i64 s'.mo) (h7:(if j=7 then v else .int .i64 s.ed)=.int .i64 s'.ed) (h8:(if j=8 then v else .int .i64 s.ph)=.int .i64 s'.ph)
  (h9:(if j=9 then v else .int .i64 s.si)=.int .i64 s'.si) (h10:(if j=10 then v else .int .i64 s.nw)=.int .i64 s'.nw) (h11:(if j=11 then v else .int .i64 s.he)=.int .i64 s'.he)
  (h12:(if j=12 then v else .int .u32 (s.op:Nat))=.int .u32 (s'.op:Nat)) (h6':6≤j):zdk (W.setCell ⟨eb,j,none⟩ v) base eb y cm ce s' r:=by
 obtain⟨cur,hc⟩:=h.ty;have hb:=Dl.blk_put0 (i:=j) (u:=v) hc;have key:∀ (o:Nat) (u:Value),W.cell? ⟨eb,o,none⟩=some u→(W.setCell ⟨eb,j,none⟩ v).cell? ⟨eb,o,none⟩=some (if j=o then v else u):=fun o u ho=>by
  rw [zaa hc] at ho;rw [zaa hb];by_cases e:j=o
  ·subst e
   have:=(Array.getElem?_eq_some_iff.1 ho).1;simp [this]
  ·rw [if_neg e,Array.getElem?_setIfInBounds_ne e,ho]
 have k0:∀ (o:Nat) (u:Value),o < 6→W.cell? ⟨eb,o,none⟩=some u→(W.setCell ⟨eb,j,none⟩ v).cell? ⟨eb,o,none⟩=some u:=fun o u ho hu=>by rw [key o u hu,if_neg (by omega)]
 have ff:∀ o,(W.setCell ⟨eb,j,none⟩ v).frozen? ⟨eb,o,none⟩=W.frozen? ⟨eb,o,none⟩:=fun o=>by simp [World.frozen?_setCell]
 refine⟨k0 _ _ (by omega) h.c0,k0 _ _ (by omega) h.c1,k0 _ _ (by omega) h.c2,k0 _ _ (by omega) h.c3,k0 _ _ (by omega) h.c4,k0 _ _ (by omega) h.c5,by rw [key _ _ h.c6,h6],by rw [key _ _ h.c7,h7],by rw [key _ _ h.c8,h8],by rw [key _ _ h.c9,h9],by rw [key _ _ h.c10,h10],by rw [key _ _ h.c11,h11],by rw [key _ _ h.c12,h12],
  fun o=>(ff o).trans (h.fz o),⟨_,hb⟩,h.q.save (Save.set W eb j v) (fun o ho=>?_) ff fun k cur' hk e=>?_,h.lo⟩
 ·have:j≠o:=by omega
  exact Dl.cset_ne (by intro e;cases e;exact this rfl)
 ·obtain rfl:k=eb:=e
  rw [hc] at hk;injection hk with e
  injection e with _ e2
  exact absurd e2 (by decide)
end Go.Proofs.YtpbmmoneeoijaaaGreatDoor
namespace Go.Proofs.YtpbmmoneeoijaaaGreatDoor
open Go.RowKit Go.Deep
set_option maxRecDepth 100000
def zgp (g:Nat→Nat→Int) (n K:Nat):List Value:=(List.range (n * K)).map fun k=>.int .i64 (g (k / K) (k % K))
theorem zb1 (g:Nat→Nat→Int) (n K:Nat):(zgp g n K).length=n * K:=by simp [zgp]
theorem zl1 (g:Nat→Nat→Int) (n K:Nat):∀ u∈zgp g n K,u.oneCell'=true:=fun u hu=>by
 obtain⟨k,_,rfl⟩:=List.mem_map.1 hu;rfl
theorem ziz (g:Nat→Nat→Int) {n K k:Nat} (h:k < n * K):(zgp g n K)[k]? =some (.int .i64 (g (k / K) (k % K))):=by simp [zgp,h]
theorem zvc (g:Nat→Nat→Int) {n K i j:Nat} (hi:i < n) (hj:j < K):(zgp g n K)[i * K+j]? =some (.int .i64 (g i j)):=by
 have hK:0 < K:=by omega
 have h1:i * K+j < n * K:=by
  have:(i+1) * K≤n * K:=Nat.mul_le_mul_right K hi;rw [Nat.add_mul,Nat.one_mul] at this;omega
 have h2:(i * K+j) / K=i:=by rw [Nat.add_comm,Nat.add_mul_div_right _ _ hK,Nat.div_eq_of_lt hj,Nat.zero_add]
 have h3:(i * K+j) % K=j:=by rw [Nat.add_comm,Nat.add_mul_mod_self_right,Nat.mod_eq_of_lt hj]
 rw [ziz g h1,h2,h3]
theorem zyo (g:Nat→Nat→Int) (n K:Nat) (f:Nat→Int):zgp (fun i=>if i=n then f else g i) (n+1) K=zgp g n K ++ (List.range K).map fun j=>.int .i64 (f j):=by
 apply List.ext_getElem?;intro k;by_cases h:k < n * K
 ·rw [List.getElem?_append_left (by rw [zb1];exact h),ziz g h,ziz _ (by rw [Nat.add_mul];omega)]
  have:k / K < n:=Nat.div_lt_of_lt_mul (by rw [Nat.mul_comm];exact h);rw [if_neg (by omega)]
 ·rw [List.getElem?_append_right (by rw [zb1];omega),zb1]
  by_cases h2:k < n * K+K
  ·have hK:0 < K:=by omega
   have e:k=n * K+(k - n * K):=by omega
   have h3:=zvc (fun i=>if i=n then f else g i) (n:=n+1) (K:=K) (i:=n) (j:=k - n * K) (by omega) (by omega);rw [←e] at h3;rw [h3,if_pos rfl,List.getElem?_map,List.getElem?_range (by omega)];rfl
  ·rw [List.getElem?_eq_none (by rw [zb1,Nat.add_mul];omega),List.getElem?_eq_none (by simp;omega)]
theorem zAq {W:World} {b o n K:Nat} {g:Nat→Nat→Int} (h:zbj W (some ⟨b,o,none⟩) n K g):∀ (j:Nat) (u:Value),(zgp g n K)[j]? =some u→W.cell? ((⟨b,o,none⟩:Addr).add j)=some u:=fun j u hj=>by
 have hjn:j < n * K:=by
  rcases Nat.lt_or_ge j (n * K) with h|h
  ·exact h
  ·rw [List.getElem?_eq_none (by rw [zb1];exact h)] at hj;cases hj
 have hK:0 < K:=by
  rcases Nat.eq_zero_or_pos K with h|h
  ·subst h;simp at hjn
  ·exact h
 rw [ziz g hjn] at hj;cases hj;obtain⟨b',o',e,hc⟩:=h (j / K) (Nat.div_lt_of_lt_mul (by rw [Nat.mul_comm];exact hjn));cases e;have:=hc (j % K) (Nat.mod_lt _ hK);rw [za8];have e:o+j / K * K+j % K=o+j:=by have:=Nat.div_add_mod j K;rw [Nat.mul_comm] at this;omega
 rw [e] at this;exact this
theorem zar {W:World} {B n K:Nat} {e:TypeId} {v:Value} {xs:List Value} (h:W.ownsRow B e K v n xs):∃ ao c,v=.slice ao n c∧TyAt W ao e∧(0 < n→∃ b,ao=some ⟨b,0,none⟩∧B≤b∧(∀ j,j < n * K→W.cell? ⟨b,j,none⟩=xs[j]?)∧∀ j,W.frozen? ⟨b,j,none⟩=false):=by
 rcases h.2 with ⟨rfl,rfl⟩|⟨g,cap,cur,rfl,h2,h3,h4⟩
 ·exact⟨none,0,rfl,fun b o e=>(by cases e),fun h=>absurd h (by omega)⟩
 ·refine⟨some ⟨g,0,none⟩,cap,rfl,fun b o e=>?_,fun _=>⟨g,rfl,h2,fun j hj=>h.cellAt j hj,fun j=>h.frozenAt j⟩⟩
  cases e;exact⟨cur,h3⟩
theorem zfz {W:World} {B n K:Nat} {e:TypeId} {v:Value} {g:Nat→Nat→Int} (h:W.ownsRow B e K v n (zgp g n K)):∃ ao c,v=.slice ao n c∧zbj W ao n K g∧TyAt W ao e:=by
 obtain⟨ao,c,e1,h1,h2⟩:=zar h;refine⟨ao,c,e1,fun i hi=>?_,h1⟩;obtain⟨b,rfl,_,h3,_⟩:=h2 (by omega);refine⟨b,0,rfl,fun j hj=>?_⟩;have hlt:i * K+j < n * K:=by
  have:(i+1) * K≤n * K:=Nat.mul_le_mul_right K hi;rw [Nat.add_mul,Nat.one_mul] at this;omega
 rw [Nat.zero_add,h3 _ hlt,zvc g hi hj]
theorem zcc {w:World} {ops:Array Oper} {rest:List Oper} {o:Oper} {a:Act} {Q:Exit→Act→World→Prop} (hgd:o.guard=none) (s x:Operand) (t:TypeId)
  (ho:o.op=.call { callee:=.builtin .append,args:=#[s,x],argTypes:=#[t,t] })
  (e:TypeId) (i:TypeInfo) (z:Value) (size bytes:Nat) (ht:Tryz.prog.underlying t=some (.slice e)) (hi:Tryz.prog.info? e=some i) (hz:i.zero=some z)
  (hsize:i.size=size) (hby:i.bytes=bytes) (hzs:z.cells.size=size) (hsz:0 < size)
  (hs:a.eval s=.slice none 0 0) (ao:Option Addr) (m c:Nat) (news:List Value) (hx:a.eval x=.slice ao m c) (hl:news.length=m * size)
  (hnews:0 < m→∃ b o,ao=some ⟨b,o,none⟩∧∀ j u,news[j]? =some u→w.cell? ((⟨b,o,none⟩:Addr).add j)=some u) (h1:∀ u∈news,u.oneCell'=true)
  (h63:m≤1000) (hbytes:bytes≤1000)
  (h:∀ v' w',w'.ownsRow w.heap.size e size v' m news→Below w.heap.size w w'→wpList Tryz.prog ops Q rest (a.put o.dst v') w'):wpList Tryz.prog ops Q (o :: rest) a w:=by
 rcases Nat.eq_zero_or_pos m with rfl|hm
 ·have hn:news=[]:=List.eq_nil_of_length_eq_zero (by rw [hl,Nat.zero_mul])
  subst hn;have hrun:(Builtin.append_ #[t,t] o.type #[.slice none 0 0,.slice ao 0 c]).run Tryz.prog w=.ok (.slice none 0 0) w:=by
   cases ao<;>simp [Builtin.append_,run_underlying ht,sizeOf,typeInfo,hi,Builtin.lenOf,Builtin.firstCells,loadCells,loadCellsFrom]
  refine wpList_plain hgd fun K hK=>?_;unfold Oper.wp;simp [execOp,ho,resolve,invoke,builtin,hs,hx,hrun,Result.andThen];exact hK _ _ (h _ _ (World.ownsRow_nil _ _ _ _) (Below.refl _ _))
 ·obtain⟨b,oo,rfl,hc⟩:=hnews hm
  refine wpList_append_own _ hgd s x t ho w.heap.size e i z size bytes ht hi hz hsize hby hzs hsz (.slice none 0 0) 0 [] hs (World.ownsRow_nil _ _ _ _) _ m c news hx hl hc h1 (by unfold maxLen;omega) (by
   rw [Nat.zero_add];exact Nat.le_trans (Nat.mul_le_mul h63 hbytes) (by decide)) (Nat.le_refl _) ?_
  intro v' w' h2 h3 _;refine h v' w' (by simpa using h2) ?_;exact (Save.of_grown h3).below (Below.refl _ _) (Nat.le_refl _) fun k hk=>by cases hk
end Go.Proofs.YtpbmmoneeoijaaaGreatDoor
