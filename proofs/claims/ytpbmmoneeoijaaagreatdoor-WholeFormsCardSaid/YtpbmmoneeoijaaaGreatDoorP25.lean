/-
  A part of the proof: WinEdge ModeFn AdmitFn EngOver CheckV FinV CeilV MaskV.
-/
import Derived.Test.YtpbmmoneeoijaaaGreatDoorP24
import Derived.Laws.AppendOwnNone
namespace Go.Proofs.YtpbmmoneeoijaaaGreatDoor
open Go.RowKit Go.Deep Go.Shelf
set_option maxRecDepth 100000
set_option maxHeartbeats 8000000
def shZ:Obj:=Obj.cells #[qI 0,.slice none 0 0,.slice none 0 0,.slice none 0 0,qU 0,qU 0,qU 0,qI 0,qI 0,qI 0,qI 0,qI 0,qI 0,qI 0,qI 0,qI 0,qI 0,qI 0,qI 0,qI 0,qI 0,qI 0,qI 0,qI 0,qI 0,qI 0,qI 0,qI 0,qI 0,qI 0,qI 0] 296
theorem zn6 (W:World) (z:ShR):(W.alloc shZ).there W.heap.size 0 (shL z).length:=fun j hj=>by
 have hj:j < 31:=hj;have bZ:=heap_alloc_new W shZ;unfold shZ at bZ ⊢;refine⟨?_,zab bZ _⟩;rw [zaa bZ,Nat.zero_add,Array.getElem?_eq_getElem (by simpa using hj)];rfl
theorem shL_one (z:ShR):(shL z).toArray.all (·.oneCell')=true:=by simp [shL,Value.oneCell']
theorem zrr {W:World} {p:Nat} {a b:Value} (hP:W.heap[p]? =some (qC #[a,b] 154)) (u v:Value):((W.setCell ⟨p,0,none⟩ u).setCell ⟨p,1,none⟩ v).heap[p]? =some (qC #[u,v] 154):=
 (zad (i:=1) (u:=v) (zad (i:=0) (u:=u) hP)).trans (by simp)
attribute [local go_sem] Oper.semAt_some
set_option maxRecDepth 100000
theorem infoRow:(Tryz.prog.info? 287).map (fun i=>(i.zero,i.size,i.bytes))=some (some (.agg #[qI 0,qI 0,qI 0]),3,24):=by kernel_rfl
theorem zC6 {w:World} {base:Nat} {e:TypeId} {k:Nat} {v:Value} {n:Nat} {xs:List Value} (h:w.ownsRow base e k v n xs):∃ a l c,v=.slice a l c:=by
 rcases h.2 with ⟨rfl,_⟩|⟨g,cap,cur,rfl,_⟩
 ·exact⟨_,_,_,rfl⟩
 ·exact⟨_,_,_,rfl⟩
end Go.Proofs.YtpbmmoneeoijaaaGreatDoor
namespace Go.Proofs.YtpbmmoneeoijaaaGreatDoor
open Go.RowKit Go.Deep Go.Shelf
set_option maxRecDepth 100000
set_option maxHeartbeats 8000000
theorem zpt {w X:World} {cm ce at_ er:Value} {ac:Act} {R:Ending→World→Prop} (h2:ac.tmps.getD 2 undef=qP (w.heap.size+1)) (h3:ac.tmps.getD 3 undef=at_) (h4:ac.tmps.getD 4 undef=er) (hd:ac.defers=[])
  (hS:X.heap[w.heap.size+1]? =some (qC #[cm,ce] 97)) (hP:R (.returned (.tuple #[.agg #[cm,ce],at_,er])) X):bodyPost Tryz.prog Tryz.f34 R .ret ac X:=by
 refine bodyPost_ret (v:=.tuple #[.agg #[cm,ce],at_,er]) ?_ hd hP;have h2':ac.tmps[2]?.getD undef=qP (w.heap.size+1):=by simpa using h2
 have h3':ac.tmps[3]?.getD undef=at_:=by simpa using h3
 have h4':ac.tmps[4]?.getD undef=er:=by simpa using h4
 simp [results,Tryz.results34,h2',h3',h4',asAddr,run_loadVar_row X (w.heap.size+1) 97 97 _ (0,0) _ hS Tryz.underlying97 rfl (by kernel_rfl)]
theorem zis {W:World} {B b s n:Nat} {e:TypeId} {u:Value} {ys:List Value} (h:W.ownsRow B e s u n ys) (hb:b < B) (o:Nat) (v:Value):(W.setCell ⟨b,o,none⟩ v).ownsRow B e s u n ys:=by
 rcases h.2 with ⟨rfl,h1⟩|⟨g,cap,cur,rfl,h2,h3,h4⟩
 ·exact⟨h.1,.inl ⟨rfl,h1⟩⟩
 ·exact⟨h.1,.inr ⟨g,cap,cur,rfl,h2,(heap_setCell_other W ⟨b,o,none⟩ g v (by show g≠b;omega)).trans h3,h4⟩⟩
theorem infoRr:(Tryz.prog.info? 199).map (fun i=>(i.zero,i.size,i.bytes))=some (some (.slice none 0 0),1,24):=by kernel_rfl
theorem infoSn:(Tryz.prog.info? 154).map (fun i=>(i.zero,i.size,i.bytes))=some (some (.agg #[qI 0,qI 0]),2,16):=by kernel_rfl
theorem FT.grown {M:TypeId→Prop} {base:Nat} {w w':World} {B s n:Nat} {e:TypeId} {u:Value} {ys:List Value} (ho:w.ownsRow B e s u n ys) (g:w.grownBy w' u.ownBlock) (hM:M e) (hb:base≤B):FT M base w w':=
 FT.of_save (Save.of_grown g) fun k _ hk=>by
  rcases ho.2 with ⟨rfl,_⟩|⟨g1,cap,cur,rfl,h2,h3,_⟩
  ·cases hk
  ·cases hk
   exact⟨Nat.le_trans hb h2,cur,e,h3,hM⟩
theorem zB1 (x:Img) (g:Nat→Nat→Int) (M:Nat→zas) (q:Nat→Nat→Nat→Int) (h:Nat→Nat→Int) (i:Nat) (w:World) (hx:zdr w x g M q h) (hi:i < x.en) (hv:VE x M h i):
  Calls Tryz.prog 154 #[iv x,qI i] w fun e w'=>e=.returned (.bool true)∧Below w.heap.size w w':=by
 have hen:=hx.en;have HE:=hid hx.edges;have HM:=hid hx.modes;have HTB:=hid hx.tb;have HT:=hid fun (m:Int) X (hX:Below w.heap.size w X)=>zjo x M m X (hx.modes.below hX);have HTL:=hid fun (m:Int)=>show zai x M m < 4294967296 by
  unfold zai
  split
  ·rename_i hm;exact hx.tb _ (by omega)
  ·decide
 have HED:=hid fun X (hX:Below w.heap.size w X)=>zCb x h (h i 0) (h i 1) i X (hx.edges.below hX) hx.en hi rfl rfl hv.first;have HP:Hid (0≤h i 0∧h i 0 < x.mn∧0≤h i 1∧h i 1 < x.mn∧h i 0≠h i 1∧1≤h i 2∧h i 2≤3):=⟨hv.o.f1,hv.o.f2,hv.o.t1,hv.o.t2,hv.ne,hv.o.p1,hv.o.p2⟩;have HMV:=hid hv.mp;have HOV:=hid hv.of;clear hv;clear hx;obtain⟨r,ao,n,cap,mo,mn,mc,eo,en,ec⟩:=x;unfold iv at HT HED ⊢;dsimp only at hen HE HM HTB HT HTL HED HP HMV HOV hi ⊢;unfold maxLen at hen;obtain⟨b,o,rfl,hc⟩:=HE.out i hi;clear HE;have hb1:Below w.heap.size w (w.alloc (qC #[qI r,.slice ao n cap,.slice mo mn mc,.slice (some ⟨b,o,none⟩) en ec] 26)):=qBr _;have bI:=heap_alloc_new w (qC #[qI r,.slice ao n cap,.slice mo mn mc,.slice (some ⟨b,o,none⟩) en ec] 26);have c3:=zaa bI 3;have hr1:=zce fun j hj=>kept (hc j hj) hb1;clear hc;have i0':(0:Int)≤(i:Int):=by omega
 have i1:(i:Int) < (en:Int):=by omega
 go_enter Tryz.func154,Tryz.ntmps154
 go_upto_region 1 with fail
 obtain⟨W0,hW0⟩:∃ W,W=w.alloc (qC #[qI r,.slice ao n cap,.slice mo mn mc,.slice (some ⟨b,o,none⟩) en ec] 26):=⟨_,rfl⟩;rw [←hW0] at hb1 bI c3 hr1 ⊢;have HS0:=hid (show W0.heap.size=w.heap.size+1 by rw [hW0];simp);clear hW0;refine wp_region_lit ?_;refine wpList_plain rfl fun K hK=>?_;go_simp;refine hK _ _ ?_;clear hK K;refine wpList_plain rfl fun K hK=>?_;go_simp;refine hK _ _ ?_;clear hK K;refine wpList_plain rfl fun K hK=>?_;go_simp;refine hK _ _ ?_;clear hK K;refine wpList_plain rfl fun K hK=>?_;go_simp;refine hK _ _ ?_;clear hK K;refine wpList_load_mid rfl 176 _ rfl b (o+i * 23) rfl (zbf (h i)) _ hr1 Tryz.underlying176 rfl (za4 _) ?_;refine wpList_plain rfl fun K hK=>?_;go_simp;refine hK _ _ ?_;clear hK K;refine wpList_store_mid rfl 176 _ _ rfl W0.heap.size 0 (zbf (h i)).toArray rfl rfl (zdh W0 (h i)) (by simpa using za4 (h i)) (zfb _) ?_;have hbx:=zg1 W0 (h i);unfold zd6 at hbx;obtain⟨W2,hW2⟩:∃ X,X=((W0.alloc zd6).setCells W0.heap.size 0 (zbf (h i)).toArray.toList):=⟨_,rfl⟩;unfold zd6 at hW2;rw [←hW2] at hbx;show Exit.then _ _ _ _ _
 rw [←hW2];clear hW2 hr1 c3;go_simp;have bI2:=(hbx.below.block _ (by have:=HS0.out;omega)).trans bI;have HB2:=hid (hb1.trans (hbx.below.mono hb1.size));have c0:=zaa bI2 0;have c1:=zaa bI2 1;have c2:=zaa bI2 2;have c3:=zaa bI2 3;have e0:=hbx.cell 0 (by decide);have e1:=hbx.cell 1 (by decide);have e2:=hbx.cell 2 (by decide);have e19:=hbx.cell 19 (by decide);have e20:=hbx.cell 20 (by decide);have e21:=hbx.cell 21 (by decide);have e22:=hbx.cell 22 (by decide);have HR:=hid (show W2.rangeAt W0.heap.size 0 (zbf (h i)) from fun j v hv=>by
  have hj:j < 23:=by rw [←zcb (h i)];exact (List.getElem?_eq_some_iff.1 hv).1
  rw [zgk _ hj] at hv;cases hv;rw [Nat.zero_add];exact hbx.cell j hj)
 have HS2:=hid hbx.size;clear hbx bI bI2 hb1;obtain⟨f,hf⟩:∃ f:Int,h i 0=f:=⟨_,rfl⟩;obtain⟨t,ht⟩:∃ t:Int,h i 1=t:=⟨_,rfl⟩;obtain⟨y,hy⟩:∃ y:Int,h i 2=y:=⟨_,rfl⟩;rw [hf] at e0 HP HED HMV HOV;rw [ht] at e1 HP HED HMV HOV;rw [hy] at e2 HP;clear hf ht hy;have k1:¬ (f < 0):=by have:=HP.out;omega
 have u1:decide (f < 0)=false:=by simp [k1]
 have k2:¬ ((mn:Int)≤f):=by have:=HP.out;omega
 have u2:decide ((mn:Int)≤f)=false:=by simp [k2]
 have k3:¬ (t < 0):=by have:=HP.out;omega
 have u3:decide (t < 0)=false:=by simp [k3]
 have k4:¬ ((mn:Int)≤t):=by have:=HP.out;omega
 have u4:decide ((mn:Int)≤t)=false:=by simp [k4]
 have k5:¬ (f=t):=by have:=HP.out;omega
 have u5:(f == t)=false:=by simp [k5]
 have k6:¬ (y < 1):=by have:=HP.out;omega
 have u6:decide (y < 1)=false:=by simp [k6]
 have k7:¬ (3 < y):=by have:=HP.out;omega
 have u7:decide (3 < y)=false:=by simp [k7]
 go_upto_region 7 with (go_at_call 122;refine (HED.out _ HB2.out).mono ?_;rintro e W3 ⟨rfl,hb3⟩)
 go_upto_region 9 with fail
 have HB3:=hid (HB2.out.trans (hb3.mono HB2.out.size));have HP2:=HP.out;obtain⟨fk,rfl⟩:∃ k:Nat,f=k:=⟨f.toNat,by omega⟩;obtain⟨tk,rfl⟩:∃ k:Nat,t=k:=⟨t.toNat,by omega⟩;obtain⟨mb,mf,rfl,_,d1⟩:=HM.out fk (by omega);obtain⟨mb2,mf2,e,_,d2⟩:=HM.out tk (by omega);cases e;have C2:=Cls.cell (kept c2 hb3);have C0:=Cls.cell (kept c0 hb3);have C1:=Cls.cell (kept c1 hb3);have C3:=Cls.cell (kept c3 hb3);have E0:=Cls.cell (kept e0 hb3);have E1:=Cls.cell (kept e1 hb3);have E19:=Cls.cell (kept e19 hb3);have E20:=Cls.cell (kept e20 hb3);have E21:=Cls.cell (kept e21 hb3);have E22:=Cls.cell (kept e22 hb3);have D1:=Cls.cell (kept d1 HB3.out);have D2:=Cls.cell (kept d2 HB3.out);have HR3:=hid fun (X:World) (hX:∃ j:Cls W3,X=j.wd)=>show X.rangeAt W0.heap.size 0 (zbf (h i)) from fun j v hv=>by
  obtain⟨c,rfl⟩:=hX;exact Cls.cell (kept (HR.out j v hv) hb3) c
 obtain⟨qf,hqf⟩:∃ k,(M fk).qn=k:=⟨_,rfl⟩;obtain⟨qt,hqt⟩:∃ k,(M tk).qn=k:=⟨_,rfl⟩;rw [hqf] at D1;rw [hqt] at D2;have HMV2:zhk (fun j=>h i (19+j)) qf qt 4 0=true:=by rw [←hqf,←hqt];exact HMV.out
 obtain⟨R1,hR1⟩:∃ R,zhk (fun j=>h i (19+j)) qf qt 4 0=R:=⟨_,rfl⟩;obtain rfl:R1=true:=hR1.symm.trans HMV2;have HMP:=hid fun (j:Cls W3)=>zwl (fun j=>h i (19+j)) qf qt j.wd;rw [hR1] at HMP;have HTT:=hid fun (m:Int) (j:Cls W3)=>HT.out m j.wd (HB3.out.trans (j.below.mono HB3.out.size));obtain⟨T,hT⟩:∃ T:Int→Nat,T=fun m=>zai { r:=r,ao:=ao,n:=n,cap:=cap,mo:=some ⟨mb,mf,none⟩,mn:=mn,mc:=mc,eo:=some ⟨b,o,none⟩,en:=en,ec:=ec } M m:=⟨_,rfl⟩;have HTT2:=hid fun (m:Int) (j:Cls W3)=>show Calls Tryz.prog 89 #[.agg #[qI r,.slice ao n cap,.slice (some ⟨mb,mf,none⟩) mn mc,.slice (some ⟨b,o,none⟩) en ec],qI m] j.wd fun e w'=>e=.returned (qU (T m:Nat))∧Below j.wd.heap.size j.wd w' by
  rw [hT];exact HTT.out m j
 have hta:T tk < 4294967296:=by rw [hT];exact HTL.out tk
 have hfa:T fk < 4294967296:=by rw [hT];exact HTL.out fk
 have hAN:=zez hta hfa;have hsn:=Nat.lt_of_le_of_lt (zes (T tk) (T fk)) hta;have hov:zhe (h i) (zcl (T tk) (T fk)) 16=true:=by rw [hT];exact HOV.out
 generalize zcl (T tk) (T fk)=s at hAN hsn hov;obtain⟨R2,hR2⟩:∃ R,zhe (h i) s 16=R:=⟨_,rfl⟩;obtain rfl:R2=true:=hR2.symm.trans hov;have HOF:=hid fun (j:Cls W3)=>zp5 (h i) s hsn j.wd;rw [hR2] at HOF;have j0:(0:Int)≤(fk:Int):=by omega
 have j1:(fk:Int) < (mn:Int):=by omega
 have j2:(0:Int)≤(tk:Int):=by omega
 have j3:(tk:Int) < (mn:Int):=by omega
 clear HP2 HP HMV HMV2 HOV hov HTT hT hR1 hR2 hqf hqt d1 d2 hta hfa hsn c0 c1 c2 c3 e0 e1 e2 e19 e20 e21 e22 hb3 HB2 HT HTL HM HTB HED HR k1 k2 k3 k4 k5 k6 k7 u1 u2 u3 u4 u5 u6 u7
 ·refine zag (by kernel_rfl) (by kernel_rfl) ?_
  repeat (go_big_quiet_step ((first|(go_at_call 217;exact Calls.cls _ (HMP.out _)))))
  go_big_quiet_want
  refine zbp 176 _ rfl W0.heap.size 0 rfl (zbf (h i)) _ HR3.out Tryz.underlying176 rfl (za4 _) ?_;go_simp
  go_big_quiet_on
  repeat (go_big_quiet_step ((first|(go_at_call 89;exact Calls.cls _ (HTT2.out _ _))|(go_at_call 218;exact Calls.cls _ (HOF.out _)))))
  refine wpQuiet_nil ?_;intro _ hw';obtain⟨nq,rfl⟩:=hw';go_wp2;go_ret;exact⟨rfl,HB3.out.trans (nq.below.mono HB3.out.size)⟩
theorem zgu (x:Img) (g:Nat→Nat→Int) (M:Nat→zas) (q:Nat→Nat→Nat→Int) (h:Nat→Nat→Int) (w:World) (hx:zdr w x g M q h) (hv:VX x g M q h):
  Calls Tryz.prog 77 #[iv x] w fun e w'=>e=.returned (.tuple #[qI 0,qI 0])∧Below w.heap.size w w':=by
 have HT:=hid hx.tasks;have HM:=hid hx.modes;have HTB:=hid hx.tb;have HQ:=hid fun (i:Nat) (hi:i < x.mn) X (hX:Below w.heap.size w X)=>zud (M i).qo (M i).qn (M i).qc (q i) X ((hx.queues i hi).below hX) (hv.o.mq i hi).1 (hv.o.mq i hi).2;have HALL:=hid fun (hn:x.n≤16) X=>all_any x X hn;have HE:=hid fun (i:Nat) (hi:i < x.en) X (hX:Below w.heap.size w X)=>zB1 x g M q h i X (hx.below hX) hi (hv.edges i hi);have HP:Hid (0≤x.r∧x.r≤8∧1≤x.n∧x.n≤16∧1≤x.mn∧x.mn≤8∧x.en≤24):=⟨hv.o.r1,hv.o.r2,hv.o.n1,hv.o.n2,hv.o.m1,hv.o.m2,hv.o.e⟩;have HVT:=hid hv.tasks;have HVM:=hid fun (i:Nat) (hi:i < x.mn)=>zBy hv.o.n2 (hv.o.mt i hi);clear hv;clear hx;obtain⟨r,ao,n,cap,mo,mn,mc,eo,en,ec⟩:=x;unfold iv at HALL HE ⊢;dsimp only at HT HM HTB HQ HALL HE HP HVT HVM ⊢;have hb1:Below w.heap.size w (w.alloc (qC #[qI r,.slice ao n cap,.slice mo mn mc,.slice eo en ec] 26)):=qBr _;have bI:=heap_alloc_new w (qC #[qI r,.slice ao n cap,.slice mo mn mc,.slice eo en ec] 26);have c0:=zaa bI 0;have c1:=zaa bI 1;have c2:=zaa bI 2;have c3:=zaa bI 3;have HB:=hid hb1;clear hb1;have k1:¬ (r < 0):=by have:=HP.out;omega
 have u1:decide (r < 0)=false:=by simp [k1]
 have k2:¬ (8 < r):=by have:=HP.out;omega
 have u2:decide (8 < r)=false:=by simp [k2]
 have k3:¬ (n < 1):=by have:=HP.out;omega
 have u3:decide ((n:Int) < 1)=false:=by simp;omega
 have k4:¬ (16 < n):=by have:=HP.out;omega
 have u4:decide ((16:Int) < (n:Int))=false:=by simp;omega
 go_enter Tryz.func77,Tryz.ntmps77
 go_upto_region 6 with fail
 obtain⟨W0,hW0⟩:∃ W,W=w.alloc (qC #[qI r,.slice ao n cap,.slice mo mn mc,.slice eo en ec] 26):=⟨_,rfl⟩;rw [←hW0] at bI c0 c1 c2 c3 HB ⊢;have HBI:=hid bI;have HS0:=hid (show w.heap.size < W0.heap.size by rw [hW0];simp);have HALL2:=hid (HALL.out (by omega));have HL:=hid (zxj (i:=n) (by omega));have hl32:allF n < 4294967296:=Nat.lt_trans HL.out (zyc (by omega));have HAN:=hid fun (t:Nat) (ht:t < 4294967296)=>zez ht hl32;generalize allF n=al at HALL2 HVM HAN;clear hW0 bI c0 c1 c2 c3 HALL HL hl32 k1 k2 u1 u2 u3 u4
 go_loopw [33] (fun i_ wr=>∃ i:Nat,i≤n∧i_=qI i∧Hid (Below W0.heap.size W0 wr)) (fun i_ _=>n - (intOf i_).toNat)
 case atStart=>exact⟨0,by omega,rfl,hid (.refl _ _)⟩
 case round=>
  obtain⟨i,hi,rfl,HBr⟩:=hrel;have hbI:=(HBr.out.block _ HS0.out).trans HBI.out;have c0:=zaa hbI 0;have c1:=zaa hbI 1;have c2:=zaa hbI 2;have c3:=zaa hbI 3;by_cases hlt:i < n
  ·have t0:decide ((i:Int) < (n:Int))=true:=by simp;omega
   obtain⟨bb,oo,rfl,_⟩:=HT.out.form hlt;obtain⟨⟨d0,d1,d2,d3⟩,⟨d4,d5,d6,d7⟩,d8,d9,d10⟩:=(HT.out.below (HB.out.trans (HBr.out.mono HB.out.size))).at_ hlt;have j0:(0:Int)≤(i:Int):=by omega
   have j1:(i:Int) < (n:Int):=by omega
   have HB4:=hid (HBr.out.alloc HBr.out.size (qC (qF11 (g i)) 165));have c0a:=kept c0 (qBr (w:=wr) (qC (qF11 (g i)) 165))
   go_upto_if 42 with (go_at_call 151;refine (zB0 (g i) r _ (HVT.out i hlt)).mono ?_;rintro e W3 ⟨rfl,hb3⟩)
   have HB5:=hid (HB4.out.trans (hb3.mono HB4.out.size));clear HB4 HBr hb3;go_wp2;go_roundw
   case rel=>exact⟨i+1,by omega,by go_num,HB5⟩
   case measure=>simp [intOf];omega
  ·obtain rfl:i=n:=by omega
   have t0:decide ((i:Int) < (i:Int))=false:=by simp
   have k5:¬ (mn < 1):=by have:=HP.out;omega
   have u5:decide ((mn:Int) < 1)=false:=by simp;omega
   have k6:¬ (8 < mn):=by have:=HP.out;omega
   have u6:decide ((8:Int) < (mn:Int))=false:=by simp;omega
   go_upto_region 14 with fail
   have hm8:mn≤8:=by omega
   clear k5 k6 u5 u6 c0 c1 c2 c3 hbI t0
   go_loopw [61] (fun i_ X=>∃ k:Nat,k≤mn∧i_=qI k∧Hid (Below W0.heap.size W0 X)) (fun i_ _=>mn - (intOf i_).toNat)
   case atStart=>exact⟨0,by omega,rfl,HBr⟩
   case round=>
    clear HBr;obtain⟨k,hk,rfl,HBr⟩:=hrel;have hbI:=(HBr.out.block _ HS0.out).trans HBI.out;have c0:=zaa hbI 0;have c1:=zaa hbI 1;have c2:=zaa hbI 2;have c3:=zaa hbI 3;have HBw:=hid (HB.out.trans (HBr.out.mono HB.out.size));by_cases hlt:k < mn
    ·have t0:decide ((k:Int) < (mn:Int))=true:=by simp;omega
     obtain⟨mb,mf,rfl,f1,f2⟩:=HM.out k hlt;have f1:=kept f1 HBw.out;have f2:=kept f2 HBw.out;have j0:(0:Int)≤(k:Int):=by omega
     have j1:(k:Int) < (mn:Int):=by omega
     have htb:=HTB.out k hlt;have HK:=hid hlt;have HQk:=hid (HQ.out k hlt);have hAN:=HAN.out _ htb;have hvm:=HVM.out k hlt;generalize (M k).t=tt at f1 htb hAN hvm;generalize (M k).qo=qo at f2 HQk;generalize (M k).qc=qc at f2 HQk;obtain⟨qn,hqn⟩:∃ qn,(M k).qn=qn:=⟨_,rfl⟩;rw [hqn] at f2 HQk;clear hqn;rw [hvm] at hAN;clear hvm;have hb4:=qBr (w:=wr) (qC #[qU tt,.slice qo qn qc] 71);have n0:=heap_alloc_new wr (qC #[qU tt,.slice qo qn qc] 71);have c0:=kept c0 hb4;have c1:=kept c1 hb4;have c2:=kept c2 hb4;have c3:=kept c3 hb4
     go_upto_region 16 with fail
     obtain⟨W5,hW5⟩:∃ X,X=wr.alloc (qC #[qU tt,.slice qo qn qc] 71):=⟨_,rfl⟩;rw [←hW5] at hb4 n0 c0 c1 c2 c3 ⊢;clear hW5;have HB5:=hid (HBr.out.trans (hb4.mono HBr.out.size));have n1:=zaa n0 1;have E0:=Cls.cell (zaa n0 0);have C0:=Cls.cell c0;have C1:=Cls.cell c1;have C2:=Cls.cell c2;have C3:=Cls.cell c3;have HAL:=hid fun (j:Cls W5)=>HALL2.out j.wd;have HN1:=hid n1;clear f1 f2 htb hb4 n0 n1 c0 c1 c2 c3 hbI HBr HBw;refine zag (by kernel_rfl) (by kernel_rfl) ?_
     repeat (go_big_quiet_step ((first|(go_at_call 152;exact Calls.cls _ (HAL.out _)))))
     refine wpQuiet_nil ?_;intro _ hw';obtain⟨nq,rfl⟩:=hw';have HB6:=hid (HB5.out.trans (nq.below.mono HB5.out.size));have n1:=Cls.cell HN1.out nq;have HB7:=hid (HB.out.trans (HB6.out.mono HB.out.size))
     go_upto_if 76 with (go_at_call 153;refine (HQk.out _ HB7.out).mono ?_;rintro e W8 ⟨rfl,hb8⟩)
     have HB9:=hid (HB6.out.trans (hb8.mono HB6.out.size));clear hb8;go_wp2;go_roundw
     case rel=>exact⟨k+1,by have:=HK.out;omega,by go_num,HB9⟩
     case measure=>have:=HK.out;simp [intOf];omega
    ·obtain rfl:k=mn:=by omega
     have t0:decide ((k:Int) < (k:Int))=false:=by simp
     have k5:¬ (24 < en):=by have:=HP.out;omega
     have u5:decide ((24:Int) < (en:Int))=false:=by simp;omega
     go_upto_region 24 with fail
     have he24:en≤24:=by omega
     clear k5 u5 c0 c1 c2 c3 hbI t0 HBw
     go_loopw [89] (fun i_ X=>∃ l:Nat,l≤en∧i_=qI l∧Hid (Below W0.heap.size W0 X)) (fun i_ _=>en - (intOf i_).toNat)
     case atStart=>exact⟨0,by omega,rfl,HBr⟩
     case round=>
      clear HBr;obtain⟨l,hl,rfl,HBr⟩:=hrel;have hbI:=(HBr.out.block _ HS0.out).trans HBI.out;have c0:=zaa hbI 0;have c1:=zaa hbI 1;have c2:=zaa hbI 2;have c3:=zaa hbI 3;have HBw:=hid (HB.out.trans (HBr.out.mono HB.out.size));by_cases hlt:l < en
      ·have t0:decide ((l:Int) < (en:Int))=true:=by simp;omega
       go_upto_if 95 with (go_at_call 154;refine (HE.out l hlt _ HBw.out).mono ?_;rintro e W8 ⟨rfl,hb8⟩)
       have HB9:=hid (HBr.out.trans (hb8.mono HBr.out.size));clear hb8;go_wp2;go_roundw
       case rel=>exact⟨l+1,by omega,by go_num,HB9⟩
       case measure=>simp [intOf];omega
      ·obtain rfl:l=en:=by omega
       have t0:decide ((l:Int) < (l:Int))=false:=by simp
       go_wp2;go_ret2;exact⟨rfl,HBw.out⟩
theorem zfe (m:Nat) (n:Nat) (hn:1≤n) (Bn n₀:Nat) (s:Nat) (w:World) (hs:s < 4294967296) (hm:s < 2 ^ m) (hn0:0 < n₀) (hc:w.cell? ⟨Bn,0,none⟩=some (qU s)) (hT:Tab w):
  SeqStopsK Fence.wide n Tryz.prog 221 #[qP Bn] (fun x:Fin m=>#[qI (x.val:Nat)]) (Below n₀) (fun ys=>ys.map (·.val)=zae s) (fun pre=>pre.map (·.val) <+:zae s) 32 w:=by
 intro l J Jx W hW hJ hJx hY h0;have hc1:W.cell? ⟨Bn,0,none⟩=some (qU s):=(hW.cell (p:=⟨Bn,0,none⟩) (zcr hc)).trans hc;have hT1:Tab W:=hT.below hW hT.pos;have hlen:=zbm s;have hmem:∀ i,i∈zae s→i < m:=fun i hi=>by
  unfold zae at hi;have hb:=(List.mem_filter.1 hi).2;rcases Nat.lt_or_ge i m with h|h
  ·exact h
  ·rw [Nat.testBit_lt_two_pow (Nat.lt_of_lt_of_le hm (Nat.pow_le_pow_right (by decide) h))] at hb;cases hb
 refine callsIn_of_wp Tryz.func221 rfl trivial ?_ rfl;simp only [Tryz.ntmps221,qPr,Nat.reduceAdd,Nat.reduceSub]
 gi_wp2
 gi_loopw [3] (fun p wr=>∃ (pre:List (Fin m)) (x:Nat),p=qU x∧x < 4294967296∧zae s=pre.map (·.val) ++ zae x∧Tab wr∧J pre wr)
  (fun p _=>(intOf p).toNat)
 case atStart=>exact⟨[],s,rfl,hs,rfl,hT1,h0⟩
 case round=>
  obtain⟨pre,x,rfl,hx,hb,hTr,hJr⟩:=hrel;by_cases hx0:x=0
  ·subst hx0
   gi_wp2
   go_end0
   exact⟨⟨_,rfl⟩,.inl ⟨pre,by rw [hb];simp [zae],hJr⟩⟩
  ·have hst:=zjh hx0 hx
   have hlt:=zwi hx0;have t1:((x:Int) != 0)=true:=by simp;omega
   have t2:((x:Int) == 0)=false:=by simp;omega
   have hcm:Lib.ctz 32 x < m:=hmem _ (by rw [hb,hst];simp);obtain⟨c,hcv⟩:∃ c:Fin m,c.val=Lib.ctz 32 x:=⟨⟨_,hcm⟩,rfl⟩;obtain⟨fn,tmps,assign,body,hy,hR⟩:=hY pre c wr hJr (by rw [hst] at hb;have:=congrArg List.length hb;simp at this;omega);rw [hcv] at hy;have e1:IntKind.u32.wrap ((x:Int) - 1)=((x - 1:Nat):Int):=by rw [IntKind.wrap_u32];omega
   have e2:bits BinOp.and IntKind.u32 (x:Int) ((x - 1:Nat):Int)=((x &&& (x - 1):Nat):Int):=bits_and_u32_nat x (x - 1) hx (by omega)
   gi_wp2_with (first
    |(refine⟨trivial,?_⟩;gi_at_call 222;refine (callsIn_wide.2 (zro x hx hx0 _ hTr)).mono ?_;rintro e w' ⟨rfl,rfl⟩)
    |(refine hR.mono ?_;clear hR;rintro e W3 (⟨rfl,hJ3,hk3⟩|⟨rfl,hJx3⟩)))
   ·go_roundw
    case rel=>exact⟨pre ++ [c],x &&& (x - 1),rfl,by omega,by rw [hb,hst];simp [hcv],hTr.below hk3 hn0,hJ3⟩
    case measure=>simp only [intOf];omega
   ·refine bodyPost_ret (results_none rfl _ _ _) rfl ?_
    exact⟨⟨_,rfl⟩,.inr ⟨pre ++ [c],⟨zae (x &&& (x - 1)),by rw [hb,hst];simp [hcv]⟩,hJx3⟩⟩
def zb3 (y:Nat→Int):Nat→List (Nat×Int)
 |0=>[]
 |i+1=>if 0 < y (3+i) then zb3 y i ++ [(i,y (3+i))] else zb3 y i
def prU (x:Fin 8×Int):Nat×Int:=(x.1.val,x.2)
theorem zve (n:Nat) (hn:1≤n) (Bn n₀:Nat) (y:Nat→Int) (w:World) (hc:w.heap[Bn]? =some (zaj y)):
  SeqStopsK Fence.wide n Tryz.prog 272 #[qP Bn] (fun x:Fin 8×Int=>#[qI (x.1.val:Nat),qI x.2]) (Below n₀) (fun ys=>ys.map prU=zb3 y 8) (fun _=>True) 8 w:=by
 intro l J Jx W hW hJ hJx hY h0;unfold zaj at hc;have hblk:=(hW.block Bn (qLt hc)).trans hc;have d3:=zaa hblk 3;have d4:=zaa hblk 4;have d5:=zaa hblk 5;have d6:=zaa hblk 6;have d7:=zaa hblk 7;have d8:=zaa hblk 8;have d9:=zaa hblk 9;have d10:=zaa hblk 10;refine callsIn_of_wp Tryz.func272 rfl trivial ?_ rfl;simp only [Tryz.ntmps272,qPr,Nat.reduceAdd,Nat.reduceSub]
 gi_wp2
 clear d3 d4 d5 d6 d7 d8 d9 d10 hblk
 gi_loopw [7] (fun p wr=>∃ (pre:List (Fin 8×Int)) (i:Nat),p=qI i∧i≤8∧pre.length≤i∧pre.map prU=zb3 y i∧J pre wr)
  (fun p _=>8 - (intOf p).toNat)
 case atStart=>exact⟨[],0,rfl,by omega,Nat.le_refl _,rfl,h0⟩
 case round=>
  obtain⟨pre,i,rfl,hi,hlen,hpu,hJr⟩:=hrel;have HPU:=hid hpu;clear hpu;by_cases hlt:i < 8
  ·have t0:decide ((i:Int) < 8)=true:=by simp;omega
   obtain⟨v,hv⟩:∃ v,y (3+i)=v:=⟨_,rfl⟩;have HE:=hid (show zb3 y (i+1)=if 0 < v then zb3 y i ++ [(i,v)] else zb3 y i by rw [←hv];rfl);have hix:(#[qI (y 3),qI (y 4),qI (y 5),qI (y 6),qI (y 7),qI (y 8),qI (y 9),qI (y 10)]:Array Value)[i]? =some (qI v):=by
    rw [←hv];rcases i with _|_|_|_|_|_|_|_|i
    all_goals first|rfl|omega
   have i0':(0:Int)≤(i:Int):=by omega
   have i1:(i:Int) < 8:=by omega
   have hrun:=zcv (w:=wr) 56 3 8 _ .i64 i v .i64 Tryz.underlying56 Tryz.underlying3 (by kernel_rfl) hlt hix;by_cases hp:0 < v
   ·have t1:decide (0 < v)=true:=by simp [hp]
    obtain⟨c,hcv,hc2⟩:∃ c:Fin 8×Int,c.1.val=i∧c.2=v:=⟨(⟨i,hlt⟩,v),rfl,rfl⟩;obtain⟨fn,tmps,assign,body,hy,hR⟩:=hY pre c wr hJr (by omega);rw [hcv,hc2] at hy
    gi_wp2_with (first
     |(rw [hrun];dsimp only [Result.andThen];clear hrun hix)
     |(refine hR.mono ?_;clear hR;rintro e W3 (⟨rfl,hJ3,hk3⟩|⟨rfl,hJx3⟩)))
    ·go_roundw
     case rel=>exact⟨pre ++ [c],i+1,by go_num,by omega,by simp;omega,by rw [HE.out,if_pos (show 0 < v by omega),List.map_append,HPU.out];simp [prU,hcv,hc2],hJ3⟩
     case measure=>simp [intOf];omega
    ·refine bodyPost_ret (results_none rfl _ _ _) rfl ?_
     exact⟨⟨_,rfl⟩,.inr ⟨pre ++ [c],trivial,hJx3⟩⟩
   ·have t1:decide (0 < v)=false:=by simp [hp]
    gi_wp2_with (rw [hrun];dsimp only [Result.andThen];clear hrun hix)
    refine⟨fun _ h=>(by cases h),?_⟩
    gi_wp2
    go_roundw
    case rel=>exact⟨pre,i+1,by go_num,by omega,by omega,by rw [HE.out,if_neg (show ¬ 0 < v by omega)];exact HPU.out,hJr⟩
    case measure=>simp [intOf];omega
  ·obtain rfl:i=8:=by omega
   gi_wp2
   go_end0
   exact⟨⟨_,rfl⟩,.inl ⟨pre,HPU.out,hJr⟩⟩
attribute [local go_sem] Oper.semAt_some
set_option maxRecDepth 100000
def zkt (x:Nat) (T:Nat→Int) (l:List (Nat×Int)):Nat→Int:=l.foldl (fun T p j=>if j=p.1 then min (T j) (x:Int) else T j) T
def zfk (g:Nat→Nat→Int) (l:List Nat):Nat→Int:=l.foldl (fun T x=>zkt x T (zb3 (g x) 8)) fun _=>16
theorem zCg (g:Nat→Nat→Int) (l:List Nat) (x:Nat):zfk g (l ++ [x])=zkt x (zfk g l) (zb3 (g x) 8):=by simp [zfk]
theorem zA2 (x:Nat) (T:Nat→Int) (l:List (Nat×Int)) (p:Nat×Int):zkt x T (l ++ [p])=fun j=>if j=p.1 then min (zkt x T l j) (x:Int) else zkt x T l j:=by simp [zkt]
def zu4 (bt:Nat) (T:Nat→Int) (W:World):Prop:=W.heap[bt]? =some (tabB T)
theorem zth {β:Type} (bt:Nat) (T:β→Nat→Int):Own (fun (x:β) W=>zu4 bt (T x) W):=fun s X Y row hs hg hrow=>by
 refine (hg.block bt (qLt hs) fun e=>?_).trans hs;obtain⟨o,ho,hc⟩:=hrow bt e.symm;have hs':X.heap[bt]? =some (tabB (T s)):=hs;rw [hs'] at ho;cases ho;cases hc
theorem zu4.alloc {bt:Nat} {T:Nat→Int} {W:World} (h:zu4 bt T W) (o:Obj):zu4 bt T (W.alloc o):=(Below.heap_alloc _ _ _ (qLt h)).trans h
theorem zrd (x:Img) (g:Nat→Nat→Int) (s:Nat) (w:World) (hs:s < 4294967296) (hm:s < 2 ^ x.n) (hT:zev w x.ao x.n g) (hTab:Tab w):
  Calls Tryz.prog 161 #[iv x,qU (s:Nat)] w fun e w'=>e=.returned (tabV (zfk g (zae s)))∧Below w.heap.size w w':=by
 obtain⟨r,ao,n,cap,mo,mn,mc,eo,en,ec⟩:=x;unfold iv;dsimp only at hT hm ⊢;refine (callsIn_wide (n:=8)).1 ?_;have h1:1≤8:=by omega
 refine callsIn_of_wp_marks Tryz.func161 rfl trivial ?_ rfl;simp only [Tryz.ntmps161,qPr,Nat.reduceAdd,Nat.reduceSub]
 gi_wp2_with (refine⟨trivial,?_⟩;gi_at_call 181;refine (callsIn_wide.2 (zsw _)).mono ?_;rintro e W1 ⟨rfl,hb1⟩)
 have hbI:Below w.heap.size w W1:=((qBr (w:=w) (qC #[qI r,.slice ao n cap,.slice mo mn mc,.slice eo en ec] 26)).alloc (by simp) (qC qZ8 247)).trans (hb1.mono (by simp;omega));have hImg:W1.heap[w.heap.size]? =some (qC #[qI r,.slice ao n cap,.slice mo mn mc,.slice eo en ec] 26):=(hb1.block _ (by simp;omega)).trans ((Below.heap_alloc _ _ _ (by simp)).trans (heap_alloc_new w _));have hRes:W1.heap[w.heap.size+1]? =some (qC qZ8 247):=(hb1.block _ (by simp)).trans (by have:=heap_alloc_new (w.alloc (qC #[qI r,.slice ao n cap,.slice mo mn mc,.slice eo en ec] 26)) (qC qZ8 247);rwa [World.size_alloc] at this);have hs1:w.heap.size+2≤W1.heap.size:=by have:=hb1.size;simp at this;omega
 have hT1:=hT.below hbI;have hTab1:=hTab.below hbI hTab.pos;clear hb1 hT hTab;refine⟨trivial,?_⟩
 gi_at_call 159
 refine (callsIn_wide.2 (zdk s _)).mono ?_;rintro e w' ⟨rfl,rfl⟩;have hb2:=qBr (w:=W1) (qC #[qI 16,qI 16,qI 16,qI 16,qI 16,qI 16,qI 16,qI 16] 247);have hI0:zu4 W1.heap.size (zfk g []) (W1.alloc (qC #[qI 16,qI 16,qI 16,qI 16,qI 16,qI 16,qI 16,qI 16] 247)):=heap_alloc_new W1 _;have hsz2:(W1.alloc (qC #[qI 16,qI 16,qI 16,qI 16,qI 16,qI 16,qI 16,qI 16] 247)).heap.size=W1.heap.size+1:=by simp
 obtain⟨W2,hW2⟩:∃ X,X=W1.alloc (qC #[qI 16,qI 16,qI 16,qI 16,qI 16,qI 16,qI 16,qI 16] 247):=⟨_,rfl⟩;rw [←hW2] at hb2 hI0 hsz2 ⊢;clear hW2;have hb3:=hb2.alloc hb2.size (qC #[qU (s:Nat)] 140);have hI3:=hI0.alloc (qC #[qU (s:Nat)] 140);have hc3:(W2.alloc (qC #[qU (s:Nat)] 140)).cell? ⟨W1.heap.size+1,0,none⟩=some (qU (s:Nat)):=by
  have:=(zba W2 (qU (s:Nat)) 140).1
  rwa [hsz2] at this
 have hsz3:(W2.alloc (qC #[qU (s:Nat)] 140)).heap.size=W1.heap.size+2:=by simp [hsz2]
 rw [hsz2];obtain⟨W3,hW3⟩:∃ X,X=W2.alloc (qC #[qU (s:Nat)] 140):=⟨_,rfl⟩;rw [←hW3] at hb3 hI3 hc3 hsz3 ⊢;clear hW3 hb2 hI0 hsz2;have hTab3:=hTab1.below hb3 hTab1.pos
 gi_wp2_with fail
 refine wpIn_rangeFunc_ownH rfl h1 (gf:=221) (lb:=#[qP (W1.heap.size+1)]) rfl trivial (enters_of Tryz.func221 (by kernel_rfl) rfl)
  (zfe n (8 - 1) (by omega) (W1.heap.size+1) W1.heap.size s W3 hs hm (by omega) hc3 hTab3) belowK_t (belowK_b (by omega)) (Below.refl _ _) (fun _=>rfl)
  (fun pre W=>zu4 W1.heap.size (zfk g (pre.map (·.val))) W∧Below W1.heap.size W1 W)
  (fun _ _ _=>False)
  (OwnFrom.and (Own.from (zth _ (fun pre:List (Fin n)=>zfk g (pre.map (·.val)))) _) (ownFrom_below (Nat.le_refl _) (by omega)))
  (fun _ _ _ _ _ hs _ _=>hs)
  ⟨hI3,hb3⟩
  (fun (x:Fin n) a' W=>∃ Bx,W1.heap.size < Bx∧Boxed W Bx 3 (qI (x.val:Nat))∧a'= { tmps:=#[.agg #[qI r,.slice ao n cap,.slice mo mn mc,.slice eo en ec],qU (s:Nat),qP w.heap.size,undef,qP (w.heap.size+1),qP W1.heap.size,qP Bx,undef,.agg #[qI 16,qI 16,qI 16,qI 16,qI 16,qI 16,qI 16,qI 16],qU (s:Nat),.func (.func 221) #[] #[qP (W1.heap.size+1)],qI (x:Nat),undef,undef,undef,undef,undef,undef,undef,undef,undef,undef,undef,undef,undef,undef,undef,undef,undef,undef,undef,undef,undef],defers:=[] })
  (fun x a' _ X Y row hs hg hr=>by obtain⟨Bx,h1,h2,h3⟩:=hs;exact⟨Bx,h1,boxed_own Bx 3 (fun (_:Unit)=>qI (x.val:Nat)) () X Y row h2 hg (fun r e=>(hr r e).2),h3⟩)
  ?assign ?body ?done ?stop
 case assign=>
  rintro l pre x W K ⟨hI,hB⟩ hK
  gi_wp2
  exact hK _ _ ((KeepsOthers.alloc _ _).from _) ((Below.refl _ W).alloc hB.size _) ⟨hI.alloc _,hB.alloc hB.size _⟩ ⟨W.heap.size,(qLt hI),Boxed.new W 3 _,rfl⟩
 case body=>
  rintro l pre x a' W hl ⟨rr,hrr⟩ ⟨hI,hB⟩ ⟨Bx,hBx,bX,rfl⟩ hlt;obtain⟨x,hxn⟩:=x;dsimp only at bX ⊢;have HPR:=hid (show zfk g ((pre ++ [(⟨x,hxn⟩:Fin n)]).map (·.val))=zkt x (zfk g (pre.map (·.val))) (zb3 (g x) 8) by rw [List.map_append];exact zCg g _ x);obtain⟨T0,hT0⟩:∃ T,zfk g (pre.map (·.val))=T:=⟨_,rfl⟩;rw [hT0] at hI HPR;clear hT0;have cX:=bX.cell;have c1:=(hB.cell (p:=⟨w.heap.size,1,none⟩) (by show w.heap.size < _;omega)).trans (zaa hImg 1);have t0:decide ((n:Int)≤(x:Int))=false:=by simp;omega
  obtain⟨tb,tf,rfl,htb⟩:=hT1.form hxn;obtain⟨⟨g0,g1,g2,g3⟩,⟨g4,g5,g6,g7⟩,g8,g9,g10⟩:=(hT1.below hB).at_ hxn;have i0':(0:Int)≤(x:Int):=by omega
  have i1:(x:Int) < (n:Int):=by omega
  gi_wp2_with (refine⟨trivial,?_⟩;gi_at_call 220;refine (CallsIn.inRound l (callsIn_wide.2 (zi9 (g x) _))).mono ?_;rintro e w' ⟨rfl,rfl⟩)
  gi_wp2_with fail
  have h1':1≤8 - 1 - 1:=by omega
  have hrr':(W.alloc (zaj (g x))).heap[l]? =some (.loop rr):=(Below.heap_alloc W _ l (qLt hrr)).trans hrr;have hbU:=heap_alloc_new W (zaj (g x));refine wpIn_rangeFunc_ownN (l₀:=l) (r₀:=rr) rfl hrr' h1' (gf:=272) (lb:=#[qP W.heap.size]) rfl trivial (enters_of Tryz.func272 (by kernel_rfl) rfl)
   ((zve (8 - 1 - 1 - 1) (by omega) W.heap.size W1.heap.size (g x) _ hbU).inRound l) belowK_t (belowK_b (by simp;have:=hB.size;omega)) (Below.refl _ _) (fun _=>rfl)
   (fun pre' W'=>(zu4 W1.heap.size (zkt x T0 (pre'.map prU)) W'∧Boxed W' Bx 3 (qI (x:Nat)))∧(Below W1.heap.size W W'∧KeepsFrom W3.heap.size W W'))
   (fun _ _ _=>False)
   (OwnFrom.and (OwnFrom.and (Own.from (zth _ (fun pre':List (Fin 8×Int)=>zkt x T0 (pre'.map prU))) _) (Own.from (boxed_own _ _ _) _)) (OwnFrom.and (ownFrom_below hB.size (by simp;have:=hB.size;omega)) (ownFrom_keepsFrom (by simp))))
   (fun _ _ _ _ _ hs _ _=>hs)
   ⟨⟨hI.alloc _,bX.alloc _⟩,(Below.refl _ W).alloc hB.size _,(KeepsOthers.alloc _ _).from _⟩
   (fun (y:Fin 8×Int) a'' _=>a''= { tmps:=#[.agg #[qI r,.slice (some ⟨tb,tf,none⟩) n cap,.slice mo mn mc,.slice eo en ec],qU (s:Nat),qP w.heap.size,undef,qP (w.heap.size+1),qP W1.heap.size,qP Bx,qI (y.1.val:Nat),.agg #[qI 16,qI 16,qI 16,qI 16,qI 16,qI 16,qI 16,qI 16],qU (s:Nat),.func (.func 221) #[] #[qP (W1.heap.size+1)],qI (x:Nat),qI (x:Nat),.pointer (some ⟨w.heap.size,1,none⟩),.slice (some ⟨tb,tf,none⟩) n cap,qI (n:Nat),.bool false,.pointer (some ⟨w.heap.size,1,none⟩),.slice (some ⟨tb,tf,none⟩) n cap,qI (x:Nat),.pointer (some ⟨tb,tf+x * 11,none⟩),.agg (qF11 (g x)),.func (.func 272) #[] #[qP W.heap.size],qI (y.1.val:Nat),qI y.2,undef,undef,undef,undef,undef,undef,undef,undef],defers:=[] })
   (fun _ _ _ _ _ _ hs _ _=>hs)
   ?assign2 ?body2 ?done2 ?stop2
  case assign2=>
   rintro l2 pre' y W' K hi hK
   gi_wp2
   exact hK _ _ (KeepsFrom.refl _ _) (Below.refl _ _) hi rfl
  case body2=>
   rintro l2 pre' y a'' W' _ _ ⟨⟨hT,bX2⟩,hBW,hKF⟩ rfl _;obtain⟨⟨q,hq8⟩,yv⟩:=y;have HPS:=hid (show zkt x T0 ((pre' ++ [((⟨q,hq8⟩,yv):Fin 8×Int)]).map prU)=fun j=>if j=q then min (zkt x T0 (pre'.map prU) j) (x:Int) else zkt x T0 (pre'.map prU) j by rw [List.map_append];exact zA2 x T0 _ _);obtain⟨T,hTe⟩:∃ T,zkt x T0 (pre'.map prU)=T:=⟨_,rfl⟩;rw [hTe] at HPS hT;clear hTe;have hT:W'.heap[W1.heap.size]? =some (tabB T):=hT;dsimp only;have CT:=Cls.cell (zbe hT hq8);have CX:=Cls.cell bX2.cell;have q0:(0:Int)≤(q:Int):=by omega
   have q1:(q:Int) < 8:=by omega
   gi_wp2_with fail
   refine zeh 7 (by kernel_rfl) (by kernel_rfl) (by kernel_rfl) (by kernel_rfl) ?_ ?_
   ·rintro⟨_,_,h⟩
    exact h
   dsimp only [List.take,List.drop]
   repeat (go_big_quiet_step (fail))
   refine wpQuiet_nil ?_;intro _ hw';obtain⟨nq,rfl⟩:=hw';have hT4:=(nq.below.block _ (qLt hT)).trans hT;have bX4:Boxed nq.wd Bx 3 (qI (x:Nat)):=(nq.below.block _ bX2.lt).trans bX2;have d1:=zbe hT4 hq8;have d2:nq.wd.frozen? ⟨W1.heap.size,q,none⟩=false:=by
    have h:=hT4;unfold tabB at h;exact zab h q
   refine wpList_plain rfl fun K hK=>?_;go_simp;refine hK _ _ ?_;refine (show _∧_∧_ from ?_);have hk1:∀ B,KeepsFrom B W' nq.wd:=fun B=>(zcf.of_below (B:=B) nq.below).keeps;have hb5:Below W1.heap.size W' nq.wd:=nq.below.mono (by have:=hBW.size;have:=hB.size;omega);exact⟨(hk1 _).trans ((KeepsOthers.setCell _ _ _).from _),hb5.setCell (by simp) _,⟨show _=_ by rw [HPS.out];exact (tabB_set hT4 hq8 _).trans (congrArg (fun f=>some (tabB f)) (funext fun j=>by by_cases e:j=q<;>simp [e]<;>(try (split<;>omega)))),(Below.heap_setCell _ _ _ _ (by show Bx≠W1.heap.size;omega)).trans bX4⟩,(hBW.trans hb5).setCell (by simp) _,(hKF.trans (hk1 _)).trans ((KeepsOthers.setCell _ _ _).from _)⟩
  case done2=>
   rintro ys' W' hys ⟨⟨hI2,bX2⟩,hBW,hKF⟩;have hI2:zu4 W1.heap.size (zfk g ((pre ++ [(⟨x,hxn⟩:Fin n)]).map (·.val))) W':=by rw [HPR.out,←hys];exact hI2
   gi_wp2
   exact⟨hKF,hBW,hI2,hB.trans hBW⟩
  case stop2=>
   rintro c pre' W' _ h;exact h.elim
 case done=>
  rintro D xs W hD hxs ⟨hT,hB⟩ hK;have HV:=hid (show zfk g (xs.map (·.val))=zfk g (zae s) by rw [hxs]);have hT:W.heap[W1.heap.size]? =some (tabB (zfk g (xs.map (·.val)))):=hT;obtain⟨T,hTe⟩:∃ T,zfk g (xs.map (·.val))=T:=⟨_,rfl⟩;rw [hTe] at hT HV;clear hTe hxs;have t0:=zbe hT (i:=0) (by decide);have t1:=zbe hT (i:=1) (by decide);have t2:=zbe hT (i:=2) (by decide);have t3:=zbe hT (i:=3) (by decide);have t4:=zbe hT (i:=4) (by decide);have t5:=zbe hT (i:=5) (by decide);have t6:=zbe hT (i:=6) (by decide);have t7:=zbe hT (i:=7) (by decide);have hR:=(hB.block _ (by omega)).trans hRes;have r0:=zaa hR 0;have r1:=zaa hR 1;have r2:=zaa hR 2;have r3:=zaa hR 3;have r4:=zaa hR 4;have r5:=zaa hR 5;have r6:=zaa hR 6;have r7:=zaa hR 7;have f0:=zab hR 0;have f1:=zab hR 1;have f2:=zab hR 2;have f3:=zab hR 3;have f4:=zab hR 4;have f5:=zab hR 5;have f6:=zab hR 6;have f7:=zab hR 7;have hbF:Below w.heap.size w ((((((((W.setCell ⟨w.heap.size+1,0,none⟩ (qI (T 0))).setCell ⟨w.heap.size+1,1,none⟩ (qI (T 1))).setCell ⟨w.heap.size+1,2,none⟩ (qI (T 2))).setCell ⟨w.heap.size+1,3,none⟩ (qI (T 3))).setCell ⟨w.heap.size+1,4,none⟩ (qI (T 4))).setCell ⟨w.heap.size+1,5,none⟩ (qI (T 5))).setCell ⟨w.heap.size+1,6,none⟩ (qI (T 6))).setCell ⟨w.heap.size+1,7,none⟩ (qI (T 7))):=by
   have h:=hbI.trans (hB.mono (by omega));exact (((((((h.setCell (by simp) _).setCell (by simp) _).setCell (by simp) _).setCell (by simp) _).setCell (by simp) _).setCell (by simp) _).setCell (by simp) _).setCell (by simp) _
  have hbk:((((((((W.setCell ⟨w.heap.size+1,0,none⟩ (qI (T 0))).setCell ⟨w.heap.size+1,1,none⟩ (qI (T 1))).setCell ⟨w.heap.size+1,2,none⟩ (qI (T 2))).setCell ⟨w.heap.size+1,3,none⟩ (qI (T 3))).setCell ⟨w.heap.size+1,4,none⟩ (qI (T 4))).setCell ⟨w.heap.size+1,5,none⟩ (qI (T 5))).setCell ⟨w.heap.size+1,6,none⟩ (qI (T 6))).setCell ⟨w.heap.size+1,7,none⟩ (qI (T 7))).heap[w.heap.size+1]? =some (tabB T):=by
   unfold tabB;refine (zad (zad (zad (zad (zad (zad (zad (zad hR)))))))).trans ?_;simp
  have hK8:((((((((W.setCell ⟨w.heap.size+1,0,none⟩ (qI (T 0))).setCell ⟨w.heap.size+1,1,none⟩ (qI (T 1))).setCell ⟨w.heap.size+1,2,none⟩ (qI (T 2))).setCell ⟨w.heap.size+1,3,none⟩ (qI (T 3))).setCell ⟨w.heap.size+1,4,none⟩ (qI (T 4))).setCell ⟨w.heap.size+1,5,none⟩ (qI (T 5))).setCell ⟨w.heap.size+1,6,none⟩ (qI (T 6))).setCell ⟨w.heap.size+1,7,none⟩ (qI (T 7))).heap[D]? =some (.deferred (some [])):=by
   repeat rw [Below.heap_setCell _ _ _ _ (by simp;omega)]
   exact hK
  obtain⟨F,hF⟩:∃ F,F=((((((((W.setCell ⟨w.heap.size+1,0,none⟩ (qI (T 0))).setCell ⟨w.heap.size+1,1,none⟩ (qI (T 1))).setCell ⟨w.heap.size+1,2,none⟩ (qI (T 2))).setCell ⟨w.heap.size+1,3,none⟩ (qI (T 3))).setCell ⟨w.heap.size+1,4,none⟩ (qI (T 4))).setCell ⟨w.heap.size+1,5,none⟩ (qI (T 5))).setCell ⟨w.heap.size+1,6,none⟩ (qI (T 6))).setCell ⟨w.heap.size+1,7,none⟩ (qI (T 7))):=⟨_,rfl⟩;rw [←hF] at hbF hbk hK8
  gi_wp2_with fail
  rw [←hF];clear hF;refine⟨by simp,.inl ⟨_,_,rfl,run_takeDeferred hK8,?_⟩⟩;refine⟨tabV T,?_,by rw [HV.out],hbF.trans (belowK_b (w:=w) (Nat.le_refl _) F D _ _ (by omega) hK8 rfl rfl)⟩;have hD2:∀ o:Obj,(F.putObj D o).heap[w.heap.size+1]? =some (tabB T):=fun o=>(World.putObj_heap_other (by omega)).trans hbk;have z0:=zbe (hD2 (.deferred none)) (i:=0) (by decide);have z1:=zbe (hD2 (.deferred none)) (i:=1) (by decide);have z2:=zbe (hD2 (.deferred none)) (i:=2) (by decide);have z3:=zbe (hD2 (.deferred none)) (i:=3) (by decide);have z4:=zbe (hD2 (.deferred none)) (i:=4) (by decide);have z5:=zbe (hD2 (.deferred none)) (i:=5) (by decide);have z6:=zbe (hD2 (.deferred none)) (i:=6) (by decide);have z7:=zbe (hD2 (.deferred none)) (i:=7) (by decide);generalize F.putObj D (.deferred none)=Z at z0 z1 z2 z3 z4 z5 z6 z7 ⊢;simp [results,Tryz.results161,go_sem,z0,z1,z2,z3,z4,z5,z6,z7,tabV]
 case stop=>
  rintro D c pre W hD _ h _;exact h.elim
end Go.Proofs.YtpbmmoneeoijaaaGreatDoor
namespace Go.Proofs.YtpbmmoneeoijaaaGreatDoor
open Go.RowKit
def zef (s:Nat) (n:Int):Nat:=if n≤0 then 0 else if 31 < n then s else s &&& (2 ^ n.toNat - 1)
theorem zpq (s:Nat) (n:Int):zef s n≤s:=by
 unfold zef
 split
 ·exact Nat.zero_le _
 ·split
  ·exact Nat.le_refl _
  ·exact Nat.and_le_left
theorem zpp (s:Nat) (hs:s < 4294967296) (n:Int) (w:World):Calls Tryz.prog 226 #[qU s,qI n] w fun e w'=>e=.returned (qU (zef s n:Nat))∧w'=w:=by
 by_cases h0:n≤0
 ·have t1:decide (n≤0)=true:=by simp;omega
  have hB:zef s n=0:=if_pos h0;rw [hB];clear hB;go_enter Tryz.func226,Tryz.ntmps226;go_wp2;go_ret;exact⟨rfl,rfl⟩
 ·have t1:decide (n≤0)=false:=by simp;omega
  by_cases h1:31 < n
  ·have t2:decide (31 < n)=true:=by simp;omega
   have hB:zef s n=s:=by unfold zef;rw [if_neg h0,if_pos h1]
   rw [hB];clear hB;go_enter Tryz.func226,Tryz.ntmps226;go_wp2;go_ret;exact⟨rfl,rfl⟩
  ·have t2:decide (31 < n)=false:=by simp;omega
   have hm:=zyb n (by omega) (by omega);have hB:zef s n=s &&& (2 ^ n.toNat - 1):=by unfold zef;rw [if_neg h0,if_neg h1]
   rw [hB];clear hB;obtain⟨p,hp,hp1,hp2⟩:∃ p:Nat,2 ^ n.toNat=p∧1≤p∧p < 4294967296:=⟨_,rfl,Nat.pow_pos (by decide),Nat.lt_of_lt_of_le (Nat.pow_lt_pow_right (by decide) (show n.toNat < 32 by omega)) (by decide)⟩;rw [hp] at hm ⊢;have h2:=zsy hs (show p - 1 < 4294967296 by omega);rw [show ((p - 1:Nat):Int)=(p:Int) - 1 by omega] at h2;go_enter Tryz.func226,Tryz.ntmps226
   go_wp2_with (simp only [hm])
   go_ret;exact⟨by rw [←h2];rfl,rfl⟩
def zkk (s:Nat) (n:Int):Nat:=if n < 0 then s else zcl s (zef s n |||bitN n)
theorem zu2 (s:Nat) (n:Int):zkk s n≤s:=by
 unfold zkk
 split
 ·exact Nat.le_refl _
 ·exact zes _ _
theorem zEx (s:Nat) (hs:s < 4294967296) (n:Int) (w:World):Calls Tryz.prog 274 #[qU s,qI n] w fun e w'=>e=.returned (qU (zkk s n:Nat))∧w'=w:=by
 by_cases h0:n < 0
 ·have t1:decide (n < 0)=true:=by simp;omega
  have hA:zkk s n=s:=if_pos h0;rw [hA];clear hA;go_enter Tryz.func274,Tryz.ntmps274;go_wp2;go_ret;exact⟨rfl,rfl⟩
 ·have t1:decide (n < 0)=false:=by simp;omega
  have hA:zkk s n=zcl s (zef s n |||bitN n):=if_neg h0;rw [hA];clear hA;have HB:=hid (zpp s hs n w);have hr:=zpq s n;obtain⟨b,hb⟩:∃ b,bitN n=b:=⟨_,rfl⟩;have hb2:b < 4294967296:=by rw [←hb];exact zsx n
  rw [hb];generalize zef s n=r at HB hr;have hq:=zez hs (Nat.or_lt_two_pow (n:=32) (show r < 4294967296 by omega) hb2);go_enter Tryz.func274,Tryz.ntmps274
  go_wp2_with (go_at_call 226;refine HB.out.mono ?_;rintro e w2 ⟨rfl,rfl⟩)
  go_wp2_with (go_at_call 138;refine (zjl r (by omega) n _).mono ?_;rw [hb];rintro e w2 ⟨rfl,rfl⟩)
  go_ret;exact⟨by rw [←hq];rfl,rfl⟩
end Go.Proofs.YtpbmmoneeoijaaaGreatDoor
