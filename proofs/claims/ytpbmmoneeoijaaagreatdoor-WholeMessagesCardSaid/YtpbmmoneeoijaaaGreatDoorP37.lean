/-
  A part of the proof: WinEdge ModeFn.
-/
import Derived.Test.YtpbmmoneeoijaaaGreatDoorP36
namespace Go.Proofs.YtpbmmoneeoijaaaGreatDoor
open Go.RowKit Go.Deep Go.Shelf
set_option maxRecDepth 100000
theorem zpk {w X:World} {a b:Int} {ok:Bool} {ac:Act} (h4:ac.tmps.getD 4 undef=.pointer (some ⟨w.heap.size+1,0,none⟩)) (h5:ac.tmps.getD 5 undef=.bool ok) (hd:ac.defers=[])
  (hS:X.heap[w.heap.size+1]? =some (Obj.cells #[.int .i64 a,.int .i64 b] 154)) (hB:Below w.heap.size w X):bodyPost Tryz.prog Tryz.f90 (SpanA w) .ret ac X:=by
 refine bodyPost_ret (v:=.tuple #[.agg #[.int .i64 a,.int .i64 b],.bool ok]) ?_ hd ⟨⟨_,_,_,rfl⟩,hB⟩;rw [results_cell_tmp (p:=4) (u:=5) (ty:=154) rfl,h4,h5];simp [asAddr,run_loadVar_row X (w.heap.size+1) 154 154 _ (0,0) _ hS Tryz.underlying154 rfl (by kernel_rfl),Result.andThen]
def shZ:Obj:=Obj.cells #[.int .i64 0,.slice none 0 0,.slice none 0 0,.slice none 0 0,.int .u32 0,.int .u32 0,.int .u32 0,.int .i64 0,.int .i64 0,.int .i64 0,.int .i64 0,.int .i64 0,.int .i64 0,.int .i64 0,.int .i64 0,.int .i64 0,.int .i64 0,.int .i64 0,.int .i64 0,.int .i64 0,.int .i64 0,.int .i64 0,.int .i64 0,.int .i64 0,.int .i64 0,.int .i64 0,.int .i64 0,.int .i64 0,.int .i64 0,.int .i64 0,.int .i64 0] 296
theorem zlg (W:World) (z:ShR):(W.alloc shZ).there W.heap.size 0 (shL z).length:=fun j hj=>by
 have hj:j < 31:=hj;have bZ:=heap_alloc_new W shZ;unfold shZ at bZ ⊢;refine⟨?_,zab bZ _⟩;rw [zaa bZ,Nat.zero_add,Array.getElem?_eq_getElem (by simpa using hj)];rfl
theorem shL_one (z:ShR):(shL z).toArray.all (·.oneCell')=true:=by simp [shL,Value.oneCell']
theorem zoj {W:World} {p:Nat} {a b:Value} (hP:W.heap[p]? =some (Obj.cells #[a,b] 154)) (u v:Value):((W.setCell ⟨p,0,none⟩ u).setCell ⟨p,1,none⟩ v).heap[p]? =some (Obj.cells #[u,v] 154):=
 (zad (i:=1) (u:=v) (zad (i:=0) (u:=u) hP)).trans (by simp)
set_option maxHeartbeats 4000000 in
theorem zmz (x:Img) (g:Nat→Nat→Int) (M:Nat→za9) (h:Nat→Nat→Int) (i:Nat) (w:World) (hM:zbh w x.mo x.mn M) (hE:zbj w x.eo x.en 23 h) (htb:∀ j,j < x.mn→(M j).t < 4294967296)
  (hi:i < x.en) (hT:zck w x.ao x.n g) (hO:zd2 x.n g) (h16:x.n≤16) (p1:1≤h i 2) (p2:h i 2≤3) (hTab:Tab w):
  Calls Tryz.prog 90 #[iv x,.int .i64 i] w (SpanA w):=by
 have HCE:=hid fun X (hX:Below w.heap.size w X)=>zgy x M h i X (hM.below hX) (hE.below hX) htb hi;have HNW:=hid fun X (hX:Below w.heap.size w X)=>zod x g M h i (fun j=>h i (3+j)) X (hM.below hX) (hE.below hX) htb hi (hT.below hX) (hTab.below hX hTab.pos);have l1:=zgh htb (h i 0);have l2:=zgh htb (h i 1);obtain⟨oo,hoo⟩:∃ q,zdq (zax x M (h i 0)) (zax x M (h i 1))=q:=⟨_,rfl⟩;obtain⟨nn,hnn⟩:∃ q,zdq (zax x M (h i 1)) (zax x M (h i 0))=q:=⟨_,rfl⟩;obtain⟨ss,hss⟩:∃ q,zax x M (h i 0) &&& zax x M (h i 1)=q:=⟨_,rfl⟩;have b1:oo < 4294967296:=by rw [←hoo];exact Nat.lt_of_le_of_lt (zd5 _ _) l1
 have b2:nn < 4294967296:=by rw [←hnn];exact Nat.lt_of_le_of_lt (zd5 _ _) l2
 have b3:ss < 4294967296:=by rw [←hss];exact Nat.lt_of_le_of_lt Nat.and_le_left l1
 rw [hoo,hnn,hss] at HCE;clear hoo hnn hss l1 l2;have hn:x.n≤maxLen:=by unfold maxLen;omega
 have HFR:=hid fun X=>zpo oo nn ss b1 b3 X;have hfr:oo |||ss < 4294967296:=Nat.or_lt_two_pow (n:=32) b1 b3
 have HBS:=hid fun X (hX:Below w.heap.size w X)=>zBe x g (oo |||ss) X hfr hn (hT.below hX) (hTab.below hX hTab.pos);have HBO:=hid fun X=>zbo oo nn ss b1 b2 b3 X;have hbo:oo |||nn |||ss < 4294967296:=Nat.or_lt_two_pow (n:=32) (Nat.or_lt_two_pow (n:=32) b1 b2) b3
 have HLO:=hid fun X (hX:Below w.heap.size w X)=>zq0 x g (oo |||nn |||ss) X hbo (hT.below hX) (hTab.below hX hTab.pos);have HSP:=hid fun (o n s:Nat) (T:Nat→Int) (ho:o < 4294967296) (hn:n < 4294967296) (hs:s < 4294967296) X (hX:Below w.heap.size w X)=>span_any ⟨x,o,n,s,T,fun j=>h i (3+j)⟩ g X ho hn hs (hT.below hX) hO h16 (hTab.below hX hTab.pos);obtain⟨fr,hfr2⟩:∃ q,oo |||ss=q:=⟨_,rfl⟩
 rw [hfr2] at HFR HBS hfr;obtain⟨bo,hbo2⟩:∃ q,oo |||nn |||ss=q:=⟨_,rfl⟩
 rw [hbo2] at HBO HLO hbo;clear hfr2 hbo2 hT hTab hM htb hO;unfold cv at HCE HBO HFR;unfold NewA at HNW;have HE:=hid hE;clear hE;obtain⟨r,ao,n,cap,mo,mn,mc,eo,en,ec⟩:=x;unfold iv at HCE HNW HBS HLO ⊢;unfold offV at HNW;dsimp only at HCE HNW HBS HLO HSP HE hi hn h16 ⊢;obtain⟨eb,eof,rfl,hc⟩:=HE.out i hi;have hb1:Below w.heap.size w (w.alloc (Obj.cells #[.int .i64 r,.slice ao n cap,.slice mo mn mc,.slice (some ⟨eb,eof,none⟩) en ec] 26)):=(Below.refl _ _).alloc (Nat.le_refl _) _;have hb2:=hb1.alloc hb1.size (Obj.cells #[.int .i64 0,.int .i64 0] 154);have bI1:=heap_alloc_new w (Obj.cells #[.int .i64 r,.slice ao n cap,.slice mo mn mc,.slice (some ⟨eb,eof,none⟩) en ec] 26);have bI2:=zac bI1 (Obj.cells #[.int .i64 0,.int .i64 0] 154);have bS2:=heap_alloc_new (w.alloc (Obj.cells #[.int .i64 r,.slice ao n cap,.slice mo mn mc,.slice (some ⟨eb,eof,none⟩) en ec] 26)) (Obj.cells #[.int .i64 0,.int .i64 0] 154);rw [World.size_alloc] at bS2;have hr0:=zf4 fun j hj=>kept (hc j hj) hb2;have c3:=zaa bI2 3;have u1:decide ((i:Int) < 0)=false:=by simp
 have u2:decide ((en:Int)≤(i:Int))=false:=by simp;omega
 have j0:(0:Int)≤(i:Int):=by omega
 have j1:(i:Int) < (en:Int):=by omega
 clear hc;go_enter Tryz.func90,Tryz.ntmps90
 go_upto_region 3 with fail
 obtain⟨W2,hW2⟩:∃ X,X=(w.alloc (Obj.cells #[.int .i64 r,.slice ao n cap,.slice mo mn mc,.slice (some ⟨eb,eof,none⟩) en ec] 26)).alloc (Obj.cells #[.int .i64 0,.int .i64 0] 154):=⟨_,rfl⟩;rw [←hW2] at hb2 bI2 bS2 hr0 c3 ⊢;clear hW2 bI1 hb1;refine wp_region_lit ?_;refine wpList_plain rfl fun K hK=>?_;go_simp;refine hK _ _ ?_;clear hK K;refine wpList_plain rfl fun K hK=>?_;go_simp;refine hK _ _ ?_;clear hK K;refine wpList_plain rfl fun K hK=>?_;go_simp;refine hK _ _ ?_;clear hK K;refine wpList_plain rfl fun K hK=>?_;go_simp;refine hK _ _ ?_;clear hK K;refine wpList_load_mid rfl 176 _ rfl eb (eof+i * 23) rfl (zc3 (h i)) _ hr0 Tryz.underlying176 rfl (zcd _) ?_;refine wpList_plain rfl fun K hK=>?_;go_simp;refine hK _ _ ?_;clear hK K;refine wpList_store_mid rfl 176 _ _ rfl W2.heap.size 0 (zc3 (h i)).toArray rfl rfl (zfl W2 (h i)) (by simpa using zcd (h i)) (zi5 _) ?_;have hbx:=zkz W2 (h i);unfold zgw at hbx;obtain⟨W3,hW3⟩:∃ X,X=((W2.alloc zgw).setCells W2.heap.size 0 (zc3 (h i)).toArray.toList):=⟨_,rfl⟩;unfold zgw at hW3;rw [←hW3] at hbx;show Exit.then _ _ _ _ _
 rw [←hW3];clear hW3 hr0 c3;go_simp;have hb3:=hb2.trans (hbx.below.mono hb2.size);have bI3:=(hbx.below.block _ (Array.getElem?_eq_some_iff.1 bI2).1).trans bI2;have bS3:=(hbx.below.block _ (Array.getElem?_eq_some_iff.1 bS2).1).trans bS2;have c0:=zaa bI3 0;have c1:=zaa bI3 1;have c2:=zaa bI3 2;have c3:=zaa bI3 3
 go_upto_region 5 with (go_at_call 163;refine (HCE.out _ hb3).mono ?_;rintro e w4 ⟨rfl,hb4⟩)
 have hb5:=(hb3.trans (hb4.mono hb3.size)).alloc (by have:=hb4.size;have:=hb3.size;omega) (Obj.cells #[.int .u32 (oo:Nat),.int .u32 (nn:Nat),.int .u32 (ss:Nat)] 291);have bC5:=heap_alloc_new w4 (Obj.cells #[.int .u32 (oo:Nat),.int .u32 (nn:Nat),.int .u32 (ss:Nat)] 291);have bI5:=zac (qBa hb4 bI3) (Obj.cells #[.int .u32 (oo:Nat),.int .u32 (nn:Nat),.int .u32 (ss:Nat)] 291);have bS5:=zac (qBa hb4 bS3) (Obj.cells #[.int .u32 (oo:Nat),.int .u32 (nn:Nat),.int .u32 (ss:Nat)] 291);have bk5:Below w4.heap.size w4 (w4.alloc (Obj.cells #[.int .u32 (oo:Nat),.int .u32 (nn:Nat),.int .u32 (ss:Nat)] 291)):=(Below.refl _ _).alloc (Nat.le_refl _) _;have e5:=hid fun j (hj:j < 23)=>kept (kept (hbx.cell j hj) hb4) bk5;have hs2:w.heap.size+2≤W2.heap.size:=by have:=(Array.getElem?_eq_some_iff.1 bS2).1;omega
 have hs4:W2.heap.size+1≤w4.heap.size:=by have:=hbx.size;have:=hb4.size;omega
 have hs5:(w4.alloc (Obj.cells #[.int .u32 (oo:Nat),.int .u32 (nn:Nat),.int .u32 (ss:Nat)] 291)).heap.size=w4.heap.size+1:=by simp
 obtain⟨W5,hW5⟩:∃ X,X=w4.alloc (Obj.cells #[.int .u32 (oo:Nat),.int .u32 (nn:Nat),.int .u32 (ss:Nat)] 291):=⟨_,rfl⟩;rw [←hW5] at hb5 bC5 bI5 bS5 e5 hs5 ⊢;obtain⟨SE,hSE⟩:∃ q,q=Value.agg (zc3 (h i)).toArray:=⟨_,rfl⟩;rw [←hSE];clear hSE hW5 c0 c1 c2 c3 hb4 bI3 bS3 bI2 bS2 hbx bk5 hb3 hb2 HCE HE;have e2:=e5.out 2 (by decide);obtain⟨p,hp⟩:∃ p,h i 2=p:=⟨_,rfl⟩;rw [hp] at e2 p1 p2;clear hp;rcases (show p=1∨p=2∨p=3 by omega) with rfl|rfl|rfl
 ·go_upto_region 7 with fail
  refine zah [2,3,4,5,6,7,8] (fun X=>Below W5.heap.size W5 X) (by kernel_rfl) (by kernel_rfl) (by exact⟨rfl,rfl,rfl,Nat.le_refl _,fun _ _=>rfl⟩) ?_;refine qFs fun K hK=>?_;go_simp;refine⟨.agg #[.int .i64 r,.slice ao n cap,.slice mo mn mc,.slice (some ⟨eb,eof,none⟩) en ec],fun X hX=>?_,hK _ ?_⟩
  ·have hI:=(hX.block _ (by omega)).trans bI5
   have z0:=zaa hI 0;have z1:=zaa hI 1;have z2:=zaa hI 2;have z3:=zaa hI 3;go_simp
  clear hK K;refine qFs fun K hK=>?_;go_simp;refine⟨.agg #[.int .u32 (oo:Nat),.int .u32 (nn:Nat),.int .u32 (ss:Nat)],fun X hX=>?_,hK _ ?_⟩
  ·have hC:=(hX.block _ (by omega)).trans bC5
   have z0:=zaa hC 0;have z1:=zaa hC 1;have z2:=zaa hC 2;go_simp
  clear hK K;refine qFc ?_;refine qFc ?_;refine qFc ?_;refine qFc ?_;refine qFc ?_;refine qFc ?_;refine qFc ?_;refine zau ?_;have B5:Below W5.heap.size W5 W5.drew:=⟨rfl,rfl,rfl,Nat.le_refl _,fun _ _=>rfl⟩;refine qT1 2 [3,4,5,6,7,8] fun K hK=>?_
  go_wp2_with fail
  refine (HFR.out _).mono ?_;rintro e W6 ⟨rfl,hb6⟩;have B6:=B5.trans (hb6.mono B5.size)
  go_wp2_with fail
  refine hK _ _ B6 ?_;clear hK K;refine qT1 3 [4,5,6,7,8] fun K hK=>?_
  go_wp2_with fail
  refine (HBS.out _ (hb5.trans (B6.mono hb5.size))).mono ?_;rintro e W7 ⟨⟨m,ok,rfl⟩,hb7⟩;have B7:=B6.trans (hb7.mono B6.size)
  go_wp2_with fail
  refine hK _ _ B7 ?_;clear hK K;refine zaf (m:=4) (i:=4) (rem1:=[5,6,7,8]) rfl (by kernel_rfl) (by rfl) (by rfl) B7 (by rfl) (fun K hK=>?_);go_simp;refine⟨_,fun _ _=>rfl,hK _ ?_⟩;clear hK K;refine zaf (m:=3) (i:=5) (rem1:=[6,7,8]) rfl (by kernel_rfl) (by rfl) (by rfl) B7 (by rfl) (fun K hK=>?_);go_simp;refine⟨_,fun _ _=>rfl,hK _ ?_⟩;clear hK K;refine zaf (m:=2) (i:=6) (rem1:=[7,8]) rfl (by kernel_rfl) (by rfl) (by rfl) B7 (by rfl) (fun K hK=>?_);go_simp;refine⟨_,fun _ _=>rfl,hK _ ?_⟩;clear hK K;refine qT1 7 [8] fun K hK=>?_
  go_wp2_with fail
  refine hK _ _ B7 ?_;clear hK K;refine qT1 8 [] fun K hK=>?_
  go_wp2_with fail
  refine hK _ _ B7 ?_;clear hK K;refine zan ?_;have hS7:=qBa B7 bS5;have hB7:=hb5.trans (B7.mono hb5.size);have n0:=zaa hS7 0;have n1:=zaa hS7 1;have y0:=zab hS7 0;have y1:=zab hS7 1;go_wp2;exact zpk rfl rfl rfl (zoj hS7 _ _) ((hB7.setCell (by simp) _).setCell (by simp) _)
 ·go_upto_region 10 with fail
  refine zcx [2,3,4,5,6] (NewC w.heap.size w.heap.size w4.heap.size _ _ _) (by kernel_rfl) (by kernel_rfl) (⟨bI5,bI5,bC5⟩:NewC _ _ _ _ _ _ W5.drew) ?_;refine qFs fun K hK=>?_;go_simp;refine⟨.agg #[.int .i64 r,.slice ao n cap,.slice mo mn mc,.slice (some ⟨eb,eof,none⟩) en ec],fun X hX=>?_,hK _ ?_⟩
  ·have z0:=zaa hX.i 0
   have z1:=zaa hX.i 1;have z2:=zaa hX.i 2;have z3:=zaa hX.i 3;go_simp
  clear hK K;refine qFs fun K hK=>?_;go_simp;refine⟨.agg #[.int .u32 (oo:Nat),.int .u32 (nn:Nat),.int .u32 (ss:Nat)],fun X hX=>?_,hK _ ?_⟩
  ·have z0:=zaa hX.c 0
   have z1:=zaa hX.c 1;have z2:=zaa hX.c 2;go_simp
  clear hK K;refine qFc ?_;refine qFc ?_;refine qFc ?_;refine qFc ?_;refine qFc ?_;refine zau ?_;have B5:Below W5.heap.size W5 W5.drew:=⟨rfl,rfl,rfl,Nat.le_refl _,fun _ _=>rfl⟩;refine zcn (by rfl) (fun K hK=>?_)
  go_wp2_with fail
  refine (HBO.out _).mono ?_;rintro e W6 ⟨rfl,hb6⟩;have B6:=B5.trans (hb6.mono B5.size)
  go_wp2_with fail
  refine hK _ _ ⟨(B6.block _ (by omega)).trans bI5,(B6.block _ (by omega)).trans bI5,(B6.block _ (by omega)).trans bC5⟩ ?_;clear hK K;refine zcn (by rfl) (fun K hK=>?_)
  go_wp2_with fail
  refine (HLO.out _ (hb5.trans (B6.mono hb5.size))).mono ?_;rintro e W7 ⟨⟨m,rfl⟩,hb7⟩;have B7:=B6.trans (hb7.mono B6.size);have hC7:NewC w.heap.size w.heap.size w4.heap.size (Obj.cells #[.int .i64 r,.slice ao n cap,.slice mo mn mc,.slice (some ⟨eb,eof,none⟩) en ec] 26) (Obj.cells #[.int .i64 r,.slice ao n cap,.slice mo mn mc,.slice (some ⟨eb,eof,none⟩) en ec] 26) (Obj.cells #[.int .u32 (oo:Nat),.int .u32 (nn:Nat),.int .u32 (ss:Nat)] 291) W7:=⟨(B7.block _ (by omega)).trans bI5,(B7.block _ (by omega)).trans bI5,(B7.block _ (by omega)).trans bC5⟩;have hS7:=(B7.block _ (by omega)).trans bS5;have hB7:=hb5.trans (B7.mono hb5.size);clear hb7 hb6 B6 B5 B7
  go_wp2_with fail
  refine hK _ _ hC7 ?_;clear hK K;refine zcn (by rfl) (fun K hK=>?_)
  go_wp2_with fail
  refine hK _ _ hC7 ?_;clear hK K;have n0:=zaa hS7 0;have n1:=zaa hS7 1;have y0:=zab hS7 0;have y1:=zab hS7 1;refine zcn (by rfl) (fun K hK=>?_)
  go_wp2_with fail
  have hC8:NewC w.heap.size w.heap.size w4.heap.size (Obj.cells #[.int .i64 r,.slice ao n cap,.slice mo mn mc,.slice (some ⟨eb,eof,none⟩) en ec] 26) (Obj.cells #[.int .i64 r,.slice ao n cap,.slice mo mn mc,.slice (some ⟨eb,eof,none⟩) en ec] 26) (Obj.cells #[.int .u32 (oo:Nat),.int .u32 (nn:Nat),.int .u32 (ss:Nat)] 291) ((W7.setCell ⟨w.heap.size+1,0,none⟩ (.int .i64 m)).setCell ⟨w.heap.size+1,1,none⟩ (.int .i64 0)):=by
   have k:∀ b,b≠w.heap.size+1→((W7.setCell ⟨w.heap.size+1,0,none⟩ (.int .i64 m)).setCell ⟨w.heap.size+1,1,none⟩ (.int .i64 0)).heap[b]? =W7.heap[b]?:=fun b hb=>
    (heap_setCell_other _ ⟨w.heap.size+1,1,none⟩ b _ hb).trans (heap_setCell_other _ ⟨w.heap.size+1,0,none⟩ b _ hb)
   exact⟨(k _ (by omega)).trans hC7.i,(k _ (by omega)).trans hC7.o,(k _ (by omega)).trans hC7.c⟩
  refine hK _ _ hC8 ?_;clear hK K;refine zcn (by rfl) (fun K hK=>?_)
  go_wp2_with fail
  refine hK _ _ hC8 ?_;clear hK K;refine zkq ?_;go_wp2;exact zpk rfl rfl rfl (zoj hS7 _ _) ((hB7.setCell (by simp) _).setCell (by simp) _)
 ·have c0:=zaa bI5 0
  have c1:=zaa bI5 1;have c2:=zaa bI5 2;have c3:=zaa bI5 3;have f3:=e5.out 3 (by decide);have f4:=e5.out 4 (by decide);have f5:=e5.out 5 (by decide);have f6:=e5.out 6 (by decide);have f7:=e5.out 7 (by decide);have f8:=e5.out 8 (by decide);have f9:=e5.out 9 (by decide);have f10:=e5.out 10 (by decide);have f11:=e5.out 11 (by decide);have f12:=e5.out 12 (by decide);have f13:=e5.out 13 (by decide);have f14:=e5.out 14 (by decide);have f15:=e5.out 15 (by decide);have f16:=e5.out 16 (by decide);have f17:=e5.out 17 (by decide);have f18:=e5.out 18 (by decide)
  go_upto_region 12 with fail
  refine wp_region_lit ?_
  go_wp2_with fail
  clear f3 f4 f5 f6 f7 f8 f9 f10 f11 f12 f13 f14 f15 f16 f17 f18 c0 c1 c2 c3;refine (HNW.out _ hb5).mono ?_;rintro e W6 ⟨⟨o,n',s,T,q1,q2,q3,rfl⟩,hb6⟩;obtain⟨Z,hZ⟩:∃ Z:ShR,Z=⟨⟨r,ao,n,cap,mo,mn,mc,some ⟨eb,eof,none⟩,en,ec⟩,o,n',s,T,fun j=>h i (3+j)⟩:=⟨_,rfl⟩;rw [←hZ];rename_i KK hKK;refine hKK _ _ ?_;clear hKK KK;refine wpList_plain rfl fun K hK=>?_;go_simp;refine hK _ _ ?_;clear hK K;refine wpList_plain rfl fun K hK=>?_;go_simp;refine hK _ _ ?_;clear hK K;refine wpList_plain rfl fun K hK=>?_;go_simp;refine hK _ _ ?_;clear hK K;refine wpList_plain rfl fun K hK=>?_;go_simp;refine hK _ _ ?_;clear hK K;refine wpList_store_mid rfl 296 _ _ rfl W6.heap.size 0 (shL Z).toArray rfl (by go_simp;rfl) (by have:=zlg W6 Z;unfold shZ at this;simpa using this) (by simpa using zcz Z) (shL_one Z) ?_;have hrg:=World.rangeAt_setCells_same (W6.alloc shZ) W6.heap.size 0 (shL Z) (zlg W6 Z);have hb6w:=hb5.trans (hb6.mono hb5.size);have hb7:Below w.heap.size w ((W6.alloc shZ).setCells W6.heap.size 0 (shL Z)):=zak hb6w.size _ 0 _ (hb6w.alloc hb6w.size _);have hs6:=hb6.size;have bS7:((W6.alloc shZ).setCells W6.heap.size 0 (shL Z)).heap[w.heap.size+1]? =some (Obj.cells #[.int .i64 0,.int .i64 0] 154):=(World.heap_setCells_other _ _ _ _ (by simp;omega) (by omega)).trans (zac ((hb6.block _ (by omega)).trans bS5) _);have HSZ:=hid fun X (hX:Below w.heap.size w X)=>(show Calls Tryz.prog 169 #[.agg (shL Z).toArray] X (SpanA X) from by rw [hZ];exact HSP.out o n' s T q1 q2 q3 X hX);obtain⟨W7,hW7⟩:∃ X,X=(W6.alloc shZ).setCells W6.heap.size 0 (shL Z):=⟨_,rfl⟩;rw [←hW7] at hrg hb7 bS7;show wpList _ _ _ _ _ ((W6.alloc shZ).setCells W6.heap.size 0 (shL Z));rw [←hW7];clear hW7 hZ hb6 HSP HNW HBS HLO HBO HFR bC5 bI5 bS5 e5 e2;go_simp;refine wpList_plain rfl fun K hK=>?_;go_simp;refine hK _ _ ?_;clear hK K;refine (show Exit.then _ _ _ _ _ from ?_);go_simp
  go_upto_region 15 with fail
  refine wp_region_lit ?_;refine wpList_load_mid rfl 296 _ rfl W6.heap.size 0 rfl (shL Z) _ hrg Tryz.underlying296 rfl (zcz Z) ?_
  go_wp2_with fail
  refine (HSZ.out _ hb7).mono ?_;rintro e W8 ⟨⟨a,b,ok,rfl⟩,hb8⟩;have hS8:=qBa hb8 bS7;have hB8:=hb7.trans (hb8.mono hb7.size);have n0:=zaa hS8 0;have n1:=zaa hS8 1;have y0:=zab hS8 0;have y1:=zab hS8 1;go_wp2;exact zpk rfl rfl rfl (zoj hS8 _ _) ((hB8.setCell (by simp) _).setCell (by simp) _)
end Go.Proofs.YtpbmmoneeoijaaaGreatDoor
namespace Go.Proofs.YtpbmmoneeoijaaaGreatDoor
open Go.RowKit Go.Deep Go.Shelf
attribute [local go_sem] Oper.semAt_some
set_option maxRecDepth 100000
theorem infoRow:(Tryz.prog.info? 287).map (fun i=>(i.zero,i.size,i.bytes))=some (some (.agg #[.int .i64 0,.int .i64 0,.int .i64 0]),3,24):=by kernel_rfl
def RowsA (w:World) (e:Ending) (w':World):Prop:=(∃ (a:Option Addr) (l c:Nat) (i:Int) (ok:Bool),e=.returned (.tuple #[.slice a l c,.int .i64 i,.bool ok]))∧Below w.heap.size w w'
theorem zzn {w:World} {base:Nat} {e:TypeId} {k:Nat} {v:Value} {n:Nat} {xs:List Value} (h:w.ownsRow base e k v n xs):∃ a l c,v=.slice a l c:=by
 rcases h.2 with ⟨rfl,_⟩|⟨g,cap,cur,rfl,_⟩
 ·exact⟨_,_,_,rfl⟩
 ·exact⟨_,_,_,rfl⟩
def RowsI (b m:Nat) (W:World):Prop:=∃ v xs,Boxed W b 199 v∧W.ownsRow b 287 3 v m xs
theorem zzm {β:Type} (b:Nat) (m:β→Nat):Own (fun (x:β) W=>RowsI b (m x) W):=fun s X Y row hs hg hrow=>by
 obtain⟨v,xs,hv,hr⟩:=hs;obtain⟨v',h1,h2,_⟩:=holdsRow_own b b 199 287 3 (fun _:Unit=>m s) (fun _=>xs) (fun _ _=>True) () X Y row ⟨v,hv,hr,trivial⟩ hg hrow;exact⟨v',xs,h1,h2⟩
set_option maxHeartbeats 4000000 in
theorem zz5 (x:Img) (g:Nat→Nat→Int) (s:Nat) (w:World) (hs:s < 4294967296) (hn:x.n≤maxLen) (hT:zck w x.ao x.n g) (hO:zd2 x.n g) (hTab:Tab w):
  Calls Tryz.prog 88 #[iv x,.int .u32 (s:Nat)] w (RowsA w):=by
 have HC:=hid fun X (hX:Below w.heap.size w X)=>zjx x g s X hs (hT.below hX) (hTab.below hX hTab.pos);have HR:=hid fun (T:Nat→Int) (t:Nat) X (hX:Below w.heap.size w X)=>zqj x g s s T t X hs hs hn (hT.below hX) hO (hTab.below hX hTab.pos);obtain⟨r,ao,n,cap,mo,mn,mc,eo,en,ec⟩:=x;unfold iv at HC HR ⊢;unfold tabV at HC HR;dsimp only at HC HR ⊢;have hp:=hTab.pos;obtain⟨i0,hi,hz0,hz1,hz2⟩:=info_parts infoRow;refine (callsIn_wide (n:=8)).1 ?_;have h1:1≤8:=by omega
 refine callsIn_of_wp_marks Tryz.func88 rfl trivial ?_ rfl;simp only [Tryz.ntmps88,List.size_toArray,List.length_cons,List.length_nil,Nat.reduceAdd,Nat.reduceSub,Array.replicate_succ,Array.replicate_zero,List.push_toArray,List.append_toArray,List.nil_append,List.cons_append];have hB0:Below w.heap.size w (((((w.alloc (Obj.cells #[.int .i64 r,.slice ao n cap,.slice mo mn mc,.slice eo en ec] 26)).alloc (Obj.cells #[.int .u32 (s:Nat)] 140)).alloc (Obj.cells #[.slice none 0 0] 199)).alloc (Obj.cells #[.int .i64 0] 3)).alloc (Obj.cells #[.bool false] 4)):=
  (((((Below.refl _ w).alloc (Nat.le_refl _) _).alloc (by simp) _).alloc (by simp;omega) _).alloc (by simp;omega) _).alloc (by simp;omega) _
 have hI0:((((w.alloc (Obj.cells #[.int .i64 r,.slice ao n cap,.slice mo mn mc,.slice eo en ec] 26)).alloc (Obj.cells #[.int .u32 (s:Nat)] 140)).alloc (Obj.cells #[.slice none 0 0] 199)).alloc (Obj.cells #[.int .i64 0] 3)).heap[w.heap.size]? =some (Obj.cells #[.int .i64 r,.slice ao n cap,.slice mo mn mc,.slice eo en ec] 26):=zac (zac (zac (heap_alloc_new w _) _) _) _;have hS0:((((w.alloc (Obj.cells #[.int .i64 r,.slice ao n cap,.slice mo mn mc,.slice eo en ec] 26)).alloc (Obj.cells #[.int .u32 (s:Nat)] 140)).alloc (Obj.cells #[.slice none 0 0] 199)).alloc (Obj.cells #[.int .i64 0] 3)).heap[w.heap.size+1]? =some (Obj.cells #[.int .u32 (s:Nat)] 140):=zac (zac (by have:=heap_alloc_new (w.alloc (Obj.cells #[.int .i64 r,.slice ao n cap,.slice mo mn mc,.slice eo en ec] 26)) (Obj.cells #[.int .u32 (s:Nat)] 140);rwa [World.size_alloc] at this) _) _;have hL0:((((w.alloc (Obj.cells #[.int .i64 r,.slice ao n cap,.slice mo mn mc,.slice eo en ec] 26)).alloc (Obj.cells #[.int .u32 (s:Nat)] 140)).alloc (Obj.cells #[.slice none 0 0] 199)).alloc (Obj.cells #[.int .i64 0] 3)).heap[w.heap.size+1+1]? =some (Obj.cells #[.slice none 0 0] 199):=zac (by have:=heap_alloc_new ((w.alloc (Obj.cells #[.int .i64 r,.slice ao n cap,.slice mo mn mc,.slice eo en ec] 26)).alloc (Obj.cells #[.int .u32 (s:Nat)] 140)) (Obj.cells #[.slice none 0 0] 199);rwa [World.size_alloc,World.size_alloc] at this) _;have hN0:((((w.alloc (Obj.cells #[.int .i64 r,.slice ao n cap,.slice mo mn mc,.slice eo en ec] 26)).alloc (Obj.cells #[.int .u32 (s:Nat)] 140)).alloc (Obj.cells #[.slice none 0 0] 199)).alloc (Obj.cells #[.int .i64 0] 3)).heap[w.heap.size+1+1+1]? =some (Obj.cells #[.int .i64 0] 3):=by have:=heap_alloc_new (((w.alloc (Obj.cells #[.int .i64 r,.slice ao n cap,.slice mo mn mc,.slice eo en ec] 26)).alloc (Obj.cells #[.int .u32 (s:Nat)] 140)).alloc (Obj.cells #[.slice none 0 0] 199)) (Obj.cells #[.int .i64 0] 3);rwa [World.size_alloc,World.size_alloc,World.size_alloc] at this
 have hsz0:((((w.alloc (Obj.cells #[.int .i64 r,.slice ao n cap,.slice mo mn mc,.slice eo en ec] 26)).alloc (Obj.cells #[.int .u32 (s:Nat)] 140)).alloc (Obj.cells #[.slice none 0 0] 199)).alloc (Obj.cells #[.int .i64 0] 3)).heap.size=w.heap.size+1+1+1+1:=by simp
 gi_wp2_with (refine⟨trivial,?_⟩;gi_at_call 161;refine (callsIn_wide.2 (HC.out _ hB0)).mono ?_;rintro e W1 ⟨⟨T,rfl⟩,hb1⟩;have s1:=kept (zaa (zac hS0 (Obj.cells #[.bool false] 4)) 0) hb1;have s2:=kept s1 ((Below.refl W1.heap.size W1).alloc (Nat.le_refl _) (Obj.cells #[.int .i64 (T 0),.int .i64 (T 1),.int .i64 (T 2),.int .i64 (T 3),.int .i64 (T 4),.int .i64 (T 5),.int .i64 (T 6),.int .i64 (T 7)] 247));have s3:=kept s2 ((Below.refl _ _).alloc (Nat.le_refl _) (Obj.cells #[.slice none 0 0] 199)))
 refine⟨trivial,?_⟩
 gi_at_call 159
 refine (callsIn_wide.2 (zdn s _)).mono ?_;rintro e w' ⟨rfl,rfl⟩;have bF0:=heap_alloc_new ((((w.alloc (Obj.cells #[.int .i64 r,.slice ao n cap,.slice mo mn mc,.slice eo en ec] 26)).alloc (Obj.cells #[.int .u32 (s:Nat)] 140)).alloc (Obj.cells #[.slice none 0 0] 199)).alloc (Obj.cells #[.int .i64 0] 3)) (Obj.cells #[.bool false] 4);rw [hsz0] at bF0;have bI1:=(hb1.block _ (by simp;omega)).trans (zac hI0 (Obj.cells #[.bool false] 4));have bS1:=(hb1.block _ (by simp)).trans (zac hS0 (Obj.cells #[.bool false] 4));have bL1:=(hb1.block _ (by simp)).trans (zac hL0 (Obj.cells #[.bool false] 4));have bN1:=(hb1.block _ (by simp)).trans (zac hN0 (Obj.cells #[.bool false] 4));have bF1:=(hb1.block _ (by simp)).trans bF0;have hbI:=hB0.trans (hb1.mono hB0.size);have hs1:w.heap.size+5≤W1.heap.size:=by have:=hb1.size;simp at this;omega
 clear hb1 hI0 hS0 hL0 hN0 hsz0 hB0 bF0 s1 s2 s3;have hTab1:=hTab.below hbI hTab.pos;have bT2:=heap_alloc_new W1 (Obj.cells #[.int .i64 (T 0),.int .i64 (T 1),.int .i64 (T 2),.int .i64 (T 3),.int .i64 (T 4),.int .i64 (T 5),.int .i64 (T 6),.int .i64 (T 7)] 247);have hb2:=(Below.refl W1.heap.size W1).alloc (Nat.le_refl _) (Obj.cells #[.int .i64 (T 0),.int .i64 (T 1),.int .i64 (T 2),.int .i64 (T 3),.int .i64 (T 4),.int .i64 (T 5),.int .i64 (T 6),.int .i64 (T 7)] 247);have bO3:=Boxed.new (W1.alloc (Obj.cells #[.int .i64 (T 0),.int .i64 (T 1),.int .i64 (T 2),.int .i64 (T 3),.int .i64 (T 4),.int .i64 (T 5),.int .i64 (T 6),.int .i64 (T 7)] 247)) 199 (.slice none 0 0);rw [World.size_alloc] at bO3;have hb3:=hb2.alloc hb2.size (Obj.cells #[.slice none 0 0] 199);have bT3:=zac bT2 (Obj.cells #[.slice none 0 0] 199);have hsz3:((W1.alloc (Obj.cells #[.int .i64 (T 0),.int .i64 (T 1),.int .i64 (T 2),.int .i64 (T 3),.int .i64 (T 4),.int .i64 (T 5),.int .i64 (T 6),.int .i64 (T 7)] 247)).alloc (Obj.cells #[.slice none 0 0] 199)).heap.size=W1.heap.size+1+1:=by simp
 obtain⟨W2,hW2⟩:∃ X,X=(W1.alloc (Obj.cells #[.int .i64 (T 0),.int .i64 (T 1),.int .i64 (T 2),.int .i64 (T 3),.int .i64 (T 4),.int .i64 (T 5),.int .i64 (T 6),.int .i64 (T 7)] 247)).alloc (Obj.cells #[.slice none 0 0] 199):=⟨_,rfl⟩;rw [←hW2] at hb3 bT3 bO3 hsz3 ⊢;clear hW2 hb2 bT2;have hI3:RowsI (W1.heap.size+1) 0 W2:=⟨_,[],bO3,World.ownsRow_nil _ _ _ _⟩;have hc3:(W2.alloc (Obj.cells #[.int .u32 (s:Nat)] 140)).cell? ⟨W1.heap.size+1+1,0,none⟩=some (.int .u32 (s:Nat)):=by
  have:=(zaq W2 (.int .u32 (s:Nat)) 140).1
  rwa [hsz3] at this
 have hb4:Below (W1.heap.size+1) W2 (W2.alloc (Obj.cells #[.int .u32 (s:Nat)] 140)):=(Below.refl _ _).alloc (by omega) _;have hI4:RowsI (W1.heap.size+1) 0 (W2.alloc (Obj.cells #[.int .u32 (s:Nat)] 140)):=⟨_,[],bO3.alloc _,World.ownsRow_nil _ _ _ _⟩;have hsz4:(W2.alloc (Obj.cells #[.int .u32 (s:Nat)] 140)).heap.size=W1.heap.size+3:=by simp [hsz3]
 have hTab4:=(hTab1.below hb3 hTab1.pos).below hb4 (by omega);obtain⟨W3,hW3⟩:∃ X,X=W2.alloc (Obj.cells #[.int .u32 (s:Nat)] 140):=⟨_,rfl⟩;rw [hsz3];rw [←hW3] at hb4 hI4 hc3 hsz4 hTab4 ⊢;clear hW3 hI3
 gi_wp2_with fail
 refine wpIn_rangeFunc_ownG rfl h1 (gf:=221) (lb:=#[.pointer (some ⟨W1.heap.size+1+1,0,none⟩)]) rfl trivial (enters_of Tryz.func221 (by kernel_rfl) rfl)
  (zcu (8 - 1) (by omega) (W1.heap.size+1+1) (W1.heap.size+1) s W3 hs (by omega) hc3 hTab4) belowK_t (belowK_b (by omega)) (Below.refl _ _) (fun _=>rfl)
  (fun pre W=>RowsI (W1.heap.size+1) pre.length W∧Below (W1.heap.size+1) W2 W)
  (fun c _ W=>c=.ret∧(∃ i:Int,(Boxed W (w.heap.size+1+1) 199 (.slice none 0 0)∧Boxed W (w.heap.size+1+1+1) 3 (.int .i64 i))∧Boxed W (w.heap.size+1+1+1+1) 4 (.bool false))∧Below w.heap.size w W)
  (OwnFrom.and (Own.from (zzm _ (fun pre:List Nat=>pre.length)) _) (ownFrom_below (by omega) (by omega)))
  (fun c=>OwnFrom.and (ownFrom_pure _ _) (OwnFrom.and (fun s X Y row hs hg hr=>by obtain⟨i,⟨h1,h2⟩,h3⟩:=hs;exact⟨i,⟨boxed_own _ _ (fun (_:Unit)=>_) () X Y row h1 hg (fun r e=>(hr r e).2),boxed_own _ _ (fun (_:Unit)=>_) () X Y row h2 hg (fun r e=>(hr r e).2)⟩,boxed_own _ _ (fun (_:Unit)=>_) () X Y row h3 hg (fun r e=>(hr r e).2)⟩) (ownFrom_below (Nat.le_refl _) (by omega))))
  ⟨hI4,hb4⟩
  (fun x=>{ tmps:=#[.agg #[.int .i64 r,.slice ao n cap,.slice mo mn mc,.slice eo en ec],.int .u32 (s:Nat),.pointer (some ⟨w.heap.size,0,none⟩),.pointer (some ⟨w.heap.size+1,0,none⟩),.pointer (some ⟨w.heap.size+1+1,0,none⟩),.pointer (some ⟨w.heap.size+1+1+1,0,none⟩),.pointer (some ⟨w.heap.size+1+1+1+1,0,none⟩),.pointer (some ⟨W1.heap.size,0,none⟩),.pointer (some ⟨W1.heap.size+1,0,none⟩),(.int .i64 (x:Nat)),undef,undef,.agg #[.int .i64 r,.slice ao n cap,.slice mo mn mc,.slice eo en ec],.int .u32 (s:Nat),.agg #[.int .i64 (T 0),.int .i64 (T 1),.int .i64 (T 2),.int .i64 (T 3),.int .i64 (T 4),.int .i64 (T 5),.int .i64 (T 6),.int .i64 (T 7)],.int .u32 (s:Nat),.func (.func 221) #[] #[.pointer (some ⟨W1.heap.size+1+1,0,none⟩)],.int .i64 (x:Nat),undef,undef,undef,undef,undef,undef,undef,undef,undef,undef,undef,undef,undef,undef,undef,undef,undef],defers:=[] })
  ?assign ?body ?done ?stop
 case assign=>
  rintro l x W K hK
  gi_wp2
  exact hK
 case body=>
  rintro l pre x W ⟨⟨v,xs,bO,hrow⟩,hB⟩ hlt;have bI:=(hB.block _ (by omega)).trans ((hb3.block _ (by omega)).trans bI1);have bS:=(hB.block _ (by omega)).trans ((hb3.block _ (by omega)).trans bS1);have bT:=(hB.block _ (by omega)).trans bT3;have hBw:=(hbI.trans (hb3.mono (by omega))).trans (hB.mono (by omega));have c0:=zaa bI 0;have c1:=zaa bI 1;have c2:=zaa bI 2;have c3:=zaa bI 3;have s0:=zaa bS 0;have t0:=zaa bT 0;have t1:=zaa bT 1;have t2:=zaa bT 2;have t3:=zaa bT 3;have t4:=zaa bT 4;have t5:=zaa bT 5;have t6:=zaa bT 6;have t7:=zaa bT 7
  gi_wp2_with fail
  refine⟨trivial,?_⟩
  gi_at_call 162
  refine (CallsIn.inRound l (callsIn_wide.2 (HR.out T x W hBw))).mono ?_;rintro e W5 ⟨⟨a,b,c,ok,rfl⟩,hb5⟩;have hB5:=hB.trans (hb5.mono (by have:=hB.size;omega));have hBw5:=hBw.trans (hb5.mono hBw.size);have bO5:Boxed W5 (W1.heap.size+1) 199 v:=(hb5.block _ bO.lt).trans bO;have hrow5:W5.ownsRow (W1.heap.size+1) 287 3 v pre.length xs:=hrow.kept (zf7 hb5) (by cases v.ownBlock<;>simp);clear c0 c1 c2 c3 s0 t0 t1 t2 t3 t4 t5 t6 t7 bI bS bT hBw;cases ok
  ·have l1:Boxed W5 (w.heap.size+1+1) 199 (.slice none 0 0):=(hB5.block _ (by omega)).trans ((hb3.block _ (by omega)).trans bL1)
   have l2:Boxed W5 (w.heap.size+1+1+1) 3 (.int .i64 0):=(hB5.block _ (by omega)).trans ((hb3.block _ (by omega)).trans bN1);have l3:Boxed W5 (w.heap.size+1+1+1+1) 4 (.bool false):=(hB5.block _ (by omega)).trans ((hb3.block _ (by omega)).trans bF1);have m1:=(l1.alloc (Obj.cells #[.int .i64 a,.int .i64 b,.int .i64 c] 287)).cell;have m2:=(l2.alloc (Obj.cells #[.int .i64 a,.int .i64 b,.int .i64 c] 287)).cell;have m3:=(l3.alloc (Obj.cells #[.int .i64 a,.int .i64 b,.int .i64 c] 287)).cell;have f1:=(l1.alloc (Obj.cells #[.int .i64 a,.int .i64 b,.int .i64 c] 287)).frozen;have f2:=(l2.alloc (Obj.cells #[.int .i64 a,.int .i64 b,.int .i64 c] 287)).frozen;have f3:=(l3.alloc (Obj.cells #[.int .i64 a,.int .i64 b,.int .i64 c] 287)).frozen
   gi_wp2
   refine⟨((((zam.of_below hb5).keeps.trans ((KeepsOthers.alloc _ _).from _)).trans ((KeepsOthers.setCell _ _ _).from _)).trans ((KeepsOthers.setCell _ _ _).from _)).trans ((KeepsOthers.setCell _ _ _).from _),rfl,⟨x,⟨(((l1.alloc _).set _).other (by omega) _).other (by omega) _,(((l2.alloc _).other (by omega) _).set _).other (by omega) _⟩,((((l3.alloc _).other (by omega) _).other (by omega) _).set _)⟩,(((hBw5.alloc hBw5.size _).setCell (by simp;omega) _).setCell (by simp;omega) _).setCell (by simp;omega) _⟩
  ·have bO6:=bO5.alloc (Obj.cells #[.int .i64 a,.int .i64 b,.int .i64 c] 287)
   have hrow6:=hrow5.alloc (Obj.cells #[.int .i64 a,.int .i64 b,.int .i64 c] 287);have hc:=bO6.cell;have x0:=zaa (heap_alloc_new W5 (Obj.cells #[.int .i64 a,.int .i64 b,.int .i64 c] 287)) 0;have x1:=zaa (heap_alloc_new W5 (Obj.cells #[.int .i64 a,.int .i64 b,.int .i64 c] 287)) 1;have x2:=zaa (heap_alloc_new W5 (Obj.cells #[.int .i64 a,.int .i64 b,.int .i64 c] 287)) 2;have hk6:=(zam.of_below (B:=W3.heap.size) hb5).keeps.trans ((KeepsOthers.alloc W5 (Obj.cells #[.int .i64 a,.int .i64 b,.int .i64 c] 287)).from _);have hB6:Below (W1.heap.size+1) W (W5.alloc (Obj.cells #[.int .i64 a,.int .i64 b,.int .i64 c] 287)):=(hb5.mono (by have:=hB.size;omega)).alloc (by have:=hB5.size;omega) _;have hnews:∀ (j:Nat) (u:Value),[Value.int .i64 a,.int .i64 b,.int .i64 c][j]? =some u→((W5.alloc (Obj.cells #[.int .i64 a,.int .i64 b,.int .i64 c] 287)).alloc (Obj.cells #[.int .i64 a,.int .i64 b,.int .i64 c] 287)).cell? ((⟨W5.heap.size+1,0,none⟩:Addr).add j)=some u:=fun j u hj=>by
    rw [za8,Nat.zero_add,World.cell?_alloc_at _ _ _ _ (by simp)];simpa using hj
   gi_wp2_with (gi_at_builtin;refine wpListIn_append_own _ rfl _ _ 199 rfl (W1.heap.size+1) 287 i0 (.agg #[.int .i64 0,.int .i64 0,.int .i64 0]) 3 24 Tryz.underlying199 hi hz0 hz1 hz2 rfl (by decide) _ _ _ rfl (hrow6.alloc _) ⟨W5.heap.size+1,0,none⟩ 1 1 [.int .i64 a,.int .i64 b,.int .i64 c] rfl rfl hnews (by simp [Value.oneCell']) (by unfold maxLen;omega) (by omega) (by have:=hB5.size;simp;omega) ?_;intro v' w1 hown' hgrow _;obtain⟨g',cap',rfl⟩:=ownsRow_succ hown';obtain⟨hv1,hv2,hr2,hk2,hb2⟩:=bO6.appended (by decide) hrow6 (by have:=hB5.size;simp;omega) (Nat.le_refl _) hown' hgrow;have hc1:=hv1.cell;have hf1:=hv1.frozen)
   exact⟨hk6.trans (hk2.from _),(hB6.trans (hb2.mono (by omega))),⟨_,_,hv2,by rw [List.length_append];exact hr2⟩,hB.trans (hB6.trans (hb2.mono (by omega)))⟩
 case done=>
  rintro D xs W hD _ ⟨⟨v,xs,bO,hrow⟩,hB⟩ hK;have hBw:=(hbI.trans (hb3.mono (by omega))).trans (hB.mono (by omega));have hc:=bO.cell;have l1:Boxed W (w.heap.size+1+1) 199 (.slice none 0 0):=(hB.block _ (by omega)).trans ((hb3.block _ (by omega)).trans bL1);have l2:Boxed W (w.heap.size+1+1+1) 3 (.int .i64 0):=(hB.block _ (by omega)).trans ((hb3.block _ (by omega)).trans bN1);have l3:Boxed W (w.heap.size+1+1+1+1) 4 (.bool false):=(hB.block _ (by omega)).trans ((hb3.block _ (by omega)).trans bF1);have m1:=l1.cell;have m2:=l2.cell;have m3:=l3.cell;have f1:=l1.frozen;have f2:=l2.frozen;have f3:=l3.frozen;obtain⟨va,vl,vc,rfl⟩:=zzn hrow;obtain⟨F,hF⟩:∃ F,F=((W.setCell ⟨w.heap.size+1+1,0,none⟩ (.slice va vl vc)).setCell ⟨w.heap.size+1+1+1,0,none⟩ (.int .i64 0)).setCell ⟨w.heap.size+1+1+1+1,0,none⟩ (.bool true):=⟨_,rfl⟩;have k1:Boxed F (w.heap.size+1+1) 199 (.slice va vl vc):=by rw [hF];exact ((l1.set _).other (by omega) _).other (by omega) _
  have k2:Boxed F (w.heap.size+1+1+1) 3 (.int .i64 0):=by rw [hF];exact ((l2.other (by omega) _).set _).other (by omega) _
  have k3:Boxed F (w.heap.size+1+1+1+1) 4 (.bool true):=by rw [hF];exact ((l3.other (by omega) _).other (by omega) _).set _
  have hbF:Below w.heap.size w F:=by rw [hF];exact ((hBw.setCell (by simp;omega) _).setCell (by simp;omega) _).setCell (by simp;omega) _
  have hK8:F.heap[D]? =some (.deferred (some [])):=by
   rw [hF]
   repeat rw [Below.heap_setCell _ _ _ _ (by simp;omega)]
   exact hK
  gi_wp2
  rw [←hF];clear hF;refine⟨by simp,.inl ⟨_,_,rfl,run_takeDeferred hK8,?_⟩⟩;refine⟨.tuple #[.slice va vl vc,.int .i64 0,.bool true],?_,⟨_,_,_,_,_,rfl⟩,hbF.trans (belowK_b (w:=w) (Nat.le_refl _) F D _ _ (by omega) hK8 rfl rfl)⟩;have z1:=(show Boxed (F.putObj D (.deferred none)) (w.heap.size+1+1) 199 (.slice va vl vc) from (World.putObj_heap_other (by omega)).trans k1).cell;have z2:=(show Boxed (F.putObj D (.deferred none)) (w.heap.size+1+1+1) 3 (.int .i64 0) from (World.putObj_heap_other (by omega)).trans k2).cell;have z3:=(show Boxed (F.putObj D (.deferred none)) (w.heap.size+1+1+1+1) 4 (.bool true) from (World.putObj_heap_other (by omega)).trans k3).cell;generalize F.putObj D (.deferred none)=Z at z1 z2 z3 ⊢;simp [results,Tryz.results88,go_sem,z1,z2,z3]
 case stop=>
  rintro D c pre W hD _ ⟨rfl,⟨i,⟨b1,b2⟩,b3⟩,hB⟩ hK
  gi_wp2
  refine⟨by simp,.inl ⟨_,_,rfl,run_takeDeferred hK,?_⟩⟩;refine⟨.tuple #[.slice none 0 0,.int .i64 i,.bool false],?_,⟨_,_,_,_,_,rfl⟩,hB.trans (belowK_b (w:=w) (Nat.le_refl _) W D _ _ (by omega) hK rfl rfl)⟩;have z1:=(show Boxed (W.putObj D (.deferred none)) (w.heap.size+1+1) 199 (.slice none 0 0) from (World.putObj_heap_other (by omega)).trans b1).cell;have z2:=(show Boxed (W.putObj D (.deferred none)) (w.heap.size+1+1+1) 3 (.int .i64 i) from (World.putObj_heap_other (by omega)).trans b2).cell;have z3:=(show Boxed (W.putObj D (.deferred none)) (w.heap.size+1+1+1+1) 4 (.bool false) from (World.putObj_heap_other (by omega)).trans b3).cell;generalize W.putObj D (.deferred none)=Z at z1 z2 z3 ⊢;simp [results,Tryz.results88,go_sem,z1,z2,z3]
end Go.Proofs.YtpbmmoneeoijaaaGreatDoor
