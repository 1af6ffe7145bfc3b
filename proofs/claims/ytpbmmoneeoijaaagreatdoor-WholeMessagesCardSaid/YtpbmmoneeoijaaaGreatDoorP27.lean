/-
  A part of the proof: RespFn BusyFn ShiftFn StageR YieldN.
-/
import Derived.Test.YtpbmmoneeoijaaaGreatDoorP26
namespace Go.Proofs.YtpbmmoneeoijaaaGreatDoor
open Go.RowKit Go.Deep Go.Shelf
attribute [local go_sem] zch
set_option maxRecDepth 100000
theorem zk9 (g:Nat→Nat→Int) (l:List Nat):zcm g l=zc9 (fOf g l) l.length:=by
 have h:l=(List.range l.length).map fun k=>l.getD k 0:=by
  apply List.ext_getElem
  ·simp
  ·intro k h1 h2
   simp [List.getD,List.getElem?_eq_getElem h1]
 unfold zcm zc9 fOf
 conv=>lhs;rw [h]
 rw [List.flatMap_map]
theorem zj5 (s n:Nat):(zol s n).length≤32:=Nat.le_trans (List.length_filter_le _ _) (zea s)
def RowA (w:World) (e:Ending) (w':World):Prop:=(∃ (a b c:Int) (ok:Bool),e=.returned (.tuple #[.agg #[.int .i64 a,.int .i64 b,.int .i64 c],.bool ok]))∧Below w.heap.size w w'
def zd2 (n:Nat) (g:Nat→Nat→Int):Prop:=∀ i,i < n→∃ res,zkk (g i) res
theorem zd2.held {n:Nat} {g:Nat→Nat→Int} (h:zd2 n g):Held n g:=fun i hi j hj=>by
 obtain⟨res,ho⟩:=h i hi;have h1:=ho.l j hj;have:=ho.c2;have:=ho.d2;have:=ho.p2;exact⟨h1.1,by omega⟩
set_option maxHeartbeats 4000000 in
theorem zqj (x:Img) (g:Nat→Nat→Int) (s hold:Nat) (T:Nat→Int) (t:Nat) (w:World) (hs:s < 4294967296) (hh:hold < 4294967296) (hn:x.n≤maxLen) (hT:zck w x.ao x.n g) (hO:zd2 x.n g) (hTab:Tab w):
  Calls Tryz.prog 162 #[iv x,.int .u32 (s:Nat),.int .u32 (hold:Nat),tabV T,.int .i64 (t:Nat)] w (RowA w):=by
 have HBl:=hid fun X (hX:Below w.heap.size w X)=>zn9 x g hold T (t:Nat) X hh (hT.below hX) hO.held (hTab.below hX hTab.pos);have HTe:=hid fun (u:Nat) X (hu:u < 4294967296) (hX:Below w.heap.size w X)=>zp7 x g u X hu hn (hT.below hX) (hTab.below hX hTab.pos);have HT:=hid hT;obtain⟨r,ao,n,cap,mo,mn,mc,eo,en,ec⟩:=x;unfold iv at HBl HTe ⊢;unfold tabV at HBl ⊢;dsimp only at HBl HTe HT hO hn ⊢;clear hT hTab;by_cases htn:t < n
 case neg=>
  have u1:decide ((t:Int) < 0)=false:=by simp
  have u2:decide ((n:Int)≤(t:Int))=true:=by simp;omega
  go_enter Tryz.func162,Tryz.ntmps162;go_wp2;refine bodyPost_ret (v:=.tuple #[.agg #[.int .i64 0,.int .i64 0,.int .i64 0],.bool false]) (by simp [results,Tryz.results162,go_sem]) rfl ?_;exact⟨⟨0,0,0,false,rfl⟩,((((Below.refl _ w).alloc (Nat.le_refl _) _).alloc (by simp) _).alloc (by simp;omega) _)⟩
 have u1:decide ((t:Int) < 0)=false:=by simp
 have u2:decide ((n:Int)≤(t:Int))=false:=by simp;omega
 obtain⟨tb,tf,rfl,_⟩:=HT.out t htn;have j0:(0:Int)≤(t:Int):=by omega
 have j1:(t:Int) < (n:Int):=by omega
 obtain⟨res,hok⟩:=hO t htn;have hc1:=hok.c1;have hc2:g t 2≤4096:=by have:=hok.c2;have:=hok.d2;have:=hok.p2;omega
 clear hok hO;go_enter Tryz.func162,Tryz.ntmps162
 go_upto_region 3 with fail
 obtain⟨W0,hW0⟩:∃ X,X=((w.alloc (Obj.cells #[.int .i64 r,.slice (some ⟨tb,tf,none⟩) n cap,.slice mo mn mc,.slice eo en ec] 26)).alloc (Obj.cells #[.int .i64 (T 0),.int .i64 (T 1),.int .i64 (T 2),.int .i64 (T 3),.int .i64 (T 4),.int .i64 (T 5),.int .i64 (T 6),.int .i64 (T 7)] 247)).alloc (Obj.cells #[.int .i64 0,.int .i64 0,.int .i64 0] 287):=⟨_,rfl⟩;have hb0:Below w.heap.size w W0:=by rw [hW0];exact ((((Below.refl _ w).alloc (Nat.le_refl _) _).alloc (by simp) _).alloc (by simp;omega) _)
 have bI:W0.heap[w.heap.size]? =some (Obj.cells #[.int .i64 r,.slice (some ⟨tb,tf,none⟩) n cap,.slice mo mn mc,.slice eo en ec] 26):=by rw [hW0];exact zac (zac (heap_alloc_new w _) _) _
 have bT:W0.heap[w.heap.size+1]? =some (Obj.cells #[.int .i64 (T 0),.int .i64 (T 1),.int .i64 (T 2),.int .i64 (T 3),.int .i64 (T 4),.int .i64 (T 5),.int .i64 (T 6),.int .i64 (T 7)] 247):=by
  rw [hW0];refine zac ?_ _;have:=heap_alloc_new (w.alloc (Obj.cells #[.int .i64 r,.slice (some ⟨tb,tf,none⟩) n cap,.slice mo mn mc,.slice eo en ec] 26)) (Obj.cells #[.int .i64 (T 0),.int .i64 (T 1),.int .i64 (T 2),.int .i64 (T 3),.int .i64 (T 4),.int .i64 (T 5),.int .i64 (T 6),.int .i64 (T 7)] 247)
  rwa [World.size_alloc] at this
 have bR:W0.heap[w.heap.size+1+1]? =some (Obj.cells #[.int .i64 0,.int .i64 0,.int .i64 0] 287):=by
  rw [hW0];have:=heap_alloc_new ((w.alloc (Obj.cells #[.int .i64 r,.slice (some ⟨tb,tf,none⟩) n cap,.slice mo mn mc,.slice eo en ec] 26)).alloc (Obj.cells #[.int .i64 (T 0),.int .i64 (T 1),.int .i64 (T 2),.int .i64 (T 3),.int .i64 (T 4),.int .i64 (T 5),.int .i64 (T 6),.int .i64 (T 7)] 247)) (Obj.cells #[.int .i64 0,.int .i64 0,.int .i64 0] 287)
  rwa [World.size_alloc,World.size_alloc] at this
 rw [←hW0];clear hW0;obtain⟨⟨p0,p1,p2,p3⟩,⟨p4,p5,p6,p7⟩,p8,p9,p10⟩:=(HT.out.below hb0).at_ htn;have hb1:=hb0.alloc hb0.size (Obj.cells #[.int .i64 (g t 0),.int .i64 (g t 1),.int .i64 (g t 2),.int .i64 (g t 3),.int .i64 (g t 4),.int .i64 (g t 5),.int .i64 (g t 6),.int .i64 (g t 7),.int .i64 (g t 8),.int .i64 (g t 9),.int .i64 (g t 10)] 165);have bI1:=zac bI (Obj.cells #[.int .i64 (g t 0),.int .i64 (g t 1),.int .i64 (g t 2),.int .i64 (g t 3),.int .i64 (g t 4),.int .i64 (g t 5),.int .i64 (g t 6),.int .i64 (g t 7),.int .i64 (g t 8),.int .i64 (g t 9),.int .i64 (g t 10)] 165);have bT1:=zac bT (Obj.cells #[.int .i64 (g t 0),.int .i64 (g t 1),.int .i64 (g t 2),.int .i64 (g t 3),.int .i64 (g t 4),.int .i64 (g t 5),.int .i64 (g t 6),.int .i64 (g t 7),.int .i64 (g t 8),.int .i64 (g t 9),.int .i64 (g t 10)] 165);have bR1:=zac bR (Obj.cells #[.int .i64 (g t 0),.int .i64 (g t 1),.int .i64 (g t 2),.int .i64 (g t 3),.int .i64 (g t 4),.int .i64 (g t 5),.int .i64 (g t 6),.int .i64 (g t 7),.int .i64 (g t 8),.int .i64 (g t 9),.int .i64 (g t 10)] 165);have bK1:=heap_alloc_new W0 (Obj.cells #[.int .i64 (g t 0),.int .i64 (g t 1),.int .i64 (g t 2),.int .i64 (g t 3),.int .i64 (g t 4),.int .i64 (g t 5),.int .i64 (g t 6),.int .i64 (g t 7),.int .i64 (g t 8),.int .i64 (g t 9),.int .i64 (g t 10)] 165);have c1:=zaa bI 1
 go_upto_region 4 with fail
 obtain⟨W1,hW1⟩:∃ X,X=W0.alloc (Obj.cells #[.int .i64 (g t 0),.int .i64 (g t 1),.int .i64 (g t 2),.int .i64 (g t 3),.int .i64 (g t 4),.int .i64 (g t 5),.int .i64 (g t 6),.int .i64 (g t 7),.int .i64 (g t 8),.int .i64 (g t 9),.int .i64 (g t 10)] 165):=⟨_,rfl⟩;rw [←hW1] at hb1 bI1 bT1 bR1 bK1 ⊢;clear hW1 p0 p1 p2 p3 p4 p5 p6 p7 p8 p9 p10 c1;have c0:=zaa bI1 0;have c1:=zaa bI1 1;have c2:=zaa bI1 2;have c3:=zaa bI1 3;have t0:=zaa bT1 0;have t1:=zaa bT1 1;have t2:=zaa bT1 2;have t3:=zaa bT1 3;have t4:=zaa bT1 4;have t5:=zaa bT1 5;have t6:=zaa bT1 6;have t7:=zaa bT1 7;have HB1:=hid hb1;have HKI:=hid bI1;have HKR:=hid bR1;have HKK:=hid bK1;clear hb0 hb1 bI bT bR bI1 bT1 bR1 bK1
 go_upto_region 5 with (go_at_call 223;refine (HBl.out _ HB1.out).mono ?_;rintro e W2 ⟨⟨bl,rfl,hbl0,hbl1⟩,hb2⟩)
 clear c0 c1 c2 c3 t0 t1 t2 t3 t4 t5 t6 t7;have ROWO2:=(Below.refl W2.heap.size W2).alloc (Nat.le_refl _) (Obj.cells #[.int .i64 (t:Nat),.int .i64 bl,.int .i64 0] 287);have bI3:=zac (qBa hb2 HKI.out) (Obj.cells #[.int .i64 (t:Nat),.int .i64 bl,.int .i64 0] 287);have bR3:=zac (qBa hb2 HKR.out) (Obj.cells #[.int .i64 (t:Nat),.int .i64 bl,.int .i64 0] 287);have bK3:=zac (qBa hb2 HKK.out) (Obj.cells #[.int .i64 (t:Nat),.int .i64 bl,.int .i64 0] 287);have bN3:=heap_alloc_new W2 (Obj.cells #[.int .i64 (t:Nat),.int .i64 bl,.int .i64 0] 287);have hb3:=(HB1.out.trans (hb2.mono HB1.out.size)).trans (ROWO2.mono (Nat.le_trans HB1.out.size hb2.size));obtain⟨N2,hN2⟩:∃ N,W2.heap.size=N:=⟨_,rfl⟩;obtain⟨W3,hW3⟩:∃ X,X=W2.alloc (Obj.cells #[.int .i64 (t:Nat),.int .i64 bl,.int .i64 0] 287):=⟨_,rfl⟩;have HS2:=hid (show w.heap.size+2 < W2.heap.size by have:=(Array.getElem?_eq_some_iff.1 HKR.out).1;have:=hb2.size;omega);rw [←hW3] at bI3 bR3 bK3 bN3 hb3 ⊢;clear hW3 ROWO2 hb2 HKI HKR HKK;rw [hN2] at bN3 HS2 ⊢;clear hN2;have c0:=zaa bI3 0;have c1:=zaa bI3 1;have c2:=zaa bI3 2;have c3:=zaa bI3 3;have d1:=zaa bK3 1;have d2:=zaa bK3 2;have n1:=zaa bN3 1;have hwr:IntKind.i64.wrap (g t 2+bl)=g t 2+bl:=IntWalk.i64_in _ (by omega);have HB3:=hid hb3;have HKR:=hid bR3;have HKN:=hid bN3;clear hb3 bR3 bN3 bI3 bK3;refine zah [10,11,12,13,14,15,16,17] (fun X=>Below W3.heap.size W3 X) (by kernel_rfl) (by kernel_rfl) (by exact⟨rfl,rfl,rfl,Nat.le_refl _,fun _ _=>rfl⟩) ?_;refine qFs fun K hK=>?_;go_simp;refine⟨_,fun _ _=>rfl,hK _ ?_⟩;clear hK K;refine qFs fun K hK=>?_;go_simp;refine⟨.int .i64 (g t 2),fun X hX=>?_,hK _ ?_⟩
 ·have z0:=kept d2 hX
  go_simp
 clear hK K;refine qFs fun K hK=>?_;go_simp;refine⟨_,fun _ _=>rfl,hK _ ?_⟩;clear hK K;refine qFs fun K hK=>?_;go_simp;refine⟨.int .i64 bl,fun X hX=>?_,hK _ ?_⟩
 ·have z0:=kept n1 hX
  go_simp
 clear hK K;refine qFs fun K hK=>?_;go_simp;refine⟨_,fun _ _=>rfl,hK _ ?_⟩;clear hK K;refine qFs fun K hK=>?_;go_simp;refine⟨_,fun _ _=>rfl,hK _ ?_⟩;clear hK K;refine qFs fun K hK=>?_;go_simp;refine⟨.int .i64 (g t 1),fun X hX=>?_,hK _ ?_⟩
 ·have z0:=kept d1 hX
  go_simp
 clear hK K;refine qFs fun K hK=>?_;go_simp;refine⟨.agg #[.int .i64 r,.slice (some ⟨tb,tf,none⟩) n cap,.slice mo mn mc,.slice eo en ec],fun X hX=>?_,hK _ ?_⟩
 ·have z0:=kept c0 hX
  have z1:=kept c1 hX;have z2:=kept c2 hX;have z3:=kept c3 hX;go_simp
 clear hK K;refine qFs fun K hK=>?_;go_simp;refine⟨_,fun _ _=>rfl,hK _ ?_⟩;clear hK K;refine qFs fun K hK=>?_;go_simp;refine⟨_,fun _ _=>rfl,hK _ ?_⟩;clear hK K;refine qFc ?_;refine qFc ?_;refine qFc ?_;refine qFc ?_;refine qFc ?_;refine qFc ?_;refine qFc ?_;refine qFc ?_;refine zau ?_;have HW:=hid (show Below W3.heap.size W3 W3.drew from ⟨rfl,rfl,rfl,Nat.le_refl _,fun _ _=>rfl⟩);clear c0 c1 c2 c3 d1 d2 n1;refine qT1 10 [11,12,13,14,15,16,17] fun K hK=>?_
 go_wp2_with fail
 refine (zmr s hs (t:Nat) _).mono ?_;rintro e w4 ⟨u,rfl,hu,rfl⟩
 go_wp2_with fail
 refine hK _ _ HW.out ?_;clear hK K;refine qT1 11 [12,13,14,15,16,17] fun K hK=>?_
 go_wp2_with fail
 refine (HTe.out u _ (by omega) (HB3.out.trans (HW.out.mono HB3.out.size))).mono ?_;rintro e w5 ⟨v,rfl,hown,hb5⟩;have B5:=HW.out.trans (hb5.mono HW.out.size);have hlen:=zj5 u n;rw [zk9] at hown;obtain⟨qo,qc,rfl,hTm⟩:=zet hown;have HLw:=hid (zgq qo (zol u n).length qc (fOf g (zol u n)) (g t 2+bl) (g t 1) w5 (by omega) hTm (by omega));clear hown hTm hlen
 go_wp2_with fail
 refine hK _ _ B5 ?_;clear hK K;refine qT1 12 [13,14,15,16,17] fun K hK=>?_;obtain⟨⟨lr,lok⟩,hlr⟩:∃ y,znr (g t 2+bl) (g t 1) (fOf g (zol u n)) (zol u n).length=y:=⟨_,rfl⟩;rw [hlr] at HLw;clear hlr;unfold rv at HLw
 go_wp2_with fail
 refine HLw.out.mono ?_;rintro e w6 ⟨rfl,hb6⟩;have B6:=B5.trans (hb6.mono B5.size);clear HLw
 go_wp2_with fail
 refine hK _ _ B6 ?_;clear hK K;refine qT1 13 [14,15,16,17] fun K hK=>?_
 go_wp2_with fail
 refine hK _ _ B6 ?_;clear hK K;refine zb0 (i:=14) (j:=15) (rem1:=[15,16,17]) (rem2:=[14,16,17]) (by kernel_rfl) (by rfl) (by rfl) (by rfl) (by rfl) (fun K hK=>?_) (fun K hK=>?_)
 ·go_wp2_with fail
  refine hK _ _ B6 ?_;clear hK K;refine zb0 (i:=15) (j:=16) (rem1:=[16,17]) (rem2:=[15,17]) (by kernel_rfl) (by rfl) (by rfl) (by rfl) (by rfl) (fun K hK=>?_) (fun K hK=>?_)
  ·go_wp2_with fail
   refine hK _ _ B6 ?_;clear hK K;refine qT1 16 [17] fun K hK=>?_
   go_wp2_with fail
   refine hK _ _ B6 ?_;clear hK K;refine qT1 17 [] fun K hK=>?_
   go_wp2_with fail
   refine hK _ _ B6 ?_;clear hK K;refine zan ?_;have bN6:=qBa B6 HKN.out;have bR6:=qBa B6 HKR.out;have n0:=zaa bN6 0;have n1:=zaa bN6 1;have n2:=zaa bN6 2;have f2:=zab bN6 2;have r0:=zaa bR6 0;have r1:=zaa bR6 1;have r2:=zaa bR6 2;have g0:=zab bR6 0;have g1:=zab bR6 1;have g2:=zab bR6 2;have hne:N2≠w.heap.size+1+1:=by have:=HS2.out;omega
   have hne2:w.heap.size+1+1≠N2:=by have:=HS2.out;omega
   have hBF:=HB3.out.trans (B6.mono HB3.out.size);have hFin:∀ a b c d:Value,Below w.heap.size w ((((w6.setCell ⟨N2,2,none⟩ a).setCell ⟨w.heap.size+1+1,0,none⟩ b).setCell ⟨w.heap.size+1+1,1,none⟩ c).setCell ⟨w.heap.size+1+1,2,none⟩ d):=fun a b c d=>
    (((hBF.setCell (by have:=HS2.out;simp;omega) _).setCell (by simp;omega) _).setCell (by simp;omega) _).setCell (by simp;omega) _
   go_wp2;refine bodyPost_ret (v:=.tuple #[.agg #[.int .i64 (t:Nat),.int .i64 bl,.int .i64 lr],.bool lok]) (by simp [results,Tryz.results162,go_sem,r0,r1,r2]) rfl ?_;exact⟨⟨_,_,_,_,rfl⟩,hFin _ _ _ _⟩
  ·go_wp2_with fail
   refine hK _ _ B6 ?_;clear hK K;refine qT1 15 [17] fun K hK=>?_
   go_wp2_with fail
   refine hK _ _ B6 ?_;clear hK K;refine qT1 17 [] fun K hK=>?_
   go_wp2_with fail
   refine hK _ _ B6 ?_;clear hK K;refine zan ?_;have bN6:=qBa B6 HKN.out;have bR6:=qBa B6 HKR.out;have n0:=zaa bN6 0;have n1:=zaa bN6 1;have n2:=zaa bN6 2;have f2:=zab bN6 2;have r0:=zaa bR6 0;have r1:=zaa bR6 1;have r2:=zaa bR6 2;have g0:=zab bR6 0;have g1:=zab bR6 1;have g2:=zab bR6 2;have hne:N2≠w.heap.size+1+1:=by have:=HS2.out;omega
   have hne2:w.heap.size+1+1≠N2:=by have:=HS2.out;omega
   have hBF:=HB3.out.trans (B6.mono HB3.out.size);have hFin:∀ a b c d:Value,Below w.heap.size w ((((w6.setCell ⟨N2,2,none⟩ a).setCell ⟨w.heap.size+1+1,0,none⟩ b).setCell ⟨w.heap.size+1+1,1,none⟩ c).setCell ⟨w.heap.size+1+1,2,none⟩ d):=fun a b c d=>
    (((hBF.setCell (by have:=HS2.out;simp;omega) _).setCell (by simp;omega) _).setCell (by simp;omega) _).setCell (by simp;omega) _
   go_wp2;refine bodyPost_ret (v:=.tuple #[.agg #[.int .i64 (t:Nat),.int .i64 bl,.int .i64 lr],.bool lok]) (by simp [results,Tryz.results162,go_sem,r0,r1,r2]) rfl ?_;exact⟨⟨_,_,_,_,rfl⟩,hFin _ _ _ _⟩
 ·go_wp2_with fail
  refine hK _ _ B6 ?_;clear hK K;refine qT1 14 [16,17] fun K hK=>?_
  go_wp2_with fail
  refine hK _ _ B6 ?_;clear hK K;refine qT1 16 [17] fun K hK=>?_
  go_wp2_with fail
  refine hK _ _ B6 ?_;clear hK K;refine qT1 17 [] fun K hK=>?_
  go_wp2_with fail
  refine hK _ _ B6 ?_;clear hK K;refine zan ?_;have bN6:=qBa B6 HKN.out;have bR6:=qBa B6 HKR.out;have n0:=zaa bN6 0;have n1:=zaa bN6 1;have n2:=zaa bN6 2;have f2:=zab bN6 2;have r0:=zaa bR6 0;have r1:=zaa bR6 1;have r2:=zaa bR6 2;have g0:=zab bR6 0;have g1:=zab bR6 1;have g2:=zab bR6 2;have hne:N2≠w.heap.size+1+1:=by have:=HS2.out;omega
  have hne2:w.heap.size+1+1≠N2:=by have:=HS2.out;omega
  have hBF:=HB3.out.trans (B6.mono HB3.out.size);have hFin:∀ a b c d:Value,Below w.heap.size w ((((w6.setCell ⟨N2,2,none⟩ a).setCell ⟨w.heap.size+1+1,0,none⟩ b).setCell ⟨w.heap.size+1+1,1,none⟩ c).setCell ⟨w.heap.size+1+1,2,none⟩ d):=fun a b c d=>
   (((hBF.setCell (by have:=HS2.out;simp;omega) _).setCell (by simp;omega) _).setCell (by simp;omega) _).setCell (by simp;omega) _
  go_wp2;refine bodyPost_ret (v:=.tuple #[.agg #[.int .i64 (t:Nat),.int .i64 bl,.int .i64 lr],.bool lok]) (by simp [results,Tryz.results162,go_sem,r0,r1,r2]) rfl ?_;exact⟨⟨_,_,_,_,rfl⟩,hFin _ _ _ _⟩
end Go.Proofs.YtpbmmoneeoijaaaGreatDoor
namespace Go.Proofs.YtpbmmoneeoijaaaGreatDoor
open Go.RowKit Go.Deep Go.Shelf
set_option maxRecDepth 100000
def NumA (w:World) (e:Ending) (w':World):Prop:=(∃ (i:Int) (ok:Bool),e=.returned (.tuple #[.int .i64 i,.bool ok]))∧Below w.heap.size w w'
def zkj (f:Nat→TT) (k:Nat) (i:Nat):TT:=if i=k then { f i with k:=(f i).c } else f i
theorem zro (f:Nat→TT) (m k:Nat) (hk:k < m):(zc9 f m).set (k * 4+3) (.int .i64 (f k).c)=zc9 (zkj f k) m:=by
 apply List.ext_getElem?;intro j;by_cases hj:j < m * 4
 ·have hq:j=j / 4 * 4+j % 4:=by omega
  obtain⟨q,hq4⟩:∃ q,q=j / 4:=⟨_,rfl⟩;obtain⟨r,hr4⟩:∃ r,r=j % 4:=⟨_,rfl⟩;have hr:r < 4:=by omega
  have hqm:q < m:=by omega
  rw [←hq4,←hr4] at hq;clear hq4 hr4;subst hq;rw [zg0 (zkj f k) hqm hr];by_cases he:k * 4+3=q * 4+r
  ·obtain rfl:q=k:=by omega
   obtain rfl:r=3:=by omega
   rw [List.getElem?_set_self (by rw [zce];omega)];simp [zkj]
  ·rw [List.getElem?_set_ne he,zg0 f hqm hr]
   by_cases hqk:q=k
   ·subst hqk
    have:r < 3:=by omega
    match r,this with
    |0,_=>simp [zkj]
    |1,_=>simp [zkj]
    |2,_=>simp [zkj]
   ·simp [zkj,hqk]
 ·rw [List.getElem?_eq_none (by rw [List.length_set,zce];omega),List.getElem?_eq_none (by rw [zce];omega)]
theorem zzw {w:World} {base:Nat} {e:TypeId} {v:Value} {n:Nat} {xs:List Value} (h:w.ownsRow base e 4 v n xs) (hn:0 < n):
  ∃ g cap,v=.slice (some ⟨g,0,none⟩) n cap∧base≤g∧g < w.heap.size:=by
 rcases h.2 with ⟨_,h2⟩|⟨g,cap,cur,rfl,hb,hh,hc,_⟩
 ·omega
 ·exact⟨g,cap,rfl,hb,(h.lt g rfl).2⟩
set_option maxHeartbeats 4000000 in
theorem zBe (x:Img) (g:Nat→Nat→Int) (s:Nat) (w:World) (hs:s < 4294967296) (hn:x.n≤maxLen) (hT:zck w x.ao x.n g) (hTab:Tab w):
  Calls Tryz.prog 164 #[iv x,.int .u32 (s:Nat)] w (NumA w):=by
 have HTe:=hid fun X (hX:Below w.heap.size w X)=>zp7 x g s X hs hn (hT.below hX) (hTab.below hX hTab.pos);obtain⟨r,ao,n,cap,mo,mn,mc,eo,en,ec⟩:=x;unfold iv at HTe ⊢;dsimp only at HTe ⊢;clear hT hTab;have hB0:Below w.heap.size w (w.alloc (Obj.cells #[.int .i64 r,.slice ao n cap,.slice mo mn mc,.slice eo en ec] 26)):=(Below.refl _ w).alloc (Nat.le_refl _) _;have hlen:=zj5 s n;obtain⟨m,hm⟩:∃ m,m=(zol s n).length:=⟨_,rfl⟩;obtain⟨f0,hf⟩:∃ f,f=fOf g (zol s n):=⟨_,rfl⟩;obtain⟨B,hBe⟩:∃ B,B=w.heap.size+1+1:=⟨_,rfl⟩;have HLe:Hid (w.heap.size≤B):=hid (by omega);rw [←hm] at hlen;have HTf:Hid (∀ X,Below w.heap.size w X→X.heap.size=w.heap.size+1→Calls Tryz.prog 225 #[.agg #[.int .i64 r,.slice ao n cap,.slice mo mn mc,.slice eo en ec],.int .u32 (s:Nat)] X fun e W'=>∃ a l c,e=.returned (.slice a l c)∧l=m∧W'.ownsRow B 361 4 (.slice a m c) m (zc9 f0 m)∧Below X.heap.size X W'):=hid fun X hX hXs=>(HTe.out X hX).mono fun e W' ⟨v,he,hown,hb⟩=>by
  rw [zk9,←hm,←hf,hXs,←hBe] at hown;obtain⟨a,c,rfl,_⟩:=zet hown;exact⟨a,m,c,he,rfl,hown,hb⟩
 clear hm hf HTe hBe;go_enter Tryz.func164,Tryz.ntmps164
 go_wp2_with (go_at_call 225;refine (HTf.out _ hB0 (by simp)).mono ?_;rintro e W1 ⟨ta,l,tc,rfl,rfl,hown,hb1⟩)
 have hB1:=hB0.trans (hb1.mono hB0.size);clear hb1 hB0 HTf
 go_loopw [13] (fun i wr=>∃ k:Nat,i=.int .i64 k∧k≤l∧(∃ f:Nat→TT,wr.ownsRow B 361 4 (.slice ta l tc) l (zc9 f l))∧Below w.heap.size w wr) (fun i _=>l - (intOf i).toNat)
 case atStart=>exact⟨0,rfl,by omega,⟨f0,hown⟩,hB1⟩
 case round=>
  clear hown hB1;obtain⟨k,rfl,hk,⟨f,hown⟩,hB⟩:=hrel;by_cases hlt:k < l
  ·obtain⟨g4,cap4,he,hg1,hg2⟩:=zzw hown (by omega)
   injection he with he1 _ he3
   subst he1 he3;have t0:decide ((k:Int) < (l:Int))=true:=by simp;omega
   have hc1:=(hown.cellAt (k * 4+1) (by omega)).trans (zg0 f hlt (by decide:1 < 4));have hc3:=(hown.cellAt (k * 4+3) (by omega)).trans (zg0 f hlt (by decide:3 < 4));have hf3:=hown.frozenAt (k * 4+3);simp only [List.getElem?_cons_succ,List.getElem?_cons_zero] at hc1 hc3;have HST:=hid (hown.stored (k * 4+3) (.int .i64 (f k).c));clear hown;go_wp2;go_roundw
   case rel=>
    refine⟨k+1,by go_num,hlt,⟨zkj f k,by rw [←zro f l k hlt];exact HST.out.1⟩,hB.setCell (by have:=HLe.out;show w.heap.size≤g4;omega) _⟩
   case measure=>simp [intOf];omega
  ·obtain rfl:k=l:=by omega
   obtain⟨qo,qc,he,hTm⟩:=zet hown;injection he with he1 _ he3
   subst he1 he3;have HLw:=hid (zgq ta k tc f 0 65536 wr (by omega) hTm (by omega));obtain⟨⟨lr,lok⟩,hlr⟩:∃ y,znr 0 65536 f k=y:=⟨_,rfl⟩;rw [hlr] at HLw;clear hlr hown hTm;unfold rv at HLw;have t0:decide ((k:Int) < (k:Int))=false:=by simp
   go_wp2_with (go_at_call 224;refine HLw.out.mono ?_;rintro e W2 ⟨rfl,hb2⟩)
   go_ret2;exact⟨⟨lr,lok,rfl⟩,hB.trans (hb2.mono hB.size)⟩
structure ShR where
 x:Img
 o:Nat
 n:Nat
 s:Nat
 T:Nat→Int
 O:Nat→Int
def shL (z:ShR):List Value:=[.int .i64 z.x.r,.slice z.x.ao z.x.n z.x.cap,.slice z.x.mo z.x.mn z.x.mc,.slice z.x.eo z.x.en z.x.ec,.int .u32 (z.o:Nat),.int .u32 (z.n:Nat),.int .u32 (z.s:Nat),
 .int .i64 (z.T 0),.int .i64 (z.T 1),.int .i64 (z.T 2),.int .i64 (z.T 3),.int .i64 (z.T 4),.int .i64 (z.T 5),.int .i64 (z.T 6),.int .i64 (z.T 7),
 .int .i64 (z.O 0),.int .i64 (z.O 1),.int .i64 (z.O 2),.int .i64 (z.O 3),.int .i64 (z.O 4),.int .i64 (z.O 5),.int .i64 (z.O 6),.int .i64 (z.O 7),
 .int .i64 (z.O 8),.int .i64 (z.O 9),.int .i64 (z.O 10),.int .i64 (z.O 11),.int .i64 (z.O 12),.int .i64 (z.O 13),.int .i64 (z.O 14),.int .i64 (z.O 15)]
def shV (z:ShR):Value:=.agg (shL z).toArray
theorem shL_off (z:ShR) (t:Nat) (ht:t < 16):(shL z)[15+t]? =some (.int .i64 (z.O t)):=by
 rcases t with _|_|_|_|_|_|_|_|_|_|_|_|_|_|_|_|t
 all_goals first|rfl|omega
def offN (z:ShR) (t:Nat):Int:=if hasN z.n t then z.O t else 0
set_option maxHeartbeats 4000000 in
theorem zhb (z:ShR) (t:Nat) (w:World) (hn:z.n < 4294967296) (ht:t < 16):
  Calls Tryz.prog 229 #[shV z,.int .i64 (t:Nat)] w fun e w'=>e=.returned (.int .i64 (offN z t))∧Below w.heap.size w w':=by
 have HH:=hid fun X=>zfx z.n hn (t:Nat) X;have hb:=(Below.refl w.heap.size w).alloc (Nat.le_refl _) (Obj.cells (shL z).toArray 296);have hO:(w.alloc (Obj.cells (shL z).toArray 296)).cell? ⟨w.heap.size,15+t,none⟩=some (.int .i64 (z.O t)):=by
  rw [World.cell?_alloc_at _ _ _ _ rfl];simpa using shL_off z t ht
 have h5:(w.alloc (Obj.cells (shL z).toArray 296)).cell? ⟨w.heap.size,5,none⟩=some (.int .u32 (z.n:Nat)):=by
  rw [World.cell?_alloc_at _ _ _ _ rfl];rfl
 have j0:(0:Int)≤(t:Int):=by omega
 have j1:(t:Int) < 16:=by omega
 obtain⟨b,hb2⟩:∃ b,hasN z.n (t:Nat)=b:=⟨_,rfl⟩;rw [hb2] at HH;have hoff:offN z t=if b then z.O t else 0:=by unfold offN;rw [hb2]
 rw [hoff];clear hoff hb2;unfold shV;unfold shL at *;cases b
 ·go_enter Tryz.func229,Tryz.ntmps229
  go_wp2_with (go_at_call 189;refine (HH.out _).mono ?_;rintro e w2 ⟨rfl,rfl⟩)
  go_ret;exact⟨rfl,hb⟩
 ·go_enter Tryz.func229,Tryz.ntmps229
  go_wp2_with (go_at_call 189;refine (HH.out _).mono ?_;rintro e w2 ⟨rfl,rfl⟩)
  go_ret;exact⟨rfl,hb⟩
end Go.Proofs.YtpbmmoneeoijaaaGreatDoor
namespace Go.Proofs.YtpbmmoneeoijaaaGreatDoor
open Go.RowKit
theorem zhp {n:Nat} {P:Program} {md:Region.Mode} {ops:Array Oper} {Q':Exit→Act→World→Prop}:∀ (l:List Oper) (k:Nat) (listed:Array Bool) (a:Act) (w:World),(∀ j,l[j]? =ops[k+j]?)→
  Region.seqB md ops l.length k listed=true→wpListIn Fence.wide n P ops Q' l a w→wpAnyIn Fence.wide n P md ops Q' l.length listed a w
 | [],_,_,_,_,_,hB,h=>⟨by simpa [Region.seqB] using hB,h⟩
 |o :: l,k,listed,a,w,hl,hB,h=>by
  have hk:ops[k]? =some o:=by simpa using (hl 0).symm
  simp only [List.length_cons,Region.seqB,Bool.and_eq_true,decide_eq_true_eq] at hB;refine⟨fun h1=>(by rw [hB.1] at h1;cases h1),fun i hi=>?_⟩;rw [hB.1] at hi;obtain rfl:i=k:=by simpa using hi
  have hw:wpOpIn Fence.wide n P ops Q' i (wpListIn Fence.wide n P ops Q' l) a w:=by unfold wpOpIn;simp only [hk];exact h
  exact wpOpIn_mono (fun a' w' h'=>zhp l (i+1) _ a' w' (fun j=>by have:=hl (j+1);simpa [Nat.add_assoc,Nat.add_comm 1 j] using this) hB.2 h') hw
section
variable {P:Program} {ops:Array Oper}
theorem zid {n N:Nat} (lx:znc ops N) (ef:zCg ops N) (hs:N=ops.size∨Region.sinkB .any ops N=true∧Region.chainB .any ops N=true) (hq:Region.seqB .any ops (ops.size - N) N (zeg ops.size N)=true)
  {C:Nat→World→Prop} {Q':Exit→Act→World→Prop} {a0:Act} {V:Nat→Value} (hstep:∀ j o,j < N→ops[j]? =some o→zry P ops C a0 V j o)
  (hfin:∀ w,C (cnt (zcr ops) N) w→wpListIn Fence.wide n P ops Q' (ops.toList.drop N) (FF ops V (fun _=>true) a0 N) w):
  ∀ (u:Nat) (listed:Array Bool) (w:World),left listed N=u→HeadInv .any ops N listed→C (stg ops N listed) w→wpAnyIn Fence.wide n P .any ops Q' (u+(ops.size - N)) listed (FF ops V (fun j=>listed.getD j false) a0 N) w
 |0,listed,w,hu,inv,hC=>by
  have hall:=zgn hu;have hle:=lx.le;have hpref:listed=zeg ops.size N:=by
   apply Array.ext (by simp [zeg,inv.size]);intro j h1 h2;have hj:j < ops.size:=by rw [←inv.size];exact h1
   have e2:(zeg ops.size N)[j]=decide (j < N):=by simp [zeg]
   rw [e2];by_cases hjN:j < N
   ·have:=hall j hjN
    simp [h1] at this;rw [this];simp [hjN]
   ·have:=inv.tail j (by omega) hj
    simp [h1] at this;rw [this];simp [hjN]
  have hst:stg ops N listed=cnt (zcr ops) N:=zfm N fun j hj=>by simp only [hall j hj,Bool.and_true]
  have hf:FF ops V (fun j=>listed.getD j false) a0 N=FF ops V (fun _=>true) a0 N:=zcf V a0 N fun j hj=>hall j hj;rw [hf,Nat.zero_add];have hlen:(ops.toList.drop N).length=ops.size - N:=by simp
  have:=zhp (n:=n) (P:=P) (md:=.any) (ops:=ops) (Q':=Q') (ops.toList.drop N) N listed (FF ops V (fun _=>true) a0 N) w (fun j=>by simp) (by rw [hlen,hpref];exact hq) (hfin w (hst▸hC));rw [hlen] at this;exact this
 |u+1,listed,w,hu,inv,hC=>by
  have hle:=lx.le;have hsel:∀ (j:Nat) (o:Oper) (cs:Array SelectCase) (b:Bool),ops[j]? =some o→o.op≠.select cs b:=fun j o cs b h=>Region.noSelect_spec lx.sel j o cs b h;obtain⟨r,hrN,hrl,hrb⟩:=zix (listed:=listed) (m:=N) (by omega);have hrr:r∈Region.ready .any ops listed:=by
   have hro:ops[r]? =some ops[r]:=Array.getElem?_eq_getElem (by omega);refine mem_ready.2 ⟨getD_in (by rw [inv.size];omega) hrl,_,hro,fun e he hb=>hrb _ (lx.back r _ hrN hro e he hb)⟩
  rw [show u+1+(ops.size - N)=(u+(ops.size - N))+1 by omega];refine⟨fun h0=>(by rw [h0] at hrr;cases hrr),fun i hi=>?_⟩;have hiN:i < N:=by
   rcases hs with hs|⟨hs,hc⟩
   ·obtain⟨_,o,ho,_⟩:=mem_ready.1 hi
    have:=(Array.getElem?_eq_some_iff.1 ho).1;omega
   ·rcases Nat.lt_or_ge i N with h|h
    ·exact h
    ·by_cases hNs:N < ops.size
     ·exact absurd hi (tail_waits hs hc hNs inv _ r rfl hrN (getD_in (by rw [inv.size];omega) hrl) i h)
     ·obtain⟨_,o,ho,_⟩:=mem_ready.1 hi
      have:=(Array.getElem?_eq_some_iff.1 ho).1;omega
  obtain⟨hun,o,ho,_⟩:=mem_ready.1 hi;have his:i < listed.size:=by rw [inv.size];omega
  have hleft:left (listed.setIfInBounds i true) N=u:=by
   have:left listed N=left (listed.setIfInBounds i true) N+1:=by
    refine zme _ _ i N hiN ?_ ?_ fun j hj=>?_
    ·simp only [zav his,decide_true,Bool.true_or,Bool.not_true]
    ·simp only [getD_both hun,Bool.not_false]
    ·simp only [zav his,hj,decide_false,Bool.false_or]
   omega
  have hinv':=inv.set hi hiN;have hagree:∀ t,t∈o.looksAt ops→(FF ops V (fun j=>listed.getD j false) a0 N).tmps[t]? =(FF ops V (fun _=>true) a0 i).tmps[t]?:=fun t ht=>by
   rw [←zCe V a0 i N (by omega),zcv,zcv];exact agree lx inv V a0 hiN ho hi ht
  have hwant:=za6 (ops:=ops) hagree;have hexec:=zbn (ops:=ops) (hsel i o · · ho) hagree;have hput:=zj6 lx inv V a0 hiN ho hi;have heff:zcr ops i=zd7 o:=by unfold zcr;rw [ho];rfl
  have next:∀ w',C (stg ops N (listed.setIfInBounds i true)) w'→wpAnyIn Fence.wide n P .any ops Q' (u+(ops.size - N)) (listed.setIfInBounds i true) ((FF ops V (fun j=>listed.getD j false) a0 N).put o.dst (V i)) w':=fun w' hw'=>by
   rw [hput];exact zid lx ef hs hq hstep hfin u _ w' hleft hinv' hw'
  unfold wpOpIn;simp only [ho];rw [hwant];rcases hstep i o hiN ho with ⟨hw,he,hyes⟩|⟨hw,he,hyes⟩|⟨hw,he,hyes⟩
  ·rw [if_pos hw]
   have h3:=hyes w (by rw [←zui ef inv hiN hi (heff.trans he)];exact hC);unfold Oper.wpIn;refine⟨fun f _=>trivial,?_⟩;rw [show Oper.semAt Fence.wide.round (FF ops V (fun j=>listed.getD j false) a0 N).eval o=execOp (FF ops V (fun j=>listed.getD j false) a0 N).eval o from rfl];rw [hexec];generalize (execOp (FF ops V (fun _=>true) a0 i).eval o).run P w=r at h3 ⊢
   cases r with
   |ok nx w'=>
    cases nx<;>simp only [zgv] at h3<;>simp only [Oper.uponIn]
    obtain⟨rfl,h4⟩:=h3;refine next _ ?_;rw [zlc his hiN hun (heff.trans he),zui ef inv hiN hi (heff.trans he)];exact h4
   |halt x w'=>simp only [zgv] at h3
  ·rw [if_pos hw]
   have hsame:stg ops N (listed.setIfInBounds i true)=stg ops N listed:=zfs his (heff.trans he);have h3:=hyes (stg ops N listed) w hC;unfold Oper.quietAt at h3;unfold Oper.wpIn;refine⟨fun f _=>trivial,?_⟩;rw [show Oper.semAt Fence.wide.round (FF ops V (fun j=>listed.getD j false) a0 N).eval o=execOp (FF ops V (fun j=>listed.getD j false) a0 N).eval o from rfl];rw [hexec];generalize (execOp (FF ops V (fun _=>true) a0 i).eval o).run P w=r at h3 ⊢
   cases r with
   |ok nx w'=>
    cases nx<;>simp only [Oper.quietUpon] at h3<;>simp only [Oper.uponIn]
    case value x=>
     obtain⟨rfl,rfl⟩:=h3;exact next _ (hsame.symm▸hC)
    case skip=>
     obtain⟨rfl,h4⟩:=h3;rw [←h4];exact next _ (hsame.symm▸hC)
    case enter f args=>
     obtain⟨rfl,hc⟩:=h3;refine⟨fun e=>(by cases e),callsIn_wide.2 (hc.mono ?_)⟩;rintro e w'' ⟨rfl,hw''⟩;exact next _ (hsame.symm▸hw'')
   |halt x w'=>simp only [Oper.quietUpon] at h3
  ·rw [if_neg (by rw [hw];simp)]
   refine⟨fun f _=>trivial,?_⟩;rw [←hyes];exact next w ((zfs his (heff.trans he)).symm▸hC)
end
theorem zhl {P:Program} {Q:Exit→Act→World→Prop} {a:Act} {w:World} {l:List Oper} {n:Nat} (N:Nat) (C:Nat→World→Prop) (hB:stgB l N=true) (h0:C 0 w.drew)
  (h:zhk P l.toArray C (fun s a'=>∀ w',C s w'→wpListIn Fence.wide n P l.toArray Q (l.drop N) a' w') 0 (l.take N) a):wpAnyIn Fence.wide n P .any l.toArray Q l.toArray.size (Array.replicate l.toArray.size false) a w.drew:=by
 simp only [stgB,Bool.and_eq_true,decide_eq_true_iff] at hB;obtain⟨⟨⟨⟨⟨hsel,hN⟩,hlex⟩,heff⟩,htail⟩,hseq⟩:=hB;have htk:∀ j,j < N→(l.take N)[j]? =l.toArray[j]?:=fun j hj=>by simp [hj]
 have htl:(l.take N).length=N:=by simp;omega
 have lx:znc l.toArray N:=by
  refine⟨by simpa using hN,hsel,fun k ok hk hok e he hb=>?_,fun k j ok oj hkj hj hok hoj=>?_⟩
  ·have:=zfh (l.take N) 0 hlex k ok ((htk k hk).trans hok) e he hb
   omega
  ·rcases zfg (l.take N) 0 hlex k j ok oj hkj ((htk k (by omega)).trans hok) ((htk j hj).trans hoj) with h1|h1
   ·left;rw [Nat.zero_add] at h1;exact zbq hoj h1
   ·exact .inr h1
 have ef:zCg l.toArray N:=fun i j hij hj hi1 hj1=>by
  have hio:∃ x,l.toArray[i]? =some x∧zd7 x=true:=by
   unfold zcr at hi1
   cases hx:l.toArray[i]? with
   |none=>rw [hx] at hi1;cases hi1
   |some x=>rw [hx] at hi1;exact⟨x,rfl,hi1⟩
  have hjo:∃ x,l.toArray[j]? =some x∧zd7 x=true:=by
   unfold zcr at hj1
   cases hx:l.toArray[j]? with
   |none=>rw [hx] at hj1;cases hj1
   |some x=>rw [hx] at hj1;exact⟨x,rfl,hj1⟩
  obtain⟨x,hx,ex⟩:=hio;obtain⟨y,hy,ey⟩:=hjo;have:=zjw (ops:=l.toArray) (l.take N) 0 heff (fun m hm=>by rw [Nat.zero_add];exact (htk m (by omega)).symm) i j x y hij ((htk i (by omega)).trans hx) ((htk j hj).trans hy) ex ey;simpa only [Nat.zero_add] using this
 obtain⟨V,_,hstep,hfin⟩:=zlb (P:=P) (ops:=l.toArray) (C:=C) a (l.take N) 0 0 a (fun _=>undef) (fun j hj=>by rw [Nat.zero_add];exact (htk j (by omega)).symm) rfl rfl h;rw [htl,Nat.zero_add] at hfin;have hls:l.toArray.size=l.length:=by simp
 have inv0:HeadInv .any l.toArray N (Array.replicate l.toArray.size false):=
  ⟨by simp,fun j oj _ hl=>(by rw [getD_replicate_false] at hl;cases hl),fun t _ ht=>getD_in (by simpa using ht) (getD_replicate_false _ _)⟩
 have hleft:left (Array.replicate l.toArray.size false) N=N:=by
  have:∀ m,left (Array.replicate l.toArray.size false) m=m:=fun m=>by
   induction m with
   |zero=>rfl
   |succ m ih=>unfold left at ih ⊢;simp only [cnt];rw [ih];simp only [getD_replicate_false,Bool.not_false,if_true]
  exact this N
 have hstg:stg l.toArray N (Array.replicate l.toArray.size false)=0:=by
  have:∀ m,cnt (fun j=>zcr l.toArray j && (Array.replicate l.toArray.size false).getD j false) m=0:=fun m=>by
   induction m with
   |zero=>rfl
   |succ m ih=>simp only [cnt];rw [ih];simp only [getD_replicate_false,Bool.and_false,Bool.false_eq_true,if_false]
  exact this N
 have hff:FF l.toArray V (fun j=>(Array.replicate l.toArray.size false).getD j false) a N=a:=by
  have:∀ m,FF l.toArray V (fun j=>(Array.replicate l.toArray.size false).getD j false) a m=a:=fun m=>by
   induction m with
   |zero=>rfl
   |succ m ih=>simp only [FF,getD_replicate_false,Bool.false_eq_true,if_false];simpa only [getD_replicate_false] using ih
  exact this N
 have:=zid (n:=n) (P:=P) (Q':=Q) (a0:=a) (V:=V) (C:=C) lx ef (by
   simp only [Bool.or_eq_true,decide_eq_true_iff,Bool.and_eq_true] at htail;rw [hls];exact htail) (by rw [hls];exact hseq) (fun j o hj ho=>hstep j o (by omega) (by rw [htl];omega) ho) (by simpa using hfin) N _ w.drew hleft inv0 (by rw [hstg];exact h0)
 rw [hff] at this;rw [show N+(l.toArray.size - N)=l.toArray.size by rw [hls];omega] at this;exact this
theorem ze7 {P:Program} {id:Nat} {Q:Exit→Act→World→Prop} {a:Act} {w:World} {l:List Oper} {k n:Nat} (N:Nat) (hm:P.follows .mixedOrders=true) (hB:stgB l N=true) (hne:(l.take N).all (fun o=>!zd7 o)=true) (hd:l.all (fun o=>match o.op with| .defer _=>false|_=>true)=true)
  (h:wpQuiet P l.toArray (fun w'=>∃ i:Cls w,w'=i.wd) (fun a'=>∀ w',(∃ i:Cls w,w'=i.wd)→wpListIn Fence.wide n P l.toArray Q (l.drop N) a' w') (l.take N) a):(Code.region id l.toArray true).wpIn (Fence.wide.inRound k) n P Q a w:=
 zji hm hd (zhl N (fun _ w'=>∃ i:Cls w,w'=i.wd) hB ⟨⟨w.drew,(Below.refl _ _).drew⟩,rfl⟩ (zcl _ 0 _ hne h))
end Go.Proofs.YtpbmmoneeoijaaaGreatDoor
namespace Go.Proofs.YtpbmmoneeoijaaaGreatDoor
open Go.RowKit Go.Shelf
def ownPostN {α:Type} (B:Nat) (Kp:World→World→Prop) (I:List α→World→Prop) (Ix:Code→List α→World→Prop) (xs:List α) (W:World):Exit→Act→World→Prop
 | .normal,_,W'=>KeepsFrom B W W'∧Kp W W'∧I xs W'
 | .ret,_,W'=>KeepsFrom B W W'∧Kp W W'∧Ix .ret xs W'
 | .exit id,_,W'=>KeepsFrom B W W'∧Kp W W'∧Ix (.exit id) xs W'
 | .goto t,_,W'=>KeepsFrom B W W'∧Kp W W'∧Ix (.goto t) xs W'
 | .panic _,_,_=>False
 | .outgrown,_,_=>False
def SeqN {α:Type} (F:Fence) (n:Nat) (P:Program) (g:Nat) (lb:Array Value) (encs:α→Array Value) (Kp:World→World→Prop) (S Sp:List α→Prop) (N:Nat) (w:World):Prop:=
 ∀ (l:Nat) (J Jx:List α→World→Prop) (W:World),Below w.heap.size w W→AbidesFrom W.heap.size J→AbidesFrom W.heap.size Jx→OwnFrom W.heap.size J→OwnFrom W.heap.size Jx→
  (∀ pre x W1,J pre W1→pre.length < N→YieldAt F (n - 1) P l (encs x) W1 fun e W'=>
   (e=.returned (.bool true)∧J (pre ++ [x]) W'∧Kp W1 W'∧KeepsFrom W.heap.size W1 W')∨(e=.returned (.bool false)∧Jx (pre ++ [x]) W'∧Kp W1 W'∧KeepsFrom W.heap.size W1 W'))→
  J [] W→
  CallsIn F n P g (#[.func (.yield l) #[] #[]] ++ lb) W fun e W'=>(∃ v,e=.returned v)∧((∃ xs,S xs∧J xs W')∨(∃ pre,Sp pre∧Jx pre W'))
theorem zx3 {F:Fence} {n:Nat} {P:Program} {α:Type} {g:Operand} {ps:Array Tmp} {assign body:Code} {Q:Exit→Act→World→Prop} {a:Act} {w:World}
  (hro:F.round=none) (h1:1≤n) {gf:Nat} {lb:Array Value} (hg:a.eval g=.func (.func gf) #[] lb) (hFg:F.fn gf) (eg:∀ args w,(callFunc gf args).run P w=.ok (.enter gf args) w)
  {encs:α→Array Value} {Kp:World→World→Prop} {S Sp:List α→Prop} {N:Nat} {w0:World} (hseq:SeqN F (n - 1) P gf lb encs Kp S Sp N w0)
  (hKt:∀ {A B C:World},Kp A B→Kp B C→Kp A C) (hKb:∀ (W:World) (l:Nat) (o o':Obj),w.heap.size≤l→W.heap[l]? =some o→o.isCells=false→o.isWalk=false→Kp W (W.putObj l o')) (hb0:Below w0.heap.size w0 w) (hps:∀ x,(encs x).size=ps.size)
  (I:List α→World→Prop) (Ix:Code→List α→World→Prop) (hI:OwnFrom w.heap.size I) (hIx:∀ c,OwnFrom w.heap.size (Ix c)) (h0:I [] w) (Ax:α→Act→World→Prop) (hAx:∀ x a',OwnFrom w.heap.size (fun (_:Unit) W=>Ax x a' W))
  (hassign:∀ (l:Nat) (pre:List α) (x:α) (W:World) (K:Act→World→Prop),I pre W→(∀ a' W',KeepsFrom w.heap.size W W'→Kp W W'→I pre W'→Ax x a' W'→K a' W')→
   assign.wpIn (F.inRound l) (n - 1 - 1) P (Exit.then K (fun _ _ _=>False)) { tmps:=(ps.zip (encs x)).foldl (fun t (p,v)=>t.setIfInBounds p v) a.tmps,defers:=[] } W)
  (hbody:∀ (l:Nat) (pre:List α) (x:α) (a':Act) (W:World),I pre W→Ax x a' W→pre.length < N→body.wpIn (F.inRound l) (n - 1 - 1) P (ownPostN w.heap.size Kp I Ix (pre ++ [x]) W) a' W)
  (hdone:∀ (D:Nat) (xs:List α) (W:World),w.heap.size≤D→S xs→I xs W→W.heap[D]? =some (.deferred (some []))→Q .normal { a with defers:={ target:=.collected D,args:=#[] } :: a.defers } W)
  (hstop:∀ (D:Nat) (c:Code) (pre:List α) (W:World),w.heap.size≤D→Sp pre→Ix c pre W→W.heap[D]? =some (.deferred (some []))→c.wpIn F n P Q { a with defers:={ target:=.collected D,args:=#[] } :: a.defers } W):
  (Code.rangeFunc g ps assign body).wpIn F n P Q a w:=by
 refine wpIn_rangeFunc fun fn hfn=>?_;rw [hro]
 let d:=w.heap.size
 have hd:d=w.heap.size:=rfl
 let rd:LoopState→Option Code→Loop:=fun st pe=>{ state:=st,pending:=pe,fn,tmps:=a.tmps,params:=ps,assign,body,defers:=d }
 have hL1:((w.alloc (.deferred (some []))).alloc (.loop (rd .ready none))).heap[d+1]? =some (.loop (rd .ready none)):=by
  have:=World.alloc_heap_new (w.alloc (.deferred (some []))) (.loop (rd .ready none));rwa [World.size_alloc,←hd] at this
 have hK1:((w.alloc (.deferred (some []))).alloc (.loop (rd .ready none))).heap[d]? =some (.deferred (some [])):=by
  exact (Below.heap_alloc _ _ _ (by simp only [World.size_alloc];omega)).trans (World.alloc_heap_new w _)
 have hI1:I [] ((w.alloc (.deferred (some []))).alloc (.loop (rd .ready none))):=hI.alloc _ (hI.alloc _ h0);have hb1:Below w0.heap.size w0 ((w.alloc (.deferred (some []))).alloc (.loop (rd .ready none))):=
  hb0.trans ((((Below.refl _ w).alloc (Nat.le_refl _) _).alloc (by simp) _).mono hb0.size)
 have hsz:((w.alloc (.deferred (some []))).alloc (.loop (rd .ready none))).heap.size=d+2:=by simp [hd]
 have up:∀ {β:Type} {J:β→World→Prop},OwnFrom d J→OwnFrom (d+2) J:=fun h s X Y row hs hg hr=>h s X Y row hs hg fun r e=>⟨by have:=(hr r e).1;omega,(hr r e).2⟩;have ab:∀ {β:Type} {J:β→World→Prop},OwnFrom (d+2) J→AbidesFrom (d+2) J:=fun h s X Y row hs hg hr=>h s X Y row hs hg fun r e=>by
  obtain⟨hB,o,ho,hw⟩:=hr r e;exact⟨hB,o,ho,Obj.not_cells_of_walk hw⟩
 rw [←hd] at hI hAx hassign hbody hKb;have hIx':∀ c,OwnFrom d (Ix c):=fun c=>hIx c;have hJ:OwnFrom (d+2) (fun pre W=>(I pre W∧W.heap[d+1]? =some (.loop (rd .ready none)))∧W.heap[d]? =some (.deferred (some []))):=
  zbl (zbl (up hI) (by omega)) (by omega)
 have hJx:OwnFrom (d+2) (fun pre W=>∃ c,(Ix c pre W∧W.heap[d+1]? =some (.loop (rd .done (some c))))∧W.heap[d]? =some (.deferred (some []))):=fun s X Y row hs hg hr=>by
  obtain⟨c,hs⟩:=hs;exact⟨c,zbl (zbl (up (hIx' c)) (by omega)) (by omega) s X Y row hs hg hr⟩
 refine⟨d+1,[{ target:=.collected d,args:=#[] }],_,{ target:=.fn (.func gf) lb,args:=#[.func (.yield (d+1)) #[] #[]] },_,gf,#[.func (.yield (d+1)) #[] #[]] ++ lb,_,run_enterLoop_outer _ _ _ _ _,by simp only [resolve,hg];simp [go_sem];rfl,fun f' hf'=>by simp [Target.leads] at hf';subst hf';exact hFg,by simp [invoke,go_sem,eg];rfl,fun _=>h1,?_⟩;refine (hseq (d+1) (fun pre W=>(I pre W∧W.heap[d+1]? =some (.loop (rd .ready none)))∧W.heap[d]? =some (.deferred (some []))) (fun pre W=>∃ c,(Ix c pre W∧W.heap[d+1]? =some (.loop (rd .done (some c))))∧W.heap[d]? =some (.deferred (some []))) ((w.alloc (.deferred (some []))).alloc (.loop (rd .ready none))) hb1 (by rw [hsz];exact ab hJ) (by rw [hsz];exact ab hJx) (by rw [hsz];exact hJ) (by rw [hsz];exact hJx) ?_ ⟨⟨hI1,hL1⟩,hK1⟩).mono ?_
 ·rintro pre x W ⟨⟨hi,hl⟩,hk⟩ hlen
  rw [hsz];have hlt:d+1 < W.heap.size:=(Array.getElem?_eq_some_iff.1 hl).1;refine⟨fn,_,assign,body,run_yield hl (hps x),roundIn_of_wpIn hfn (hassign _ pre x W _ hi fun a' W' hkf hkp hi' hax=>?_)⟩;have hl':=hkf.same _ _ (by omega) hl rfl;have hk':=hkf.same _ _ (by omega) hk rfl;refine⟨_,run_beginRound hl' rfl,?_⟩;have hlt':d+1 < W'.heap.size:=(Array.getElem?_eq_some_iff.1 hl').1;have hl2:(W'.putObj (d+1) (.loop (rd .busy none))).heap[d+1]? =some (.loop (rd .busy none)):=World.putObj_heap_same hlt';have hk2:(W'.putObj (d+1) (.loop (rd .busy none))).heap[d]? =some (.deferred (some [])):=(World.putObj_heap_other (by omega)).trans hk';have hw2:Kp W (W'.putObj (d+1) (.loop (rd .busy none))):=hKt hkp (hKb _ _ _ _ (by omega) hl' rfl rfl);have far:∀ (X:World) (o:Obj),KeepsFrom (d+2) X (X.putObj (d+1) o):=fun X o=>KeepsFrom.of_grownBy (grownBy_putObj' X _ _) (fun j e=>by cases e;omega);have more:∀ {X Y:World},KeepsFrom d X Y→KeepsFrom (d+2) X Y:=fun h=>⟨h.size,fun k o hk=>h.same k o (by omega)⟩;have hf2:KeepsFrom (d+2) W (W'.putObj (d+1) (.loop (rd .busy none))):=(more hkf).trans (far _ _);refine wpIn_mono (hbody _ pre x a' _ (hI.putObj _ hi' (by omega) hl' rfl) ((hAx x a').putObj (s:=()) _ hax (by omega) hl' rfl) hlen) ?_;have fin:∀ (jump:Option Code) (W3:World),KeepsFrom d (W'.putObj (d+1) (.loop (rd .busy none))) W3→
    (Instr.endRound (d+1) jump).run P W3=.ok (.bool jump.isNone) (W3.putObj (d+1) (.loop (rd (if jump.isNone then .ready else .done) jump)))∧
    W3.heap[d+1]? =some (.loop (rd .busy none))∧
    (W3.putObj (d+1) (.loop (rd (if jump.isNone then .ready else .done) jump))).heap[d+1]? =some (.loop (rd (if jump.isNone then .ready else .done) jump))∧
    (W3.putObj (d+1) (.loop (rd (if jump.isNone then .ready else .done) jump))).heap[d]? =some (.deferred (some []))∧
    KeepsFrom (d+2) W (W3.putObj (d+1) (.loop (rd (if jump.isNone then .ready else .done) jump))):=fun jump W3 hk3=>by
   have hl3:=hk3.same _ _ (by omega) hl2 rfl;exact⟨run_endRound (P:=P) jump hl3,hl3,World.putObj_heap_same (Array.getElem?_eq_some_iff.1 hl3).1,(World.putObj_heap_other (by omega)).trans (hk3.same _ _ (Nat.le_refl _) hk2 rfl),(hf2.trans (more hk3)).trans (far _ _)⟩
  rintro e a3 W3 hp
  cases e with
  |normal=>
   obtain⟨hk3,hkp3,hi3⟩:=hp;obtain⟨hr,hl3,hl4,hk4,hf4⟩:=fin none W3 hk3;exact⟨_,_,hr,.inl ⟨rfl,⟨⟨hI.putObj _ hi3 (by omega) hl3 rfl,hl4⟩,hk4⟩,hKt (hKt hw2 hkp3) (hKb _ _ _ _ (by omega) hl3 rfl rfl),hf4⟩⟩
  |ret=>
   obtain⟨hk3,hkp3,hi3⟩:=hp;obtain⟨hr,hl3,hl4,hk4,hf4⟩:=fin (some .ret) W3 hk3;exact⟨_,_,hr,.inr ⟨rfl,⟨.ret,⟨(hIx' _).putObj _ hi3 (by omega) hl3 rfl,hl4⟩,hk4⟩,hKt (hKt hw2 hkp3) (hKb _ _ _ _ (by omega) hl3 rfl rfl),hf4⟩⟩
  |exit id=>
   obtain⟨hk3,hkp3,hi3⟩:=hp;obtain⟨hr,hl3,hl4,hk4,hf4⟩:=fin (some (.exit id)) W3 hk3;exact⟨_,_,hr,.inr ⟨rfl,⟨.exit id,⟨(hIx' _).putObj _ hi3 (by omega) hl3 rfl,hl4⟩,hk4⟩,hKt (hKt hw2 hkp3) (hKb _ _ _ _ (by omega) hl3 rfl rfl),hf4⟩⟩
  |goto t=>
   obtain⟨hk3,hkp3,hi3⟩:=hp;obtain⟨hr,hl3,hl4,hk4,hf4⟩:=fin (some (.goto t)) W3 hk3;exact⟨_,_,hr,.inr ⟨rfl,⟨.goto t,⟨(hIx' _).putObj _ hi3 (by omega) hl3 rfl,hl4⟩,hk4⟩,hKt (hKt hw2 hkp3) (hKb _ _ _ _ (by omega) hl3 rfl rfl),hf4⟩⟩
  |panic ch=>exact hp.elim
  |outgrown=>exact hp.elim
 ·rintro e W2 ⟨⟨v,rfl⟩,(⟨xs,hS,⟨hi,hl⟩,hk⟩|⟨pre,hSp,c,⟨hi,hl⟩,hk⟩)⟩
  ·exact⟨none,_,run_endLoop (P:=P) hl (by simp [rd]),hdone d xs _ (by omega) hS (hI.putObj _ hi (by omega) hl rfl) ((World.putObj_heap_other (by omega)).trans hk)⟩
  ·exact⟨some c,_,run_endLoop (P:=P) hl (by simp [rd]),hstop d c pre _ (by omega) hSp ((hIx' c).putObj _ hi (by omega) hl rfl) ((World.putObj_heap_other (by omega)).trans hk)⟩
end Go.Proofs.YtpbmmoneeoijaaaGreatDoor
