/-
  A part of the proof: AdmitFn CoreNew OpsFn.
-/
import Derived.Test.YtpbmmoneeoijaaaGreatDoorP33
import Derived.Test.YtpbmmoneeoijaaaGreatDoorP37
namespace Go.Proofs.YtpbmmoneeoijaaaGreatDoor
open Go.RowKit Go.Deep Go.Shelf
set_option maxRecDepth 100000
def zCj (x:Img) (g:Nat→Nat→Int) (M:Nat→za9) (q:Nat→Nat→Nat→Int) (h:Nat→Nat→Int) (w:World) (e:Ending) (w':World):Prop:=
 ∃ (ca ce:Option Addr) (cl cc cn cd:Nat) (at_ er:Int),e=.returned (.tuple #[.agg #[.slice ca cl cc,.slice ce cn cd],.int .i64 at_,.int .i64 er])∧(er=0→OkX x g M q h∧cn=x.en∧∃ sp,zbj w' ce cn 2 sp∧TyAt w' ce 154)∧Below w.heap.size w w'
theorem zje {w X:World} {cm ce at_ er:Value} {ac:Act} {R:Ending→World→Prop} (h2:ac.tmps.getD 2 undef=.pointer (some ⟨w.heap.size+1,0,none⟩)) (h3:ac.tmps.getD 3 undef=at_) (h4:ac.tmps.getD 4 undef=er) (hd:ac.defers=[])
  (hS:X.heap[w.heap.size+1]? =some (Obj.cells #[cm,ce] 97)) (hP:R (.returned (.tuple #[.agg #[cm,ce],at_,er])) X):bodyPost Tryz.prog Tryz.f34 R .ret ac X:=by
 refine bodyPost_ret (v:=.tuple #[.agg #[cm,ce],at_,er]) ?_ hd hP;have h2':ac.tmps[2]?.getD undef=.pointer (some ⟨w.heap.size+1,0,none⟩):=by simpa using h2
 have h3':ac.tmps[3]?.getD undef=at_:=by simpa using h3
 have h4':ac.tmps[4]?.getD undef=er:=by simpa using h4
 simp [results,Tryz.results34,h2',h3',h4',asAddr,run_loadVar_row X (w.heap.size+1) 97 97 _ (0,0) _ hS Tryz.underlying97 rfl (by kernel_rfl)]
theorem zhq {W:World} {B b s n:Nat} {e:TypeId} {u:Value} {ys:List Value} (h:W.ownsRow B e s u n ys) (hb:b < B) (o:Nat) (v:Value):(W.setCell ⟨b,o,none⟩ v).ownsRow B e s u n ys:=by
 rcases h.2 with ⟨rfl,h1⟩|⟨g,cap,cur,rfl,h2,h3,h4⟩
 ·exact⟨h.1,.inl ⟨rfl,h1⟩⟩
 ·exact⟨h.1,.inr ⟨g,cap,cur,rfl,h2,(heap_setCell_other W ⟨b,o,none⟩ g v (by show g≠b;omega)).trans h3,h4⟩⟩
theorem infoRr:(Tryz.prog.info? 199).map (fun i=>(i.zero,i.size,i.bytes))=some (some (.slice none 0 0),1,24):=by kernel_rfl
theorem infoSn:(Tryz.prog.info? 154).map (fun i=>(i.zero,i.size,i.bytes))=some (some (.agg #[.int .i64 0,.int .i64 0]),2,16):=by kernel_rfl
set_option maxHeartbeats 4000000 in
theorem zrv (x:Img) (g:Nat→Nat→Int) (M:Nat→za9) (q:Nat→Nat→Nat→Int) (h:Nat→Nat→Int) (w:World) (hx:znd w x g M q h) (hTab:Tab w):
  Calls Tryz.prog 34 #[iv x] w (zCj x g M q h w):=by
 have HCK:=hid fun X (hX:Below w.heap.size w X)=>zq3 x g M q h X (hx.below hX);have HTK:=hid fun (i:Nat) X (hX:Below w.heap.size w X)=>zij x M (i:Nat) X (hx.modes.below hX);have HMD:=hid fun (h16:x.n≤16) (hO:zd2 x.n g) (i:Nat) X (hX:Below w.heap.size w X)=>zz5 x g (zax x M (i:Nat)) X (zgh hx.tb _) (by unfold maxLen;omega) (hx.tasks.below hX) hO (hTab.below hX hTab.pos);have HWE:=hid fun (h16:x.n≤16) (hO:zd2 x.n g) (i:Nat) (hi:i < x.en) (p1:1≤h i 2) (p2:h i 2≤3) X (hX:Below w.heap.size w X)=>zmz x g M h i X (hx.modes.below hX) (hx.edges.below hX) hx.tb hi (hx.tasks.below hX) hO h16 p1 p2 (hTab.below hX hTab.pos);have hOKn:OkX x g M q h→zd2 x.n g:=fun hk i hi=>⟨x.r,hk.tasks i hi⟩;obtain⟨i0,hi,hz0,hz1,hz2⟩:=info_parts infoRr;obtain⟨j0,hj,hj0,hj1,hj2⟩:=info_parts infoSn;clear hx hTab;obtain⟨r,ao,n,cap,mo,mn,mc,eo,en,ec⟩:=x;unfold iv at HCK HTK HMD HWE ⊢;dsimp only at HTK HMD HWE hOKn ⊢;have hb1:Below w.heap.size w (w.alloc (Obj.cells #[.int .i64 r,.slice ao n cap,.slice mo mn mc,.slice eo en ec] 26)):=(Below.refl _ _).alloc (Nat.le_refl _) _;have hb2:=hb1.alloc hb1.size (Obj.cells #[.slice none 0 0,.slice none 0 0] 97);have bI2:=zac (heap_alloc_new w (Obj.cells #[.int .i64 r,.slice ao n cap,.slice mo mn mc,.slice eo en ec] 26)) (Obj.cells #[.slice none 0 0,.slice none 0 0] 97);have bC2:=heap_alloc_new (w.alloc (Obj.cells #[.int .i64 r,.slice ao n cap,.slice mo mn mc,.slice eo en ec] 26)) (Obj.cells #[.slice none 0 0,.slice none 0 0] 97);rw [World.size_alloc] at bC2;have c0:=zaa bI2 0;have c1:=zaa bI2 1;have c2:=zaa bI2 2;have c3:=zaa bI2 3;go_enter Tryz.func34,Tryz.ntmps34
 go_upto_region 2 with (go_at_call 77;refine (HCK.out _ hb2).mono ?_;rintro e w3 ⟨at_,er,rfl,hok,hb3⟩)
 have hbI:=qBa hb3 bI2;have hbC:=qBa hb3 bC2;have hB3:=hb2.trans (hb3.mono hb2.size);clear c0 c1 c2 c3 bI2 bC2 hb1 hb2 hb3 HCK;by_cases he:er=0
 case neg=>
  have t0:(er != 0)=true:=by simp [he]
  have n0:=zaa hbC 0;have n1:=zaa hbC 1;have y0:=zab hbC 0;have y1:=zab hbC 1;have hCC:=Dl.blk_put0 (i:=1) (u:=.slice none 0 0) (Dl.blk_put0 (i:=0) (u:=.slice none 0 0) hbC);go_wp2;exact zje rfl rfl rfl rfl hCC ⟨_,_,_,_,_,_,at_,er,rfl,fun h=>absurd h he,(hB3.setCell (by simp) _).setCell (by simp) _⟩
 have t0:(er != 0)=false:=by simp [he]
 have hok:=hok he;have hTO:=hOKn hok;clear he hOKn;have hb4:=hB3.alloc hB3.size (Obj.cells #[.slice none 0 0,.slice none 0 0] 97);have hbI4:=zac hbI (Obj.cells #[.slice none 0 0,.slice none 0 0] 97);have hbC4:=zac hbC (Obj.cells #[.slice none 0 0,.slice none 0 0] 97);have hbK4:=heap_alloc_new w3 (Obj.cells #[.slice none 0 0,.slice none 0 0] 97);have m2:=hok.m2;have e24:=hok.e;have hs3:=hB3.size;dsimp only at m2 e24;have d2:=zaa hbI4 2;have k0:=zaa hbK4 0;have k1:=zaa hbK4 1;have l0:=zab hbK4 0;have l1:=zab hbK4 1
 go_upto_region 6 with fail
 obtain⟨W4,hW4⟩:∃ X,X=w3.alloc (Obj.cells #[.slice none 0 0,.slice none 0 0] 97):=⟨_,rfl⟩;rw [←hW4] at hb4 hbI4 hbC4 hbK4 ⊢;have hs4:W4.heap.size=w3.heap.size+1:=by rw [hW4];simp
 have HN4:w.heap.size+2≤w3.heap.size:=by have:=(Array.getElem?_eq_some_iff.1 hbC).1;omega
 clear hW4 hbI hbC hB3 d2 k0 k1 l0 l1 t0;have HI:=hid hbI4;have HR:=hid hbC4;have HC:=hid hbK4;have HB:=hid hb4;clear hbI4 hbC4 hbK4 hb4
 go_loopw [29] (fun i_ wr=>∃ (i:Nat) (v:Value) (xs:List Value),i_=.int .i64 i∧i≤mn∧Hid (wr.heap[w3.heap.size]? =some (Obj.cells #[v,.slice none 0 0] 97))∧Hid (wr.ownsRow (w3.heap.size+1) 199 1 v i xs)∧
  Hid (wr.heap[w.heap.size]? =some (Obj.cells #[.int .i64 r,.slice ao n cap,.slice mo mn mc,.slice eo en ec] 26))∧Hid (wr.heap[w.heap.size+1]? =some (Obj.cells #[.slice none 0 0,.slice none 0 0] 97))∧Hid (Below w.heap.size w wr∧w3.heap.size+1≤wr.heap.size)) (fun i_ _=>mn - (intOf i_).toNat)
 case atStart=>exact⟨0,_,[],rfl,Nat.zero_le _,HC,World.ownsRow_nil _ _ _ _,HI,HR,HB.out,by omega⟩
 case round=>
  clear HI HR HC HB;obtain⟨i,v,xs,rfl,hin,HC,HO,HI,HR,HB2⟩:=hrel;have HB:=hid HB2.out.1;have hszr:=HB2.out.2;clear HB2;by_cases hlt:i < mn
  ·have t0:decide ((i:Int) < (mn:Int))=true:=by simp;omega
   go_upto_region 8 with fail
   refine zah [3,4,5,6,7,8,9,10,11] (fun X=>Below wr.heap.size wr X) (by kernel_rfl) (by kernel_rfl) (by exact⟨rfl,rfl,rfl,Nat.le_refl _,fun _ _=>rfl⟩) ?_;refine qFs fun K hK=>?_;go_simp;refine⟨.agg #[.int .i64 r,.slice ao n cap,.slice mo mn mc,.slice eo en ec],fun X hX=>?_,hK _ ?_⟩
   ·have hI:=qBa hX HI.out
    have z0:=zaa hI 0;have z1:=zaa hI 1;have z2:=zaa hI 2;have z3:=zaa hI 3;go_simp
   clear hK K;refine qFs fun K hK=>?_;go_simp;refine⟨.agg #[.int .i64 r,.slice ao n cap,.slice mo mn mc,.slice eo en ec],fun X hX=>?_,hK _ ?_⟩
   ·have hI:=qBa hX HI.out
    have z0:=zaa hI 0;have z1:=zaa hI 1;have z2:=zaa hI 2;have z3:=zaa hI 3;go_simp
   clear hK K;refine qFs fun K hK=>?_;go_simp;refine⟨_,fun _ _=>rfl,hK _ ?_⟩;clear hK K;refine qFc ?_;refine qFc ?_;refine qFc ?_;refine qFc ?_;refine qFc ?_;refine qFc ?_;refine qFc ?_;refine qFc ?_;refine qFc ?_;refine zau ?_;have B5:Below wr.heap.size wr wr.drew:=⟨rfl,rfl,rfl,Nat.le_refl _,fun _ _=>rfl⟩;refine qT1 3 [4,5,6,7,8,9,10,11] fun K hK=>?_
   go_wp2_with fail
   refine (HTK.out i _ (HB.out.trans (B5.mono HB.out.size))).mono ?_;rintro e W6 ⟨rfl,hb6⟩;have B6:=B5.trans (hb6.mono B5.size)
   go_wp2_with fail
   refine hK _ _ B6 ?_;clear hK K hb6 B5;refine qT1 4 [5,6,7,8,9,10,11] fun K hK=>?_
   go_wp2_with fail
   refine (HMD.out (hok.n2) hTO i _ (HB.out.trans (B6.mono HB.out.size))).mono ?_;rintro e W7 ⟨⟨ra,rl,rc,ri,ok,rfl⟩,hb7⟩;have B7:=B6.trans (hb7.mono B6.size)
   go_wp2_with fail
   refine hK _ _ B7 ?_;clear hK K hb7 B6;refine zaf (m:=6) (i:=5) (rem1:=[6,7,8,9,10,11]) rfl (by kernel_rfl) (by rfl) (by rfl) B7 (by rfl) (fun K hK=>?_);go_simp;refine⟨_,fun _ _=>rfl,hK _ ?_⟩;clear hK K;refine zaf (m:=5) (i:=6) (rem1:=[7,8,9,10,11]) rfl (by kernel_rfl) (by rfl) (by rfl) B7 (by rfl) (fun K hK=>?_);go_simp;refine⟨_,fun _ _=>rfl,hK _ ?_⟩;clear hK K;refine zaf (m:=4) (i:=7) (rem1:=[8,9,10,11]) rfl (by kernel_rfl) (by rfl) (by rfl) B7 (by rfl) (fun K hK=>?_);go_simp;refine⟨_,fun _ _=>rfl,hK _ ?_⟩;clear hK K;refine zaf (m:=3) (i:=8) (rem1:=[9,10,11]) rfl (by kernel_rfl) (by rfl) (by rfl) B7 (by rfl) (fun K hK=>?_);go_simp;refine⟨_,fun _ _=>rfl,hK _ ?_⟩;clear hK K;refine qT1 9 [10,11] fun K hK=>?_
   go_wp2_with fail
   refine hK _ _ B7 ?_;clear hK K;refine qT1 10 [11] fun K hK=>?_
   go_wp2_with fail
   refine hK _ _ B7 ?_;clear hK K;refine qT1 11 [] fun K hK=>?_
   go_wp2_with fail
   refine hK _ _ B7 ?_;clear hK K;refine zan ?_;have HB7:=hid (HB.out.trans (B7.mono HB.out.size));have HI7:=hid (qBa B7 HI.out);have HR7:=hid (qBa B7 HR.out);have HC7:=hid (qBa B7 HC.out);have HO7:=hid (zdd HO.out B7);clear HB HI HR HC HO B7;have n0:=zaa HR7.out 0;have n1:=zaa HR7.out 1;have y0:=zab HR7.out 0;have y1:=zab HR7.out 1;cases ok
   ·have hCC:=Dl.blk_put0 (i:=1) (u:=.slice none 0 0) (Dl.blk_put0 (i:=0) (u:=.slice none 0 0) HR7.out)
    go_wp2;exact zje rfl rfl rfl rfl hCC ⟨_,_,_,_,_,_,_,180,rfl,fun h=>absurd h (by decide),(HB7.out.setCell (by simp) _).setCell (by simp) _⟩
   ·clear n0 n1 y0 y1
    obtain⟨va,vc,rfl,_,_⟩:=zar HO7.out;have m0:=zaa HC7.out 0;have hs7:=hid HB7.out.size;have hszC:=(Array.getElem?_eq_some_iff.1 HC7.out).1;have hnews:∀ (j:Nat) (u:Value),[Value.slice ra rl rc][j]? =some u→(W7.alloc (Obj.cells #[.slice ra rl rc] 199)).cell? ((⟨W7.heap.size,0,none⟩:Addr).add j)=some u:=fun j u hj=>by
     rw [za8,Nat.zero_add,World.cell?_alloc_at _ _ _ _ rfl];simpa using hj
    go_upto_region 11 with fail
    refine wp_region_lit ?_;refine wpList_plain rfl fun K hK=>?_;go_simp;refine hK _ _ ?_;clear hK K;refine wpList_plain rfl fun K hK=>?_;go_simp;refine hK _ _ ?_;clear hK K;refine wpList_plain rfl fun K hK=>?_;go_simp;refine hK _ _ ?_;clear hK K;refine wpList_plain rfl fun K hK=>?_;go_simp;refine hK _ _ ?_;clear hK K;refine wpList_append_own _ rfl _ _ 94 rfl (w3.heap.size+1) 199 i0 (.slice none 0 0) 1 24 Tryz.underlying94 hi hz0 hz1 hz2 rfl (by decide) _ _ _ rfl (HO7.out.alloc _) ⟨W7.heap.size,0,none⟩ 1 1 [.slice ra rl rc] rfl rfl hnews (by simp [Value.oneCell']) (by unfold maxLen;omega) (by omega) (by simp;omega) ?_;intro v' w8 h8 g8 _;obtain⟨va8,vc8,rfl,_,_⟩:=zar h8;have b8:=(Save.of_grown g8).below (Below.refl (w3.heap.size+1) _) (by simp;omega) (fun k hk=>(HO7.out.lt k hk).1);have p8:=(b8.block _ (by omega)).trans (zac HC7.out _);have m8:=zaa p8 0;have f8:=zab p8 0;have b7:Below (w3.heap.size+1) W7 w8:=((Below.refl (w3.heap.size+1) W7).alloc (by omega) (Obj.cells #[.slice ra rl rc] 199)).trans b8;have HCF:=hid (Dl.blk_put0 (i:=0) (u:=.slice va8 (i+1) vc8) p8);have hOF:=hid (zhq h8 (show w3.heap.size < w3.heap.size+1 by omega) 0 (.slice va8 (i+1) vc8));have HIF:=hid ((heap_setCell_other w8 ⟨w3.heap.size,0,none⟩ w.heap.size (.slice va8 (i+1) vc8) (by show w.heap.size≠w3.heap.size;omega)).trans ((b7.block _ (by omega)).trans HI7.out));have HRF:=hid ((heap_setCell_other w8 ⟨w3.heap.size,0,none⟩ (w.heap.size+1) (.slice va8 (i+1) vc8) (by show w.heap.size+1≠w3.heap.size;omega)).trans ((b7.block _ (by omega)).trans HR7.out));have HBF:=hid ((HB7.out.trans (b7.mono (by omega))).setCell (p:=⟨w3.heap.size,0,none⟩) (by show w.heap.size≤w3.heap.size;omega) (.slice va8 (i+1) vc8));have hszF:w3.heap.size+1≤(w8.setCell ⟨w3.heap.size,0,none⟩ (.slice va8 (i+1) vc8)).heap.size:=by have:=b7.size;simp;omega
    clear h8 g8 b8 b7 p8 HC7 HO7 HI7 HR7 HB7 m0 hnews;go_wp2;go_roundw
    case rel=>exact⟨i+1,_,_,by go_num,by omega,HCF,hOF,HIF,HRF,HBF.out,hszF⟩
    case measure=>simp [intOf];omega
  ·obtain rfl:i=mn:=by omega
   have t0:decide ((i:Int) < (i:Int))=false:=by simp
   obtain⟨va,vc,rfl,_,_⟩:=zar HO.out;have d3:=zaa HI.out 3
   go_upto_region 14 with fail
   clear d3 t0 HO hin
   go_loopw [55] (fun i_ wr=>∃ (k:Nat) (u:Value) (sp:Nat→Nat→Int),i_=.int .i64 k∧k≤en∧Hid (wr.heap[w3.heap.size]? =some (Obj.cells #[.slice va i vc,u] 97))∧Hid (wr.ownsRow (w3.heap.size+1) 154 2 u k (zgp sp k 2))∧
    Hid (wr.heap[w.heap.size]? =some (Obj.cells #[.int .i64 r,.slice ao n cap,.slice mo i mc,.slice eo en ec] 26))∧Hid (wr.heap[w.heap.size+1]? =some (Obj.cells #[.slice none 0 0,.slice none 0 0] 97))∧Hid (Below w.heap.size w wr∧w3.heap.size+1≤wr.heap.size)) (fun i_ _=>en - (intOf i_).toNat)
   case atStart=>exact⟨0,_,fun _ _=>0,rfl,Nat.zero_le _,HC,World.ownsRow_nil _ _ _ _,HI,HR,HB.out,hszr⟩
   case round=>
    clear HI HR HC HB hszr;obtain⟨k,u,sp,rfl,hkn,HC,HO,HI,HR,HB2⟩:=hrel;have HB:=hid HB2.out.1;have hszr:=HB2.out.2;clear HB2;by_cases hlt:k < en
    ·have t0:decide ((k:Int) < (en:Int))=true:=by simp;omega
     have hE:=hok.edges k hlt;have d0:=zaa HI.out 0;have d1:=zaa HI.out 1;have d2:=zaa HI.out 2;have d3:=zaa HI.out 3
     go_upto_region 17 with (go_at_call 90;refine (HWE.out hok.n2 hTO k hlt hE.p1 hE.p2 _ HB.out).mono ?_;rintro e w7 ⟨⟨a,b,ok,rfl⟩,b7⟩)
     have HB7:=hid (((HB.out.trans (b7.mono HB.out.size))).alloc (by have:=b7.size;have:=HB.out.size;omega) (Obj.cells #[.int .i64 a,.int .i64 b] 154));have HI7:=hid (zac (qBa b7 HI.out) (Obj.cells #[.int .i64 a,.int .i64 b] 154));have HR7:=hid (zac (qBa b7 HR.out) (Obj.cells #[.int .i64 a,.int .i64 b] 154));have HC7:=hid (zac (qBa b7 HC.out) (Obj.cells #[.int .i64 a,.int .i64 b] 154));have HO7:=hid ((zdd HO.out b7).alloc (Obj.cells #[.int .i64 a,.int .i64 b] 154));have hX7:=heap_alloc_new w7 (Obj.cells #[.int .i64 a,.int .i64 b] 154);have hs8:(w7.alloc (Obj.cells #[.int .i64 a,.int .i64 b] 154)).heap.size=w7.heap.size+1:=by simp
     have hs7:w3.heap.size+1≤w7.heap.size:=by have:=b7.size;omega
     obtain⟨W8,hW8⟩:∃ X,X=w7.alloc (Obj.cells #[.int .i64 a,.int .i64 b] 154):=⟨_,rfl⟩;rw [←hW8] at HB7 HI7 HR7 HC7 HO7 hX7 hs8 ⊢;clear hW8 HB HI HR HC HO b7 d0 d1 d2 d3;cases ok
     ·have n0:=zaa HR7.out 0
      have n1:=zaa HR7.out 1;have y0:=zab HR7.out 0;have y1:=zab HR7.out 1;have hCC:=Dl.blk_put0 (i:=1) (u:=.slice none 0 0) (Dl.blk_put0 (i:=0) (u:=.slice none 0 0) HR7.out);go_wp2;exact zje rfl rfl rfl rfl hCC ⟨_,_,_,_,_,_,_,190,rfl,fun h=>absurd h (by decide),(HB7.out.setCell (by simp) _).setCell (by simp) _⟩
     ·obtain⟨ua,uc,rfl,_,_⟩:=zar HO7.out
      have m0:=zaa HC7.out 1;have x0:=zaa hX7 0;have x1:=zaa hX7 1;have hnews:∀ (j:Nat) (u:Value),[Value.int .i64 a,.int .i64 b][j]? =some u→(W8.alloc (Obj.cells #[.int .i64 a,.int .i64 b] 154)).cell? ((⟨W8.heap.size,0,none⟩:Addr).add j)=some u:=fun j u hj=>by
       rw [za8,Nat.zero_add,World.cell?_alloc_at _ _ _ _ rfl];simpa using hj
      go_upto_region 19 with fail
      clear hs8;refine wp_region_lit ?_;refine wpList_plain rfl fun K hK=>?_;go_simp;refine hK _ _ ?_;clear hK K;refine wpList_plain rfl fun K hK=>?_;go_simp;refine hK _ _ ?_;clear hK K;refine wpList_plain rfl fun K hK=>?_;go_simp;refine hK _ _ ?_;clear hK K;refine wpList_plain rfl fun K hK=>?_;go_simp;refine hK _ _ ?_;clear hK K;refine wpList_append_own _ rfl _ _ 95 rfl (w3.heap.size+1) 154 j0 _ 2 16 Tryz.underlying95 hj hj0 hj1 hj2 rfl (by decide) _ _ _ rfl (HO7.out.alloc _) ⟨W8.heap.size,0,none⟩ 1 1 [.int .i64 a,.int .i64 b] rfl rfl hnews (by simp [Value.oneCell']) (by unfold maxLen;omega) (by omega) (by have:=(Array.getElem?_eq_some_iff.1 hX7).1;simp;omega) ?_;intro v' w9 h9 g9 _;obtain⟨ua9,uc9,rfl,_,_⟩:=zar h9;have b9:Below (w3.heap.size+1) W8 w9:=((Below.refl (w3.heap.size+1) W8).alloc (by have:=(Array.getElem?_eq_some_iff.1 hX7).1;omega) (Obj.cells #[.int .i64 a,.int .i64 b] 154)).trans ((Save.of_grown g9).below (Below.refl (w3.heap.size+1) _) (by have:=(Array.getElem?_eq_some_iff.1 hX7).1;simp;omega) (fun k hk=>(HO7.out.lt k hk).1));have p9:=(b9.block _ (by omega)).trans HC7.out;have m9:=zaa p9 1;have f9:=zab p9 1;have e9:zgp sp k 2 ++ [Value.int .i64 a,.int .i64 b]=zgp (fun j=>if j=k then (fun l=>if l=0 then a else b) else sp j) (k+1) 2:=by rw [zyo];rfl
      rw [e9] at h9;have HCF:=hid (Dl.blk_put0 (i:=1) (u:=.slice ua9 (k+1) uc9) p9);have hOF:=hid (zhq h9 (show w3.heap.size < w3.heap.size+1 by omega) 1 (.slice ua9 (k+1) uc9));have HIF:=hid ((heap_setCell_other w9 ⟨w3.heap.size,1,none⟩ w.heap.size (.slice ua9 (k+1) uc9) (by show w.heap.size≠w3.heap.size;omega)).trans ((b9.block _ (by omega)).trans HI7.out));have HRF:=hid ((heap_setCell_other w9 ⟨w3.heap.size,1,none⟩ (w.heap.size+1) (.slice ua9 (k+1) uc9) (by show w.heap.size+1≠w3.heap.size;omega)).trans ((b9.block _ (by omega)).trans HR7.out));have HBF:=hid ((HB7.out.trans (b9.mono (by omega))).setCell (p:=⟨w3.heap.size,1,none⟩) (by show w.heap.size≤w3.heap.size;omega) (.slice ua9 (k+1) uc9));have hszF:w3.heap.size+1≤(w9.setCell ⟨w3.heap.size,1,none⟩ (.slice ua9 (k+1) uc9)).heap.size:=by have:=b9.size;have:=(Array.getElem?_eq_some_iff.1 hX7).1;simp;omega
      clear h9 g9 b9 p9 HC7 HO7 HI7 HR7 HB7 m0 hnews e9 x0 x1 hX7;go_wp2;go_roundw
      case rel=>exact⟨k+1,_,_,by go_num,by omega,HCF,hOF,HIF,HRF,HBF.out,hszF⟩
      case measure=>simp [intOf];omega
    ·obtain rfl:k=en:=by omega
     have t0:decide ((k:Int) < (k:Int))=false:=by simp
     obtain⟨ua,uc,rfl,hF,hY⟩:=zfz HO.out;have m0:=zaa HC.out 0;have m1:=zaa HC.out 1;have n0:=zaa HR.out 0;have n1:=zaa HR.out 1;have y0:=zab HR.out 0;have y1:=zab HR.out 1;have hCC:=Dl.blk_put0 (i:=1) (u:=.slice ua k uc) (Dl.blk_put0 (i:=0) (u:=.slice va i vc) HR.out);have kk:FT (fun t=>t=97) w.heap.size wr _:=(FT.set (M:=fun t=>t=97) (i:=0) HR.out rfl (by omega) (.slice va i vc)).trans (FT.set (M:=fun t=>t=97) (i:=1) (Dl.blk_put0 (i:=0) (u:=.slice va i vc) HR.out) rfl (by omega) (.slice ua k uc));go_wp2;exact zje rfl rfl rfl rfl hCC ⟨_,_,_,_,_,_,_,0,rfl,fun _=>⟨hok,rfl,sp,hF.keep hY (by decide) kk,hY.keep (by decide) kk⟩,(HB.out.setCell (by simp) _).setCell (by simp) _⟩
def zyw (sb:Nat) (y:Img) (ca ce:Option Addr) (cl cc cn cd:Nat):Array Value:=#[.pointer (some ⟨sb,0,none⟩),.int .u32 0,.int .i64 y.r,.slice y.ao y.n y.cap,.slice y.mo y.mn y.mc,.slice y.eo y.en y.ec,.slice ca cl cc,.slice ce cn cd,.int .i64 0,.int .i64 0,.int .i64 0,.int .i64 0,.int .i64 0,.int .i64 0,.int .i64 0,.int .i64 0,.int .i64 0,.int .i64 0,.int .i64 0,.int .i64 0,.int .i64 0,.int .i64 0,.int .i64 0,.int .i64 0,.int .i64 0,.int .i64 0,.int .i64 0,.int .i64 0,.int .i64 0,.int .i64 0,.int .i64 0,.int .i64 0,.int .i64 0,.int .i64 0,.int .i64 0,.int .i64 0,.int .i64 0,.int .i64 0,.int .i64 0,.int .i64 0,.pointer none,.slice none 0 0,.int .u32 0,.int .i64 0,.slice none 0 0]
def zBq (x:Img) (M:Nat→za9) (q:Nat→Nat→Nat→Int):Prop:=∀ m,m < x.mn→∀ i,i < (M m).qn→q m i 1=1
def CoreNewA (x:Img) (g:Nat→Nat→Int) (M:Nat→za9) (q:Nat→Nat→Nat→Int) (h:Nat→Nat→Int) (w:World) (e:Ending) (w':World):Prop:=
 Below w.heap.size w w'∧((∃ at_ er:Int,er≠0∧e=.returned (.tuple #[.pointer none,.int .i64 at_,.int .i64 er]))∨
  (OkX x g M q h∧∃ (c:za3) (z:zbp),e=.returned (.tuple #[.pointer (some ⟨c.cb,0,none⟩),.int .i64 0,.int .i64 0])∧z.evs=[]∧z.u.tot=0∧c.d.base=w.heap.size∧(zBq x M q→zuc c∧zba c w' z)))
set_option maxHeartbeats 4000000 in
theorem ztw (x:Img) (g:Nat→Nat→Int) (M:Nat→za9) (q:Nat→Nat→Nat→Int) (h:Nat→Nat→Int) (w:World) (hx:znd w x g M q h) (hTab:Tab w) (hpos:0 < w.heap.size):
  Calls Tryz.prog 49 #[iv x] w (CoreNewA x g M q h w):=by
 have HAD:=hid fun X (hX:Below w.heap.size w X)=>zrv x g M q h X (hx.below hX) (hTab.below hX hTab.pos);have HCP:=hid fun (hk:OkX x g M q h) X (hX:Below w.heap.size w X)=>zvl x M g q h X (hx.tasks.below hX) (hx.modes.below hX) (fun i hi=>(hx.queues i hi).below hX) (hx.edges.below hX) (by have:=hk.n2;omega) hk.m1 (by have:=hk.m2;omega) (by have:=hk.e;omega) (fun i hi=>by have:=(hk.mq i hi).1;omega);have HSN:=hid fun X (hX:Below w.heap.size w X)=>zxy w.heap.size X hX.size;unfold iv at HAD HCP ⊢;unfold zCj at HAD;have b1:Below w.heap.size w (w.alloc (Obj.cells #[.int .i64 x.r,.slice x.ao x.n x.cap,.slice x.mo x.mn x.mc,.slice x.eo x.en x.ec] 26)):=(Below.refl _ _).alloc (Nat.le_refl _) _;have bI1:=heap_alloc_new w (Obj.cells #[.int .i64 x.r,.slice x.ao x.n x.cap,.slice x.mo x.mn x.mc,.slice x.eo x.en x.ec] 26);go_enter Tryz.func49,Tryz.ntmps49
 go_upto_region 2 with (go_at_call 34;refine (HAD.out _ b1).mono ?_;rintro e w2 ⟨ca,ce,cl,cc,cn,cd,at_,er,rfl,hcert,b2⟩)
 have HCE:=hid hcert;have b3:=(b1.trans (b2.mono b1.size)).alloc (b1.trans (b2.mono b1.size)).size (Obj.cells #[.slice ca cl cc,.slice ce cn cd] 97);have bI3:=zac ((b2.block _ (by simp)).trans bI1) (Obj.cells #[.slice ca cl cc,.slice ce cn cd] 97);have bC3:=heap_alloc_new w2 (Obj.cells #[.slice ca cl cc,.slice ce cn cd] 97);have bz2:=(Below.refl w2.heap.size w2).alloc (Nat.le_refl _) (Obj.cells #[.slice ca cl cc,.slice ce cn cd] 97);obtain⟨pc,hpc⟩:∃ p,w2.heap.size=p:=⟨_,rfl⟩;rw [hpc] at bC3;obtain⟨W3,hW3⟩:∃ X,X=w2.alloc (Obj.cells #[.slice ca cl cc,.slice ce cn cd] 97):=⟨_,rfl⟩;rw [←hW3] at b3 bI3 bC3 bz2 ⊢;rw [hpc];clear hW3 hcert b1 bI1 HAD hpc;by_cases he:er=0
 case neg=>
  have u1:(er != 0)=true:=by simpa using he
  go_wp2
  go_ret3
  exact⟨b3,.inl ⟨_,_,he,rfl⟩⟩
 subst he;obtain⟨hk,hcn,sp,hsp,hty⟩:=HCE.out rfl;have HCP:=hid (HCP.out hk);have i0:=zaa bI3 0;have i1:=zaa bI3 1;have i2:=zaa bI3 2;have i3:=zaa bI3 3;have k0:=zaa bC3 0;have k1:=zaa bC3 1;have HCN:=hid hcn;clear hcn
 go_upto_region 4 with fail
 refine zah [0,2,4,5,6] (fun X=>Below W3.heap.size W3 X) (by kernel_rfl) (by kernel_rfl) (⟨rfl,rfl,rfl,Nat.le_refl _,fun _ _=>rfl⟩:Below W3.heap.size W3 W3.drew) ?_;refine qFc ?_;refine qFs fun K hK=>?_;go_simp;refine⟨.agg #[.int .i64 x.r,.slice x.ao x.n x.cap,.slice x.mo x.mn x.mc,.slice x.eo x.en x.ec],fun X hX=>?_,hK _ ?_⟩
 ·have z0:=kept i0 hX
  have z1:=kept i1 hX;have z2:=kept i2 hX;have z3:=kept i3 hX;go_simp
 clear hK K;refine qFc ?_;refine qFs fun K hK=>?_;go_simp;refine⟨.agg #[.slice ca cl cc,.slice ce cn cd],fun X hX=>?_,hK _ ?_⟩
 ·have z0:=kept k0 hX
  have z1:=kept k1 hX;go_simp
 clear hK K;refine qFc ?_;refine qFc ?_;refine qFc ?_;refine zau ?_;have B0:Below W3.heap.size W3 W3.drew:=⟨rfl,rfl,rfl,Nat.le_refl _,fun _ _=>rfl⟩;refine qT1 0 [2,4,5,6] fun K hK=>?_;dsimp only [List.getElem_toArray,List.getElem_cons_succ,List.getElem_cons_zero]
 go_wp2_with fail
 refine (HSN.out _ (b3.trans (B0.mono b3.size))).mono ?_;rintro e W4 ⟨sb,rfl,hs4,b4⟩;have b5:=B0.trans (b4.mono B0.size)
 go_wp2_with fail
 refine hK _ _ b5 ?_;clear hK K;refine qT1 2 [4,5,6] fun K hK=>?_;dsimp only [List.getElem_toArray,List.getElem_cons_succ,List.getElem_cons_zero]
 go_wp2_with fail
 refine (HCP.out _ (b3.trans (b5.mono b3.size))).mono ?_;rintro e W6 ⟨y,R,rfl,hy,hR,hOy,b6⟩;have HY:=hid hy;have HR:=hid hR;clear hy hR;have b7:=b5.trans (b6.mono b5.size);unfold iv
 go_wp2_with fail
 refine hK _ _ b7 ?_;clear hK K;refine qT1 4 [5,6] fun K hK=>?_;dsimp only [List.getElem_toArray,List.getElem_cons_succ,List.getElem_cons_zero];refine zbv rfl (v:=.agg (zyw sb y ca ce cl cc cn cd)) (by kernel_rfl) ?_;refine hK _ _ b7 ?_;clear hK K;refine qT1 5 [6] fun K hK=>?_;dsimp only [List.getElem_toArray,List.getElem_cons_succ,List.getElem_cons_zero]
 go_wp2_with fail
 have b8:=b7.alloc b7.size (.cells (zyw sb y ca ce cl cc cn cd) 148);refine hK _ _ b8 ?_;clear hK K;refine qT1 6 [] fun K hK=>?_;dsimp only [List.getElem_toArray,List.getElem_cons_succ,List.getElem_cons_zero]
 go_wp2_with fail
 refine hK _ _ b8 ?_;clear hK K;refine zan ?_;have hs8:zb8 (W6.alloc (.cells (zyw sb y ca ce cl cc cn cd) 148)) w.heap.size sb:=(hs4.below b6).below ((Below.refl _ _).alloc (Nat.le_refl _) _);have hO8:=hOy.keep zb6 (FT.alloc (base:=0) W6 (.cells (zyw sb y ca ce cl cc cn cd) 148));have bK8:=heap_alloc_new W6 (.cells (zyw sb y ca ce cl cc cn cd) 148);have b82:=bz2.trans (b8.mono bz2.size);have hsp8:=hsp.below b82;have hty8:=hty.keep (M:=fun _=>False) (base:=0) id (FT.of_below b82);have k0':=kept k0 b8;have k1':=kept k1 b8;have bw8:=b3.trans (b8.mono b3.size);have hcbl:w.heap.size≤W6.heap.size:=Nat.le_trans b3.size b7.size;obtain⟨cb,hcb⟩:∃ p,W6.heap.size=p:=⟨_,rfl⟩;rw [hcb] at bK8 hcbl;rw [hcb];obtain⟨W8,hW8⟩:∃ X,X=W6.alloc (.cells (zyw sb y ca ce cl cc cn cd) 148):=⟨_,rfl⟩;rw [←hW8] at hs8 hO8 bK8 b82 hsp8 hty8 k0' k1' bw8 ⊢;clear hW8 hcb b8 b7 b6 b5 b4 hs4 hOy B0 k0 k1 i0 i1 i2 i3 hsp hty HCE bI3 bC3 bz2 b3 b2 HCP HSN b82;have hyr:=HY.out;have hm0:0 < y.mn:=by have:=hk.m1;omega
 have HEN:=hid fun X (hX:Below W8.heap.size W8 X)=>zyt y R g q h ca ce cl cc cn cd w.heap.size X (Nat.le_trans bw8.size hX.size) (hO8.keep zb6 (FT.of_below (base:=0) hX)) (by have:=hk.n2;omega) hm0 (by have:=hk.m2;omega) (by have:=hk.e;omega) (fun i hi=>by have:=(hk.mq i (by omega)).1;have:=(HR.out i (by omega)).2;omega);unfold zCf iv at HEN;clear hyr;have i0:W8.cell? ⟨cb,2,none⟩=some (.int .i64 y.r):=zaa bK8 2;have i1:W8.cell? ⟨cb,3,none⟩=some (.slice y.ao y.n y.cap):=zaa bK8 3;have i2:W8.cell? ⟨cb,4,none⟩=some (.slice y.mo y.mn y.mc):=zaa bK8 4;have i3:W8.cell? ⟨cb,5,none⟩=some (.slice y.eo y.en y.ec):=zaa bK8 5
 go_upto_region 5 with fail
 refine zah [6,7,8,9] (fun X=>Below W8.heap.size W8 X) (by kernel_rfl) (by kernel_rfl) (⟨rfl,rfl,rfl,Nat.le_refl _,fun _ _=>rfl⟩:Below W8.heap.size W8 W8.drew) ?_;refine qFs fun K hK=>?_;go_simp;refine⟨_,fun _ _=>rfl,hK _ ?_⟩;clear hK K;refine qFs fun K hK=>?_;go_simp;refine⟨_,fun _ _=>rfl,hK _ ?_⟩;clear hK K;refine qFs fun K hK=>?_;go_simp;refine⟨_,fun _ _=>rfl,hK _ ?_⟩;clear hK K;refine qFs fun K hK=>?_;go_simp;refine⟨_,fun _ _=>rfl,hK _ ?_⟩;clear hK K;refine qFs fun K hK=>?_;go_simp;refine⟨.agg #[.int .i64 y.r,.slice y.ao y.n y.cap,.slice y.mo y.mn y.mc,.slice y.eo y.en y.ec],fun X hX=>?_,hK _ ?_⟩
 ·have z0:=kept i0 hX
  have z1:=kept i1 hX;have z2:=kept i2 hX;have z3:=kept i3 hX;go_simp
 clear hK K;refine qFs fun K hK=>?_;go_simp;refine⟨.agg #[.slice ca cl cc,.slice ce cn cd],fun X hX=>?_,hK _ ?_⟩
 ·have z0:=kept k0' hX
  have z1:=kept k1' hX;go_simp
 clear hK K;refine qFc ?_;refine qFc ?_;refine qFc ?_;refine qFc ?_;refine zau ?_;have B0:Below W8.heap.size W8 W8.drew:=⟨rfl,rfl,rfl,Nat.le_refl _,fun _ _=>rfl⟩;refine qT1 6 [7,8,9] fun K hK=>?_;dsimp only [List.getElem_toArray,List.getElem_cons_succ,List.getElem_cons_zero]
 go_wp2_with fail
 refine (HEN.out _ B0).mono ?_;rintro e W9 ⟨y2,R2,eb,rfl,hy2,hR2,hO9,hE9,b9'⟩;have HY2:=hid hy2;have HR2:=hid hR2;clear hy2 hR2;have b9:=B0.trans (b9'.mono B0.size)
 go_wp2_with fail
 refine hK _ _ b9 ?_;clear hK K;refine qT1 7 [8,9] fun K hK=>?_;dsimp only [List.getElem_toArray,List.getElem_cons_succ,List.getElem_cons_zero]
 go_wp2_with fail
 refine hK _ _ b9 ?_;clear hK K;refine qT1 8 [9] fun K hK=>?_;dsimp only [List.getElem_toArray,List.getElem_cons_succ,List.getElem_cons_zero]
 go_wp2_with fail
 refine hK _ _ b9 ?_;clear hK K;have bK9:=qBa b9 bK8;have c40:W9.cell? ⟨cb,40,none⟩=some (.pointer none):=zaa bK9 40;have f40:=zab bK9 40;refine zcy (m:=0) (i:=9) (rem1:=[]) (by kernel_rfl) (by rfl) (by rfl) (by kernel_rfl) (fun K hK=>?_);dsimp only [List.getElem_toArray,List.getElem_cons_succ,List.getElem_cons_zero]
 go_wp2_with fail
 refine zan ?_;have k10:FT CbT w.heap.size W9 (W9.setCell ⟨cb,40,none⟩ (.pointer (some ⟨eb,0,none⟩))):=FT.set (M:=CbT) (i:=40) bK9 rfl hcbl _;have bK10:=Dl.blk_put0 (i:=40) (u:=.pointer (some ⟨eb,0,none⟩)) bK9;have hO10:=(hO8.keep zb6 (FT.of_below (base:=0) b9)).keep zg8 k10;have hP10:=hO9.keep zg8 k10;have hs10:=(hs8.below b9).keep k10 (by unfold CbT;decide);have hE10:=hE9.keep k10 (by unfold CbT;decide) (by unfold CbT;decide);have hty9:=hty8.keep (M:=fun _=>False) (base:=0) id (FT.of_below b9);have hsp10:=(hsp8.below b9).keep hty9 (by unfold CbT;decide) k10;have hty10:=hty9.keep (by unfold CbT;decide) k10;have bw9:=bw8.trans (b9.mono bw8.size);have bw10:=bw9.trans (k10.below bw9.size);obtain⟨W10,hW10⟩:∃ X,X=W9.setCell ⟨cb,40,none⟩ (.pointer (some ⟨eb,0,none⟩)):=⟨_,rfl⟩;rw [←hW10] at bK10 hO10 hP10 hs10 hE10 hsp10 hty10 bw10 ⊢;clear hW10 k10 hO9 hs8 hE9 hty9 hty8 hsp8 hO8 bw8 bw9 b9 b9' bK8 bK9 c40 f40 i0 i1 i2 i3 k0' k1' HEN B0;have HR0:=HR.out 0 (by have:=hk.m1;omega);have hR0:zvw (R 0).qn (q 0):=by
  obtain⟨m1,m2⟩:=hk.mq 0 (by have:=hk.m1;omega);rw [HR0.2];exact⟨m1,fun j hj=>zgk.2 ⟨⟨(m2 j hj).c1,(m2 j hj).c2⟩,(m2 j hj).p1,(m2 j hj).p2⟩⟩
 clear HR0;have HMK:=hid (zqz (R 0).qo (R 0).qn (R 0).qc (q 0) W10 (zj3 (hO10.queues 0 hm0)) hR0);unfold zvz at HMK;have c4:W10.cell? ⟨cb,4,none⟩=some (.slice y.mo y.mn y.mc):=(zaa bK10 4).trans (by rfl);obtain⟨mb,mo,hme,_,kq⟩:=hO10.modes 0 hm0;have kq':W10.cell? ⟨mb,mo+1,none⟩=some (.slice (R 0).qo (R 0).qn (R 0).qc):=by simpa using kq
 rw [hme] at c4;clear hme kq;have hm0':(0:Int) < (y.mn:Int):=by omega
 go_upto_region 7 with (go_at_call 107;refine HMK.out.mono ?_;rintro e W11 ⟨P,v,rfl,o11,q11,b11⟩;obtain⟨va,vc,rfl,_,_⟩:=zb9 o11;have bK11:=qBa b11 bK10;have c41:W11.cell? ⟨cb,41,none⟩=some (.slice none 0 0):=(zaa bK11 41).trans (by rfl);have f41:=zab bK11 41)
 have k12:FT CbT w.heap.size W11 (W11.setCell ⟨cb,41,none⟩ (.slice va (R 0).qn vc)):=FT.set (M:=CbT) (i:=41) bK11 rfl hcbl _;have bK12:=Dl.blk_put0 (i:=41) (u:=.slice va (R 0).qn vc) bK11;have nb:FT (fun _=>False) 0 W10 W11:=FT.of_below b11;have hO12:=(hO10.keep zb6 nb).keep zg8 k12;have hP12:=(hP10.keep zb6 nb).keep zg8 k12;have hs12:=(hs10.below b11).keep k12 (by unfold CbT;decide);have hE12:=(hE10.below b11).keep k12 (by unfold CbT;decide) (by unfold CbT;decide);have hty11:=hty10.keep id nb;have hsp12:=(hsp10.below b11).keep hty11 (by unfold CbT;decide) k12;have hty12:=hty11.keep (by unfold CbT;decide) k12;have bw11:=bw10.trans (b11.mono bw10.size);have bw12:=bw11.trans (k12.below bw11.size);have ho12:QuAt w.heap.size ⟨(R 0).qn,P,fresh (q 0)⟩ (W11.setCell ⟨cb,41,none⟩ (.slice va (R 0).qn vc)) (.slice va (R 0).qn vc):=QuAt.keep (M:=CbT) (base:=w.heap.size) ⟨zkt o11 bw10.size,Qs.base q11 bw10.size⟩ (by unfold CbT;decide) (by unfold CbT;decide) (by unfold CbT;decide) k12;obtain⟨W12,hW12⟩:∃ X,X=W11.setCell ⟨cb,41,none⟩ (.slice va (R 0).qn vc):=⟨_,rfl⟩;rw [←hW12] at bK12 hO12 hP12 hs12 hE12 hsp12 hty12 bw12 ho12 ⊢;clear hW12 k12 bK11 nb hO10 hP10 hs10 hE10 hty10 hty11 hsp10 bw10 bw11 o11 q11 b11 c41 f41 bK10 HMK c4 kq';have hdy:=HY.out;have hd2:=HY2.out;have hTab12:=hTab.below bw12 hTab.pos;obtain⟨c,hcc⟩:∃ c:za3,c=⟨⟨w.heap.size,eb,y2,ca,cl,cc,ce,cn,cd,R2,h,sp⟩,cb,sb,y,R,g,q,h⟩:=⟨_,rfl⟩;have HCO:zbc c W12 (.slice va (R 0).qn vc) (.int .u32 ((0:Nat):Int)) (.int .i64 0) (.slice none 0 0):=by
  subst hcc;exact⟨(zaa bK12 0).trans (by rfl),(zaa bK12 2).trans (by rfl),(zaa bK12 3).trans (by rfl),(zaa bK12 4).trans (by rfl),(zaa bK12 5).trans (by rfl),(zaa bK12 40).trans (by rfl),(zaa bK12 41).trans (by rfl),(zaa bK12 42).trans (by rfl),(zaa bK12 43).trans (by rfl),(zaa bK12 44).trans (by rfl),fun o=>zab bK12 o,⟨_,bK12⟩,hcbl⟩
 have htb:∀ i,i < y2.mn→(R2 i).t < 4294967296:=fun i hi=>by
  have a1:=(HR2.out i (by omega)).1;have a2:=(HR.out i (by omega)).1;have a3:=hx.tb i (by omega);omega
 have hokE:∀ i,i < x.en→OkE y2 (h i):=fun i hi=>by
  have a:=hk.edges i hi;have e:y2.mn=x.mn:=by omega
  exact⟨a.f1,by rw [e];exact a.f2,a.t1,by rw [e];exact a.t2,a.p1,a.p2⟩
 have HD:c.d.at_ W12 eng0 []:=by
  subst hcc;exact⟨hE12,⟨hP12.modes,hP12.edges,by rw [HCN.out];rw [HCN.out] at hsp12;exact hsp12,hP12.tm,hP12.te,hty12,fun i hi=>hokE i (by dsimp only at hi;omega),htb,by have:=hk.e;dsimp only;omega,by have:=hk.m2;dsimp only;omega,by have:=HCN.out;have:=hk.e;dsimp only;omega⟩,hTab12,hpos⟩
 have HEO:zib c.d.y eng0 []:=by
  subst hcc;exact⟨by decide,by show (0:Int) < (y2.mn:Int);omega,.inl rfl,fun h=>absurd rfl h,by show (-1:Int) < (y2.en:Int);omega,by decide,by simp [Dl.cnt],by simp [Dl.cnt]⟩
 have hcx:c.x=y∧c.R=R∧c.g=g∧c.q=q∧c.h=h∧c.d.y=y2∧c.d.base=w.heap.size∧c.sb=sb∧c.cb=cb:=by subst hcc;exact⟨rfl,rfl,rfl,rfl,rfl,rfl,rfl,rfl,rfl⟩
 obtain⟨x1,x2,x3,x4,x5,x6,x7,x8,x9⟩:=hcx;clear hcc;rw [←x1,←x2,←x3,←x4,←x5] at hO12;have hs12':zb8 W12 c.d.base c.sb:=by rw [x7,x8];exact hs12
 have HTA:=hid (zik c eng0 [] (.slice va (R 0).qn vc) (.int .i64 0) (.slice none 0 0) 0 W12 HEO HD HCO hs12' hO12).1;rw [x9] at HTA;have HX:=hid (show (c.x=y∧c.R=R∧c.g=g∧c.q=q∧c.h=h∧c.d.y=y2∧c.d.base=w.heap.size∧c.sb=sb∧c.cb=cb)∧(y.r=x.r∧y.n=x.n∧y.mn=x.mn∧y.en=x.en)∧(y2.r=y.r∧y2.n=y.n∧y2.mn=y.mn∧y2.en=y.en) from ⟨⟨x1,x2,x3,x4,x5,x6,x7,x8,x9⟩,hdy,hd2⟩);have HB12:=hid bw12;clear x1 x2 x3 x4 x5 x6 x7 x8 x9 hdy hd2 bK12 hs12 hE12 hsp12 hty12 hP12 htb hokE hm0' hm0 bw12 HY HY2
 go_wp2_with (go_at_call 108;refine HTA.out.mono ?_;rintro e W13 ⟨⟨v13,rfl⟩,⟨ac,hc13⟩,hs13,F13⟩)
 go_ret3
 obtain⟨⟨x1,x2,x3,x4,x5,x6,x7,x8,x9⟩,hdy,hd2⟩:=HX.out;have bw:=HB12.out;have hb12:c.d.base≤W12.heap.size:=by rw [x7];exact bw.size
 have F13':=F13.below hb12;rw [x7] at F13';refine⟨bw.trans F13',.inr ⟨hk,c,⟨eng0,[],⟨(R 0).qn,P,fresh (q 0)⟩,[]⟩,by rw [x9];rfl,rfl,?_,x7,fun hr=>⟨⟨?_,?_,?_,?_⟩,⟨⟨_,_,_,ac,hc13,?_,World.ownsRow_nil _ _ _ _⟩,⟨hs13,?_,hO12.keep zil F13⟩,HEO,?_⟩⟩⟩⟩
 ·show sumQ (fun i=>([]:List Int).length) (R 0).qn=0
  generalize (R 0).qn=n
  induction n with
  |zero=>rfl
  |succ n ih=>show sumQ _ n+0=0;rw [ih]
 ·rw [x6,x1];exact hd2.2.2.2
 ·rw [x1,x5]
  intro i hi;have a:=hk.edges i (by omega);exact⟨a.t1,by have:=a.t2;omega⟩
 ·rw [x5];exact hx.hwf
 ·rw [x1,x2,x4]
  intro m hm;obtain⟨m1,m2⟩:=hk.mq m (by omega);have e:=(HR.out m (by omega)).2;rw [e];exact⟨⟨m1,fun j hj=>zgk.2 ⟨⟨(m2 j hj).c1,(m2 j hj).c2⟩,(m2 j hj).p1,(m2 j hj).p2⟩⟩,fun i hi=>hr m (by omega) i hi⟩
 ·rw [x7]
  rw [x7] at F13;exact ho12.keep (by unfold TabT;decide) (by unfold TabT;decide) (by unfold TabT;decide) F13
 ·exact⟨HD.eng.keep F13 (by unfold TabT;decide) (by unfold TabT;decide),HD.env.keep zil F13,HD.tab.below (F13.below hb12) HD.pos,HD.pos⟩
 ·have hm:=hk.m1
  obtain⟨m1,m2⟩:=hk.mq 0 (by omega);have e:=(HR.out 0 (by omega)).2;refine⟨by dsimp only;rw [e];exact m1,fun i hi=>?_⟩;dsimp only at hi;rw [e] at hi;have b:=m2 i hi;have b1:=b.c1;have b2:=b.c2;refine⟨?_,hr 0 (by omega) i hi,Nat.zero_le _⟩;show 1≤(q 0 i 0).toNat∧(q 0 i 0).toNat≤16;omega
structure OpR where
 k:Int
 t:Int
 n:Int
 so:Option Addr
 sn:Nat
 sc:Nat
@[reducible] def opV (o:OpR):Value:=.agg #[.int .i64 o.k,.int .i64 o.t,.int .i64 o.n,.slice o.so o.sn o.sc]
def zua (w:World) (ao:Option Addr) (n:Nat) (f:Nat→OpR):Prop:=∀ i,i < n→∃ b o,ao=some ⟨b,o,none⟩∧w.cell? ⟨b,o+i * 4,none⟩=some (.int .i64 (f i).k)∧w.cell? ⟨b,o+i * 4+1,none⟩=some (.int .i64 (f i).t)∧w.cell? ⟨b,o+i * 4+2,none⟩=some (.int .i64 (f i).n)∧w.cell? ⟨b,o+i * 4+3,none⟩=some (.slice (f i).so (f i).sn (f i).sc)
theorem zua.below {w w':World} {ao:Option Addr} {n:Nat} {f:Nat→OpR} (h:zua w ao n f) (hb:Below w.heap.size w w'):zua w' ao n f:=fun i hi=>by
 obtain⟨b,o,e,h0,h1,h2,h3⟩:=h i hi;exact⟨b,o,e,kept h0 hb,kept h1 hb,kept h2 hb,kept h3 hb⟩
def zyk (k:Int):Int:=(wrap64 (k.tmod 8+8)).tmod 8
def zng (n:Int):Int:=wrap64 ((wrap64 (n.tmod 100+100)).tmod 100+1)
theorem zog (k:Int) {m:Int} (hm:0 < m):-m < k.tmod m∧k.tmod m < m:=⟨Int.lt_tmod_of_pos k hm,Int.tmod_lt_of_pos k hm⟩
theorem zuf {k:Int} (m:Int) (h:0≤k):0≤k.tmod m:=Int.tmod_nonneg m h
theorem kindF_in (k:Int):0≤zyk k∧zyk k < 8:=by
 have h1:=zog k (m:=8) (by decide);have e:wrap64 (k.tmod 8+8)=k.tmod 8+8:=by unfold wrap64;omega
 unfold zyk;rw [e];exact⟨zuf _ (by omega),(zog _ (by decide)).2⟩
theorem zzc (n:Int):1≤zng n∧zng n≤100:=by
 have h1:=zog n (m:=100) (by decide);have e:wrap64 (n.tmod 100+100)=n.tmod 100+100:=by unfold wrap64;omega
 have h2:=zog (n.tmod 100+100) (m:=100) (by decide);have h3:=zuf (k:=n.tmod 100+100) 100 (by omega);unfold zng;rw [e];unfold wrap64;omega
set_option maxHeartbeats 1000000 in
theorem zu6 (o:OpR) (w:World):Calls Tryz.prog 19 #[opV o] w fun e w'=>e=.returned (.int .i64 (zyk o.k))∧Below w.heap.size w w':=by
 obtain⟨k,t,n,so,sn,sc⟩:=o;unfold opV;dsimp only;have hb:=(Below.refl w.heap.size w).alloc (Nat.le_refl _) (Obj.cells #[.int .i64 k,.int .i64 t,.int .i64 n,.slice so sn sc] 76);go_enter Tryz.func19,Tryz.ntmps19;go_wp2;go_ret;exact⟨rfl,hb⟩
set_option maxHeartbeats 1000000 in
theorem zp6 (o:OpR) (w:World):Calls Tryz.prog 22 #[opV o] w fun e w'=>e=.returned (.int .i64 (zng o.n))∧Below w.heap.size w w':=by
 obtain⟨k,t,n,so,sn,sc⟩:=o;unfold opV;dsimp only;have hb:=(Below.refl w.heap.size w).alloc (Nat.le_refl _) (Obj.cells #[.int .i64 k,.int .i64 t,.int .i64 n,.slice so sn sc] 76);go_enter Tryz.func22,Tryz.ntmps22;go_wp2;go_ret;exact⟨rfl,hb⟩
def GreatA (w:World) (e:Ending) (w':World):Prop:=(∃ b:Bool,e=.returned (.bool b))∧Below w.heap.size w w'
set_option maxHeartbeats 2000000 in
theorem ztc (ao:Option Addr) (n ca:Nat) (f:Nat→OpR) (most:Int) (w:World) (hn:n≤maxLen) (hO:zua w ao n f):
  Calls Tryz.prog 17 #[.slice ao n ca,.int .i64 most] w (GreatA w):=by
 unfold maxLen at hn;have HO:=hid hO;clear hO;go_enter Tryz.func17,Tryz.ntmps17;go_wp2
 go_loopw [5,6] (fun n_ i_ wr=>∃ (i:Nat) (s:Int),i_=.int .i64 i∧n_=.int .i64 s∧i≤n∧Hid (Below w.heap.size w wr)) (fun _ i_ _=>n - (intOf i_).toNat)
 case atStart=>exact⟨0,0,rfl,rfl,Nat.zero_le _,Below.refl _ _⟩
 case round=>
  obtain⟨i,s,rfl,rfl,hi,HB⟩:=hrel;by_cases hlt:i < n
  ·have t0:decide ((i:Int) < (n:Int))=true:=by simp;omega
   have i0:(0:Int)≤(i:Int):=by omega
   have i1:(i:Int) < (n:Int):=by omega
   by_cases hm:(i:Int)≤most
   ·have t1:decide ((i:Int)≤most)=true:=by simpa using hm
    obtain⟨b,o,rfl,c0,c1,c2,c3⟩:=HO.out.below HB.out i hlt;have HK:=hid (zu6 (f i) wr);have HT:=hid fun X=>zp6 (f i) X;obtain⟨x,hx⟩:∃ x,f i=x:=⟨_,rfl⟩;rw [hx] at c0 c1 c2 c3 HK HT;obtain⟨k,t,m,so,sn,sc⟩:=x;unfold opV at HK HT;dsimp only at c0 c1 c2 c3 HK HT;clear hx;obtain⟨K,hK⟩:∃ K,zyk k=K:=⟨_,rfl⟩;obtain⟨T,hT⟩:∃ T,zng m=T:=⟨_,rfl⟩;rw [hK] at HK;rw [hT] at HT;clear hK hT;by_cases h50:50 < sn
    ·have t5:decide ((50:Int) < (sn:Int))=true:=by simp;omega
     go_wp2;go_ret;exact⟨⟨_,rfl⟩,HB.out⟩
    ·have t5:decide ((50:Int) < (sn:Int))=false:=by simp;omega
     by_cases hk1:2≤K
     ·have t6:decide (2≤K)=true:=by simpa using hk1
      by_cases hk2:K < 5
      ·have t7:decide (K < 5)=true:=by simpa using hk2
       go_wp2_with (first|(go_at_call 19;refine HK.out.mono ?_;rintro e w2 ⟨rfl,b2⟩;have z0:=kept c0 b2;have z1:=kept c1 b2;have z2:=kept c2 b2;have z3:=kept c3 b2)|(go_at_call 22;refine (HT.out _).mono ?_;rintro e w3 ⟨rfl,b3⟩))
       go_roundw
       case rel=>exact⟨i+1,_,by go_num,rfl,by omega,hid (HB.out.trans ((b2.trans (b3.mono b2.size)).mono HB.out.size))⟩
       case measure=>simp [intOf];omega
      ·have t7:decide (K < 5)=false:=by simpa using hk2
       go_wp2_with (go_at_call 19;refine HK.out.mono ?_;rintro e w2 ⟨rfl,b2⟩)
       go_roundw
       case rel=>exact⟨i+1,s,by go_num,rfl,by omega,hid (HB.out.trans (b2.mono HB.out.size))⟩
       case measure=>simp [intOf];omega
     ·have t6:decide (2≤K)=false:=by simpa using hk1
      go_wp2_with (go_at_call 19;refine HK.out.mono ?_;rintro e w2 ⟨rfl,b2⟩)
      go_roundw
      case rel=>exact⟨i+1,s,by go_num,rfl,by omega,hid (HB.out.trans (b2.mono HB.out.size))⟩
      case measure=>simp [intOf];omega
   ·have t1:decide ((i:Int)≤most)=false:=by simpa using hm
    by_cases hg:most < (n:Int)
    ·have t8:decide (most < (n:Int))=true:=by simpa using hg
     go_wp2;go_ret;exact⟨⟨_,rfl⟩,HB.out⟩
    ·have t8:decide (most < (n:Int))=false:=by simpa using hg
     go_wp2;go_ret;exact⟨⟨_,rfl⟩,HB.out⟩
  ·have t0:decide ((i:Int) < (n:Int))=false:=by simp;omega
   by_cases hg:most < (n:Int)
   ·have t8:decide (most < (n:Int))=true:=by simpa using hg
    go_wp2;go_ret;exact⟨⟨_,rfl⟩,HB.out⟩
   ·have t8:decide (most < (n:Int))=false:=by simpa using hg
    go_wp2;go_ret;exact⟨⟨_,rfl⟩,HB.out⟩
end Go.Proofs.YtpbmmoneeoijaaaGreatDoor
