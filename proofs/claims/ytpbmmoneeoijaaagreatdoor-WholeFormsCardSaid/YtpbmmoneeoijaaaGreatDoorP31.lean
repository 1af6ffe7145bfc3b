/-
  A part of the proof: BusyV LongV WinEdgeV.
-/
import Derived.Test.YtpbmmoneeoijaaaGreatDoorP30
namespace Go.Proofs.YtpbmmoneeoijaaaGreatDoor
open Go.RowKit Go.Deep Go.Shelf
set_option maxRecDepth 100000
set_option maxHeartbeats 8000000
def zpj (f:Nat→TT) (k:Nat) (i:Nat):TT:=if i < k then { f i with k:=(f i).c } else f i
theorem zxd (f:Nat→TT):zpj f 0=f:=funext fun i=>if_neg (Nat.not_lt_zero i)
theorem zxe (f:Nat→TT) (k:Nat):zkg (zpj f k) k=zpj f (k+1):=funext fun i=>by
 unfold zkg zpj;by_cases h:i=k
 ·subst h
  rw [if_pos rfl,if_neg (Nat.lt_irrefl i),if_pos (Nat.lt_succ_self i)]
 ·rw [if_neg h]
  by_cases h2:i < k
  ·rw [if_pos h2,if_pos (by omega)]
  ·rw [if_neg h2,if_neg (by omega)]
def zxf (n:Nat) (g:Nat→Nat→Int) (s:Nat):Int×Bool:=zit 0 65536 (zpj (fOf g (zjv s n)) (zjv s n).length) (zjv s n).length
theorem busy_val (x:Img) (g:Nat→Nat→Int) (s:Nat) (w:World) (hs:s < 4294967296) (hn:x.n≤maxLen) (hT:zev w x.ao x.n g) (hTab:Tab w):
  Calls Tryz.prog 164 #[iv x,qU (s:Nat)] w fun e w'=>e=.returned (rv (zxf x.n g s))∧Below w.heap.size w w':=by
 have HTe:=hid fun X (hX:Below w.heap.size w X)=>ztf x g s X hs hn (hT.below hX) (hTab.below hX hTab.pos);obtain⟨r,ao,n,cap,mo,mn,mc,eo,en,ec⟩:=x;unfold iv at HTe ⊢;unfold zxf;dsimp only at HTe ⊢;clear hT hTab;have hB0:Below w.heap.size w (w.alloc (qC #[qI r,.slice ao n cap,.slice mo mn mc,.slice eo en ec] 26)):=qBr (w:=w) _;have hlen:=zll s n;obtain⟨m,hm⟩:∃ m,m=(zjv s n).length:=⟨_,rfl⟩;obtain⟨f0,hf⟩:∃ f,f=fOf g (zjv s n):=⟨_,rfl⟩;obtain⟨B,hBe⟩:∃ B,B=w.heap.size+1+1:=⟨_,rfl⟩;have HLe:Hid (w.heap.size≤B):=hid (by omega);rw [←hm] at hlen ⊢;rw [←hf];have HTf:Hid (∀ X,Below w.heap.size w X→X.heap.size=w.heap.size+1→Calls Tryz.prog 225 #[.agg #[qI r,.slice ao n cap,.slice mo mn mc,.slice eo en ec],qU (s:Nat)] X fun e W'=>∃ a l c,e=.returned (.slice a l c)∧l=m∧W'.ownsRow B 361 4 (.slice a m c) m (zc5 f0 m)∧Below X.heap.size X W'):=hid fun X hX hXs=>(HTe.out X hX).mono fun e W' ⟨v,he,hown,hb⟩=>by
  rw [znz,←hm,←hf,hXs,←hBe] at hown;obtain⟨a,c,rfl,_⟩:=zfn hown;exact⟨a,m,c,he,rfl,hown,hb⟩
 clear hm hf HTe hBe;go_enter Tryz.func164,Tryz.ntmps164
 go_wp2_with (go_at_call 225;refine (HTf.out _ hB0 (by simp)).mono ?_;rintro e W1 ⟨ta,l,tc,rfl,rfl,hown,hb1⟩)
 have hB1:=hB0.trans (hb1.mono hB0.size);clear hb1 hB0 HTf
 go_loopw [13] (fun i wr=>∃ k:Nat,i=qI k∧k≤l∧wr.ownsRow B 361 4 (.slice ta l tc) l (zc5 (zpj f0 k) l)∧Below w.heap.size w wr) (fun i _=>l - (intOf i).toNat)
 case atStart=>exact⟨0,rfl,by omega,by rw [zxd];exact hown,hB1⟩
 case round=>
  clear hown hB1;obtain⟨k,rfl,hk,hown,hB⟩:=hrel;have HCS:=hid (zxe f0 k);obtain⟨f,hfe⟩:∃ f,zpj f0 k=f:=⟨_,rfl⟩;rw [hfe] at hown HCS;have HFE:=hid hfe;clear hfe;by_cases hlt:k < l
  ·obtain⟨g4,cap4,he,hg1,hg2⟩:=zDc hown (by omega)
   injection he with he1 _ he3
   subst he1 he3;have t0:decide ((k:Int) < (l:Int))=true:=by simp;omega
   have hc1:=(hown.cellAt (k * 4+1) (by omega)).trans (zht f hlt (by decide:1 < 4));have hc3:=(hown.cellAt (k * 4+3) (by omega)).trans (zht f hlt (by decide:3 < 4));have hf3:=hown.frozenAt (k * 4+3);simp only [List.getElem?_cons_succ,List.getElem?_cons_zero] at hc1 hc3;have HST:=hid (hown.stored (k * 4+3) (qI (f k).c));clear hown;go_wp2;go_roundw
   case rel=>
    refine⟨k+1,by go_num,hlt,by rw [←HCS.out,←zuv f l k hlt];exact HST.out.1,hB.setCell (by have:=HLe.out;show w.heap.size≤g4;omega) _⟩
   case measure=>simp [intOf];omega
  ·obtain rfl:k=l:=by omega
   obtain⟨qo,qc,he,hTm⟩:=zfn hown;injection he with he1 _ he3
   subst he1 he3;have HLw:=hid (zhn ta k tc f 0 65536 wr (by omega) hTm (by omega));obtain⟨⟨lr,lok⟩,hlr⟩:∃ y,zit 0 65536 f k=y:=⟨_,rfl⟩;rw [hlr] at HLw;have HLR:=hid hlr;clear hlr hown hTm;unfold rv at HLw;have t0:decide ((k:Int) < (k:Int))=false:=by simp
   go_wp2_with (go_at_call 224;refine HLw.out.mono ?_;rintro e W2 ⟨rfl,hb2⟩)
   go_ret2;exact⟨by rw [HFE.out,HLR.out];rfl,hB.trans (hb2.mono hB.size)⟩
attribute [local go_sem] Oper.semAt_some
set_option maxRecDepth 100000
def zcw (g:Nat→Nat→Int) (l:List Nat):Int:=l.foldl (fun a i=>max a (g i 0)) 0
theorem zsc (g:Nat→Nat→Int) (l:List Nat) (i:Nat):zcw g (l ++ [i])=max (zcw g l) (g i 0):=by simp [zcw]
theorem zwh (x:Img) (g:Nat→Nat→Int) (s:Nat) (w:World) (hs:s < 4294967296) (hm:s < 2 ^ x.n) (hT:zev w x.ao x.n g) (hTab:Tab w):
  Calls Tryz.prog 166 #[iv x,qU (s:Nat)] w fun e w'=>e=.returned (qI (zcw g (zae s)))∧Below w.heap.size w w':=by
 obtain⟨r,ao,n,cap,mo,mn,mc,eo,en,ec⟩:=x;unfold iv;dsimp only at hT hm ⊢;refine (callsIn_wide (n:=8)).1 ?_;have h1:1≤8:=by omega
 refine callsIn_of_wp_marks Tryz.func166 rfl trivial ?_ rfl;simp only [Tryz.ntmps166,qPr,Nat.reduceAdd,Nat.reduceSub]
 gi_wp2_with (refine⟨trivial,?_⟩;gi_at_call 159;refine (callsIn_wide.2 (zdk s _)).mono ?_;rintro e w' ⟨rfl,rfl⟩)
 have b1:Below w.heap.size w (w.alloc (qC #[qI r,.slice ao n cap,.slice mo mn mc,.slice eo en ec] 26)):=qBr (w:=w) _;have hImg:=heap_alloc_new w (qC #[qI r,.slice ao n cap,.slice mo mn mc,.slice eo en ec] 26);have hS1:(w.alloc (qC #[qI r,.slice ao n cap,.slice mo mn mc,.slice eo en ec] 26)).heap.size=w.heap.size+1:=by simp
 obtain⟨W1,hW1⟩:∃ X,X=w.alloc (qC #[qI r,.slice ao n cap,.slice mo mn mc,.slice eo en ec] 26):=⟨_,rfl⟩;rw [←hW1] at b1 hImg hS1 ⊢;clear hW1;have hN:=Boxed.new W1 3 (qI 0);have hN2:=hN.alloc (qC #[qU (s:Nat)] 140);rw [hS1] at hN2;have hb3:Below W1.heap.size W1 ((W1.alloc (qC #[qI 0] 3)).alloc (qC #[qU (s:Nat)] 140)):=(qBr _).alloc (by simp) _;have hc3:((W1.alloc (qC #[qI 0] 3)).alloc (qC #[qU (s:Nat)] 140)).cell? ⟨w.heap.size+1+1,0,none⟩=some (qU (s:Nat)):=by
  have:=(zba (W1.alloc (qC #[qI 0] 3)) (qU s) 140).1
  rwa [World.size_alloc,hS1] at this
 have hsz3:((W1.alloc (qC #[qI 0] 3)).alloc (qC #[qU (s:Nat)] 140)).heap.size=w.heap.size+3:=by simp [hS1]
 obtain⟨W3,hW3⟩:∃ X,X=(W1.alloc (qC #[qI 0] 3)).alloc (qC #[qU (s:Nat)] 140):=⟨_,rfl⟩;rw [←hW3] at hb3 hc3 hsz3 hN2 ⊢;clear hW3 hN;rw [hS1] at hb3;have hTab3:=(hTab.below b1 hTab.pos).below hb3 (by omega);refine wpIn_rangeFunc_ownG rfl h1 (gf:=221) (lb:=#[qP (w.heap.size+1+1)]) rfl trivial (enters_of Tryz.func221 (by kernel_rfl) rfl)
  (zfe n (8 - 1) (by omega) (w.heap.size+1+1) (w.heap.size+1) s W3 hs hm (by omega) hc3 hTab3) belowK_t (belowK_b (by omega)) (Below.refl _ _) (fun _=>rfl)
  (fun pre W=>Boxed W (w.heap.size+1) 3 (qI (zcw g (pre.map (·.val))))∧Below (w.heap.size+1) W1 W)
  (fun _ _ _=>False)
  (OwnFrom.and (Own.from (boxed_own _ _ (fun pre:List (Fin n)=>qI (zcw g (pre.map (·.val))))) _) (ownFrom_below (by omega) (by omega)))
  (fun _ _ _ _ _ hs _ _=>hs)
  ⟨hN2,hb3⟩
  (fun (i:Fin n)=>{ tmps:=#[.agg #[qI r,.slice ao n cap,.slice mo mn mc,.slice eo en ec],qU (s:Nat),qP w.heap.size,undef,qI 0,qP (w.heap.size+1),qI (i.val:Nat),qU (s:Nat),.func (.func 221) #[] #[qP (w.heap.size+1+1)],qI (i.val:Nat),undef,undef,undef,undef,undef,undef,undef,undef,undef,undef,undef,undef,undef,undef],defers:=[] })
  ?assign ?body ?done ?stop
 case assign=>
  rintro l i X K hK
  gi_wp2
  exact hK
 case body=>
  rintro l pre i X ⟨hv,hB⟩ hlt;obtain⟨i,hi⟩:=i;have HPR:=hid (show zcw g ((pre ++ [(⟨i,hi⟩:Fin n)]).map (·.val))=max (zcw g (pre.map (·.val))) (g i 0) by rw [List.map_append];exact zsc g _ _);obtain⟨v,hve⟩:∃ v,zcw g (pre.map (·.val))=v:=⟨_,rfl⟩;rw [hve] at hv HPR;clear hve;dsimp only at HPR ⊢;have hIX:=(hB.block _ (by omega)).trans hImg;have c1:=zaa hIX 1;have hTX:=hT.below (b1.trans (hB.mono (by omega)));have t0:decide ((i:Int) < (n:Int))=true:=by simp;omega
  have t1:decide (i < n)=true:=by simp;omega
  have j0:(0:Int)≤(i:Int):=by omega
  have j1:(i:Int) < (n:Int):=by omega
  obtain⟨b,o,rfl,hb⟩:=hTX.form hi;obtain⟨⟨q0,_⟩,_⟩:=hTX.at_ hi;generalize g i 0=gv at q0 HPR;have CQ:=Cls.cell q0;have C1:=Cls.cell c1;have CV:=Cls.cell hv.cell
  gi_wp2
  refine zeh 8 (by kernel_rfl) (by kernel_rfl) (by kernel_rfl) (by kernel_rfl) ?_ ?_
  ·rintro⟨_,_,h⟩
   exact h
  dsimp only [List.take,List.drop]
  repeat (go_big_quiet_step (fail))
  refine wpQuiet_nil ?_;intro _ hw';obtain⟨nq,rfl⟩:=hw';have hq:=nq.below;have hv4:Boxed nq.wd (w.heap.size+1) 3 (qI v):=(hq.block _ hv.lt).trans hv;have d1:=hv4.cell;have d2:=hv4.frozen;refine wpList_plain rfl fun K hK=>?_;go_simp;refine hK _ _ ?_;refine (show _∧_∧_ from ?_);have hb5:Below (w.heap.size+1) X nq.wd:=hq.mono (by have:=hB.size;omega);exact⟨((zcf.of_below (B:=W3.heap.size) hq).keeps).trans ((KeepsOthers.setCell _ _ _).from _),hb5.setCell (by simp) _,by rw [HPR.out,show max v gv=if v < gv then gv else v by split<;>omega];exact hv4.set _,(hB.trans hb5).setCell (by simp) _⟩
 case done=>
  rintro D ys X hD hys ⟨hv,hB⟩ hK;rw [hys] at hv;obtain⟨v,hve⟩:∃ v,zcw g (zae s)=v:=⟨_,rfl⟩;rw [hve] at hv;have HV:=hid hve;clear hve;have e2:=hv.cell
  gi_wp2
  refine⟨by simp,.inl ⟨_,_,rfl,run_takeDeferred hK,?_⟩⟩;exact⟨_,results_tmp rfl _ _ _,by rw [HV.out];rfl,(b1.trans (hB.mono (by omega))).trans (belowK_b (w:=w) (Nat.le_refl _) X D _ _ (by omega) hK rfl rfl)⟩
 case stop=>
  rintro D c pre X _ _ h _;exact h.elim
end Go.Proofs.YtpbmmoneeoijaaaGreatDoor
namespace Go.Proofs.YtpbmmoneeoijaaaGreatDoor
open Go.RowKit Go.Deep Go.Shelf
set_option maxRecDepth 100000
set_option maxHeartbeats 8000000
attribute [local go_sem] zaq
set_option maxRecDepth 100000
def zld (z:ShR) (g:Nat→Nat→Int) (p:Int):Int×Int×Bool:=
 if p=1 then ((zxf z.x.n g (z.o |||z.s)).1,0,(zxf z.x.n g (z.o |||z.s)).2) else if p=2 then (zcw g (zae (orN z)),0,true) else zvm z g
theorem zpb {w X:World} {a b:Int} {ok:Bool} {ac:Act} {R:Ending→World→Prop} (h4:ac.tmps.getD 4 undef=qP (w.heap.size+1)) (h5:ac.tmps.getD 5 undef=.bool ok) (hd:ac.defers=[])
  (hS:X.heap[w.heap.size+1]? =some (qC #[qI a,qI b] 154)) (hP:R (.returned (.tuple #[.agg #[qI a,qI b],.bool ok])) X):bodyPost Tryz.prog Tryz.f90 R .ret ac X:=by
 refine bodyPost_ret (v:=.tuple #[.agg #[qI a,qI b],.bool ok]) ?_ hd hP;rw [results_cell_tmp (p:=4) (u:=5) (ty:=154) rfl,h4,h5];simp [asAddr,run_loadVar_row X (w.heap.size+1) 154 154 _ (0,0) _ hS Tryz.underlying154 rfl (by kernel_rfl),Result.andThen]
theorem zpz (x:Img) (g:Nat→Nat→Int) (M:Nat→zas) (h:Nat→Nat→Int) (i:Nat) (w:World) (hM:zcu w x.mo x.mn M) (hE:zb9 w x.eo x.en 23 h) (htb:∀ j,j < x.mn→(M j).t < 4294967296)
  (ht2:∀ j,j < x.mn→(M j).t < 2 ^ x.n) (hi:i < x.en) (hT:zev w x.ao x.n g) (hO:zf2 x.n g) (h16:x.n≤16) (p1:1≤h i 2) (p2:h i 2≤3) (hTab:Tab w):
  Calls Tryz.prog 90 #[iv x,qI i] w fun e w'=>e=.returned (spV (zld (zjs x M h g i fun j=>h i (3+j)) g (h i 2)))∧Below w.heap.size w w':=by
 have hso:=ztl (h:=h) (g:=g) (i:=i) (O:=fun j=>h i (3+j)) ht2;have HCE:=hid fun X (hX:Below w.heap.size w X)=>zlx x M h i X (hM.below hX) (hE.below hX) htb hi;have HNW:=hid fun X (hX:Below w.heap.size w X)=>zrl x g M h i (fun j=>h i (3+j)) X (hM.below hX) (hE.below hX) htb ht2 hi (hT.below hX) (hTab.below hX hTab.pos);have l1:=ze1 htb (h i 0);have l2:=ze1 htb (h i 1);obtain⟨oo,hoo⟩:∃ q,zcl (zai x M (h i 0)) (zai x M (h i 1))=q:=⟨_,rfl⟩;obtain⟨nn,hnn⟩:∃ q,zcl (zai x M (h i 1)) (zai x M (h i 0))=q:=⟨_,rfl⟩;obtain⟨ss,hss⟩:∃ q,zai x M (h i 0) &&& zai x M (h i 1)=q:=⟨_,rfl⟩;have b1:oo < 4294967296:=by rw [←hoo];exact Nat.lt_of_le_of_lt (zes _ _) l1
 have b2:nn < 4294967296:=by rw [←hnn];exact Nat.lt_of_le_of_lt (zes _ _) l2
 have b3:ss < 4294967296:=by rw [←hss];exact Nat.lt_of_le_of_lt Nat.and_le_left l1
 have HSV:=hid (show zjs x M h g i (fun j=>h i (3+j))=⟨x,oo,nn,ss,zfk g (zae (oo |||nn |||ss)),fun j=>h i (3+j)⟩ by unfold zjs;rw [hoo,hnn,hss]);rw [hoo,hnn,hss] at HCE;rw [HSV.out] at hso HNW ⊢;clear hoo hnn hss l1 l2 HSV;have hso2:oo |||nn |||ss < 2 ^ x.n:=hso
 obtain⟨T,hTe⟩:∃ T,zfk g (zae (oo |||nn |||ss))=T:=⟨_,rfl⟩;rw [hTe] at hso HNW ⊢;clear hTe;have HEV:=hid (show zld ⟨x,oo,nn,ss,T,fun j=>h i (3+j)⟩ g (h i 2)=if h i 2=1 then ((zxf x.n g (oo |||ss)).1,0,(zxf x.n g (oo |||ss)).2) else if h i 2=2 then (zcw g (zae (oo |||nn |||ss)),0,true) else zvm ⟨x,oo,nn,ss,T,fun j=>h i (3+j)⟩ g from rfl);obtain⟨EV,hEV⟩:∃ y,zld ⟨x,oo,nn,ss,T,fun j=>h i (3+j)⟩ g (h i 2)=y:=⟨_,rfl⟩;rw [hEV] at HEV ⊢;clear hEV;have hn:x.n≤maxLen:=by unfold maxLen;omega
 have HFR:=hid fun X=>zss oo nn ss b1 b3 X;have hfr:oo |||ss < 4294967296:=Nat.or_lt_two_pow (n:=32) b1 b3
 have HBS:=hid fun X (hX:Below w.heap.size w X)=>busy_val x g (oo |||ss) X hfr hn (hT.below hX) (hTab.below hX hTab.pos);have HBO:=hid fun X=>zcx oo nn ss b1 b2 b3 X;have hbo:oo |||nn |||ss < 4294967296:=Nat.or_lt_two_pow (n:=32) (Nat.or_lt_two_pow (n:=32) b1 b2) b3
 have HLO:=hid fun X (hX:Below w.heap.size w X)=>zwh x g (oo |||nn |||ss) X hbo hso2 (hT.below hX) (hTab.below hX hTab.pos);have HSP:=hid fun X (hX:Below w.heap.size w X)=>span_val ⟨x,oo,nn,ss,T,fun j=>h i (3+j)⟩ g X b1 b2 b3 hso (hT.below hX) hO h16 (hTab.below hX hTab.pos);obtain⟨⟨bm,bok⟩,hbu⟩:∃ y,zxf x.n g (oo |||ss)=y:=⟨_,rfl⟩;obtain⟨lm,hlo⟩:∃ y,zcw g (zae (oo |||nn |||ss))=y:=⟨_,rfl⟩;obtain⟨⟨s1,s2,sok⟩,hsp⟩:∃ y,zvm ⟨x,oo,nn,ss,T,fun j=>h i (3+j)⟩ g=y:=⟨_,rfl⟩;rw [hbu] at HBS;rw [hlo] at HLO;rw [hsp] at HSP;rw [hbu,hlo,hsp] at HEV;clear hbu hlo hsp hso hso2 ht2;unfold rv at HBS;unfold spV at HSP;dsimp only at HEV;obtain⟨fr,hfr2⟩:∃ q,oo |||ss=q:=⟨_,rfl⟩
 rw [hfr2] at HFR HBS hfr;obtain⟨bo,hbo2⟩:∃ q,oo |||nn |||ss=q:=⟨_,rfl⟩
 rw [hbo2] at HBO HLO hbo;clear hfr2 hbo2 hT hTab hM htb hO;unfold cv at HCE HBO HFR;have HE:=hid hE;clear hE;obtain⟨r,ao,n,cap,mo,mn,mc,eo,en,ec⟩:=x;unfold iv at HCE HNW HBS HLO ⊢;unfold offV at HNW;dsimp only at HCE HNW HBS HLO HSP HE hi hn h16 ⊢;obtain⟨eb,eof,rfl,hc⟩:=HE.out i hi;have hb1:Below w.heap.size w (w.alloc (qC #[qI r,.slice ao n cap,.slice mo mn mc,.slice (some ⟨eb,eof,none⟩) en ec] 26)):=qBr _;have hb2:=hb1.alloc hb1.size (qC #[qI 0,qI 0] 154);have bI1:=heap_alloc_new w (qC #[qI r,.slice ao n cap,.slice mo mn mc,.slice (some ⟨eb,eof,none⟩) en ec] 26);have bI2:=zac bI1 (qC #[qI 0,qI 0] 154);have bS2:=heap_alloc_new (w.alloc (qC #[qI r,.slice ao n cap,.slice mo mn mc,.slice (some ⟨eb,eof,none⟩) en ec] 26)) (qC #[qI 0,qI 0] 154);rw [World.size_alloc] at bS2;have hr0:=zce fun j hj=>kept (hc j hj) hb2;have c3:=zaa bI2 3;have u1:decide ((i:Int) < 0)=false:=by simp
 have u2:decide ((en:Int)≤(i:Int))=false:=by simp;omega
 have j0:(0:Int)≤(i:Int):=by omega
 have j1:(i:Int) < (en:Int):=by omega
 clear hc;go_enter Tryz.func90,Tryz.ntmps90
 go_upto_region 3 with fail
 obtain⟨W2,hW2⟩:∃ X,X=(w.alloc (qC #[qI r,.slice ao n cap,.slice mo mn mc,.slice (some ⟨eb,eof,none⟩) en ec] 26)).alloc (qC #[qI 0,qI 0] 154):=⟨_,rfl⟩;rw [←hW2] at hb2 bI2 bS2 hr0 c3 ⊢;clear hW2 bI1 hb1;refine wp_region_lit ?_;refine wpList_plain rfl fun K hK=>?_;go_simp;refine hK _ _ ?_;clear hK K;refine wpList_plain rfl fun K hK=>?_;go_simp;refine hK _ _ ?_;clear hK K;refine wpList_plain rfl fun K hK=>?_;go_simp;refine hK _ _ ?_;clear hK K;refine wpList_plain rfl fun K hK=>?_;go_simp;refine hK _ _ ?_;clear hK K;refine wpList_load_mid rfl 176 _ rfl eb (eof+i * 23) rfl (zbf (h i)) _ hr0 Tryz.underlying176 rfl (za4 _) ?_;refine wpList_plain rfl fun K hK=>?_;go_simp;refine hK _ _ ?_;clear hK K;refine wpList_store_mid rfl 176 _ _ rfl W2.heap.size 0 (zbf (h i)).toArray rfl rfl (zdh W2 (h i)) (by simpa using za4 (h i)) (zfb _) ?_;have hbx:=zg1 W2 (h i);unfold zd6 at hbx;obtain⟨W3,hW3⟩:∃ X,X=((W2.alloc zd6).setCells W2.heap.size 0 (zbf (h i)).toArray.toList):=⟨_,rfl⟩;unfold zd6 at hW3;rw [←hW3] at hbx;show Exit.then _ _ _ _ _
 rw [←hW3];clear hW3 hr0 c3;go_simp;have hb3:=hb2.trans (hbx.below.mono hb2.size);have bI3:=(hbx.below.block _ (qLt bI2)).trans bI2;have bS3:=(hbx.below.block _ (qLt bS2)).trans bS2;have c0:=zaa bI3 0;have c1:=zaa bI3 1;have c2:=zaa bI3 2;have c3:=zaa bI3 3
 go_upto_region 5 with (go_at_call 163;refine (HCE.out _ hb3).mono ?_;rintro e w4 ⟨rfl,hb4⟩)
 have hb5:=(hb3.trans (hb4.mono hb3.size)).alloc (by have:=hb4.size;have:=hb3.size;omega) (qC #[qU (oo:Nat),qU (nn:Nat),qU (ss:Nat)] 291);have bC5:=heap_alloc_new w4 (qC #[qU (oo:Nat),qU (nn:Nat),qU (ss:Nat)] 291);have bI5:=zac (qBa hb4 bI3) (qC #[qU (oo:Nat),qU (nn:Nat),qU (ss:Nat)] 291);have bS5:=zac (qBa hb4 bS3) (qC #[qU (oo:Nat),qU (nn:Nat),qU (ss:Nat)] 291);have bk5:Below w4.heap.size w4 (w4.alloc (qC #[qU (oo:Nat),qU (nn:Nat),qU (ss:Nat)] 291)):=qBr _;have e5:=hid fun j (hj:j < 23)=>kept (kept (hbx.cell j hj) hb4) bk5;have hs2:w.heap.size+2≤W2.heap.size:=by have:=(qLt bS2);omega
 have hs4:W2.heap.size+1≤w4.heap.size:=by have:=hbx.size;have:=hb4.size;omega
 have hs5:(w4.alloc (qC #[qU (oo:Nat),qU (nn:Nat),qU (ss:Nat)] 291)).heap.size=w4.heap.size+1:=by simp
 obtain⟨W5,hW5⟩:∃ X,X=w4.alloc (qC #[qU (oo:Nat),qU (nn:Nat),qU (ss:Nat)] 291):=⟨_,rfl⟩;rw [←hW5] at hb5 bC5 bI5 bS5 e5 hs5 ⊢;obtain⟨SE,hSE⟩:∃ q,q=Value.agg (zbf (h i)).toArray:=⟨_,rfl⟩;rw [←hSE];clear hSE hW5 c0 c1 c2 c3 hb4 bI3 bS3 bI2 bS2 hbx bk5 hb3 hb2 HCE HE;have e2:=e5.out 2 (by decide);obtain⟨p,hp⟩:∃ p,h i 2=p:=⟨_,rfl⟩;rw [hp] at e2 p1 p2 HEV;clear hp;rcases (show p=1∨p=2∨p=3 by omega) with rfl|rfl|rfl
 ·go_upto_region 7 with fail
  refine zan [2,3,4,5,6,7,8] (fun X=>Below W5.heap.size W5 X) (by kernel_rfl) (by kernel_rfl) (by exact⟨rfl,rfl,rfl,Nat.le_refl _,fun _ _=>rfl⟩) ?_;refine qFs fun K hK=>?_;go_simp;refine⟨.agg #[qI r,.slice ao n cap,.slice mo mn mc,.slice (some ⟨eb,eof,none⟩) en ec],fun X hX=>?_,hK _ ?_⟩
  ·have hI:=(hX.block _ (by omega)).trans bI5
   have z0:=zaa hI 0;have z1:=zaa hI 1;have z2:=zaa hI 2;have z3:=zaa hI 3;go_simp
  clear hK K;refine qFs fun K hK=>?_;go_simp;refine⟨.agg #[qU (oo:Nat),qU (nn:Nat),qU (ss:Nat)],fun X hX=>?_,hK _ ?_⟩
  ·have hC:=(hX.block _ (by omega)).trans bC5
   have z0:=zaa hC 0;have z1:=zaa hC 1;have z2:=zaa hC 2;go_simp
  clear hK K;refine qFc ?_;refine qFc ?_;refine qFc ?_;refine qFc ?_;refine qFc ?_;refine qFc ?_;refine qFc ?_;refine za9 ?_;have B5:Below W5.heap.size W5 W5.drew:=⟨rfl,rfl,rfl,Nat.le_refl _,fun _ _=>rfl⟩;refine qT1 2 [3,4,5,6,7,8] fun K hK=>?_
  go_wp2_with fail
  refine (HFR.out _).mono ?_;rintro e W6 ⟨rfl,hb6⟩;have B6:=B5.trans (hb6.mono B5.size)
  go_wp2_with fail
  refine hK _ _ B6 ?_;clear hK K;refine qT1 3 [4,5,6,7,8] fun K hK=>?_
  go_wp2_with fail
  refine (HBS.out _ (hb5.trans (B6.mono hb5.size))).mono ?_;rintro e W7 ⟨rfl,hb7⟩;have B7:=B6.trans (hb7.mono B6.size)
  go_wp2_with fail
  refine hK _ _ B7 ?_;clear hK K;refine zbw (m:=4) (i:=4) (rem1:=[5,6,7,8]) rfl (by kernel_rfl) (by rfl) (by rfl) B7 (by rfl) (fun K hK=>?_);go_simp;refine⟨_,fun _ _=>rfl,hK _ ?_⟩;clear hK K;refine zbw (m:=3) (i:=5) (rem1:=[6,7,8]) rfl (by kernel_rfl) (by rfl) (by rfl) B7 (by rfl) (fun K hK=>?_);go_simp;refine⟨_,fun _ _=>rfl,hK _ ?_⟩;clear hK K;refine zbw (m:=2) (i:=6) (rem1:=[7,8]) rfl (by kernel_rfl) (by rfl) (by rfl) B7 (by rfl) (fun K hK=>?_);go_simp;refine⟨_,fun _ _=>rfl,hK _ ?_⟩;clear hK K;refine qT1 7 [8] fun K hK=>?_
  go_wp2_with fail
  refine hK _ _ B7 ?_;clear hK K;refine qT1 8 [] fun K hK=>?_
  go_wp2_with fail
  refine hK _ _ B7 ?_;clear hK K;refine za2 ?_;have hS7:=qBa B7 bS5;have hB7:=hb5.trans (B7.mono hb5.size);have n0:=zaa hS7 0;have n1:=zaa hS7 1;have y0:=zab hS7 0;have y1:=zab hS7 1;go_wp2;have HVE:=hid (show EV=(bm,0,bok) from HEV.out.trans (by first|rfl|simp));exact zpb rfl rfl rfl (zrr hS7 _ _) ⟨by rw [HVE.out];rfl,(hB7.setCell (by simp) _).setCell (by simp) _⟩
 ·go_upto_region 10 with fail
  refine ze0 [2,3,4,5,6] (NewC w.heap.size w.heap.size w4.heap.size _ _ _) (by kernel_rfl) (by kernel_rfl) (⟨bI5,bI5,bC5⟩:NewC _ _ _ _ _ _ W5.drew) ?_;refine qFs fun K hK=>?_;go_simp;refine⟨.agg #[qI r,.slice ao n cap,.slice mo mn mc,.slice (some ⟨eb,eof,none⟩) en ec],fun X hX=>?_,hK _ ?_⟩
  ·have z0:=zaa hX.i 0
   have z1:=zaa hX.i 1;have z2:=zaa hX.i 2;have z3:=zaa hX.i 3;go_simp
  clear hK K;refine qFs fun K hK=>?_;go_simp;refine⟨.agg #[qU (oo:Nat),qU (nn:Nat),qU (ss:Nat)],fun X hX=>?_,hK _ ?_⟩
  ·have z0:=zaa hX.c 0
   have z1:=zaa hX.c 1;have z2:=zaa hX.c 2;go_simp
  clear hK K;refine qFc ?_;refine qFc ?_;refine qFc ?_;refine qFc ?_;refine qFc ?_;refine za9 ?_;have B5:Below W5.heap.size W5 W5.drew:=⟨rfl,rfl,rfl,Nat.le_refl _,fun _ _=>rfl⟩;refine zeg (by rfl) (fun K hK=>?_)
  go_wp2_with fail
  refine (HBO.out _).mono ?_;rintro e W6 ⟨rfl,hb6⟩;have B6:=B5.trans (hb6.mono B5.size)
  go_wp2_with fail
  refine hK _ _ ⟨(B6.block _ (by omega)).trans bI5,(B6.block _ (by omega)).trans bI5,(B6.block _ (by omega)).trans bC5⟩ ?_;clear hK K;refine zeg (by rfl) (fun K hK=>?_)
  go_wp2_with fail
  refine (HLO.out _ (hb5.trans (B6.mono hb5.size))).mono ?_;rintro e W7 ⟨rfl,hb7⟩;have B7:=B6.trans (hb7.mono B6.size);have hC7:NewC w.heap.size w.heap.size w4.heap.size (qC #[qI r,.slice ao n cap,.slice mo mn mc,.slice (some ⟨eb,eof,none⟩) en ec] 26) (qC #[qI r,.slice ao n cap,.slice mo mn mc,.slice (some ⟨eb,eof,none⟩) en ec] 26) (qC #[qU (oo:Nat),qU (nn:Nat),qU (ss:Nat)] 291) W7:=⟨(B7.block _ (by omega)).trans bI5,(B7.block _ (by omega)).trans bI5,(B7.block _ (by omega)).trans bC5⟩;have hS7:=(B7.block _ (by omega)).trans bS5;have hB7:=hb5.trans (B7.mono hb5.size);clear hb7 hb6 B6 B5 B7
  go_wp2_with fail
  refine hK _ _ hC7 ?_;clear hK K;refine zeg (by rfl) (fun K hK=>?_)
  go_wp2_with fail
  refine hK _ _ hC7 ?_;clear hK K;have n0:=zaa hS7 0;have n1:=zaa hS7 1;have y0:=zab hS7 0;have y1:=zab hS7 1;refine zeg (by rfl) (fun K hK=>?_)
  go_wp2_with fail
  have hC8:NewC w.heap.size w.heap.size w4.heap.size (qC #[qI r,.slice ao n cap,.slice mo mn mc,.slice (some ⟨eb,eof,none⟩) en ec] 26) (qC #[qI r,.slice ao n cap,.slice mo mn mc,.slice (some ⟨eb,eof,none⟩) en ec] 26) (qC #[qU (oo:Nat),qU (nn:Nat),qU (ss:Nat)] 291) ((W7.setCell ⟨w.heap.size+1,0,none⟩ (qI lm)).setCell ⟨w.heap.size+1,1,none⟩ (qI 0)):=by
   have k:∀ b,b≠w.heap.size+1→((W7.setCell ⟨w.heap.size+1,0,none⟩ (qI lm)).setCell ⟨w.heap.size+1,1,none⟩ (qI 0)).heap[b]? =W7.heap[b]?:=fun b hb=>
    (heap_setCell_other _ ⟨w.heap.size+1,1,none⟩ b _ hb).trans (heap_setCell_other _ ⟨w.heap.size+1,0,none⟩ b _ hb)
   exact⟨(k _ (by omega)).trans hC7.i,(k _ (by omega)).trans hC7.o,(k _ (by omega)).trans hC7.c⟩
  refine hK _ _ hC8 ?_;clear hK K;refine zeg (by rfl) (fun K hK=>?_)
  go_wp2_with fail
  refine hK _ _ hC8 ?_;clear hK K;refine zrk ?_;go_wp2;have HVE:=hid (show EV=(lm,0,true) from HEV.out.trans (by first|rfl|simp));exact zpb rfl rfl rfl (zrr hS7 _ _) ⟨by rw [HVE.out];rfl,(hB7.setCell (by simp) _).setCell (by simp) _⟩
 ·have c0:=zaa bI5 0
  have c1:=zaa bI5 1;have c2:=zaa bI5 2;have c3:=zaa bI5 3;have f3:=e5.out 3 (by decide);have f4:=e5.out 4 (by decide);have f5:=e5.out 5 (by decide);have f6:=e5.out 6 (by decide);have f7:=e5.out 7 (by decide);have f8:=e5.out 8 (by decide);have f9:=e5.out 9 (by decide);have f10:=e5.out 10 (by decide);have f11:=e5.out 11 (by decide);have f12:=e5.out 12 (by decide);have f13:=e5.out 13 (by decide);have f14:=e5.out 14 (by decide);have f15:=e5.out 15 (by decide);have f16:=e5.out 16 (by decide);have f17:=e5.out 17 (by decide);have f18:=e5.out 18 (by decide)
  go_upto_region 12 with fail
  refine wp_region_lit ?_
  go_wp2_with fail
  clear f3 f4 f5 f6 f7 f8 f9 f10 f11 f12 f13 f14 f15 f16 f17 f18 c0 c1 c2 c3;refine (HNW.out _ hb5).mono ?_;rintro e W6 ⟨rfl,hb6⟩;obtain⟨Z,hZ⟩:∃ Z:ShR,Z=⟨⟨r,ao,n,cap,mo,mn,mc,some ⟨eb,eof,none⟩,en,ec⟩,oo,nn,ss,T,fun j=>h i (3+j)⟩:=⟨_,rfl⟩;rw [←hZ];rename_i KK hKK;refine hKK _ _ ?_;clear hKK KK;refine wpList_plain rfl fun K hK=>?_;go_simp;refine hK _ _ ?_;clear hK K;refine wpList_plain rfl fun K hK=>?_;go_simp;refine hK _ _ ?_;clear hK K;refine wpList_plain rfl fun K hK=>?_;go_simp;refine hK _ _ ?_;clear hK K;refine wpList_plain rfl fun K hK=>?_;go_simp;refine hK _ _ ?_;clear hK K;refine wpList_store_mid rfl 296 _ _ rfl W6.heap.size 0 (shL Z).toArray rfl (by go_simp;rfl) (by have:=zn6 W6 Z;unfold shZ at this;simpa using this) (by simpa using zdj Z) (shL_one Z) ?_;have hrg:=World.rangeAt_setCells_same (W6.alloc shZ) W6.heap.size 0 (shL Z) (zn6 W6 Z);have hb6w:=hb5.trans (hb6.mono hb5.size);have hb7:Below w.heap.size w ((W6.alloc shZ).setCells W6.heap.size 0 (shL Z)):=zci hb6w.size _ 0 _ (hb6w.alloc hb6w.size _);have hs6:=hb6.size;have bS7:((W6.alloc shZ).setCells W6.heap.size 0 (shL Z)).heap[w.heap.size+1]? =some (qC #[qI 0,qI 0] 154):=(World.heap_setCells_other _ _ _ _ (by simp;omega) (by omega)).trans (zac ((hb6.block _ (by omega)).trans bS5) _);have HSZ:=hid fun X (hX:Below w.heap.size w X)=>(show Calls Tryz.prog 169 #[.agg (shL Z).toArray] X (fun e w'=>e=.returned (.tuple #[.agg #[qI s1,qI s2],.bool sok])∧Below X.heap.size X w') from by rw [hZ];exact HSP.out X hX);obtain⟨W7,hW7⟩:∃ X,X=(W6.alloc shZ).setCells W6.heap.size 0 (shL Z):=⟨_,rfl⟩;rw [←hW7] at hrg hb7 bS7;show wpList _ _ _ _ _ ((W6.alloc shZ).setCells W6.heap.size 0 (shL Z));rw [←hW7];clear hW7 hZ hb6 HSP HNW HBS HLO HBO HFR bC5 bI5 bS5 e5 e2;go_simp;refine wpList_plain rfl fun K hK=>?_;go_simp;refine hK _ _ ?_;clear hK K;refine (show Exit.then _ _ _ _ _ from ?_);go_simp
  go_upto_region 15 with fail
  refine wp_region_lit ?_;refine wpList_load_mid rfl 296 _ rfl W6.heap.size 0 rfl (shL Z) _ hrg Tryz.underlying296 rfl (zdj Z) ?_
  go_wp2_with fail
  refine (HSZ.out _ hb7).mono ?_;rintro e W8 ⟨rfl,hb8⟩;have hS8:=qBa hb8 bS7;have hB8:=hb7.trans (hb8.mono hb7.size);have n0:=zaa hS8 0;have n1:=zaa hS8 1;have y0:=zab hS8 0;have y1:=zab hS8 1;go_wp2;have HVE:=hid (show EV=(s1,s2,sok) from HEV.out.trans (by first|rfl|simp));exact zpb rfl rfl rfl (zrr hS8 _ _) ⟨by rw [HVE.out];rfl,(hB8.setCell (by simp) _).setCell (by simp) _⟩
end Go.Proofs.YtpbmmoneeoijaaaGreatDoor
