/-
  A part of the proof: WindowV.
-/
import Derived.Test.YtpbmmoneeoijaaaGreatDoorP27
namespace Go.Proofs.YtpbmmoneeoijaaaGreatDoor
open Go.RowKit Go.Deep Go.Shelf
set_option maxRecDepth 100000
set_option maxHeartbeats 8000000
attribute [local go_sem] Oper.semAt_some zaq
set_option maxRecDepth 100000
def zsd (l:List TT) (i:Nat):TT:=l.getD i ⟨0,0,0,0⟩
theorem zxc (l:List TT) (x:TT):zc5 (zsd (l ++ [x])) (l.length+1)=zc5 (zsd l) l.length ++ [qI x.p,qI x.c,qI x.o,qI x.k]:=by
 rw [zxb];refine zl2 fun i hi=>?_;unfold zsd;by_cases h:i=l.length
 ·subst h
  simp
 ·rw [if_neg h]
  simp [List.getD_eq_getElem?_getD,List.getElem?_append_left (show i < l.length by omega)]
def RowsL (b:Nat) (l:List TT) (W:World):Prop:=∃ v,Boxed W b 357 v∧W.ownsRow b 361 4 v l.length (zc5 (zsd l) l.length)
theorem zC5 {β:Type} (b:Nat) (l:β→List TT):Own (fun (x:β) W=>RowsL b (l x) W):=fun s X Y row hs hg hrow=>by
 obtain⟨v,hv,hr⟩:=hs;obtain⟨v',h1,h2,_⟩:=holdsRow_own b b 357 361 4 (fun x=>(l x).length) (fun x=>zc5 (zsd (l x)) (l x).length) (fun _ _=>True) s X Y row ⟨v,hv,hr,trivial⟩ hg hrow;exact⟨v',h1,h2⟩
def zgo (z:ShR) (g:Nat→Nat→Int) (t:Nat):Int×Bool:=
 if hasN (orN z) (t:Nat)=true∧t < z.x.n then zit (g t 2+zhx g (orN z) z.T (t:Nat)) (IntKind.i64.wrap (g t 1+offN z t)) (zsd (zli z g t)) (zli z g t).length else (0,false)
theorem zAy (z:ShR) (g:Nat→Nat→Int) (t:Nat) (w:World) (ho:z.o < 4294967296) (hnn:z.n < 4294967296) (hs:z.s < 4294967296) (hm:orN z < 2 ^ z.x.n)
  (hT:zev w z.x.ao z.x.n g) (hO:zf2 z.x.n g) (h16:z.x.n≤16) (hTab:Tab w):
  Calls Tryz.prog 277 #[shV z,qI (t:Nat)] w fun e w'=>e=.returned (rv (zgo z g t))∧Below w.heap.size w w':=by
 have HWV:=hid (show zgo z g t=if hasN (orN z) (t:Nat)=true∧t < z.x.n then zit (g t 2+zhx g (orN z) z.T (t:Nat)) (IntKind.i64.wrap (g t 1+offN z t)) (zsd (zli z g t)) (zli z g t).length else (0,false) from rfl);have hlt32:(zli z g t).length≤32:=by unfold zli;rw [List.length_map];exact zbm _
 have hbb:=zuy hO.held hm z.T (t:Nat);have HBO:=hid fun X=>zcx z.o z.n z.s ho hnn hs X;have hor:z.o |||z.n |||z.s < 4294967296:=Nat.or_lt_two_pow (n:=32) (Nat.or_lt_two_pow (n:=32) ho hnn) hs
 have hm0:=hm;have HM:=hid hm;obtain⟨bo,hbo⟩:∃ q,q=z.o |||z.n |||z.s:=⟨_,rfl⟩
 unfold orN at HWV hbb hm0;rw [←hbo] at HBO hor HWV hbb hm0;clear hbo hm;unfold cv at HBO;have HH:=hid fun X=>zhm bo hor (t:Nat) X;obtain⟨hb,hhb⟩:∃ b,hasN bo (t:Nat)=b:=⟨_,rfl⟩;rw [hhb] at HH HWV;clear hhb;have HST:=hid fun (Bi Bs:Nat) (W:World) (hn:w.heap.size≤W.heap.size) (hBi:W.heap[Bi]? =some (shB z)) (hBs:W.cell? ⟨Bs,0,none⟩=some (qI (t:Nat))) (hTw:zev W z.x.ao z.x.n g) (hTb:Tab W)=>
  ztm 7 (by omega) Bi Bs w.heap.size z t g W ho hnn hs HM.out hTab.pos hn hBi hBs hTw (fun b o e h0=>by
   obtain⟨b',o',e',hb⟩:=hT.form h0;rw [e] at e';cases e';exact hb) h16 hTb
 have hB0:Below w.heap.size w (w.alloc (shB z)):=qBr (w:=w) _;have hZ0:(w.alloc (shB z)).heap[w.heap.size]? =some (shB z):=heap_alloc_new w _;have c1:=zaa (show _=some (Obj.cells (shL z).toArray 296 (0,0)) from hZ0) 1;have c4:=zaa (show _=some (Obj.cells (shL z).toArray 296 (0,0)) from hZ0) 4;have c5:=zaa (show _=some (Obj.cells (shL z).toArray 296 (0,0)) from hZ0) 5;have c6:=zaa (show _=some (Obj.cells (shL z).toArray 296 (0,0)) from hZ0) 6;have hbx:(shV z=.agg (shL z).toArray):=rfl;by_cases htn:hb=true∧t < z.x.n
 case neg=>
  have HWN:=hid (HWV.out.trans (if_neg htn));unfold shV;unfold shB shL at *;cases hb
  ·go_enter Tryz.func277,Tryz.ntmps277
   go_wp2_with (first|(go_at_call 167;refine (HBO.out _).mono ?_;rintro e w2 ⟨rfl,hb2⟩)|(go_at_call 189;refine (HH.out _).mono ?_;rintro e w3 ⟨rfl,hw3⟩;obtain rfl:=hw3.symm))
   go_ret2;exact⟨by rw [HWN.out];rfl,hB0.trans (hb2.mono hB0.size)⟩
  ·have t0:decide (z.x.n≤t)=true:=by simp at htn ⊢;omega
   go_enter Tryz.func277,Tryz.ntmps277
   go_wp2_with (first|(go_at_call 167;refine (HBO.out _).mono ?_;rintro e w2 ⟨rfl,hb2⟩;have d1:=kept c1 hb2)|(go_at_call 189;refine (HH.out _).mono ?_;rintro e w3 ⟨rfl,hw3⟩;obtain rfl:=hw3.symm))
   go_ret2;exact⟨by rw [HWN.out];rfl,hB0.trans (hb2.mono hB0.size)⟩
 have HWP:=hid (HWV.out.trans (if_pos htn));clear HWV;obtain⟨rfl,htn⟩:=htn;have t0:decide (z.x.n≤t)=false:=by simp;omega
 refine (callsIn_wide (n:=8)).1 ?_;have h1:1≤8:=by omega
 obtain⟨i0,hi,iz0,iz1,iz2⟩:=info_parts zys;refine callsIn_of_wp_marks Tryz.func277 rfl trivial ?_ rfl;simp only [Tryz.ntmps277,qPr,Nat.reduceAdd,Nat.reduceSub];refine wpIn_wide.2 ?_;have hx0:(w.alloc (shB z)).heap.size=w.heap.size+1:=by simp
 have hUB:shB z=Obj.cells (shL z).toArray 296 (0,0):=rfl;have hUL:(shL z).toArray=#[qI z.x.r,.slice z.x.ao z.x.n z.x.cap,.slice z.x.mo z.x.mn z.x.mc,.slice z.x.eo z.x.en z.x.ec,qU (z.o:Nat),qU (z.n:Nat),qU (z.s:Nat),qI (z.T 0),qI (z.T 1),qI (z.T 2),qI (z.T 3),qI (z.T 4),qI (z.T 5),qI (z.T 6),qI (z.T 7),qI (z.O 0),qI (z.O 1),qI (z.O 2),qI (z.O 3),qI (z.O 4),qI (z.O 5),qI (z.O 6),qI (z.O 7),qI (z.O 8),qI (z.O 9),qI (z.O 10),qI (z.O 11),qI (z.O 12),qI (z.O 13),qI (z.O 14),qI (z.O 15)]:=rfl;rw [hbx,hUL];rw [hUB,hUL] at hB0 hZ0 c1 c4 c5 c6 hx0
 go_upto_region 4 with (first|(go_at_call 167;refine (HBO.out _).mono ?_;rintro e w2 ⟨rfl,hb2⟩;have d1:=kept c1 hb2)|(go_at_call 189;refine (HH.out _).mono ?_;rintro e w3 ⟨rfl,hw3⟩;obtain rfl:=hw3.symm))
 have hz2:=(hb2.block _ (by simp)).trans hZ0;have hb02:=hB0.trans (hb2.mono hB0.size);have hs2:w.heap.size+1≤w2.heap.size:=by have:=hb2.size;simpa using this
 have hz3:=zac hz2 (qC #[.slice none 0 0] 357);have bO3:=Boxed.new w2 357 (.slice none 0 0);have hrg:=zd9 (z:=z) (W:=w2.alloc (qC #[.slice none 0 0] 357)) hz3;have HTR:=hid fun X=>show Calls Tryz.prog 307 #[.agg (shL z).toArray,qI (t:Nat)] X fun e w'=>e=.returned (.func (.func 315) #[] #[qP X.heap.size,qP (X.heap.size+1)])∧w'=(X.alloc (shB z)).alloc (.cells #[qI (t:Nat)] 3) from zvn z t X;clear c1 c4 c5 c6 d1 hB0 hZ0 hb2;refine wp_region_lit ?_;refine wpList_load_mid rfl 296 _ rfl w.heap.size 0 rfl (shL z) _ hrg Tryz.underlying296 rfl (zdj _) ?_;clear hrg
 go_wp2_with (go_at_call 307;refine (HTR.out _).mono ?_;rintro e w' ⟨rfl,rfl⟩)
 have hz4:=zac (zac hz3 (shB z)) (qC #[qI (t:Nat)] 3);have bO5:=(bO3.alloc (shB z)).alloc (qC #[qI (t:Nat)] 3);have bS5:(((w2.alloc (qC #[.slice none 0 0] 357)).alloc (shB z)).alloc (qC #[qI (t:Nat)] 3)).heap[w2.heap.size+1]? =some (shB z):=zac (by have:=heap_alloc_new (w2.alloc (qC #[.slice none 0 0] 357)) (shB z);rwa [World.size_alloc] at this) _;have cT5:(((w2.alloc (qC #[.slice none 0 0] 357)).alloc (shB z)).alloc (qC #[qI (t:Nat)] 3)).cell? ⟨w2.heap.size+1+1,0,none⟩=some (qI (t:Nat)):=by
  have:=(zba ((w2.alloc (qC #[.slice none 0 0] 357)).alloc (shB z)) (qI (t:Nat)) 3).1
  rwa [World.size_alloc,World.size_alloc] at this
 have hb5:Below w2.heap.size w2 (((w2.alloc (qC #[.slice none 0 0] 357)).alloc (shB z)).alloc (qC #[qI (t:Nat)] 3)):=((qBr _).alloc (by simp) _).alloc (by simp;omega) _;have hsz5:(((w2.alloc (qC #[.slice none 0 0] 357)).alloc (shB z)).alloc (qC #[qI (t:Nat)] 3)).heap.size=w2.heap.size+3:=by simp
 rw [hUB,hUL] at hz4 bO5 bS5 cT5 hb5 hsz5;obtain⟨W0,hW0⟩:∃ X,X=(((w2.alloc (qC #[.slice none 0 0] 357)).alloc (qC #[qI z.x.r,.slice z.x.ao z.x.n z.x.cap,.slice z.x.mo z.x.mn z.x.mc,.slice z.x.eo z.x.en z.x.ec,qU (z.o:Nat),qU (z.n:Nat),qU (z.s:Nat),qI (z.T 0),qI (z.T 1),qI (z.T 2),qI (z.T 3),qI (z.T 4),qI (z.T 5),qI (z.T 6),qI (z.T 7),qI (z.O 0),qI (z.O 1),qI (z.O 2),qI (z.O 3),qI (z.O 4),qI (z.O 5),qI (z.O 6),qI (z.O 7),qI (z.O 8),qI (z.O 9),qI (z.O 10),qI (z.O 11),qI (z.O 12),qI (z.O 13),qI (z.O 14),qI (z.O 15)] 296 (0,0))).alloc (qC #[qI (t:Nat)] 3)):=⟨_,rfl⟩;rw [←hW0] at hz4 bO5 bS5 cT5 hb5 hsz5 ⊢;obtain⟨SV,hSV⟩:∃ q,q=Value.agg #[qI z.x.r,.slice z.x.ao z.x.n z.x.cap,.slice z.x.mo z.x.mn z.x.mc,.slice z.x.eo z.x.en z.x.ec,qU (z.o:Nat),qU (z.n:Nat),qU (z.s:Nat),qI (z.T 0),qI (z.T 1),qI (z.T 2),qI (z.T 3),qI (z.T 4),qI (z.T 5),qI (z.T 6),qI (z.T 7),qI (z.O 0),qI (z.O 1),qI (z.O 2),qI (z.O 3),qI (z.O 4),qI (z.O 5),qI (z.O 6),qI (z.O 7),qI (z.O 8),qI (z.O 9),qI (z.O 10),qI (z.O 11),qI (z.O 12),qI (z.O 13),qI (z.O 14),qI (z.O 15)]:=⟨_,rfl⟩;rw [←hSV];rw [←hUL,←hUB] at bS5;clear hW0 hSV hUB hx0 hz3 bO3 HTR;have hBw0:=hb02.trans (hb5.mono hb02.size);have hst:=HST.out (w2.heap.size+1) (w2.heap.size+1+1) W0 (by omega) bS5 cT5 (hT.below hBw0) (hTab.below hBw0 hTab.pos);refine (wpIn_wide (n:=8)).1 ?_;refine zqm rfl h1 (gf:=315) (lb:=#[qP (w2.heap.size+1),qP (w2.heap.size+1+1)]) rfl trivial (enters_of Tryz.func315 (by kernel_rfl) rfl) hst
  KpW.t (KpW.b (by omega)) (Below.refl _ _) (fun _=>rfl)
  (fun pre W=>RowsL w2.heap.size pre W∧Below w2.heap.size w2 W)
  (fun _ _ _=>False)
  (OwnFrom.and (Own.from (zC5 _ (fun pre:List TT=>pre)) _) (ownFrom_below (Nat.le_refl _) (by omega)))
  (fun _ _ _ _ _ hz _ _=>hz)
  ⟨⟨_,bO5,World.ownsRow_nil _ _ _ _⟩,hb5⟩
  (fun x a' W=>∃ b,w2.heap.size < b∧W.heap[b]? =some (qC #[qI x.p,qI x.c,qI x.o,qI x.k] 361 (0,0))∧a'= { tmps:=#[SV,qI (t:Nat),qP w.heap.size,undef,qI 0,.bool false,qP w2.heap.size,qP b,undef,undef,.pointer (some ⟨w.heap.size,4,none⟩),.agg #[qU (z.o:Nat),qU (z.n:Nat),qU (z.s:Nat)],qU (bo:Nat),qI (t:Nat),.bool true,.bool false,.bool false,qI (t:Nat),qP w.heap.size,.pointer (some ⟨w.heap.size,1,none⟩),.slice z.x.ao z.x.n z.x.cap,qI (z.x.n:Nat),.bool false,.bool false,SV,qI (t:Nat),.func (.func 315) #[] #[qP (w2.heap.size+1),qP (w2.heap.size+1+1)],.agg #[qI x.p,qI x.c,qI x.o,qI x.k],undef,undef,undef,undef,undef,undef,undef,undef,undef,undef,undef,undef,undef,undef,undef,undef,undef,undef,undef,undef,undef,undef,undef,undef,undef,undef,undef,undef,undef,undef,undef,undef,undef],defers:=[] })
  (fun x a' _ X Y row hz hg hr=>by
   obtain⟨b,z1,z2,z3⟩:=hz;exact⟨b,z1,zy3 z2 hg hr,z3⟩)
  ?assign ?body ?done ?stop
 case assign=>
  rintro l pre x W K ⟨⟨v,hv,hr⟩,hB⟩ hK;unfold ttV
  gi_wp2
  exact hK _ _ ((KeepsOthers.alloc _ _).from _) (KpW.alloc (by have:=hB.size;omega) _) ⟨⟨v,hv.alloc _,hr.alloc _⟩,hB.alloc hB.size _⟩ ⟨W.heap.size,hv.lt,heap_alloc_new _ _,rfl⟩
 case body=>
  rintro l pre x a' W ⟨⟨v,hv,hrow⟩,hB⟩ ⟨b,hlt,hbl,rfl⟩ hlen;have hc:=hv.cell;have x0:=zaa hbl 0;have x1:=zaa hbl 1;have x2:=zaa hbl 2;have x3:=zaa hbl 3;have hnews:∀ (j:Nat) (u:Value),[qI x.p,qI x.c,qI x.o,qI x.k][j]? =some u→(W.alloc (qC #[qI x.p,qI x.c,qI x.o,qI x.k] 361)).cell? ((⟨W.heap.size,0,none⟩:Addr).add j)=some u:=fun j u hj=>by
   rw [zbn,Nat.zero_add,World.cell?_alloc_at _ _ _ _ rfl];simpa using hj
  gi_wp2_with (gi_at_builtin;refine wpListIn_append_own _ rfl _ _ 357 rfl w2.heap.size 361 i0 (.agg #[qI 0,qI 0,qI 0,qI 0]) 4 32 Tryz.underlying357 hi iz0 iz1 iz2 rfl (by decide) _ _ _ rfl (hrow.alloc _) ⟨W.heap.size,0,none⟩ 1 1 [qI x.p,qI x.c,qI x.o,qI x.k] rfl rfl hnews (by simp [Value.oneCell']) (by unfold maxLen;omega) (by omega) (by have:=hB.size;simp;omega) ?_;intro v' w1 hown' hgrow _;obtain⟨g',cap',rfl⟩:=ownsRow_succ hown';obtain⟨hv1,hv2,hr2,hk2,hb2⟩:=hv.appended (by decide) hrow hB.size (Nat.le_refl _) hown' hgrow;have hc1:=hv1.cell;have hf1:=hv1.frozen)
  exact⟨hk2.from _,KpW.appended hv hrow hgrow (hb2.mono (by omega)),⟨_,hv2,by rw [List.length_append];show World.ownsRow _ _ _ _ _ (pre.length+1) (zc5 (zsd (pre ++ [x])) (pre.length+1));rw [zxc];exact hr2⟩,hB.trans hb2⟩
 case done=>
  rintro D ys W hD hyse ⟨⟨v,hv,hrow⟩,hB⟩ hK;have hlen:ys.length≤32:=by rw [hyse];exact hlt32
  rw [←hyse] at HWP;clear hyse hlt32;obtain⟨f,hfe⟩:∃ f,zsd ys=f:=⟨_,rfl⟩;rw [hfe] at hrow HWP;clear hfe;have hz6:=(hB.block _ (by omega)).trans hz2;have hBw:=hb02.trans (hB.mono hb02.size);have hTw:=hT.below hBw;obtain⟨b,o,hao,hblt⟩:=hTw.form htn;rw [hao] at hTw;obtain⟨⟨q0,q1,q2,q3⟩,⟨q4,q5,q6,q7⟩,q8,q9,q10⟩:=hTw.at_ htn;have c1:=zaa hz6 1;rw [hao] at c1;have j0:(0:Int)≤(t:Int):=by omega
  have j1:(t:Int) < (z.x.n:Int):=by omega
  obtain⟨ta,tc,rfl,hTm⟩:=zfn hrow
  go_upto_region 8 with fail
  have hb8:=qBr (w:=W) (qC (qF11 (g t)) 165);have bT8:=heap_alloc_new W (qC (qF11 (g t)) 165);have hK8:=zac hK (qC (qF11 (g t)) 165);have hz8:=zac hz6 (qC (qF11 (g t)) 165);have bO8:=hv.alloc (qC (qF11 (g t)) 165);have hTm8:=hTm.below hb8;have hs8:(W.alloc (qC (qF11 (g t)) 165)).heap.size=W.heap.size+1:=by simp
  obtain⟨W8,hW8⟩:∃ X,X=W.alloc (qC (qF11 (g t)) 165):=⟨_,rfl⟩;rw [←hW8] at hb8 bT8 hK8 hz8 bO8 hTm8 hs8 ⊢;have hB8:=hBw.trans (hb8.mono hBw.size);have hws:w2.heap.size≤W.heap.size:=hB.size;clear hao hW8 hv hrow hz6 c1 q0 q1 q2 q3 q4 q5 q6 q7 q8 q9 q10 hTw hTm hst HST hBw hB hb5 hBw0 bO5 bS5 cT5 hz4;obtain⟨bl,hble⟩:∃ b,zhx g bo z.T (t:Nat)=b:=⟨_,rfl⟩;rw [hble] at HWP hbb;obtain⟨hbl0,hbl1⟩:=hbb;have HBL:=hid fun X (hX:Below W8.heap.size W8 X)=>show Calls Tryz.prog 223 #[.agg #[qI z.x.r,.slice z.x.ao z.x.n z.x.cap,.slice z.x.mo z.x.mn z.x.mc,.slice z.x.eo z.x.en z.x.ec],qU (bo:Nat),.agg (qF8 z.T),qI (t:Nat)] X fun e w'=>e=.returned (qI bl)∧Below X.heap.size X w' from by
    rw [←hble];exact zux z.x g bo z.T (t:Nat) X hor hm0 (hT.below (hB8.trans (hX.mono hB8.size))) hO.held (hTab.below (hB8.trans (hX.mono hB8.size)) hTab.pos)
  have C0:=Cls.cell (zaa hz8 0);have C1:=Cls.cell (zaa hz8 1);have C2:=Cls.cell (zaa hz8 2);have C3:=Cls.cell (zaa hz8 3);have C4:=Cls.cell (zaa hz8 4);have C5:=Cls.cell (zaa hz8 5);have C6:=Cls.cell (zaa hz8 6);have C7:=Cls.cell (zaa hz8 7);have C8:=Cls.cell (zaa hz8 8);have C9:=Cls.cell (zaa hz8 9);have C10:=Cls.cell (zaa hz8 10);have C11:=Cls.cell (zaa hz8 11);have C12:=Cls.cell (zaa hz8 12);have C13:=Cls.cell (zaa hz8 13);have C14:=Cls.cell (zaa hz8 14);refine zfx 8 (by kernel_rfl) (by kernel_rfl) (by kernel_rfl) ?_;dsimp only [List.take,List.drop]
  repeat (go_big_quiet_step ((go_at_call 167;exact Calls.cls _ (HBO.out _))))
  refine wpQuiet_nil ?_;intro _ hw';obtain⟨nq,rfl⟩:=hw';have hq:=nq.below;clear C0 C1 C2 C3 C4 C5 C6 C7 C8 C9 C10 C11 C12 C13 C14
  go_wp2_with fail
  refine (HBL.out _ hq).mono ?_;rintro e W9 ⟨rfl,hb9⟩;have hb89:=hq.trans (hb9.mono hq.size);obtain⟨res,hok⟩:=hO t htn;have hc1:=hok.c1;have hc2:g t 2≤4096:=by have:=hok.c2;have:=hok.d2;have:=hok.p2;omega
  have hw1:IntKind.i64.wrap (g t 2+bl)=g t 2+bl:=IntWalk.i64_in _ (by omega);have bT9:=(hb89.block _ (by omega)).trans bT8;have hz9:=(hb89.block _ (by omega)).trans hz8;have bO9:Boxed W9 w2.heap.size 357 (.slice ta ys.length tc):=(hb89.block _ (by omega)).trans bO8;have hK9:=(hb89.block D (qLt hK8)).trans hK8;have hTm9:=hTm8.below hb89;have hB9:=hB8.trans (hb89.mono hB8.size)
  go_upto_region 9 with fail
  have hHZ:=hid (zbr (zd9 (z:=z) hz9));have hOFi:=hid fun (j:Cls W9)=>zia z t j.wd hnn (by omega);unfold shV at hOFi;obtain⟨off,hoff⟩:∃ q,q=offN z t:=⟨_,rfl⟩;rw [←hoff] at hOFi HWP;clear hoff;obtain⟨mst,hw2⟩:∃ q,IntKind.i64.wrap (g t 1+off)=q:=⟨_,rfl⟩;rw [hw2] at HWP;obtain⟨⟨lr,lok⟩,hlr⟩:∃ y,zit (g t 2+bl) mst f ys.length=y:=⟨_,rfl⟩;have hFX:=hid fun (j:Cls W9)=>show Calls Tryz.prog 224 #[qI (g t 2+bl),qI mst,.slice ta ys.length tc] j.wd fun e w'=>e=.returned (.tuple #[qI lr,.bool lok])∧Below j.wd.heap.size j.wd w' by
   have:=zhn ta ys.length tc f (g t 2+bl) mst j.wd (by omega) (hTm9.below j.below) (by omega);rw [hlr] at this;exact this
  rw [hlr] at HWP;have T1:=Cls.cell (zaa bT9 1);have T2:=Cls.cell (zaa bT9 2);have CO:=Cls.cell bO9.cell;clear hlr hok hc1 hc2 hz8 bT8 bO8 hz9 bT9 bO9 hb89 hb9 hq hK8 hTm8 hTm9 HBL hb8 hB8;refine zag (by kernel_rfl) (by kernel_rfl) ?_
  repeat (go_big_quiet_step (fail))
  go_big_quiet_want
  refine zbp 296 _ rfl w.heap.size 0 rfl _ _ hHZ.out Tryz.underlying296 rfl (zdj _) ?_;go_simp
  go_big_quiet_on
  repeat (go_big_quiet_step ((first|(go_at_call 229;exact Calls.cls _ (hOFi.out _))|(go_at_call 224;exact Calls.cls _ (hFX.out _)))))
  refine wpQuiet_nil ?_;intro _ hw';obtain⟨nq2,rfl⟩:=hw';have hq2:=nq2.below;have hKF:=(hq2.block D (qLt hK9)).trans hK9;have hBF:=hB9.trans (hq2.mono hB9.size);obtain⟨F,hF⟩:∃ F,F=nq2.wd:=⟨_,rfl⟩;rw [←hF] at hKF hBF ⊢;clear hF T1 T2 CO hFX hOFi hHZ hq2;go_wp2;refine⟨by simp,.inl ⟨_,_,rfl,run_takeDeferred hKF,?_⟩⟩;exact⟨.tuple #[qI lr,.bool lok],by simp [results,Tryz.results277,go_sem],by rw [HWP.out];rfl,hBF.trans (belowK_b (w:=w) (Nat.le_refl _) F D _ _ (by omega) hKF rfl rfl)⟩
 case stop=>
  rintro D c pre W _ _ h _;exact h.elim
end Go.Proofs.YtpbmmoneeoijaaaGreatDoor
