/-
  A part of the proof: WindowFn LongFn.
-/
import Derived.Test.YtpbmmoneeoijaaaGreatDoorP28
namespace Go.Proofs.YtpbmmoneeoijaaaGreatDoor
open Go.RowKit Go.Deep Go.Shelf
attribute [local go_sem] Oper.semAt_some zch
set_option maxRecDepth 100000
def RowsT (b m:Nat) (W:World):Prop:=∃ v f,Boxed W b 357 v∧W.ownsRow b 361 4 v m (zc9 f m)
theorem zzl {β:Type} (b:Nat) (m:β→Nat):Own (fun (x:β) W=>RowsT b (m x) W):=fun s X Y row hs hg hrow=>by
 obtain⟨v,f,hv,hr⟩:=hs;obtain⟨v',h1,h2,_⟩:=holdsRow_own b b 357 361 4 (fun _:Unit=>m s) (fun _=>zc9 f (m s)) (fun _ _=>True) () X Y row ⟨v,hv,hr,trivial⟩ hg hrow;exact⟨v',f,h1,h2⟩
theorem zrn {f f':Nat→TT} {n:Nat} (h:∀ i,i < n→f i=f' i):zc9 f n=zc9 f' n:=by
 induction n with
 |zero=>rfl
 |succ n ih=>rw [zen,zen,ih (fun i hi=>h i (by omega)),h n (by omega)]
theorem zt0 (f:Nat→TT) (n:Nat) (x:TT):zc9 f n ++ [.int .i64 x.p,.int .i64 x.c,.int .i64 x.o,.int .i64 x.k]=zc9 (fun i=>if i=n then x else f i) (n+1):=by
 rw [zen,zrn (f:=f) (f':=fun i=>if i=n then x else f i) (fun i hi=>by rw [if_neg (by omega)])];simp
theorem KpW.appended {W w1:World} {n₀ m B:Nat} {v v':Value} {k:Nat} {xs:List Value} {tmp:Obj} (hv:Boxed W B 357 v) (hrow:W.ownsRow m 361 4 v k xs) (hgrow:(W.alloc tmp).grownBy w1 v.ownBlock)
  (hb:Below n₀ W (w1.setCell ⟨B,0,none⟩ v')):KpW n₀ W (w1.setCell ⟨B,0,none⟩ v'):=⟨hb,fun b cs t ht hc=>by
 have hlt:=(Array.getElem?_eq_some_iff.1 hc).1;have h1:(W.alloc tmp).heap[b]? =some (.cells cs t (0,0)):=(Below.heap_alloc W tmp b hlt).trans hc;have hB:b≠B:=by
  rintro rfl;have:=(show W.heap[b]? =_ from hv).symm.trans hc;rcases ht with rfl|rfl<;>simp at this
 have hne:some b≠v.ownBlock:=by
  rcases hrow.2 with ⟨rfl,_⟩|⟨g,cap,cur,rfl,_,hgb,_⟩
  ·simp [Value.ownBlock]
  ·intro e
   obtain rfl:b=g:=by simpa [Value.ownBlock] using e
   rw [hgb] at hc;rcases ht with rfl|rfl<;>simp at hc
 exact (Below.heap_setCell w1 ⟨B,0,none⟩ v' b hB).trans ((hgrow.block b (Array.getElem?_eq_some_iff.1 h1).1 hne).trans h1)⟩
set_option maxHeartbeats 4000000 in
theorem zxn (z:ShR) (g:Nat→Nat→Int) (t:Nat) (w:World) (ho:z.o < 4294967296) (hnn:z.n < 4294967296) (hs:z.s < 4294967296)
  (hT:zck w z.x.ao z.x.n g) (hO:zd2 z.x.n g) (h16:z.x.n≤16) (hTab:Tab w):
  Calls Tryz.prog 277 #[shV z,.int .i64 (t:Nat)] w (NumA w):=by
 have HBO:=hid fun X=>zbo z.o z.n z.s ho hnn hs X;have hor:z.o |||z.n |||z.s < 4294967296:=Nat.or_lt_two_pow (n:=32) (Nat.or_lt_two_pow (n:=32) ho hnn) hs
 obtain⟨bo,hbo⟩:∃ q,q=z.o |||z.n |||z.s:=⟨_,rfl⟩
 rw [←hbo] at HBO hor;clear hbo;unfold cv at HBO;have HH:=hid fun X=>zfx bo hor (t:Nat) X;obtain⟨hb,hhb⟩:∃ b,hasN bo (t:Nat)=b:=⟨_,rfl⟩;rw [hhb] at HH;clear hhb;have HST:=hid fun (Bi Bs:Nat) (W:World) (hn:w.heap.size≤W.heap.size) (hBi:W.heap[Bi]? =some (shB z)) (hBs:W.cell? ⟨Bs,0,none⟩=some (.int .i64 (t:Nat))) (hTw:zck W z.x.ao z.x.n g) (hTb:Tab W)=>
  zm2 7 (by omega) Bi Bs w.heap.size z t g W ho hnn hs hTab.pos hn hBi hBs hTw (fun b o e h0=>by
   obtain⟨b',o',e',hb⟩:=hT.form h0;rw [e] at e';cases e';exact hb) h16 hTb
 have hB0:Below w.heap.size w (w.alloc (shB z)):=(Below.refl _ w).alloc (Nat.le_refl _) _;have hZ0:(w.alloc (shB z)).heap[w.heap.size]? =some (shB z):=heap_alloc_new w _;have c1:=zaa (show _=some (Obj.cells (shL z).toArray 296 (0,0)) from hZ0) 1;have c4:=zaa (show _=some (Obj.cells (shL z).toArray 296 (0,0)) from hZ0) 4;have c5:=zaa (show _=some (Obj.cells (shL z).toArray 296 (0,0)) from hZ0) 5;have c6:=zaa (show _=some (Obj.cells (shL z).toArray 296 (0,0)) from hZ0) 6;have hbx:(shV z=.agg (shL z).toArray):=rfl;by_cases htn:hb=true∧t < z.x.n
 case neg=>
  unfold shV;unfold shB shL at *;cases hb
  ·go_enter Tryz.func277,Tryz.ntmps277
   go_wp2_with (first|(go_at_call 167;refine (HBO.out _).mono ?_;rintro e w2 ⟨rfl,hb2⟩)|(go_at_call 189;refine (HH.out _).mono ?_;rintro e w3 ⟨rfl,hw3⟩;obtain rfl:=hw3.symm))
   go_ret2;exact⟨⟨_,_,rfl⟩,hB0.trans (hb2.mono hB0.size)⟩
  ·have t0:decide (z.x.n≤t)=true:=by simp at htn ⊢;omega
   go_enter Tryz.func277,Tryz.ntmps277
   go_wp2_with (first|(go_at_call 167;refine (HBO.out _).mono ?_;rintro e w2 ⟨rfl,hb2⟩;have d1:=kept c1 hb2)|(go_at_call 189;refine (HH.out _).mono ?_;rintro e w3 ⟨rfl,hw3⟩;obtain rfl:=hw3.symm))
   go_ret2;exact⟨⟨_,_,rfl⟩,hB0.trans (hb2.mono hB0.size)⟩
 obtain⟨rfl,htn⟩:=htn;have t0:decide (z.x.n≤t)=false:=by simp;omega
 refine (callsIn_wide (n:=8)).1 ?_;have h1:1≤8:=by omega
 obtain⟨i0,hi,iz0,iz1,iz2⟩:=info_parts zu9;refine callsIn_of_wp_marks Tryz.func277 rfl trivial ?_ rfl;simp only [Tryz.ntmps277,List.size_toArray,List.length_cons,List.length_nil,Nat.reduceAdd,Nat.reduceSub,Array.replicate_succ,Array.replicate_zero,List.push_toArray,List.append_toArray,List.nil_append,List.cons_append];refine wpIn_wide.2 ?_;have hx0:(w.alloc (shB z)).heap.size=w.heap.size+1:=by simp
 have hUB:shB z=Obj.cells (shL z).toArray 296 (0,0):=rfl;have hUL:(shL z).toArray=#[.int .i64 z.x.r,.slice z.x.ao z.x.n z.x.cap,.slice z.x.mo z.x.mn z.x.mc,.slice z.x.eo z.x.en z.x.ec,.int .u32 (z.o:Nat),.int .u32 (z.n:Nat),.int .u32 (z.s:Nat),.int .i64 (z.T 0),.int .i64 (z.T 1),.int .i64 (z.T 2),.int .i64 (z.T 3),.int .i64 (z.T 4),.int .i64 (z.T 5),.int .i64 (z.T 6),.int .i64 (z.T 7),.int .i64 (z.O 0),.int .i64 (z.O 1),.int .i64 (z.O 2),.int .i64 (z.O 3),.int .i64 (z.O 4),.int .i64 (z.O 5),.int .i64 (z.O 6),.int .i64 (z.O 7),.int .i64 (z.O 8),.int .i64 (z.O 9),.int .i64 (z.O 10),.int .i64 (z.O 11),.int .i64 (z.O 12),.int .i64 (z.O 13),.int .i64 (z.O 14),.int .i64 (z.O 15)]:=rfl;rw [hbx,hUL];rw [hUB,hUL] at hB0 hZ0 c1 c4 c5 c6 hx0
 go_upto_region 4 with (first|(go_at_call 167;refine (HBO.out _).mono ?_;rintro e w2 ⟨rfl,hb2⟩;have d1:=kept c1 hb2)|(go_at_call 189;refine (HH.out _).mono ?_;rintro e w3 ⟨rfl,hw3⟩;obtain rfl:=hw3.symm))
 have hz2:=(hb2.block _ (by simp)).trans hZ0;have hb02:=hB0.trans (hb2.mono hB0.size);have hs2:w.heap.size+1≤w2.heap.size:=by have:=hb2.size;simpa using this
 have hz3:=zac hz2 (Obj.cells #[.slice none 0 0] 357);have bO3:=Boxed.new w2 357 (.slice none 0 0);have hrg:=zdp (z:=z) (W:=w2.alloc (Obj.cells #[.slice none 0 0] 357)) hz3;have HTR:=hid fun X=>show Calls Tryz.prog 307 #[.agg (shL z).toArray,.int .i64 (t:Nat)] X fun e w'=>e=.returned (.func (.func 315) #[] #[.pointer (some ⟨X.heap.size,0,none⟩),.pointer (some ⟨X.heap.size+1,0,none⟩)])∧w'=(X.alloc (shB z)).alloc (.cells #[.int .i64 (t:Nat)] 3) from zsf z t X;clear c1 c4 c5 c6 d1 hB0 hZ0 hb2;refine wp_region_lit ?_;refine wpList_load_mid rfl 296 _ rfl w.heap.size 0 rfl (shL z) _ hrg Tryz.underlying296 rfl (zcz _) ?_;clear hrg
 go_wp2_with (go_at_call 307;refine (HTR.out _).mono ?_;rintro e w' ⟨rfl,rfl⟩)
 have hz4:=zac (zac hz3 (shB z)) (Obj.cells #[.int .i64 (t:Nat)] 3);have bO5:=(bO3.alloc (shB z)).alloc (Obj.cells #[.int .i64 (t:Nat)] 3);have bS5:(((w2.alloc (Obj.cells #[.slice none 0 0] 357)).alloc (shB z)).alloc (Obj.cells #[.int .i64 (t:Nat)] 3)).heap[w2.heap.size+1]? =some (shB z):=zac (by have:=heap_alloc_new (w2.alloc (Obj.cells #[.slice none 0 0] 357)) (shB z);rwa [World.size_alloc] at this) _;have cT5:(((w2.alloc (Obj.cells #[.slice none 0 0] 357)).alloc (shB z)).alloc (Obj.cells #[.int .i64 (t:Nat)] 3)).cell? ⟨w2.heap.size+1+1,0,none⟩=some (.int .i64 (t:Nat)):=by
  have:=(zaq ((w2.alloc (Obj.cells #[.slice none 0 0] 357)).alloc (shB z)) (.int .i64 (t:Nat)) 3).1
  rwa [World.size_alloc,World.size_alloc] at this
 have hb5:Below w2.heap.size w2 (((w2.alloc (Obj.cells #[.slice none 0 0] 357)).alloc (shB z)).alloc (Obj.cells #[.int .i64 (t:Nat)] 3)):=(((Below.refl _ _).alloc (Nat.le_refl _) _).alloc (by simp) _).alloc (by simp;omega) _;have hsz5:(((w2.alloc (Obj.cells #[.slice none 0 0] 357)).alloc (shB z)).alloc (Obj.cells #[.int .i64 (t:Nat)] 3)).heap.size=w2.heap.size+3:=by simp
 rw [hUB,hUL] at hz4 bO5 bS5 cT5 hb5 hsz5;obtain⟨W0,hW0⟩:∃ X,X=(((w2.alloc (Obj.cells #[.slice none 0 0] 357)).alloc (Obj.cells #[.int .i64 z.x.r,.slice z.x.ao z.x.n z.x.cap,.slice z.x.mo z.x.mn z.x.mc,.slice z.x.eo z.x.en z.x.ec,.int .u32 (z.o:Nat),.int .u32 (z.n:Nat),.int .u32 (z.s:Nat),.int .i64 (z.T 0),.int .i64 (z.T 1),.int .i64 (z.T 2),.int .i64 (z.T 3),.int .i64 (z.T 4),.int .i64 (z.T 5),.int .i64 (z.T 6),.int .i64 (z.T 7),.int .i64 (z.O 0),.int .i64 (z.O 1),.int .i64 (z.O 2),.int .i64 (z.O 3),.int .i64 (z.O 4),.int .i64 (z.O 5),.int .i64 (z.O 6),.int .i64 (z.O 7),.int .i64 (z.O 8),.int .i64 (z.O 9),.int .i64 (z.O 10),.int .i64 (z.O 11),.int .i64 (z.O 12),.int .i64 (z.O 13),.int .i64 (z.O 14),.int .i64 (z.O 15)] 296 (0,0))).alloc (Obj.cells #[.int .i64 (t:Nat)] 3)):=⟨_,rfl⟩;rw [←hW0] at hz4 bO5 bS5 cT5 hb5 hsz5 ⊢;obtain⟨SV,hSV⟩:∃ q,q=Value.agg #[.int .i64 z.x.r,.slice z.x.ao z.x.n z.x.cap,.slice z.x.mo z.x.mn z.x.mc,.slice z.x.eo z.x.en z.x.ec,.int .u32 (z.o:Nat),.int .u32 (z.n:Nat),.int .u32 (z.s:Nat),.int .i64 (z.T 0),.int .i64 (z.T 1),.int .i64 (z.T 2),.int .i64 (z.T 3),.int .i64 (z.T 4),.int .i64 (z.T 5),.int .i64 (z.T 6),.int .i64 (z.T 7),.int .i64 (z.O 0),.int .i64 (z.O 1),.int .i64 (z.O 2),.int .i64 (z.O 3),.int .i64 (z.O 4),.int .i64 (z.O 5),.int .i64 (z.O 6),.int .i64 (z.O 7),.int .i64 (z.O 8),.int .i64 (z.O 9),.int .i64 (z.O 10),.int .i64 (z.O 11),.int .i64 (z.O 12),.int .i64 (z.O 13),.int .i64 (z.O 14),.int .i64 (z.O 15)]:=⟨_,rfl⟩;rw [←hSV];rw [←hUL,←hUB] at bS5;clear hW0 hSV hUB hx0 hz3 bO3 HTR;have hBw0:=hb02.trans (hb5.mono hb02.size);have hst:=HST.out (w2.heap.size+1) (w2.heap.size+1+1) W0 (by omega) bS5 cT5 (hT.below hBw0) (hTab.below hBw0 hTab.pos);refine (wpIn_wide (n:=8)).1 ?_;refine zx3 rfl h1 (gf:=315) (lb:=#[.pointer (some ⟨w2.heap.size+1,0,none⟩),.pointer (some ⟨w2.heap.size+1+1,0,none⟩)]) rfl trivial (enters_of Tryz.func315 (by kernel_rfl) rfl) hst
  KpW.t (KpW.b (by omega)) (Below.refl _ _) (fun _=>rfl)
  (fun pre W=>RowsT w2.heap.size pre.length W∧Below w2.heap.size w2 W)
  (fun _ _ _=>False)
  (OwnFrom.and (Own.from (zzl _ (fun pre:List TT=>pre.length)) _) (ownFrom_below (Nat.le_refl _) (by omega)))
  (fun _ _ _ _ _ hz _ _=>hz)
  ⟨⟨_,fun _=>⟨0,0,0,0⟩,bO5,World.ownsRow_nil _ _ _ _⟩,hb5⟩
  (fun x a' W=>∃ b,w2.heap.size < b∧W.heap[b]? =some (Obj.cells #[.int .i64 x.p,.int .i64 x.c,.int .i64 x.o,.int .i64 x.k] 361 (0,0))∧a'= { tmps:=#[SV,.int .i64 (t:Nat),.pointer (some ⟨w.heap.size,0,none⟩),undef,.int .i64 0,.bool false,.pointer (some ⟨w2.heap.size,0,none⟩),.pointer (some ⟨b,0,none⟩),undef,undef,.pointer (some ⟨w.heap.size,4,none⟩),.agg #[.int .u32 (z.o:Nat),.int .u32 (z.n:Nat),.int .u32 (z.s:Nat)],.int .u32 (bo:Nat),.int .i64 (t:Nat),.bool true,.bool false,.bool false,.int .i64 (t:Nat),.pointer (some ⟨w.heap.size,0,none⟩),.pointer (some ⟨w.heap.size,1,none⟩),.slice z.x.ao z.x.n z.x.cap,.int .i64 (z.x.n:Nat),.bool false,.bool false,SV,.int .i64 (t:Nat),.func (.func 315) #[] #[.pointer (some ⟨w2.heap.size+1,0,none⟩),.pointer (some ⟨w2.heap.size+1+1,0,none⟩)],.agg #[.int .i64 x.p,.int .i64 x.c,.int .i64 x.o,.int .i64 x.k],undef,undef,undef,undef,undef,undef,undef,undef,undef,undef,undef,undef,undef,undef,undef,undef,undef,undef,undef,undef,undef,undef,undef,undef,undef,undef,undef,undef,undef,undef,undef,undef,undef],defers:=[] })
  (fun x a' _ X Y row hz hg hr=>by
   obtain⟨b,z1,z2,z3⟩:=hz;exact⟨b,z1,zvn z2 hg hr,z3⟩)
  ?assign ?body ?done ?stop
 case assign=>
  rintro l pre x W K ⟨⟨v,f,hv,hr⟩,hB⟩ hK;unfold ttV
  gi_wp2
  exact hK _ _ ((KeepsOthers.alloc _ _).from _) (KpW.alloc (by have:=hB.size;omega) _) ⟨⟨v,f,hv.alloc _,hr.alloc _⟩,hB.alloc hB.size _⟩ ⟨W.heap.size,hv.lt,heap_alloc_new _ _,rfl⟩
 case body=>
  rintro l pre x a' W ⟨⟨v,f,hv,hrow⟩,hB⟩ ⟨b,hlt,hbl,rfl⟩ hlen;have hc:=hv.cell;have x0:=zaa hbl 0;have x1:=zaa hbl 1;have x2:=zaa hbl 2;have x3:=zaa hbl 3;have hnews:∀ (j:Nat) (u:Value),[Value.int .i64 x.p,.int .i64 x.c,.int .i64 x.o,.int .i64 x.k][j]? =some u→(W.alloc (Obj.cells #[Value.int .i64 x.p,.int .i64 x.c,.int .i64 x.o,.int .i64 x.k] 361)).cell? ((⟨W.heap.size,0,none⟩:Addr).add j)=some u:=fun j u hj=>by
   rw [za8,Nat.zero_add,World.cell?_alloc_at _ _ _ _ rfl];simpa using hj
  gi_wp2_with (gi_at_builtin;refine wpListIn_append_own _ rfl _ _ 357 rfl w2.heap.size 361 i0 (.agg #[.int .i64 0,.int .i64 0,.int .i64 0,.int .i64 0]) 4 32 Tryz.underlying357 hi iz0 iz1 iz2 rfl (by decide) _ _ _ rfl (hrow.alloc _) ⟨W.heap.size,0,none⟩ 1 1 [.int .i64 x.p,.int .i64 x.c,.int .i64 x.o,.int .i64 x.k] rfl rfl hnews (by simp [Value.oneCell']) (by unfold maxLen;omega) (by omega) (by have:=hB.size;simp;omega) ?_;intro v' w1 hown' hgrow _;obtain⟨g',cap',rfl⟩:=ownsRow_succ hown';obtain⟨hv1,hv2,hr2,hk2,hb2⟩:=hv.appended (by decide) hrow hB.size (Nat.le_refl _) hown' hgrow;have hc1:=hv1.cell;have hf1:=hv1.frozen)
  exact⟨hk2.from _,KpW.appended hv hrow hgrow (hb2.mono (by omega)),⟨_,_,hv2,by rw [zt0] at hr2;rw [List.length_append];exact hr2⟩,hB.trans hb2⟩
 case done=>
  rintro D ys W hD hlen ⟨⟨v,f,hv,hrow⟩,hB⟩ hK;have hz6:=(hB.block _ (by omega)).trans hz2;have hBw:=hb02.trans (hB.mono hb02.size);have hTw:=hT.below hBw;obtain⟨b,o,hao,hblt⟩:=hTw.form htn;rw [hao] at hTw;obtain⟨⟨q0,q1,q2,q3⟩,⟨q4,q5,q6,q7⟩,q8,q9,q10⟩:=hTw.at_ htn;have c1:=zaa hz6 1;rw [hao] at c1;have j0:(0:Int)≤(t:Int):=by omega
  have j1:(t:Int) < (z.x.n:Int):=by omega
  obtain⟨ta,tc,rfl,hTm⟩:=zet hrow
  go_upto_region 8 with fail
  have hb8:=(Below.refl W.heap.size W).alloc (Nat.le_refl _) (Obj.cells #[.int .i64 (g t 0),.int .i64 (g t 1),.int .i64 (g t 2),.int .i64 (g t 3),.int .i64 (g t 4),.int .i64 (g t 5),.int .i64 (g t 6),.int .i64 (g t 7),.int .i64 (g t 8),.int .i64 (g t 9),.int .i64 (g t 10)] 165);have bT8:=heap_alloc_new W (Obj.cells #[.int .i64 (g t 0),.int .i64 (g t 1),.int .i64 (g t 2),.int .i64 (g t 3),.int .i64 (g t 4),.int .i64 (g t 5),.int .i64 (g t 6),.int .i64 (g t 7),.int .i64 (g t 8),.int .i64 (g t 9),.int .i64 (g t 10)] 165);have hK8:=zac hK (Obj.cells #[.int .i64 (g t 0),.int .i64 (g t 1),.int .i64 (g t 2),.int .i64 (g t 3),.int .i64 (g t 4),.int .i64 (g t 5),.int .i64 (g t 6),.int .i64 (g t 7),.int .i64 (g t 8),.int .i64 (g t 9),.int .i64 (g t 10)] 165);have hz8:=zac hz6 (Obj.cells #[.int .i64 (g t 0),.int .i64 (g t 1),.int .i64 (g t 2),.int .i64 (g t 3),.int .i64 (g t 4),.int .i64 (g t 5),.int .i64 (g t 6),.int .i64 (g t 7),.int .i64 (g t 8),.int .i64 (g t 9),.int .i64 (g t 10)] 165);have bO8:=hv.alloc (Obj.cells #[.int .i64 (g t 0),.int .i64 (g t 1),.int .i64 (g t 2),.int .i64 (g t 3),.int .i64 (g t 4),.int .i64 (g t 5),.int .i64 (g t 6),.int .i64 (g t 7),.int .i64 (g t 8),.int .i64 (g t 9),.int .i64 (g t 10)] 165);have hTm8:=hTm.below hb8;have hs8:(W.alloc (Obj.cells #[.int .i64 (g t 0),.int .i64 (g t 1),.int .i64 (g t 2),.int .i64 (g t 3),.int .i64 (g t 4),.int .i64 (g t 5),.int .i64 (g t 6),.int .i64 (g t 7),.int .i64 (g t 8),.int .i64 (g t 9),.int .i64 (g t 10)] 165)).heap.size=W.heap.size+1:=by simp
  obtain⟨W8,hW8⟩:∃ X,X=W.alloc (Obj.cells #[.int .i64 (g t 0),.int .i64 (g t 1),.int .i64 (g t 2),.int .i64 (g t 3),.int .i64 (g t 4),.int .i64 (g t 5),.int .i64 (g t 6),.int .i64 (g t 7),.int .i64 (g t 8),.int .i64 (g t 9),.int .i64 (g t 10)] 165):=⟨_,rfl⟩;rw [←hW8] at hb8 bT8 hK8 hz8 bO8 hTm8 hs8 ⊢;have hB8:=hBw.trans (hb8.mono hBw.size);have hws:w2.heap.size≤W.heap.size:=hB.size;clear hao hW8 hv hrow hz6 c1 q0 q1 q2 q3 q4 q5 q6 q7 q8 q9 q10 hTw hTm hst HST hBw hB hb5 hBw0 bO5 bS5 cT5 hz4;have HBL:=hid fun X (hX:Below W8.heap.size W8 X)=>show Calls Tryz.prog 223 #[.agg #[.int .i64 z.x.r,.slice z.x.ao z.x.n z.x.cap,.slice z.x.mo z.x.mn z.x.mc,.slice z.x.eo z.x.en z.x.ec],.int .u32 (bo:Nat),.agg #[.int .i64 (z.T 0),.int .i64 (z.T 1),.int .i64 (z.T 2),.int .i64 (z.T 3),.int .i64 (z.T 4),.int .i64 (z.T 5),.int .i64 (z.T 6),.int .i64 (z.T 7)],.int .i64 (t:Nat)] X fun e w'=>(∃ b:Int,e=.returned (.int .i64 b)∧0≤b∧b≤131072)∧Below X.heap.size X w' from
   zn9 z.x g bo z.T (t:Nat) X hor (hT.below (hB8.trans (hX.mono hB8.size))) hO.held (hTab.below (hB8.trans (hX.mono hB8.size)) hTab.pos)
  have C0:=Cls.cell (zaa hz8 0);have C1:=Cls.cell (zaa hz8 1);have C2:=Cls.cell (zaa hz8 2);have C3:=Cls.cell (zaa hz8 3);have C4:=Cls.cell (zaa hz8 4);have C5:=Cls.cell (zaa hz8 5);have C6:=Cls.cell (zaa hz8 6);have C7:=Cls.cell (zaa hz8 7);have C8:=Cls.cell (zaa hz8 8);have C9:=Cls.cell (zaa hz8 9);have C10:=Cls.cell (zaa hz8 10);have C11:=Cls.cell (zaa hz8 11);have C12:=Cls.cell (zaa hz8 12);have C13:=Cls.cell (zaa hz8 13);have C14:=Cls.cell (zaa hz8 14);refine za5 8 (by kernel_rfl) (by kernel_rfl) (by kernel_rfl) ?_;dsimp only [List.take,List.drop]
  repeat (go_big_quiet_step ((go_at_call 167;exact Calls.cls _ (HBO.out _))))
  refine wpQuiet_nil ?_;intro _ hw';obtain⟨nq,rfl⟩:=hw';have hq:=nq.below;clear C0 C1 C2 C3 C4 C5 C6 C7 C8 C9 C10 C11 C12 C13 C14
  go_wp2_with fail
  refine (HBL.out _ hq).mono ?_;rintro e W9 ⟨⟨bl,rfl,hbl0,hbl1⟩,hb9⟩;have hb89:=hq.trans (hb9.mono hq.size);obtain⟨res,hok⟩:=hO t htn;have hc1:=hok.c1;have hc2:g t 2≤4096:=by have:=hok.c2;have:=hok.d2;have:=hok.p2;omega
  have hw1:IntKind.i64.wrap (g t 2+bl)=g t 2+bl:=IntWalk.i64_in _ (by omega);have bT9:=(hb89.block _ (by omega)).trans bT8;have hz9:=(hb89.block _ (by omega)).trans hz8;have bO9:Boxed W9 w2.heap.size 357 (.slice ta ys.length tc):=(hb89.block _ (by omega)).trans bO8;have hK9:=(hb89.block D (Array.getElem?_eq_some_iff.1 hK8).1).trans hK8;have hTm9:=hTm8.below hb89;have hB9:=hB8.trans (hb89.mono hB8.size)
  go_upto_region 9 with fail
  have hHZ:=hid (zdo (zdp (z:=z) hz9));have hOFi:=hid fun (j:Cls W9)=>zhb z t j.wd hnn (by omega);unfold shV at hOFi;obtain⟨off,hoff⟩:∃ q,q=offN z t:=⟨_,rfl⟩;rw [←hoff] at hOFi;clear hoff;obtain⟨mst,hw2⟩:∃ q,IntKind.i64.wrap (g t 1+off)=q:=⟨_,rfl⟩;obtain⟨⟨lr,lok⟩,hlr⟩:∃ y,znr (g t 2+bl) mst f ys.length=y:=⟨_,rfl⟩;have hFX:=hid fun (j:Cls W9)=>show Calls Tryz.prog 224 #[.int .i64 (g t 2+bl),.int .i64 mst,.slice ta ys.length tc] j.wd fun e w'=>e=.returned (.tuple #[.int .i64 lr,.bool lok])∧Below j.wd.heap.size j.wd w' by
   have:=zgq ta ys.length tc f (g t 2+bl) mst j.wd (by omega) (hTm9.below j.below) (by omega);rw [hlr] at this;exact this
  have T1:=Cls.cell (zaa bT9 1);have T2:=Cls.cell (zaa bT9 2);have CO:=Cls.cell bO9.cell;clear hlr hok hc1 hc2 hz8 bT8 bO8 hz9 bT9 bO9 hb89 hb9 hq hK8 hTm8 hTm9 HBL hb8 hB8;refine zcw (by kernel_rfl) (by kernel_rfl) ?_
  repeat (go_big_quiet_step (fail))
  go_big_quiet_want
  refine zdm 296 _ rfl w.heap.size 0 rfl _ _ hHZ.out Tryz.underlying296 rfl (zcz _) ?_;go_simp
  go_big_quiet_on
  repeat (go_big_quiet_step ((first|(go_at_call 229;exact Calls.cls _ (hOFi.out _))|(go_at_call 224;exact Calls.cls _ (hFX.out _)))))
  refine wpQuiet_nil ?_;intro _ hw';obtain⟨nq2,rfl⟩:=hw';have hq2:=nq2.below;have hKF:=(hq2.block D (Array.getElem?_eq_some_iff.1 hK9).1).trans hK9;have hBF:=hB9.trans (hq2.mono hB9.size);obtain⟨F,hF⟩:∃ F,F=nq2.wd:=⟨_,rfl⟩;rw [←hF] at hKF hBF ⊢;clear hF T1 T2 CO hFX hOFi hHZ hq2;go_wp2;refine⟨by simp,.inl ⟨_,_,rfl,run_takeDeferred hKF,?_⟩⟩;exact⟨.tuple #[.int .i64 lr,.bool lok],by simp [results,Tryz.results277,go_sem],⟨_,_,rfl⟩,hBF.trans (belowK_b (w:=w) (Nat.le_refl _) F D _ _ (by omega) hKF rfl rfl)⟩
 case stop=>
  rintro D c pre W _ _ h _;exact h.elim
end Go.Proofs.YtpbmmoneeoijaaaGreatDoor
namespace Go.Proofs.YtpbmmoneeoijaaaGreatDoor
open Go.RowKit Go.Deep Go.Shelf
attribute [local go_sem] Oper.semAt_some
set_option maxRecDepth 100000
def SomeI (b:Nat) (W:World):Prop:=∃ v:Int,Boxed W b 3 (.int .i64 v)
theorem zle {β:Type} (b:Nat):Own (fun (_:β) W=>SomeI b W):=fun s X Y row hs hg hrow=>by
 obtain⟨v,hv⟩:=hs;exact⟨v,boxed_own b 3 (fun (_:Unit)=>Value.int .i64 v) () X Y row hv hg hrow⟩
set_option maxHeartbeats 2000000 in
theorem zq0 (x:Img) (g:Nat→Nat→Int) (s:Nat) (w:World) (hs:s < 4294967296) (hT:zck w x.ao x.n g) (hTab:Tab w):
  Calls Tryz.prog 166 #[iv x,.int .u32 (s:Nat)] w fun e w'=>(∃ b:Int,e=.returned (.int .i64 b))∧Below w.heap.size w w':=by
 obtain⟨r,ao,n,cap,mo,mn,mc,eo,en,ec⟩:=x;unfold iv;dsimp only at hT ⊢;refine (callsIn_wide (n:=8)).1 ?_;have h1:1≤8:=by omega
 refine callsIn_of_wp_marks Tryz.func166 rfl trivial ?_ rfl;simp only [Tryz.ntmps166,List.size_toArray,List.length_cons,List.length_nil,Nat.reduceAdd,Nat.reduceSub,Array.replicate_succ,Array.replicate_zero,List.push_toArray,List.append_toArray,List.nil_append,List.cons_append]
 gi_wp2_with (refine⟨trivial,?_⟩;gi_at_call 159;refine (callsIn_wide.2 (zdn s _)).mono ?_;rintro e w' ⟨rfl,rfl⟩)
 have b1:Below w.heap.size w (w.alloc (Obj.cells #[.int .i64 r,.slice ao n cap,.slice mo mn mc,.slice eo en ec] 26)):=(Below.refl _ w).alloc (Nat.le_refl _) _;have hImg:=heap_alloc_new w (Obj.cells #[.int .i64 r,.slice ao n cap,.slice mo mn mc,.slice eo en ec] 26);have hS1:(w.alloc (Obj.cells #[.int .i64 r,.slice ao n cap,.slice mo mn mc,.slice eo en ec] 26)).heap.size=w.heap.size+1:=by simp
 obtain⟨W1,hW1⟩:∃ X,X=w.alloc (Obj.cells #[.int .i64 r,.slice ao n cap,.slice mo mn mc,.slice eo en ec] 26):=⟨_,rfl⟩;rw [←hW1] at b1 hImg hS1 ⊢;clear hW1;have hN:=Boxed.new W1 3 (.int .i64 0);have hN2:=hN.alloc (Obj.cells #[.int .u32 (s:Nat)] 140);rw [hS1] at hN2;have hb3:Below W1.heap.size W1 ((W1.alloc (Obj.cells #[.int .i64 0] 3)).alloc (Obj.cells #[.int .u32 (s:Nat)] 140)):=((Below.refl _ _).alloc (Nat.le_refl _) _).alloc (by simp) _;have hc3:((W1.alloc (Obj.cells #[.int .i64 0] 3)).alloc (Obj.cells #[.int .u32 (s:Nat)] 140)).cell? ⟨w.heap.size+1+1,0,none⟩=some (.int .u32 (s:Nat)):=by
  have:=(zaq (W1.alloc (Obj.cells #[.int .i64 0] 3)) (.int .u32 s) 140).1
  rwa [World.size_alloc,hS1] at this
 have hsz3:((W1.alloc (Obj.cells #[.int .i64 0] 3)).alloc (Obj.cells #[.int .u32 (s:Nat)] 140)).heap.size=w.heap.size+3:=by simp [hS1]
 obtain⟨W3,hW3⟩:∃ X,X=(W1.alloc (Obj.cells #[.int .i64 0] 3)).alloc (Obj.cells #[.int .u32 (s:Nat)] 140):=⟨_,rfl⟩;rw [←hW3] at hb3 hc3 hsz3 hN2 ⊢;clear hW3 hN;rw [hS1] at hb3;have hTab3:=(hTab.below b1 hTab.pos).below hb3 (by omega);refine wpIn_rangeFunc_ownG rfl h1 (gf:=221) (lb:=#[.pointer (some ⟨w.heap.size+1+1,0,none⟩)]) rfl trivial (enters_of Tryz.func221 (by kernel_rfl) rfl)
  (zcu (8 - 1) (by omega) (w.heap.size+1+1) (w.heap.size+1) s W3 hs (by omega) hc3 hTab3) belowK_t (belowK_b (by omega)) (Below.refl _ _) (fun _=>rfl)
  (fun _ W=>SomeI (w.heap.size+1) W∧Below (w.heap.size+1) W1 W)
  (fun _ _ _=>False)
  (OwnFrom.and (Own.from (zle _) _) (ownFrom_below (by omega) (by omega)))
  (fun _ _ _ _ _ hs _ _=>hs)
  ⟨⟨0,hN2⟩,hb3⟩
  (fun i=>{ tmps:=#[.agg #[.int .i64 r,.slice ao n cap,.slice mo mn mc,.slice eo en ec],.int .u32 (s:Nat),.pointer (some ⟨w.heap.size,0,none⟩),undef,.int .i64 0,.pointer (some ⟨w.heap.size+1,0,none⟩),.int .i64 (i:Nat),.int .u32 (s:Nat),.func (.func 221) #[] #[.pointer (some ⟨w.heap.size+1+1,0,none⟩)],.int .i64 (i:Nat),undef,undef,undef,undef,undef,undef,undef,undef,undef,undef,undef,undef,undef,undef],defers:=[] })
  ?assign ?body ?done ?stop
 case assign=>
  rintro l i X K hK
  gi_wp2
  exact hK
 case body=>
  rintro l pre i X ⟨⟨v,hv⟩,hB⟩ hlt;have hIX:=(hB.block _ (by omega)).trans hImg;have c1:=zaa hIX 1;have hTX:=hT.below (b1.trans (hB.mono (by omega)));by_cases hi:i < n
  ·have t0:decide ((i:Int) < (n:Int))=true:=by simp;omega
   have t1:decide (i < n)=true:=by simp;omega
   have j0:(0:Int)≤(i:Int):=by omega
   have j1:(i:Int) < (n:Int):=by omega
   obtain⟨b,o,rfl,hb⟩:=hTX.form hi;obtain⟨⟨q0,_⟩,_⟩:=hTX.at_ hi;have CQ:=Cls.cell q0;have C1:=Cls.cell c1;have CV:=Cls.cell hv.cell
   gi_wp2
   refine zbk 8 (by kernel_rfl) (by kernel_rfl) (by kernel_rfl) (by kernel_rfl) ?_ ?_
   ·rintro⟨_,_,h⟩
    exact h
   dsimp only [List.take,List.drop]
   repeat (go_big_quiet_step (fail))
   refine wpQuiet_nil ?_;intro _ hw';obtain⟨nq,rfl⟩:=hw';have hq:=nq.below;have hv4:Boxed nq.wd (w.heap.size+1) 3 (.int .i64 v):=(hq.block _ hv.lt).trans hv;have d1:=hv4.cell;have d2:=hv4.frozen;refine wpList_plain rfl fun K hK=>?_;go_simp;refine hK _ _ ?_;refine (show _∧_∧_ from ?_);have hb5:Below (w.heap.size+1) X nq.wd:=hq.mono (by have:=hB.size;omega);exact⟨((zam.of_below (B:=W3.heap.size) hq).keeps).trans ((KeepsOthers.setCell _ _ _).from _),hb5.setCell (by simp) _,⟨_,hv4.set _⟩,(hB.trans hb5).setCell (by simp) _⟩
  ·have t0:decide ((i:Int) < (n:Int))=false:=by simp;omega
   have t1:decide (i < n)=false:=by simp;omega
   gi_wp2
   exact⟨(KeepsOthers.refl _).from _,Below.refl _ _,⟨v,hv⟩,hB⟩
 case done=>
  rintro D ys X hD _ ⟨⟨v,hv⟩,hB⟩ hK;have e2:=hv.cell
  gi_wp2
  refine⟨by simp,.inl ⟨_,_,rfl,run_takeDeferred hK,?_⟩⟩;exact⟨_,results_tmp rfl _ _ _,⟨v,rfl⟩,(b1.trans (hB.mono (by omega))).trans (belowK_b (w:=w) (Nat.le_refl _) X D _ _ (by omega) hK rfl rfl)⟩
 case stop=>
  rintro D c pre X _ _ h _;exact h.elim
end Go.Proofs.YtpbmmoneeoijaaaGreatDoor
