/-
  A part of the proof: TermsW NewFn CoreTell Queue QueueTake.
-/
import Derived.Test.YtpbmmoneeoijaaaGreatDoorP27
import Derived.Deep.Upon
import Derived.Laws.CopyOwn
namespace Go.Proofs.YtpbmmoneeoijaaaGreatDoor
open Go.RowKit Go.Deep Go.Shelf
attribute [local go_sem] Oper.semAt_some zch
set_option maxRecDepth 100000
def shB (z:ShR):Obj:=.cells (shL z).toArray 296 (0,0)
def ttV (x:TT):Value:=.agg #[.int .i64 x.p,.int .i64 x.c,.int .i64 x.o,.int .i64 x.k]
structure KpW (n₀:Nat) (A C:World):Prop where
 below:Below n₀ A C
 keep:∀ (b:Nat) (cs:Array Value) (t:TypeId),t=296∨t=436→A.heap[b]? =some (Obj.cells cs t (0,0))→C.heap[b]? =some (Obj.cells cs t (0,0))
theorem KpW.t {n₀:Nat} {A C D:World} (h:KpW n₀ A C) (k:KpW n₀ C D):KpW n₀ A D:=⟨h.below.trans k.below,fun b cs t ht hb=>k.keep b cs t ht (h.keep b cs t ht hb)⟩
theorem KpW.b {n₀:Nat} {w:World} (hn:n₀≤w.heap.size) (W:World) (l:Nat) (o o':Obj) (hl:w.heap.size≤l) (h:W.heap[l]? =some o) (hc:o.isCells=false) (hw:o.isWalk=false):KpW n₀ W (W.putObj l o'):=
 ⟨belowK_b hn W l o o' hl h hc hw,fun b _ _ _ hb=>(World.putObj_heap_other (by rintro rfl;rw [hb] at h;cases h;cases hc)).trans hb⟩
theorem KpW.alloc {n₀:Nat} {W:World} (h:n₀≤W.heap.size) (o:Obj):KpW n₀ W (W.alloc o):=⟨(Below.refl _ _).alloc h o,fun b _ _ _ hb=>(Below.heap_alloc W o b (Array.getElem?_eq_some_iff.1 hb).1).trans hb⟩
theorem zsf (z:ShR) (t:Nat) (w:World):Calls Tryz.prog 307 #[shV z,.int .i64 (t:Nat)] w fun e w'=>e=.returned (.func (.func 315) #[] #[.pointer (some ⟨w.heap.size,0,none⟩),.pointer (some ⟨w.heap.size+1,0,none⟩)])∧w'=(w.alloc (shB z)).alloc (.cells #[.int .i64 (t:Nat)] 3):=by
 unfold shV shB shL;go_enter Tryz.func307,Tryz.ntmps307;go_wp2;go_ret;exact⟨rfl,rfl⟩
theorem zdo {W:World} {b o:Nat} {cs:List Value} (h:W.rangeAt b o cs) (w':World) (hw:∃ i:Cls W,w'=i.wd):w'.rangeAt b o cs:=fun j v hv=>by
 obtain⟨i,rfl⟩:=hw;have:=h j v hv;exact (i.below.cell (zal this)).trans this
def tvL (x:Nat→Int):List Value:=[.int .i64 (x 0),.int .i64 (x 1),.int .i64 (x 2),.int .i64 (x 3),.int .i64 (x 4),.int .i64 (x 5),.int .i64 (x 6),.int .i64 (x 7),.int .i64 (x 8),.int .i64 (x 9),.int .i64 (x 10)]
theorem zzb {W:World} {b o i:Nat} {x:Nat→Int} (hc:∀ j,j < 11→W.cell? ⟨b,o+i * 11+j,none⟩=some (.int .i64 (x j))):W.rangeAt b (o+i * 11) (tvL x):=fun j v hv=>by
 have hj:j < 11:=(List.getElem?_eq_some_iff.1 hv).1;rw [hc j hj,←hv];rcases j with _|_|_|_|_|_|_|_|_|_|_|j
 all_goals first|rfl|omega
theorem tvL_info (x:Nat→Int):(Tryz.prog.info? 165).map (·.size)=some (tvL x).length:=by rw [show (tvL x).length=11 from rfl];kernel_rfl
theorem zcz (z:ShR):(Tryz.prog.info? 296).map (·.size)=some (shL z).length:=by rw [show (shL z).length=31 from rfl];kernel_rfl
theorem zdp {W:World} {b:Nat} {z:ShR} (h:W.heap[b]? =some (shB z)):W.rangeAt b 0 (shL z):=fun j v hv=>by
 unfold shB at h;rw [Nat.zero_add];have:=zaa h j;rw [this];simpa using hv
set_option maxHeartbeats 2000000 in
theorem zm2 (n:Nat) (hn:3≤n) (Bi Bs n₀:Nat) (z:ShR) (t:Nat) (g:Nat→Nat→Int) (w:World) (ho:z.o < 4294967296) (hnn:z.n < 4294967296) (hs:z.s < 4294967296) (hn0:0 < n₀) (hnw:n₀≤w.heap.size) (hBi:w.heap[Bi]? =some (shB z)) (hBs:w.cell? ⟨Bs,0,none⟩=some (.int .i64 (t:Nat)))
  (hT:zck w z.x.ao z.x.n g) (hTn:∀ b o,z.x.ao=some ⟨b,o,none⟩→0 < z.x.n→b < n₀) (h16:z.x.n≤16) (hTab:Tab w):
  SeqN Fence.wide n Tryz.prog 315 #[.pointer (some ⟨Bi,0,none⟩),.pointer (some ⟨Bs,0,none⟩)] (fun x:TT=>#[ttV x]) (KpW n₀) (fun ys=>ys.length≤32) (fun _=>True) 32 w:=by
 intro l J Jx W hW hJ hJx hoJ hoJx hY h0;have h1:1≤n:=by omega
 have HOF:=hid fun (i:Nat) (hi:i < 16) X=>zhb z i X hnn hi;obtain⟨⟨r,ao,nn,cap,mo,mn,mc,eo,en,ec⟩,o,n1,s,T,O⟩:=z;unfold shB shL at hBi;unfold shV at HOF;dsimp only at hT hTn hBi HOF h16 ho hnn hs ⊢;have hBi0:Bi < w.heap.size:=(Array.getElem?_eq_some_iff.1 hBi).1;have hBiW:=(hW.block _ hBi0).trans hBi;have hBsW:=kept hBs hW;have hTW:=hT.below hW;have hTabW:=hTab.below hW hTab.pos;have hszW:=hW.size;have a1:Below W.heap.size W (W.alloc (Obj.cells #[.func (.yield l) #[] #[]] 436)):=(Below.refl _ _).alloc (Nat.le_refl _) _;have hBs1:=kept hBsW a1;have hyb:=Boxed.new W 436 (.func (.yield l) #[] #[]);refine callsIn_of_wp_marks Tryz.func315 rfl trivial ?_ rfl;simp only [Tryz.ntmps315,List.size_toArray,List.length_cons,List.length_nil,Nat.reduceAdd,Nat.reduceSub,Array.replicate_succ,Array.replicate_zero,List.push_toArray,List.append_toArray,List.nil_append,List.cons_append];have hbiA:=zac hBiW (Obj.cells #[.func (.yield l) #[] #[]] 436);have CO:=Cls.cell (zaa hbiA 4);have CN:=Cls.cell (zaa hbiA 5);have CS:=Cls.cell (zaa hbiA 6);have CB:=Cls.cell hBs1;have HBO:=hid fun X=>zbo o n1 s ho hnn hs X;have hor:o |||n1 |||s < 4294967296:=Nat.or_lt_two_pow (n:=32) (Nat.or_lt_two_pow (n:=32) ho hnn) hs
 obtain⟨bo,hbo⟩:∃ q,q=o |||n1 |||s:=⟨_,rfl⟩
 rw [←hbo] at HBO hor;clear hbo;unfold cv at HBO
 gi_wp2
 refine wpIn_wide.2 ?_;refine za5 4 (by kernel_rfl) (by kernel_rfl) (by kernel_rfl) ?_;dsimp only [List.take,List.drop]
 repeat (go_big_quiet_step ((go_at_call 167;exact Calls.cls _ (HBO.out _))))
 refine wpQuiet_nil ?_;intro _ hw';obtain⟨nq,rfl⟩:=hw';have hq:=nq.below;obtain⟨Wq,hWq⟩:∃ X,X=nq.wd:=⟨_,rfl⟩;rw [←hWq] at hq ⊢;clear hWq nq HBO CO CN CS CB
 go_wp2_with fail
 refine (zmr bo hor (t:Nat) _).mono ?_;rintro e w' ⟨u,rfl,hu,hw'⟩;obtain rfl:=hw'.symm;have hu32:u < 4294967296:=by omega
 go_wp2_with (go_at_call 159;refine (zdn u _).mono ?_;rintro e w' ⟨rfl,rfl⟩)
 have hyq:Wq.heap[W.heap.size]? =some (Obj.cells #[.func (.yield l) #[] #[]] 436 (0,0)):=(hq.block _ (by simp)).trans hyb;have aq:=a1.trans (hq.mono a1.size);have hszq:W.heap.size+1≤Wq.heap.size:=by have:=hq.size;simpa using this
 have hj0:J [] Wq:=hoJ.alloc (Obj.cells #[.func (.yield l) #[] #[]] 436) h0 |> fun h=>hoJ [] _ Wq none h ⟨hq.os,hq.tape,hq.output,hq.size,fun k hk _=>hq.block k hk⟩ (fun r e=>by cases e)
 have hj0:=hoJ.alloc (Obj.cells #[.int .u32 u] 140) hj0;have a2:Below W.heap.size W (Wq.alloc (Obj.cells #[.int .u32 u] 140)):=aq.alloc (by omega) _;have hyb2:=zac hyq (Obj.cells #[.int .u32 u] 140);have hcs:=(zaq Wq (.int .u32 u) 140).1;have hsz2:(Wq.alloc (Obj.cells #[.int .u32 u] 140)).heap.size=Wq.heap.size+1:=by simp
 obtain⟨W1,hW1⟩:∃ X,X=Wq.alloc (Obj.cells #[.int .u32 u] 140):=⟨_,rfl⟩;rw [←hW1] at a2 hyb2 hcs hj0 hsz2 ⊢;obtain⟨Bu,hBu⟩:∃ X,X=Wq.heap.size:=⟨_,rfl⟩;rw [←hBu] at hszq hcs hsz2 ⊢;clear hW1 a1 hBs1 hyb h0 hyq aq hq hBu hbiA;have hup:∀ {J:List TT→World→Prop},OwnFrom W.heap.size J→OwnFrom W1.heap.size J:=fun h z X Y row hz hg hr=>h z X Y row hz hg fun r e=>⟨by have:=(hr r e).1;omega,(hr r e).2⟩
 gi_wp2_with fail
 refine wpIn_rangeFunc_ownG rfl h1 (gf:=221) (lb:=#[.pointer (some ⟨Bu,0,none⟩)]) rfl trivial (enters_of Tryz.func221 (by kernel_rfl) rfl)
  (zcu (n - 1) (by omega) Bu n₀ u W1 hu32 hn0 hcs (hTabW.below a2 hTabW.pos)) belowK_t (belowK_b (by omega)) (Below.refl _ _) (fun _=>rfl)
  (fun pre X=>(((∃ ys:List TT,ys.length≤pre.length∧J ys X)∧X.heap[Bi]? =some (.cells (shL ⟨⟨r,ao,nn,cap,mo,mn,mc,eo,en,ec⟩,o,n1,s,T,O⟩).toArray 296 (0,0)))∧X.heap[W.heap.size]? =some (.cells #[.func (.yield l) #[] #[]] 436 (0,0)))∧Below n₀ W X)
  (fun c pre X=>c=.ret∧((∃ ys:List TT,ys.length≤32∧J ys X)∨∃ ys:List TT,Jx ys X))
  (OwnFrom.and (zbl (zbl (fun z X Y row hz hg hr=>by obtain⟨ys,h1,h2⟩:=hz;exact⟨ys,h1,hup hoJ _ X Y row h2 hg hr⟩) (by omega)) (by omega)) (ownFrom_below (by omega) (by omega)))
  (fun c z X Y row hz hg hr=>⟨hz.1,hz.2.elim (fun ⟨ys,h1,h2⟩=>.inl ⟨ys,h1,hup hoJ _ X Y row h2 hg hr⟩) (fun ⟨ys,h2⟩=>.inr ⟨ys,hup hoJx _ X Y row h2 hg hr⟩)⟩)
  ⟨⟨⟨⟨[],Nat.le_refl _,hj0⟩,(a2.block _ (by omega)).trans hBiW⟩,hyb2⟩,a2.mono (by omega)⟩
  (fun i=>{ tmps:=#[.func (.yield l) #[] #[],.pointer (some ⟨Bi,0,none⟩),.pointer (some ⟨Bs,0,none⟩),.pointer (some ⟨W.heap.size,0,none⟩),.int .i64 (i:Nat),.pointer (some ⟨Bi,4,none⟩),.agg #[.int .u32 (o:Nat),.int .u32 (n1:Nat),.int .u32 (s:Nat)],.int .u32 (bo:Nat),.int .i64 (t:Nat),.int .u32 (u:Nat),.func (.func 221) #[] #[.pointer (some ⟨Bu,0,none⟩)],.int .i64 (i:Nat),undef,undef,undef,undef,undef,undef,undef,undef,undef,undef,undef,undef,undef,undef,undef,undef,undef,undef,undef,undef,undef],defers:=[] })
  ?assign ?body ?done ?stop
 case assign=>
  rintro l' i X K hK
  gi_wp2
  exact hK
 case body=>
  rintro l' pre i X ⟨⟨⟨⟨ys,hyl,hj⟩,hbi⟩,hyx⟩,hB⟩ hlt;by_cases hi:i < nn
  ·have t0:decide (nn≤i)=false:=by simp;omega
   have i0':(0:Int)≤(i:Int):=by omega
   have i1:(i:Int) < (nn:Int):=by omega
   obtain⟨b,bo2,rfl,hb⟩:=hTW.form hi;have hRT:=hTW i hi;obtain⟨b',o',he,hcT⟩:=hRT;cases he;have hbn:=hTn b bo2 rfl (by omega);have hHR:=hid (zdo (zzb (W:=X) (fun j hj=>(hB.cell (by show b < n₀;omega)).trans (hcT j hj))));have hHZ:=hid (zdo (zdp (z:=⟨⟨r,some ⟨b,bo2,none⟩,nn,cap,mo,mn,mc,eo,en,ec⟩,o,n1,s,T,O⟩) hbi));have hOFi:=hid fun (j:Cls X)=>HOF.out i (by omega) j.wd;obtain⟨off,hoff⟩:∃ q,q=offN ⟨⟨r,some ⟨b,bo2,none⟩,nn,cap,mo,mn,mc,eo,en,ec⟩,o,n1,s,T,O⟩ i:=⟨_,rfl⟩;rw [←hoff] at hOFi;clear hoff;have hDO:=hid fun (j:Cls X)=>show Calls Tryz.prog 276 #[.agg (tvL (g i)).toArray,.int .i64 off] j.wd fun e w'=>e=.returned (.agg #[.int .i64 (g i 0),.int .i64 (g i 2),.int .i64 off,.int .i64 0])∧Below j.wd.heap.size j.wd w' from of_any (g i) off j.wd;have CY:=Cls.cell (zaa hyx 0);have C1:=Cls.cell (zaa hbi 1);unfold shL at C1
   gi_wp2
   refine ze7 18 (by kernel_rfl) (by kernel_rfl) (by kernel_rfl) (by kernel_rfl) ?_;dsimp only [List.take,List.drop]
   repeat (go_big_quiet_step (fail))
   go_big_quiet_want
   refine zdm 165 _ rfl b (bo2+i * 11) rfl (tvL (g i)) _ hHR.out Tryz.underlying165 rfl (tvL_info _) ?_;go_simp
   go_big_quiet_on
   go_big_quiet_want
   refine zdm 296 _ rfl Bi 0 rfl _ _ hHZ.out Tryz.underlying296 rfl (zcz _) ?_;go_simp
   go_big_quiet_on
   repeat (go_big_quiet_step ((first|(go_at_call 229;exact Calls.cls _ (hOFi.out _))|(go_at_call 276;exact Calls.cls _ (hDO.out _)))))
   refine wpQuiet_nil ?_;intro _ hw';obtain⟨nq,rfl⟩:=hw';have hq:=nq.below;have hjq:J ys nq.wd:=hoJ _ X _ none hj ⟨hq.os,hq.tape,hq.output,hq.size,fun k hk _=>hq.block k hk⟩ (fun r e=>by cases e);have hylt:ys.length < 32:=Nat.lt_of_le_of_lt hyl hlt;obtain⟨fn,tmps,assign,body,hy,hR⟩:=hY ys ⟨g i 0,g i 2,off,0⟩ nq.wd hjq hylt;unfold ttV at hy;dsimp only at hy
   gi_wp2_with fail
   refine⟨fun e=>(by cases e),(zpz rfl hR).mono ?_⟩;have hbi3:=qBa hq hbi;have hyx3:=qBa hq hyx;have hqn:=hq.mono (show n₀≤X.heap.size by have:=hB.size;omega);have hqs:=zam.of_below (B:=W1.heap.size) hq;clear hq CY C1 hHR hHZ hDO hOFi HOF;rintro e W3 (⟨rfl,hj3,hk3,hs3⟩|⟨rfl,hj3,hk3,hs3⟩)
   ·have hkb:Below n₀ nq.wd W3:=⟨hk3.below.os,hk3.below.tape,hk3.below.output,hk3.below.size,hk3.below.block⟩
    have hsm:KeepsFrom W1.heap.size nq.wd W3:=⟨hs3.size,fun k o hk=>hs3.same k o (by omega)⟩
    gi_wp2
    exact⟨hqs.keeps.trans hsm,hqn.trans hkb,⟨⟨⟨_,by rw [List.length_append,List.length_append];exact Nat.add_le_add_right hyl 1,hj3⟩,hk3.keep _ _ _ (.inl rfl) hbi3⟩,hk3.keep _ _ _ (.inr rfl) hyx3⟩,hB.trans (hqn.trans hkb)⟩
   ·have hkb:Below n₀ nq.wd W3:=⟨hk3.below.os,hk3.below.tape,hk3.below.output,hk3.below.size,hk3.below.block⟩
    have hsm:KeepsFrom W1.heap.size nq.wd W3:=⟨hs3.size,fun k o hk=>hs3.same k o (by omega)⟩
    gi_wp2
    exact⟨hqs.keeps.trans hsm,rfl,.inr ⟨_,hj3⟩⟩
  ·have t0:decide (nn≤i)=true:=by simp;omega
   have CY:=Cls.cell (zaa hyx 0);have C1:=Cls.cell (zaa hbi 1);unfold shL at C1
   gi_wp2
   refine ze7 18 (by kernel_rfl) (by kernel_rfl) (by kernel_rfl) (by kernel_rfl) ?_;dsimp only [List.take,List.drop]
   repeat (go_big_quiet_step (fail))
   refine wpQuiet_nil ?_;intro _ hw';obtain⟨nq,rfl⟩:=hw';have hq:=nq.below;have hjq:J ys nq.wd:=hoJ _ X _ none hj ⟨hq.os,hq.tape,hq.output,hq.size,fun k hk _=>hq.block k hk⟩ (fun r e=>by cases e);have hqs:=zam.of_below (B:=W1.heap.size) hq
   gi_wp2
   refine⟨fun _ h=>(by cases h),?_⟩
   gi_wp2
   exact⟨hqs.keeps,rfl,.inl ⟨_,by omega,hjq⟩⟩
 case done=>
  rintro D xs X hD rfl ⟨⟨⟨⟨ys,hyl,hj⟩,hbi⟩,hyx⟩,hB⟩ hK
  gi_wp2
  refine⟨by simp,.inl ⟨_,_,rfl,run_takeDeferred hK,?_⟩⟩;exact⟨_,results_none rfl _ _ _,⟨_,rfl⟩,.inl ⟨_,Nat.le_trans hyl (zea u),hoJ _ X _ (some D) hj (grownBy_putObj' X D _) (fun r e=>by cases e;exact⟨by omega,_,hK,rfl⟩)⟩⟩
 case stop=>
  rintro D c pre X hD hpre ⟨rfl,hjx⟩ hK
  gi_wp2
  refine⟨by simp,.inl ⟨_,_,rfl,run_takeDeferred hK,?_⟩⟩;refine⟨_,results_none rfl _ _ _,⟨_,rfl⟩,?_⟩;rcases hjx with ⟨ys,hyl,hj⟩|⟨ys,hj⟩
  ·exact .inl ⟨_,hyl,hoJ _ X _ (some D) hj (grownBy_putObj' X D _) (fun r e=>by cases e;exact⟨by omega,_,hK,rfl⟩)⟩
  ·exact .inr ⟨_,trivial,hoJx _ X _ (some D) hj (grownBy_putObj' X D _) (fun r e=>by cases e;exact⟨by omega,_,hK,rfl⟩)⟩
end Go.Proofs.YtpbmmoneeoijaaaGreatDoor
namespace Go.Proofs.YtpbmmoneeoijaaaGreatDoor
open Go.RowKit Go.Deep Go.Shelf
set_option maxRecDepth 100000
def offV (O:Nat→Int):Value:=.agg #[.int .i64 (O 0),.int .i64 (O 1),.int .i64 (O 2),.int .i64 (O 3),.int .i64 (O 4),.int .i64 (O 5),.int .i64 (O 6),.int .i64 (O 7),.int .i64 (O 8),.int .i64 (O 9),.int .i64 (O 10),.int .i64 (O 11),.int .i64 (O 12),.int .i64 (O 13),.int .i64 (O 14),.int .i64 (O 15)]
theorem zgh {x:Img} {M:Nat→za9} (htb:∀ j,j < x.mn→(M j).t < 4294967296) (m:Int):zax x M m < 4294967296:=by
 unfold zax
 split
 ·rename_i hm;exact htb _ (by omega)
 ·decide
theorem zbv {P:Program} {w:World} {ops:Array Oper} {rest:List Oper} {o:Oper} {a:Act} {Q:Exit→Act→World→Prop} (hgd:o.guard=none) {v:Value} (hr:(execOp a.eval o).run P w=.ok (.value v) w)
  (h:wpList P ops Q rest (a.put o.dst v) w):wpList P ops Q (o :: rest) a w:=by
 refine wpList_plain hgd fun K hK=>?_;unfold Oper.wp;rw [hr];exact hK _ _ h
structure NewC (bi bo bc:Nat) (i o c:Obj) (X:World):Prop where
 i:X.heap[bi]? =some i
 o:X.heap[bo]? =some o
 c:X.heap[bc]? =some c
def NewA (x:Img) (O:Nat→Int) (w:World) (e:Ending) (w':World):Prop:=
 (∃ o n s T,o < 4294967296∧n < 4294967296∧s < 4294967296∧e=.returned (.tuple #[shV ⟨x,o,n,s,T,O⟩,.bool true]))∧Below w.heap.size w w'
set_option maxHeartbeats 4000000 in
theorem zod (x:Img) (g:Nat→Nat→Int) (M:Nat→za9) (h:Nat→Nat→Int) (i:Nat) (O:Nat→Int) (w:World) (hM:zbh w x.mo x.mn M) (hE:zbj w x.eo x.en 23 h) (htb:∀ j,j < x.mn→(M j).t < 4294967296)
  (hi:i < x.en) (hT:zck w x.ao x.n g) (hTab:Tab w):
  Calls Tryz.prog 168 #[iv x,.int .i64 i,offV O] w (NewA x O w):=by
 have HCE:=hid fun X (hX:Below w.heap.size w X)=>zgy x M h i X (hM.below hX) (hE.below hX) htb hi;have l1:=zgh htb (h i 0);have l2:=zgh htb (h i 1);obtain⟨oo,hoo⟩:∃ q,zdq (zax x M (h i 0)) (zax x M (h i 1))=q:=⟨_,rfl⟩;obtain⟨nn,hnn⟩:∃ q,zdq (zax x M (h i 1)) (zax x M (h i 0))=q:=⟨_,rfl⟩;obtain⟨ss,hss⟩:∃ q,zax x M (h i 0) &&& zax x M (h i 1)=q:=⟨_,rfl⟩;have b1:oo < 4294967296:=by rw [←hoo];exact Nat.lt_of_le_of_lt (zd5 _ _) l1
 have b2:nn < 4294967296:=by rw [←hnn];exact Nat.lt_of_le_of_lt (zd5 _ _) l2
 have b3:ss < 4294967296:=by rw [←hss];exact Nat.lt_of_le_of_lt Nat.and_le_left l1
 rw [hoo,hnn,hss] at HCE;clear hoo hnn hss l1 l2 hE hM htb;have HBO:=hid fun X=>zbo oo nn ss b1 b2 b3 X;have hbo:oo |||nn |||ss < 4294967296:=Nat.or_lt_two_pow (n:=32) (Nat.or_lt_two_pow (n:=32) b1 b2) b3
 have HCO:=hid fun X (hX:Below w.heap.size w X)=>zjx x g (oo |||nn |||ss) X hbo (hT.below hX) (hTab.below hX hTab.pos);obtain⟨bo,hbo2⟩:∃ q,oo |||nn |||ss=q:=⟨_,rfl⟩
 rw [hbo2] at HBO HCO hbo;clear hbo2 hT hTab;unfold cv at HCE HBO;have HPO:=hid fun (T:Nat→Int)=>(⟨oo,nn,ss,T,b1,b2,b3,rfl⟩:∃ o n s T',o < 4294967296∧n < 4294967296∧s < 4294967296∧Ending.returned (.tuple #[shV ⟨x,oo,nn,ss,T,O⟩,.bool true])=.returned (.tuple #[shV ⟨x,o,n,s,T',O⟩,.bool true]));obtain⟨r,ao,n,cap,mo,mn,mc,eo,en,ec⟩:=x;unfold iv at HCE HCO ⊢;unfold offV;dsimp only at HCE HCO HPO hi ⊢;have hb1:Below w.heap.size w (w.alloc (Obj.cells #[.int .i64 r,.slice ao n cap,.slice mo mn mc,.slice eo en ec] 26)):=(Below.refl _ _).alloc (Nat.le_refl _) _;have bI:=heap_alloc_new w (Obj.cells #[.int .i64 r,.slice ao n cap,.slice mo mn mc,.slice eo en ec] 26);have c0:=zaa bI 0;have c1:=zaa bI 1;have c2:=zaa bI 2;have c3:=zaa bI 3;have u1:decide ((i:Int) < 0)=false:=by simp
 have u2:decide ((en:Int)≤(i:Int))=false:=by simp;omega
 go_enter Tryz.func168,Tryz.ntmps168
 go_upto_region 3 with fail
 have hb3:=(hb1.alloc hb1.size (Obj.cells #[.int .i64 (O 0),.int .i64 (O 1),.int .i64 (O 2),.int .i64 (O 3),.int .i64 (O 4),.int .i64 (O 5),.int .i64 (O 6),.int .i64 (O 7),.int .i64 (O 8),.int .i64 (O 9),.int .i64 (O 10),.int .i64 (O 11),.int .i64 (O 12),.int .i64 (O 13),.int .i64 (O 14),.int .i64 (O 15)] 62)).alloc (by simp;omega) (Obj.cells #[.int .i64 0,.slice none 0 0,.slice none 0 0,.slice none 0 0,.int .u32 0,.int .u32 0,.int .u32 0,.int .i64 0,.int .i64 0,.int .i64 0,.int .i64 0,.int .i64 0,.int .i64 0,.int .i64 0,.int .i64 0,.int .i64 0,.int .i64 0,.int .i64 0,.int .i64 0,.int .i64 0,.int .i64 0,.int .i64 0,.int .i64 0,.int .i64 0,.int .i64 0,.int .i64 0,.int .i64 0,.int .i64 0,.int .i64 0,.int .i64 0,.int .i64 0] 296);have bI3:=zac (zac bI (Obj.cells #[.int .i64 (O 0),.int .i64 (O 1),.int .i64 (O 2),.int .i64 (O 3),.int .i64 (O 4),.int .i64 (O 5),.int .i64 (O 6),.int .i64 (O 7),.int .i64 (O 8),.int .i64 (O 9),.int .i64 (O 10),.int .i64 (O 11),.int .i64 (O 12),.int .i64 (O 13),.int .i64 (O 14),.int .i64 (O 15)] 62)) (Obj.cells #[.int .i64 0,.slice none 0 0,.slice none 0 0,.slice none 0 0,.int .u32 0,.int .u32 0,.int .u32 0,.int .i64 0,.int .i64 0,.int .i64 0,.int .i64 0,.int .i64 0,.int .i64 0,.int .i64 0,.int .i64 0,.int .i64 0,.int .i64 0,.int .i64 0,.int .i64 0,.int .i64 0,.int .i64 0,.int .i64 0,.int .i64 0,.int .i64 0,.int .i64 0,.int .i64 0,.int .i64 0,.int .i64 0,.int .i64 0,.int .i64 0,.int .i64 0] 296);have bO2:=heap_alloc_new (w.alloc (Obj.cells #[.int .i64 r,.slice ao n cap,.slice mo mn mc,.slice eo en ec] 26)) (Obj.cells #[.int .i64 (O 0),.int .i64 (O 1),.int .i64 (O 2),.int .i64 (O 3),.int .i64 (O 4),.int .i64 (O 5),.int .i64 (O 6),.int .i64 (O 7),.int .i64 (O 8),.int .i64 (O 9),.int .i64 (O 10),.int .i64 (O 11),.int .i64 (O 12),.int .i64 (O 13),.int .i64 (O 14),.int .i64 (O 15)] 62);rw [World.size_alloc] at bO2;have bO3:=zac bO2 (Obj.cells #[.int .i64 0,.slice none 0 0,.slice none 0 0,.slice none 0 0,.int .u32 0,.int .u32 0,.int .u32 0,.int .i64 0,.int .i64 0,.int .i64 0,.int .i64 0,.int .i64 0,.int .i64 0,.int .i64 0,.int .i64 0,.int .i64 0,.int .i64 0,.int .i64 0,.int .i64 0,.int .i64 0,.int .i64 0,.int .i64 0,.int .i64 0,.int .i64 0,.int .i64 0,.int .i64 0,.int .i64 0,.int .i64 0,.int .i64 0,.int .i64 0,.int .i64 0] 296);have bZ3:=heap_alloc_new ((w.alloc (Obj.cells #[.int .i64 r,.slice ao n cap,.slice mo mn mc,.slice eo en ec] 26)).alloc (Obj.cells #[.int .i64 (O 0),.int .i64 (O 1),.int .i64 (O 2),.int .i64 (O 3),.int .i64 (O 4),.int .i64 (O 5),.int .i64 (O 6),.int .i64 (O 7),.int .i64 (O 8),.int .i64 (O 9),.int .i64 (O 10),.int .i64 (O 11),.int .i64 (O 12),.int .i64 (O 13),.int .i64 (O 14),.int .i64 (O 15)] 62)) (Obj.cells #[.int .i64 0,.slice none 0 0,.slice none 0 0,.slice none 0 0,.int .u32 0,.int .u32 0,.int .u32 0,.int .i64 0,.int .i64 0,.int .i64 0,.int .i64 0,.int .i64 0,.int .i64 0,.int .i64 0,.int .i64 0,.int .i64 0,.int .i64 0,.int .i64 0,.int .i64 0,.int .i64 0,.int .i64 0,.int .i64 0,.int .i64 0,.int .i64 0,.int .i64 0,.int .i64 0,.int .i64 0,.int .i64 0,.int .i64 0,.int .i64 0,.int .i64 0] 296);rw [World.size_alloc,World.size_alloc] at bZ3;have hs3:(((w.alloc (Obj.cells #[.int .i64 r,.slice ao n cap,.slice mo mn mc,.slice eo en ec] 26)).alloc (Obj.cells #[.int .i64 (O 0),.int .i64 (O 1),.int .i64 (O 2),.int .i64 (O 3),.int .i64 (O 4),.int .i64 (O 5),.int .i64 (O 6),.int .i64 (O 7),.int .i64 (O 8),.int .i64 (O 9),.int .i64 (O 10),.int .i64 (O 11),.int .i64 (O 12),.int .i64 (O 13),.int .i64 (O 14),.int .i64 (O 15)] 62)).alloc (Obj.cells #[.int .i64 0,.slice none 0 0,.slice none 0 0,.slice none 0 0,.int .u32 0,.int .u32 0,.int .u32 0,.int .i64 0,.int .i64 0,.int .i64 0,.int .i64 0,.int .i64 0,.int .i64 0,.int .i64 0,.int .i64 0,.int .i64 0,.int .i64 0,.int .i64 0,.int .i64 0,.int .i64 0,.int .i64 0,.int .i64 0,.int .i64 0,.int .i64 0,.int .i64 0,.int .i64 0,.int .i64 0,.int .i64 0,.int .i64 0,.int .i64 0,.int .i64 0] 296)).heap.size=w.heap.size+3:=by simp
 obtain⟨W3,hW3⟩:∃ X,X=((w.alloc (Obj.cells #[.int .i64 r,.slice ao n cap,.slice mo mn mc,.slice eo en ec] 26)).alloc (Obj.cells #[.int .i64 (O 0),.int .i64 (O 1),.int .i64 (O 2),.int .i64 (O 3),.int .i64 (O 4),.int .i64 (O 5),.int .i64 (O 6),.int .i64 (O 7),.int .i64 (O 8),.int .i64 (O 9),.int .i64 (O 10),.int .i64 (O 11),.int .i64 (O 12),.int .i64 (O 13),.int .i64 (O 14),.int .i64 (O 15)] 62)).alloc (Obj.cells #[.int .i64 0,.slice none 0 0,.slice none 0 0,.slice none 0 0,.int .u32 0,.int .u32 0,.int .u32 0,.int .i64 0,.int .i64 0,.int .i64 0,.int .i64 0,.int .i64 0,.int .i64 0,.int .i64 0,.int .i64 0,.int .i64 0,.int .i64 0,.int .i64 0,.int .i64 0,.int .i64 0,.int .i64 0,.int .i64 0,.int .i64 0,.int .i64 0,.int .i64 0,.int .i64 0,.int .i64 0,.int .i64 0,.int .i64 0,.int .i64 0,.int .i64 0] 296):=⟨_,rfl⟩;rw [←hW3] at hb3 bI3 bO3 bZ3 hs3 ⊢;clear hW3 c0 c1 c2 c3 bO2 bI hb1;have c0:=zaa bI3 0;have c1:=zaa bI3 1;have c2:=zaa bI3 2;have c3:=zaa bI3 3
 go_upto_region 4 with (go_at_call 163;refine (HCE.out _ hb3).mono ?_;rintro e w4 ⟨rfl,hb4⟩)
 have hb5:=(hb3.trans (hb4.mono hb3.size)).alloc (by have:=hb4.size;have:=hb3.size;omega) (Obj.cells #[.int .u32 (oo:Nat),.int .u32 (nn:Nat),.int .u32 (ss:Nat)] 291);have bC5:=heap_alloc_new w4 (Obj.cells #[.int .u32 (oo:Nat),.int .u32 (nn:Nat),.int .u32 (ss:Nat)] 291);have bI5:=zac ((hb4.block _ (by omega)).trans bI3) (Obj.cells #[.int .u32 (oo:Nat),.int .u32 (nn:Nat),.int .u32 (ss:Nat)] 291);have bO5:=zac ((hb4.block _ (by omega)).trans bO3) (Obj.cells #[.int .u32 (oo:Nat),.int .u32 (nn:Nat),.int .u32 (ss:Nat)] 291);have bZ5:=zac ((hb4.block _ (by omega)).trans bZ3) (Obj.cells #[.int .u32 (oo:Nat),.int .u32 (nn:Nat),.int .u32 (ss:Nat)] 291);have hs4:=hb4.size;have hs5:(w4.alloc (Obj.cells #[.int .u32 (oo:Nat),.int .u32 (nn:Nat),.int .u32 (ss:Nat)] 291)).heap.size=w4.heap.size+1:=by simp
 obtain⟨W5,hW5⟩:∃ X,X=w4.alloc (Obj.cells #[.int .u32 (oo:Nat),.int .u32 (nn:Nat),.int .u32 (ss:Nat)] 291):=⟨_,rfl⟩;rw [←hW5] at hb5 bC5 bI5 bO5 bZ5 hs5 ⊢;clear hW5 c0 c1 c2 c3 hb4 bI3 bO3 bZ3;refine zcx [4,5,7,8,9] (NewC w.heap.size (w.heap.size+1) w4.heap.size _ _ _) (by kernel_rfl) (by kernel_rfl) (⟨bI5,bO5,bC5⟩:NewC _ _ _ _ _ _ W5.drew) ?_;refine qFs fun K hK=>?_;go_simp;refine⟨.agg #[.int .i64 r,.slice ao n cap,.slice mo mn mc,.slice eo en ec],fun X hX=>?_,hK _ ?_⟩
 ·have z0:=zaa hX.i 0
  have z1:=zaa hX.i 1;have z2:=zaa hX.i 2;have z3:=zaa hX.i 3;go_simp
 clear hK K;refine qFs fun K hK=>?_;go_simp;refine⟨.agg #[.int .u32 (oo:Nat),.int .u32 (nn:Nat),.int .u32 (ss:Nat)],fun X hX=>?_,hK _ ?_⟩
 ·have z0:=zaa hX.c 0
  have z1:=zaa hX.c 1;have z2:=zaa hX.c 2;go_simp
 clear hK K;refine qFs fun K hK=>?_;go_simp;refine⟨.agg #[.int .i64 r,.slice ao n cap,.slice mo mn mc,.slice eo en ec],fun X hX=>?_,hK _ ?_⟩
 ·have z0:=zaa hX.i 0
  have z1:=zaa hX.i 1;have z2:=zaa hX.i 2;have z3:=zaa hX.i 3;go_simp
 clear hK K;refine qFs fun K hK=>?_;go_simp;refine⟨.agg #[.int .u32 (oo:Nat),.int .u32 (nn:Nat),.int .u32 (ss:Nat)],fun X hX=>?_,hK _ ?_⟩
 ·have z0:=zaa hX.c 0
  have z1:=zaa hX.c 1;have z2:=zaa hX.c 2;go_simp
 clear hK K;refine qFc ?_;refine qFc ?_;refine qFs fun K hK=>?_;go_simp;refine⟨.agg #[.int .i64 (O 0),.int .i64 (O 1),.int .i64 (O 2),.int .i64 (O 3),.int .i64 (O 4),.int .i64 (O 5),.int .i64 (O 6),.int .i64 (O 7),.int .i64 (O 8),.int .i64 (O 9),.int .i64 (O 10),.int .i64 (O 11),.int .i64 (O 12),.int .i64 (O 13),.int .i64 (O 14),.int .i64 (O 15)],fun X hX=>?_,hK _ ?_⟩
 ·have z0:=zaa hX.o 0
  have z1:=zaa hX.o 1;have z2:=zaa hX.o 2;have z3:=zaa hX.o 3;have z4:=zaa hX.o 4;have z5:=zaa hX.o 5;have z6:=zaa hX.o 6;have z7:=zaa hX.o 7;have z8:=zaa hX.o 8;have z9:=zaa hX.o 9;have z10:=zaa hX.o 10;have z11:=zaa hX.o 11;have z12:=zaa hX.o 12;have z13:=zaa hX.o 13;have z14:=zaa hX.o 14;have z15:=zaa hX.o 15;go_simp
 clear hK K;refine qFc ?_;refine qFc ?_;refine qFc ?_;refine zau ?_;have B0:Below W5.heap.size W5 W5.drew:=⟨rfl,rfl,rfl,Nat.le_refl _,fun _ _=>rfl⟩;refine zcn (by rfl) (fun K hK=>?_)
 go_wp2_with fail
 refine (HBO.out _).mono ?_;rintro e W6 ⟨rfl,hb6⟩;have B6:=B0.trans (hb6.mono B0.size);clear hb6 B0
 go_wp2_with fail
 refine hK _ _ ⟨(B6.block _ (by omega)).trans bI5,(B6.block _ (by omega)).trans bO5,(B6.block _ (by omega)).trans bC5⟩ ?_;clear hK K;refine zcn (by rfl) (fun K hK=>?_)
 go_wp2_with fail
 refine (HCO.out _ (hb5.trans (B6.mono hb5.size))).mono ?_;rintro e W7 ⟨⟨T,rfl⟩,hb7⟩;have B7:=B6.trans (hb7.mono B6.size);clear hb7 B6
 go_wp2_with fail
 refine hK _ _ ⟨(B7.block _ (by omega)).trans bI5,(B7.block _ (by omega)).trans bO5,(B7.block _ (by omega)).trans bC5⟩ ?_;clear hK K;unfold tabV;refine zcn (by rfl) (fun K hK=>?_);refine zbv rfl (v:=.agg #[.int .i64 r,.slice ao n cap,.slice mo mn mc,.slice eo en ec,.int .u32 (oo:Nat),.int .u32 (nn:Nat),.int .u32 (ss:Nat),.int .i64 (T 0),.int .i64 (T 1),.int .i64 (T 2),.int .i64 (T 3),.int .i64 (T 4),.int .i64 (T 5),.int .i64 (T 6),.int .i64 (T 7),.int .i64 (O 0),.int .i64 (O 1),.int .i64 (O 2),.int .i64 (O 3),.int .i64 (O 4),.int .i64 (O 5),.int .i64 (O 6),.int .i64 (O 7),.int .i64 (O 8),.int .i64 (O 9),.int .i64 (O 10),.int .i64 (O 11),.int .i64 (O 12),.int .i64 (O 13),.int .i64 (O 14),.int .i64 (O 15)]) (by kernel_rfl) ?_;refine hK _ _ ⟨(B7.block _ (by omega)).trans bI5,(B7.block _ (by omega)).trans bO5,(B7.block _ (by omega)).trans bC5⟩ ?_;clear hK K;have bZ7:=(B7.block _ (by omega)).trans bZ5;have bI7:=(B7.block _ (by omega)).trans bI5;have bO7:=(B7.block _ (by omega)).trans bO5;have bC7:=(B7.block _ (by omega)).trans bC5;have s7:=B7.size;have hth:W7.there (w.heap.size+1+1) 0 (shL ⟨⟨r,ao,n,cap,mo,mn,mc,eo,en,ec⟩,oo,nn,ss,T,O⟩).length:=fun j hj=>by
  have hj:j < 31:=hj;rw [Nat.zero_add];refine⟨?_,zab bZ7 _⟩;rw [zaa bZ7,Array.getElem?_eq_getElem (by simpa using hj)];rfl
 refine zcn (by rfl) (fun K hK=>?_);refine wpList_store_mid rfl 296 _ _ rfl (w.heap.size+1+1) 0 _ rfl rfl (by exact hth) (zcz ⟨⟨r,ao,n,cap,mo,mn,mc,eo,en,ec⟩,oo,nn,ss,T,O⟩) (by simp [Value.oneCell']) ?_;have hrg:=World.rangeAt_setCells_same W7 (w.heap.size+1+1) 0 (shL ⟨⟨r,ao,n,cap,mo,mn,mc,eo,en,ec⟩,oo,nn,ss,T,O⟩) hth;have hb7:Below w.heap.size w W7:=hb5.trans (B7.mono hb5.size);have hb8:Below w.heap.size w (W7.setCells (w.heap.size+1+1) 0 (shL ⟨⟨r,ao,n,cap,mo,mn,mc,eo,en,ec⟩,oo,nn,ss,T,O⟩)):=zak (by omega) _ 0 _ hb7;refine hK _ _ ⟨(World.heap_setCells_other _ _ _ _ (by omega) (by omega)).trans bI7,(World.heap_setCells_other _ _ _ _ (by omega) (by omega)).trans bO7,(World.heap_setCells_other _ _ _ _ (by omega) (by omega)).trans bC7⟩ ?_;have hC8:NewC w.heap.size (w.heap.size+1) w4.heap.size _ _ _ (W7.setCells (w.heap.size+1+1) 0 (shL ⟨⟨r,ao,n,cap,mo,mn,mc,eo,en,ec⟩,oo,nn,ss,T,O⟩)):=⟨(World.heap_setCells_other _ _ _ _ (by omega) (by omega)).trans bI7,(World.heap_setCells_other _ _ _ _ (by omega) (by omega)).trans bO7,(World.heap_setCells_other _ _ _ _ (by omega) (by omega)).trans bC7⟩;clear hK K;show wpTl _ _ _ _ _ _ (W7.setCells (w.heap.size+1+1) 0 (shL ⟨⟨r,ao,n,cap,mo,mn,mc,eo,en,ec⟩,oo,nn,ss,T,O⟩));generalize W7.setCells (w.heap.size+1+1) 0 (shL ⟨⟨r,ao,n,cap,mo,mn,mc,eo,en,ec⟩,oo,nn,ss,T,O⟩)=W8 at hrg hb8 hC8 ⊢;refine zcn (by rfl) (fun K hK=>?_)
 go_wp2_with fail
 refine hK _ _ hC8 ?_;clear hK K;refine zkq ?_;go_wp2;refine bodyPost_ret (v:=.tuple #[shV ⟨⟨r,ao,n,cap,mo,mn,mc,eo,en,ec⟩,oo,nn,ss,T,O⟩,.bool true]) ?_ rfl ⟨HPO.out T,hb8⟩;rw [results_cell_tmp (p:=6) (u:=7) (ty:=296) rfl];simp [asAddr,run_loadVar_mid W8 (w.heap.size+1+1) 0 296 _ _ hrg Tryz.underlying296 rfl (zcz _),Result.andThen,shV]
structure EvR where
 t:Int
 k:Int
 a:Int
 b:Int
def evC (x:EvR):List Value:=[.int .i64 x.t,.int .i64 x.k,.int .i64 x.a,.int .i64 x.b]
def evL (l:List EvR):List Value:=l.flatMap evC
theorem zyr (l m:List EvR):evL (l ++ m)=evL l ++ evL m:=by simp [evL]
theorem infoEv:(Tryz.prog.info? 152).map (fun i=>(i.zero,i.size,i.bytes))=some (some (.agg #[.int .i64 0,.int .i64 0,.int .i64 0,.int .i64 0]),4,32):=by kernel_rfl
def EvT (t:TypeId):Prop:=t=148∨t=152
theorem zrd {t:TypeId} (h:CbT t):EvT t:=.inl h
theorem now_is (base sb:Nat) (n:Int) (w:World) (_h:zb8 w base sb) (c:w.cell? ⟨sb,139,none⟩=some (.int .i64 n)):Calls Tryz.prog 55 #[.pointer (some ⟨sb,0,none⟩)] w fun e w'=>e=.returned (.int .i64 n)∧w=w':=by
 go_enter Tryz.func55,Tryz.ntmps55;go_wp2;go_ret;exact⟨rfl,rfl⟩
theorem evL_one (l:List EvR):∀ u∈evL l,u.oneCell'=true:=fun u hu=>by
 obtain⟨x,_,hx⟩:=List.mem_flatMap.1 hu;simp only [evC,List.mem_cons,List.not_mem_nil,or_false] at hx;rcases hx with rfl|rfl|rfl|rfl<;>rfl
theorem zkl {w:World} {ops:Array Oper} {rest:List Oper} {o:Oper} {a:Act} {Q:Exit→Act→World→Prop} (hgd:o.guard=none) (s x:Operand)
  (ho:o.op=.call { callee:=.builtin .append,args:=#[s,x],argTypes:=#[136,136] })
  (B:Nat) (v:Value) (l:List EvR) (hs:a.eval s=v) (hown:w.ownsRow B 152 4 v l.length (evL l)) (g:Nat) (ev:EvR) (hx:a.eval x=.slice (some ⟨g,0,none⟩) 1 1) (hg:∀ j u,(evC ev)[j]? =some u→w.cell? ⟨g,j,none⟩=some u)
  (hl:l.length≤100000000) (hB:B≤w.heap.size)
  (h:∀ v' w',w'.ownsRow B 152 4 v' (l ++ [ev]).length (evL (l ++ [ev]))→w.grownBy w' v.ownBlock→wpList Tryz.prog ops Q rest (a.put o.dst v') w'):wpList Tryz.prog ops Q (o :: rest) a w:=by
 obtain⟨i0,hi,hz0,hz1,hz2⟩:=info_parts infoEv;refine wpList_append_own _ hgd s x _ ho B 152 i0 _ 4 32 Tryz.underlying136 hi hz0 hz1 hz2 rfl (by decide) v _ _ hs hown ⟨g,0,none⟩ 1 1 (evC ev) hx rfl (fun j u hj=>?_) (fun u hu=>evL_one [ev] u (by simpa [evL] using hu)) (by unfold maxLen;omega) (by omega) hB ?_
 ·rw [za8,Nat.zero_add];exact hg j u hj
 ·intro v' w' k1 k2 _
  exact h v' w' (by rw [List.length_append,zyr];simpa [evL] using k1) k2
set_option maxHeartbeats 2000000 in
theorem tell_any (c:za3) (evs:List EvR) (qv av lv ev:Value) (kd a b:Int) (w:World) (hbw:c.d.base≤w.heap.size) (hc:zbc c w qv av lv ev) (hs:zb8 w c.d.base c.sb) (ho:w.ownsRow c.d.base 152 4 ev evs.length (evL evs)) (hl:evs.length≤100000000):
  Calls Tryz.prog 64 #[.pointer (some ⟨c.cb,0,none⟩),.int .i64 kd,.int .i64 a,.int .i64 b] w fun e w'=>(∃ v,e=.returned v)∧∃ (n:Int) (ev':Value),zbc c w' qv av lv ev'∧w'.ownsRow c.d.base 152 4 ev' (evs ++ [(⟨n,kd,a,b⟩:EvR)]).length (evL (evs ++ [(⟨n,kd,a,b⟩:EvR)]))∧FT EvT c.d.base w w':=by
 obtain⟨i0,hi,hz0,hz1,hz2⟩:=info_parts infoEv;obtain⟨n,hn⟩:=hs.c139;have HNO:=hid fun X (hX:Below w.heap.size w X)=>now_is c.d.base c.sb n X (hs.below hX) (kept hn hX);obtain⟨ea,ec,rfl,_,_⟩:=zar ho;have HO:=hid ho;clear ho;go_enter Tryz.func64,Tryz.ntmps64;refine zah [9,13,14,15,16,17,18] (fun X=>zbc c X qv av lv (.slice ea evs.length ec)) (by kernel_rfl) (by kernel_rfl) (hc.eq rfl:zbc c w.drew qv av lv (.slice ea evs.length ec)) ?_;refine qFs fun K hK=>?_;go_simp;refine⟨_,fun _ _=>rfl,hK _ ?_⟩;clear hK K;refine qFs fun K hK=>?_;go_simp;refine⟨_,fun _ _=>rfl,hK _ ?_⟩;clear hK K;refine qFs fun K hK=>?_;go_simp;refine⟨_,fun _ _=>rfl,hK _ ?_⟩;clear hK K;refine qFs fun K hK=>?_;go_simp;refine⟨_,fun _ _=>rfl,hK _ ?_⟩;clear hK K;refine qFs fun K hK=>?_;go_simp;refine⟨.slice ea evs.length ec,fun X hX=>?_,hK _ ?_⟩
 ·have EX:=hX
  have z0:=EX.c44;go_simp
 clear hK K;refine qFs fun K hK=>?_;go_simp;refine⟨_,fun _ _=>rfl,hK _ ?_⟩;clear hK K;refine qFs fun K hK=>?_;go_simp;refine⟨_,fun _ _=>rfl,hK _ ?_⟩;clear hK K;refine qFs fun K hK=>?_;go_simp;refine⟨_,fun _ _=>rfl,hK _ ?_⟩;clear hK K;refine qFs fun K hK=>?_;go_simp;refine⟨.pointer (some ⟨c.sb,0,none⟩),fun X hX=>?_,hK _ ?_⟩
 ·have EX:=hX
  have z0:=EX.c0;go_simp
 clear hK K;refine qFc ?_;refine qFs fun K hK=>?_;go_simp;refine⟨_,fun _ _=>rfl,hK _ ?_⟩;clear hK K;refine qFs fun K hK=>?_;go_simp;refine⟨_,fun _ _=>rfl,hK _ ?_⟩;clear hK K;refine qFs fun K hK=>?_;go_simp;refine⟨_,fun _ _=>rfl,hK _ ?_⟩;clear hK K;refine qFc ?_;refine qFc ?_;refine qFc ?_;refine qFc ?_;refine qFc ?_;refine qFc ?_;refine zau ?_;have B0:Below w.heap.size w w.drew:=⟨rfl,rfl,rfl,Nat.le_refl _,fun _ _=>rfl⟩;refine qT1 9 [13,14,15,16,17,18] fun K hK=>?_
 go_wp2_with fail
 refine (HNO.out _ B0).mono ?_;rintro e W2 ⟨rfl,rfl⟩
 go_wp2_with fail
 refine hK _ _ (hc.below B0) ?_;clear hK K;refine qT1 13 [14,15,16,17,18] fun K hK=>?_;refine zbv rfl (v:=.agg #[.int .i64 n,.int .i64 kd,.int .i64 a,.int .i64 b]) (by kernel_rfl) ?_;refine hK _ _ (hc.below B0) ?_;clear hK K;have bA:Below w.heap.size w (w.alloc (Obj.cells #[.int .i64 n,.int .i64 kd,.int .i64 a,.int .i64 b] 152)).drew:=zhh ((Below.refl _ _).alloc (Nat.le_refl _) _);refine qT1 14 [15,16,17,18] fun K hK=>?_
 go_wp2_with fail
 refine hK _ _ (hc.below bA) ?_;clear hK K;refine qT1 15 [16,17,18] fun K hK=>?_;have HOA:=FT.own (M:=fun _=>False) (base:=0) (FT.of_below bA) HO.out id;dsimp only [List.getElem_toArray,List.getElem_cons_succ,List.getElem_cons_zero];refine zkl rfl _ _ rfl c.d.base _ evs rfl HOA w.heap.size ⟨n,kd,a,b⟩ rfl (fun j u hj=>?_) hl (Nat.le_trans hbw bA.size) ?_
 ·rw [←hj]
  exact (World.cell?_alloc_new _ _ _ j).trans (by rw [List.getElem?_toArray];rfl)
 intro v5 w5 h5 g5;have k5:FT EvT c.d.base w w5:=(FT.of_below bA).trans (FT.grown (M:=EvT) HOA g5 (.inr rfl) (Nat.le_refl _));have hc5:=(hc.below bA).keep (FT.grown (M:=fun t=>t=152) HOA g5 rfl (Nat.le_refl _)) (by decide);obtain⟨va,vc,rfl,_,_⟩:=zar h5;have H5:=hid h5
 go_wp2_with fail
 refine hK _ _ hc5 ?_;clear hK K;refine qT1 16 [17,18] fun K hK=>?_
 go_wp2_with fail
 refine hK _ _ hc5 ?_;clear hK K;refine qT1 17 [18] fun K hK=>?_
 go_wp2_with fail
 refine hK _ _ hc5 ?_;clear hK K;have c44:=hc5.c44;have f44:=hc5.fz 44;refine zcy (m:=0) (i:=18) (rem1:=[]) (by kernel_rfl) (by rfl) (by rfl) (by kernel_rfl) (fun K hK=>?_)
 go_wp2_with fail
 refine zan ?_
 go_end0
 have e5:(evs ++ [(⟨n,kd,a,b⟩:EvR)]).length=evs.length+1:=by simp
 refine⟨⟨_,rfl⟩,n,.slice va (evs.length+1) vc,hc5.set (by omega) rfl rfl rfl rfl,?_,k5.trans ((hc5.ft_set 44 _).mono fun _=>zrd)⟩;have:=FT.own (hc5.ft_set 44 (.slice va (evs.length+1) vc)) H5.out (by unfold CbT;decide)
 rwa [e5] at this ⊢
end Go.Proofs.YtpbmmoneeoijaaaGreatDoor
namespace Go.Proofs.YtpbmmoneeoijaaaGreatDoor
open Go.RowKit
def vi (xs:List Int):List Value:=xs.map (Value.int .i64 ·)
theorem zp1 (xs:List Int):(vi xs).length=xs.length:=List.length_map ..
theorem vi_one (xs:List Int):∀ v∈vi xs,v.oneCell'=true:=fun v hv=>by obtain⟨x,_,rfl⟩:=List.mem_map.1 hv;rfl
theorem zk7 (xs ys:List Int):vi (xs ++ ys)=vi xs ++ vi ys:=List.map_append ..
structure QAt (W:World) (base p:Nat) (cap pol:Int) (v:Value) (xs:List Int) (d:Int):Prop where
 blk:W.heap[p]? =some (.cells #[.int .i64 cap,.int .i64 pol,v,.int .i64 d] 266 (0,0))
 row:W.ownsRow base 3 1 v xs.length (vi xs)
 low:base≤p
section
variable {W W':World} {base p:Nat} {cap pol d:Int} {v:Value} {xs:List Int}
theorem QAt.lt (h:QAt W base p cap pol v xs d):p < W.heap.size:=(Array.getElem?_eq_some_iff.1 h.blk).1
theorem QAt.c0 (h:QAt W base p cap pol v xs d):W.cell? ⟨p,0,none⟩=some (.int .i64 cap):=zaa h.blk 0
theorem QAt.c1 (h:QAt W base p cap pol v xs d):W.cell? ⟨p,1,none⟩=some (.int .i64 pol):=zaa h.blk 1
theorem QAt.c2 (h:QAt W base p cap pol v xs d):W.cell? ⟨p,2,none⟩=some v:=zaa h.blk 2
theorem QAt.c3 (h:QAt W base p cap pol v xs d):W.cell? ⟨p,3,none⟩=some (.int .i64 d):=zaa h.blk 3
theorem zmn {a:Array Value} (h:W.heap[p]? =some (.cells a 266 (0,0))) {b n:Nat} {u:Value} {ys:List Value} (hr:W.ownsRow b 3 1 u n ys):u.ownBlock≠some p:=fun e=>by
 rcases hr.2 with ⟨rfl,_⟩|⟨g,cap',cur,rfl,_,hgb,_⟩
 ·cases e
 ·have e1:g=p:=by simpa [Value.ownBlock] using e
  rw [e1,h] at hgb;simp at hgb
theorem QAt.not_row (h:QAt W base p cap pol v xs d) {b n:Nat} {u:Value} {ys:List Value} (hr:W.ownsRow b 3 1 u n ys):u.ownBlock≠some p:=zmn h.blk hr
theorem zfv {S:Nat→Prop} {b n:Nat} {e:TypeId} {u:Value} {ys:List Value} (h:W.ownsRow b e 1 u n ys) (hs:Save S W W') (hn:∀ g,u.ownBlock=some g→¬ S g):W'.ownsRow b e 1 u n ys:=by
 obtain⟨h1,h2|⟨g,cap,cur,rfl,hb,hg,hr⟩⟩:=h
 ·exact⟨h1,.inl h2⟩
 ·exact⟨h1,.inr ⟨g,cap,cur,rfl,hb,(hs.block g (Array.getElem?_eq_some_iff.1 hg).1 (hn g rfl)).trans hg,hr⟩⟩
theorem QAt.save {S:Nat→Prop} (h:QAt W base p cap pol v xs d) (hs:Save S W W') (hp:¬ S p) (hn:∀ g,v.ownBlock=some g→¬ S g):QAt W' base p cap pol v xs d:=
 ⟨(hs.block p h.lt hp).trans h.blk,zfv h.row hs hn,h.low⟩
theorem QAt.drewN (h:QAt W base p cap pol v xs d) (n:Nat):QAt (W.drewN n) base p cap pol v xs d:=⟨h.blk,h.row,h.low⟩
theorem QAt.below (h:QAt W base p cap pol v xs d) (hb:Below W.heap.size W W'):QAt W' base p cap pol v xs d:=h.save (Save.of_below hb fun _=>False) id fun _ _=>id
theorem qset {v':Value} {xs':List Int} (hb:W.heap[p]? =some (.cells #[.int .i64 cap,.int .i64 pol,v,.int .i64 d] 266 (0,0))) (hr:W.ownsRow base 3 1 v' xs'.length (vi xs')) (hl:base≤p):QAt (W.setCell ⟨p,2,none⟩ v') base p cap pol v' xs' d:=
 ⟨heap_setCell_same W p 2 _ _ v' hb,zfv hr (Save.set W p 2 v') fun _ hg e=>zmn hb hr (hg.trans (congrArg some e)),hl⟩
theorem QAt.setD {d':Int} (h:QAt W base p cap pol v xs d):QAt (W.setCell ⟨p,3,none⟩ (.int .i64 d')) base p cap pol v xs d':=
 ⟨heap_setCell_same W p 3 _ _ _ h.blk,zfv h.row (Save.set W p 3 _) fun _ hg e=>h.not_row h.row (hg.trans (congrArg some e)),h.low⟩
end
theorem zgg {w:World} {base:Nat} {v:Value} {xs:List Int} (h:w.ownsRow base 3 1 v xs.length (vi xs)):∃ ao c,v=.slice ao xs.length c∧xs.length≤c∧c≤maxLen∧Row w ao xs.length (fun i=>.int .i64 (xs.getD i 0))∧(0 < xs.length→∃ g,ao=some ⟨g,0,none⟩∧v.ownBlock=some g):=by
 have key:∀ ao c,v=.slice ao xs.length c→Row w ao xs.length (fun i=>.int .i64 (xs.getD i 0)):=fun ao c e=>by
  subst e;exact (znj h).congr fun i hi=>by simp [vi,List.getD,List.getElem?_eq_getElem hi]
 rcases h.2 with ⟨e,h2⟩|⟨g,cap,cur,e,_,_,hnc,hcm,_⟩
 ·rw [h2] at key ⊢;exact⟨none,0,e,Nat.le_refl _,Nat.zero_le _,key _ _ e,fun h=>by omega⟩
 ·exact⟨_,cap,e,hnc,hcm,key _ _ e,fun _=>⟨g,rfl,by rw [e];rfl⟩⟩
theorem zs6:(Tryz.prog.info? 3).map (fun i=>(i.zero,i.size,i.bytes))=some (some (.int .i64 0),1,8):=by kernel_rfl
def znk (cap pol:Int):Bool:=decide (1≤cap) && decide (cap≤16) && decide (1≤pol) && decide (pol≤3)
set_option maxHeartbeats 1000000 in
theorem zx4 (cap pol:Int) (w:World):Calls Tryz.prog 251 #[.agg #[.int .i64 cap,.int .i64 pol]] w fun e w'=>e=.returned (.bool (znk cap pol))∧Below w.heap.size w w':=by
 have hb:=(Below.refl w.heap.size w).alloc (Nat.le_refl _) (Obj.cells #[.int .i64 cap,.int .i64 pol] 74);unfold znk
 cases h1:decide (1≤cap)<;>cases h2:decide (cap≤16)<;>cases h3:decide (1≤pol)<;>cases h4:decide (pol≤3)
 all_goals
  go_enter Tryz.func251,Tryz.ntmps251;go_wp2;go_ret;exact⟨rfl,hb⟩
def NewPost (cap pol:Int) (w:World) (e:Ending) (w':World):Prop:=∃ p,e=.returned (.tuple #[.pointer (some ⟨p,0,none⟩),.int .i64 0])∧QAt w' w.heap.size p cap pol (.slice none 0 0) [] 0∧Below w.heap.size w w'
set_option maxHeartbeats 1000000 in
theorem new_good (cap pol:Int) (w:World) (h:znk cap pol=true):Calls Tryz.prog 182 #[.agg #[.int .i64 cap,.int .i64 pol]] w fun e w'=>NewPost cap pol w e w':=by
 have hb:=(Below.refl w.heap.size w).alloc (Nat.le_refl _) (Obj.cells #[.int .i64 cap,.int .i64 pol] 74);have HR:=zx4 cap pol (w.alloc (Obj.cells #[.int .i64 cap,.int .i64 pol] 74));rw [h] at HR;have c0:(w.alloc (Obj.cells #[.int .i64 cap,.int .i64 pol] 74)).heap[w.heap.size]? =some (Obj.cells #[.int .i64 cap,.int .i64 pol] 74):=heap_alloc_new w _;go_enter Tryz.func182,Tryz.ntmps182
 go_wp2_with fail
 refine HR.mono ?_;rintro e w1 ⟨rfl,hb1⟩;have b1:=hb.trans (hb1.mono hb.size);have d0:=zaj c0 (Save.of_below hb1 fun _=>False) id;have e0:w1.cell? ⟨w.heap.size,0,none⟩=some (.int .i64 cap):=zaa d0 0;have e1:w1.cell? ⟨w.heap.size,1,none⟩=some (.int .i64 pol):=zaa d0 1;clear c0 d0;go_wp2;go_ret2;exact⟨w1.heap.size,rfl,⟨heap_alloc_new w1 _,World.ownsRow_nil _ _ _ _,b1.size⟩,b1.alloc b1.size _⟩
set_option maxHeartbeats 1000000 in
theorem zzo (base p:Nat) (cap pol:Int) (v:Value) (xs:List Int) (d n:Int) (w:World) (hq:QAt w base p cap pol v xs d) (hd:0≤d∧d≤4096) (hn:0≤n∧n≤4096):
  Calls Tryz.prog 126 #[.pointer (some ⟨p,0,none⟩),.int .i64 n] w fun e w'=>(∃ r,e=.returned r)∧QAt w' base p cap pol v xs (min (d+n) 4096)∧Save (fun k=>k=p) w w':=by
 have c3:=hq.c3;have f3:=zab hq.blk 3;go_enter Tryz.func126,Tryz.ntmps126;rcases Int.lt_or_le 4096 (d+n) with h|h
 ·go_wp2
  go_end0
  exact⟨⟨_,rfl⟩,by rw [show min (d+n) 4096=4096 by omega];exact hq.setD,Save.set _ _ _ _⟩
 ·go_wp2
  go_end0
  exact⟨⟨_,rfl⟩,by rw [show min (d+n) 4096=d+n by omega];exact hq.setD,Save.set _ _ _ _⟩
def zqg (cap pol:Int) (xs:List Int) (d n:Int):List Int×Int×Int:=
 if (xs.length:Int) < cap then (xs ++ [n],d,0) else if pol=2 then (xs.drop 1 ++ [n],min (d+1) 4096,0) else if pol=3 then (xs,min (d+1) 4096,0) else (xs,d,271)
def Heir (w:World) (v v':Value):Prop:=∀ g,v'.ownBlock=some g→v.ownBlock=some g∨w.heap.size≤g
def SendPost (base p:Nat) (cap pol:Int) (v:Value) (r:List Int×Int×Int) (w:World) (e:Ending) (w':World):Prop:=
 e=.returned (.int .i64 r.2.2)∧∃ v',QAt w' base p cap pol v' r.1 r.2.1∧Heir w v v'∧Save (fun k=>k=p∨v.ownBlock=some k) w w'
theorem zq4 (w:World) (v:Value):Heir w v v:=fun _ h=>.inl h
theorem Save.setRow (w:World) (g:Nat) (cs:Array Value):Save (fun k=>k=g) w (w.setRow g cs):=⟨rfl,rfl,rfl,by simp [World.setRow],fun k _ hn=>setRow_other w g k cs hn⟩
theorem zkt {w:World} {base base':Nat} {e:TypeId} {size:Nat} {v:Value} {n:Nat} {xs:List Value} (h:w.ownsRow base e size v n xs) (hb:base'≤base):w.ownsRow base' e size v n xs:=
 ⟨h.1,h.2.elim .inl fun ⟨g,cap,cur,h1,h2,h3⟩=>.inr ⟨g,cap,cur,h1,Nat.le_trans hb h2,h3⟩⟩
end Go.Proofs.YtpbmmoneeoijaaaGreatDoor
