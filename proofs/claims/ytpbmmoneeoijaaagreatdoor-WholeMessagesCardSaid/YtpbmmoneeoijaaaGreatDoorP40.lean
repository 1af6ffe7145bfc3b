/-
  A part of the proof: TwoRow CoreLow BeginFn.
-/
import Derived.Test.YtpbmmoneeoijaaaGreatDoorP39
namespace Go.Proofs.YtpbmmoneeoijaaaGreatDoor
open Go.RowKit
structure TwoI (B n m:Nat) (v u:Value) (W:World):Prop where
 a:∃ xs,W.ownsRow B 3 1 v n xs
 b:∃ ys,W.ownsRow B 3 1 u m ys
 ne:∀ g,v.ownBlock=some g→u.ownBlock≠some g
structure Nu (a:Nat) (l:Int) (v u:Value) (W:World):Prop where
 c:W.cell? ⟨a,0,none⟩=some (.int .i64 l)
 lt:a < W.heap.size
 nv:v.ownBlock≠some a
 nu:u.ownBlock≠some a
variable {B n m n' a:Nat} {l:Int} {v u v':Value} {W W':World}
theorem TwoI.lt (h:TwoI B n m v u W):(∀ g,v.ownBlock=some g→B≤g∧g < W.heap.size)∧∀ g,u.ownBlock=some g→B≤g∧g < W.heap.size:=by
 obtain⟨⟨xs,h1⟩,⟨ys,h2⟩,_⟩:=h;exact⟨h1.lt,h2.lt⟩
theorem TwoI.drew (h:TwoI B n m v u W):TwoI B n m v u W.drew:=⟨h.a,h.b,h.ne⟩
theorem TwoI.alloc (h:TwoI B n m v u W) (o:Obj):TwoI B n m v u (W.alloc o):=by
 obtain⟨⟨xs,h1⟩,⟨ys,h2⟩,h3⟩:=h;exact⟨⟨xs,h1.alloc _⟩,⟨ys,h2.alloc _⟩,h3⟩
theorem TwoI.left (h:TwoI B n m v u W) (ho:∃ xs,W'.ownsRow B 3 1 v' n' xs) (hg:W.grownBy W' v.ownBlock) (hat:v'.ownBlock=v.ownBlock∨v'.ownBlock=some W.heap.size):TwoI B n' m v' u W':=by
 have hl:=h.lt.2;obtain⟨h1,⟨ys,h2⟩,h3⟩:=h;refine⟨ho,⟨ys,zgl h2 (Save.of_grown hg) fun g hu hv=>h3 g hv hu⟩,fun g hv hu=>?_⟩;rcases hat with e|e
 ·exact h3 g (e▸hv) hu
 ·rw [e] at hv
  cases hv;exact Nat.lt_irrefl _ (hl _ hu).2
theorem TwoI.right (h:TwoI B m n u v W) (ho:∃ xs,W'.ownsRow B 3 1 v' n' xs) (hg:W.grownBy W' v.ownBlock) (hat:v'.ownBlock=v.ownBlock∨v'.ownBlock=some W.heap.size):TwoI B m n' u v' W':=by
 have hl:=h.lt.1;obtain⟨⟨ys,h2⟩,h1,h3⟩:=h;refine⟨⟨ys,zgl h2 (Save.of_grown hg) fun g hu hv=>h3 g hu hv⟩,ho,fun g hu hv=>?_⟩;rcases hat with e|e
 ·exact h3 g hu (e▸hv)
 ·rw [e] at hv
  cases hv;exact Nat.lt_irrefl _ (hl _ hu).2
theorem Nu.new (h:TwoI B n m v u W) (l:Int):Nu W.heap.size l v u (W.alloc (.cells #[.int .i64 l] 3)):=
 ⟨zaa (heap_alloc_new W _) 0,by simp,fun e=>Nat.lt_irrefl _ (h.lt.1 _ e).2,fun e=>Nat.lt_irrefl _ (h.lt.2 _ e).2⟩
theorem zn7 {b:Nat} (h:W'.heap[b]? =W.heap[b]?) (i:Nat):W'.cell? ⟨b,i,none⟩=W.cell? ⟨b,i,none⟩:=by simp only [World.cell?,h]
theorem Nu.alloc (h:Nu a l v u W) (o:Obj):Nu a l v u (W.alloc o):=
 ⟨(zn7 (Below.heap_alloc W o a h.lt) 0).trans h.c,by have:=h.lt;simp;omega,h.nv,h.nu⟩
theorem Nu.left (h:Nu a l v u W) (hg:W.grownBy W' v.ownBlock) (hat:v'.ownBlock=v.ownBlock∨v'.ownBlock=some W.heap.size):Nu a l v' u W':=by
 have hs:=Save.of_grown hg;refine⟨(zn7 (hs.block a h.lt fun e=>h.nv e) 0).trans h.c,Nat.lt_of_lt_of_le h.lt hs.size,fun e=>?_,h.nu⟩;rcases hat with k|k
 ·exact h.nv (k▸e)
 ·rw [k] at e
  cases e;exact Nat.lt_irrefl _ h.lt
theorem Nu.news (h:Nu a l v u W):∀ (j:Nat) (x:Value),[Value.int .i64 l][j]? =some x→W.cell? ((⟨a,0,none⟩:Addr).add j)=some x:=fun j x hj=>by
 cases j with
 |zero=>
  simp at hj;subst hj;exact h.c
 |succ j=>simp at hj
theorem zfa {w0:World} {row:Option Nat} (hb:Below B w0 W) (hB:B≤W.heap.size) (hg:W.grownBy W' row) (hr:∀ g,row=some g→B≤g):Below B w0 W':=(Save.of_grown hg).below hb hB hr
end Go.Proofs.YtpbmmoneeoijaaaGreatDoor
namespace Go.Proofs.YtpbmmoneeoijaaaGreatDoor
open Go.RowKit Go.Deep Go.Shelf
set_option maxRecDepth 100000
theorem zfu (b:Nat):∀ (vs:List Value) (o:Nat) (W:World),Save (fun k=>k=b) W (W.setCells b o vs)
 | [],_,_=>Save.refl _ _
 |v :: vs,o,W=>(Save.set W b o v).trans (zfu b vs (o+1) _) fun _ _ h=>h
theorem zdk.keepB {M:TypeId→Prop} {base b eb:Nat} {W W':World} {y:Img} {cm ce:Value} {s:EngS} {r:Dl.TL} (h:zdk W base eb y cm ce s r) (k:FT M b W W') (h1:¬ M 259) (h2:¬ M 343):zdk W' base eb y cm ce s r:=by
 obtain⟨cur,hc⟩:=h.ty;have hb:W'.heap[eb]? =W.heap[eb]?:=(k.blk hc h1).trans hc.symm;have cc:∀ o,W'.cell? ⟨eb,o,none⟩=W.cell? ⟨eb,o,none⟩:=fun o=>World.cell?_of_block (w:=W) (w':=W') (a:=⟨eb,o,none⟩) hb;have ff:∀ o,W'.frozen? ⟨eb,o,none⟩=W.frozen? ⟨eb,o,none⟩:=fun o=>by simp [World.frozen?,hb]
 exact⟨(cc _).trans h.c0,(cc _).trans h.c1,(cc _).trans h.c2,(cc _).trans h.c3,(cc _).trans h.c4,(cc _).trans h.c5,(cc _).trans h.c6,(cc _).trans h.c7,(cc _).trans h.c8,(cc _).trans h.c9,(cc _).trans h.c10,(cc _).trans h.c11,(cc _).trans h.c12,
  fun o=>(ff o).trans (h.fz o),⟨cur,k.blk hc h1⟩,h.q.save k (fun o _=>cc o) ff fun j cur' hj hs=>by
   obtain⟨_,c2,t2,h3,h4⟩:=hs;rw [hj] at h3;cases h3;exact h2 h4,h.lo⟩
theorem QuAt.keepB {M:TypeId→Prop} {base b:Nat} {u:QuS} {W W':World} {qv:Value} (h:QuAt base u W qv) (m1:¬ M 160) (m2:¬ M 266) (m3:¬ M 3) (k:FT M b W W'):QuAt base u W' qv:=
 ⟨FT.own k h.1 m1,h.2.keep k fun j cur t hj hc=>by
  obtain⟨_,cur',t',hc',ht⟩:=hj;rw [hc] at hc'
  cases hc'
  exact⟨fun e=>m2 (e▸ht),fun e=>m3 (e▸ht)⟩⟩
theorem zba.keepK {c:za3} {W W':World} {z:zbp} {b:Nat} (h:zba c W z) (hb:0 < b) (hl:b≤W.heap.size) (k:FT (fun t=>t=66) b W W'):zba c W' z:=by
 obtain⟨qv,ev,lv,ac,h1,h2,h3⟩:=h.core;have hsch:zb8 W' c.d.base c.sb:=by
  obtain⟨cur,hc⟩:=h.b.sch.ty;exact h.b.sch.eq ((k.blk hc (by decide)).trans hc.symm)
 exact⟨⟨qv,ev,lv,ac,h1.keep k (by decide),h2.keepB (by decide) (by decide) (by decide) k,FT.own k h3 (by decide)⟩,
  ⟨hsch,⟨h.b.eng.eng.keepB k (by decide) (by decide),h.b.eng.env.keep ⟨by decide,by decide,by decide,by decide,by decide⟩ k,h.b.eng.tab.below (k.below hl) hb,h.b.eng.pos⟩,h.b.own.keep ⟨by decide,by decide,by decide,by decide,by decide⟩ k⟩,h.eok,h.uok⟩
theorem zvk {c:za3} {W:World} {z:zbp} {b:Nat} {cur:Array Value} (h:zba c W z) (hb:0 < b) (hc:W.heap[b]? =some (.cells cur 66 (0,0))) (o:Nat) (vs:List Value):zba c (W.setCells b o vs) z:=
 h.keepK hb (Nat.le_of_lt (Array.getElem?_eq_some_iff.1 hc).1) (FT.of_save (zfu b vs o W) fun k _ hk=>by
  obtain rfl:k=b:=hk;exact⟨Nat.le_refl _,cur,_,hc,rfl⟩)
def BeginA (x:Img) (g:Nat→Nat→Int) (M:Nat→za9) (q:Nat→Nat→Nat→Int) (h:Nat→Nat→Int) (w:World) (e:Ending) (w':World):Prop:=
 Below w.heap.size w w'∧∃ (kv:Value) (L:List Value),e=.returned (.tuple #[kv,.agg ⟨L⟩])∧L.length=141∧L.toArray.all (·.oneCell')=true∧(kv=.pointer none∨
  (OkX x g M q h∧∃ (c:za3) (z:zbp),kv=.pointer (some ⟨c.cb,0,none⟩)∧z.evs=[]∧z.u.tot=0∧w.heap.size≤c.d.base∧(zBq x M q→zuc c∧zba c w' z)))
theorem zjb {X:World} {p:Nat} {kv:Value} {L:List Value} {ac:Act} {R:Ending→World→Prop} (h2:ac.tmps.getD 2 undef=kv) (h3:ac.tmps.getD 3 undef=.pointer (some ⟨p,0,none⟩)) (hd:ac.defers=[])
  (hrg:X.rangeAt p 0 L) (hi:(Tryz.prog.info? 66).map (·.size)=some L.length) (hP:R (.returned (.tuple #[kv,.agg ⟨L⟩])) X):bodyPost Tryz.prog Tryz.f18 R .ret ac X:=by
 refine bodyPost_ret (v:=.tuple #[kv,.agg ⟨L⟩]) ?_ hd hP;have h2':ac.tmps[2]?.getD undef=kv:=by simpa using h2
 have h3':ac.tmps[3]?.getD undef=.pointer (some ⟨p,0,none⟩):=by simpa using h3
 simp [results,Tryz.results18,h2',h3',asAddr,run_loadVar_mid X p 0 66 _ _ hrg Tryz.underlying66 rfl hi,Result.andThen]
theorem zo4:(Tryz.prog.info? 66).map (·.size)=some Tryz.zeroCells66.size:=by kernel_rfl
theorem kl_info:(Tryz.prog.info? 66).map (·.size)=some 141:=by kernel_rfl
theorem zu5:Tryz.zeroCells66.all (·.oneCell')=true:=by kernel_rfl
theorem zkv {W:World} {b:Nat} (h:W.heap[b]? =some (.cells Tryz.zeroCells66 66 (0,0))):W.there b 0 Tryz.zeroCells66.size:=fun j hj=>by
 refine⟨?_,zab h _⟩;rw [zaa h,Nat.zero_add,Array.getElem?_eq_getElem hj];rfl
attribute [local irreducible] KL
set_option maxHeartbeats 8000000 in
theorem zBj (x:Img) (g:Nat→Nat→Int) (M:Nat→za9) (q:Nat→Nat→Nat→Int) (h:Nat→Nat→Int) (w:World) (hx:znd w x g M q h) (hTab:Tab w) (hpos:0 < w.heap.size):
  Calls Tryz.prog 18 #[iv x] w (BeginA x g M q h w):=by
 have HG:=hid fun X (hX:Below w.heap.size w X)=>ztd x M X hx.mn (hx.modes.below hX);have HAD:=hid fun X (hX:Below w.heap.size w X)=>zrv x g M q h X (hx.below hX) (hTab.below hX hTab.pos);have HCN:=hid fun X (hX:Below w.heap.size w X)=>ztw x g M q h X (hx.below hX) (hTab.below hX hTab.pos) (Nat.lt_of_lt_of_le hpos hX.size);have HRN:=hid fun (hk:OkX x g M q h) (lo so:Option Addr) (ln lc sn sc:Nat) X (hX:Below w.heap.size w X)=>zql x g M lo so ln lc sn sc X (hx.modes.below hX) hk.m1 hk.n2 (hx.tasks.below hX) (hk.mq 0 hk.m1).1;clear hx hTab hpos;unfold iv at HG HAD HCN HRN ⊢;unfold zCj at HAD;have b1:Below w.heap.size w (w.alloc (Obj.cells #[.int .i64 x.r,.slice x.ao x.n x.cap,.slice x.mo x.mn x.mc,.slice x.eo x.en x.ec] 26)):=(Below.refl _ _).alloc (Nat.le_refl _) _;have bI1:=heap_alloc_new w (Obj.cells #[.int .i64 x.r,.slice x.ao x.n x.cap,.slice x.mo x.mn x.mc,.slice x.eo x.en x.ec] 26);go_enter Tryz.func18,Tryz.ntmps18;have b2:=b1.alloc b1.size (.cells Tryz.zeroCells66 66);have bI2:=zac bI1 (.cells Tryz.zeroCells66 66);have bR2:=heap_alloc_new (w.alloc (Obj.cells #[.int .i64 x.r,.slice x.ao x.n x.cap,.slice x.mo x.mn x.mc,.slice x.eo x.en x.ec] 26)) (.cells Tryz.zeroCells66 66);rw [World.size_alloc] at bR2;have HW:=hid (rfl:w.heap.size=w.heap.size)
 go_upto_if 14 with (go_at_call 26;refine (HG.out _ b2).mono ?_;rintro e w3 ⟨rr,rfl,_,hb3⟩)
 have b3:=b2.trans (hb3.mono b2.size);have bI3:=qBa hb3 bI2;have bR3:=qBa hb3 bR2;clear b1 bI1 b2 bI2 bR2 hb3 HG;cases rr
 case true=>
  go_upto_region 2 with fail
  refine wp_region_lit ?_;refine zbv rfl (v:=.agg Tryz.zeroCells66) (by kernel_rfl) ?_;refine wpList_plain rfl fun K hK=>?_;go_simp;refine hK _ _ ?_;clear hK K;refine wpList_store_mid rfl 66 _ _ rfl (w.heap.size+1) 0 Tryz.zeroCells66 rfl rfl (zkv bR3) zo4 zu5 ?_;have hrg:(w3.setCells (w.heap.size+1) 0 Tryz.zeroCells66.toList).rangeAt (w.heap.size+1) 0 Tryz.zeroCells66.toList:=World.rangeAt_setCells_same w3 (w.heap.size+1) 0 Tryz.zeroCells66.toList (by simpa using zkv bR3);have hbe:Below w.heap.size w (w3.setCells (w.heap.size+1) 0 Tryz.zeroCells66.toList):=zak (by have:=HW.out;omega) _ 0 _ b3;show Exit.then _ _ _ _ _
  generalize w3.setCells (w.heap.size+1) 0 Tryz.zeroCells66.toList=WE at hrg hbe ⊢;go_wp2;exact zjb rfl rfl rfl hrg (by simpa using zo4) ⟨hbe,_,_,rfl,zj1,by simpa using zu5,.inl rfl⟩
 have i0:=zaa bI3 0;have i1:=zaa bI3 1;have i2:=zaa bI3 2;have i3:=zaa bI3 3
 go_upto_region 4 with (go_at_call 34;refine (HAD.out _ b3).mono ?_;rintro e w4 ⟨ca,ce,cl,cc,cn,cd,at_,er,rfl,hcert,b4⟩)
 clear i0 i1 i2 i3;have HCE:=hid hcert;have B5:=(b3.trans (b4.mono b3.size)).alloc (b3.trans (b4.mono b3.size)).size (Obj.cells #[.slice ca cl cc,.slice ce cn cd] 97);have bI5:=zac (qBa b4 bI3) (Obj.cells #[.slice ca cl cc,.slice ce cn cd] 97);have bR5:=zac (qBa b4 bR3) (Obj.cells #[.slice ca cl cc,.slice ce cn cd] 97);have bC5:=heap_alloc_new w4 (Obj.cells #[.slice ca cl cc,.slice ce cn cd] 97);have bz4:=(Below.refl w4.heap.size w4).alloc (Nat.le_refl _) (Obj.cells #[.slice ca cl cc,.slice ce cn cd] 97);obtain⟨pc,hpc⟩:∃ p,w4.heap.size=p:=⟨_,rfl⟩;rw [hpc] at bC5;obtain⟨W5,hW5⟩:∃ X,X=w4.alloc (Obj.cells #[.slice ca cl cc,.slice ce cn cd] 97):=⟨_,rfl⟩;rw [←hW5] at B5 bI5 bR5 bC5 bz4 ⊢;rw [hpc];have HZ4:=hid bz4;clear hW5 hcert b3 bI3 bR3 b4 HAD hpc bz4;have k0:=zaa bC5 0;have k1:=zaa bC5 1;have i0:=zaa bI5 0;have i1:=zaa bI5 1;have i2:=zaa bI5 2;have i3:=zaa bI5 3;by_cases he:er=0
 case neg=>
  have u1:(er != 0)=true:=by simpa using he
  go_upto_region 5 with fail
  refine wp_region_lit ?_;refine zbv rfl (v:=.agg Tryz.zeroCells66) (by kernel_rfl) ?_;refine wpList_plain rfl fun K hK=>?_;go_simp;refine hK _ _ ?_;clear hK K;refine wpList_store_mid rfl 66 _ _ rfl (w.heap.size+1) 0 Tryz.zeroCells66 rfl rfl (zkv bR5) zo4 zu5 ?_;have hrg:(W5.setCells (w.heap.size+1) 0 Tryz.zeroCells66.toList).rangeAt (w.heap.size+1) 0 Tryz.zeroCells66.toList:=World.rangeAt_setCells_same W5 (w.heap.size+1) 0 Tryz.zeroCells66.toList (by simpa using zkv bR5);have hbe:Below w.heap.size w (W5.setCells (w.heap.size+1) 0 Tryz.zeroCells66.toList):=zak (by have:=HW.out;omega) _ 0 _ B5;show Exit.then _ _ _ _ _
  generalize W5.setCells (w.heap.size+1) 0 Tryz.zeroCells66.toList=WE at hrg hbe ⊢;go_wp2;exact zjb rfl rfl rfl hrg (by simpa using zo4) ⟨hbe,_,_,rfl,zj1,by simpa using zu5,.inl rfl⟩
 subst he;obtain⟨hk,hcn,sp,hsp,hty⟩:=HCE.out rfl;clear hty;have u2:((cn:Int) != (x.en:Int))=false:=by simp [hcn]
 have u3:((x.mn:Int) == 0)=false:=by have:=hk.m1;simp;omega
 have HK:=hid hk;have HSP:=hid (hsp.below HZ4.out);have hcn24:cn≤24:=by have:=hk.e;omega
 have HRN:=hid (HRN.out hk);have HCR:=hid bC5;have HIR:=hid bI5;have HRR:=hid bR5;have HB5:=hid B5;clear hk hcn hsp HCE HZ4 bC5 bI5 bR5 B5;go_wp2;obtain⟨i_0,hi,hz0,hz1,hz2⟩:=info_parts zs6
 go_loopw [7,8,9] (fun v_ u_ i_ wr=>∃ i:Nat,i_=.int .i64 i∧i≤cn∧Hid (TwoI W5.heap.size i i v_ u_ wr)∧Hid (Below W5.heap.size W5 wr)) (fun _ _ i_ _=>cn - (intOf i_).toNat)
 case atStart=>exact⟨0,rfl,Nat.zero_le _,⟨⟨[],World.ownsRow_nil _ _ _ _⟩,⟨[],World.ownsRow_nil _ _ _ _⟩,fun g hg=>by cases hg⟩,Below.refl _ _⟩
 case round=>
  obtain⟨i,rfl,hle,HT,HB⟩:=hrel;have kk0:=kept k0 HB.out;have kk1:=kept k1 HB.out;by_cases hlt:i < cn
  ·have t0:decide ((i:Int) < (cn:Int))=true:=by simp;omega
   have ii0:(0:Int)≤(i:Int):=by omega
   have ii1:(i:Int) < (cn:Int):=by omega
   obtain⟨sb,so,hse,hsc⟩:=HSP.out i hlt;subst hse;have s0:W5.cell? ⟨sb,so+i * 2,none⟩=some (.int .i64 (sp i 0)):=hsc 0 (by decide);have s1:W5.cell? ⟨sb,so+i * 2+1,none⟩=some (.int .i64 (sp i 1)):=hsc 1 (by decide);obtain⟨l0,hl0⟩:∃ l,sp i 0=l:=⟨_,rfl⟩;obtain⟨l1,hl1⟩:∃ l,sp i 1=l:=⟨_,rfl⟩;rw [hl0] at s0;rw [hl1] at s1;have S0:=hid s0;have S1:=hid s1;clear hsc hl0 hl1 s0 s1
   go_upto_region 10 with fail
   clear kk0 kk1;refine zah [7,8,16,17,18,19] (fun X=>Below W5.heap.size W5 X) (by kernel_rfl) (by kernel_rfl) (HB.out.trans ⟨rfl,rfl,rfl,Nat.le_refl _,fun _ _=>rfl⟩:Below W5.heap.size W5 wr.drew) ?_;refine qFs fun K hK=>?_;go_simp;refine⟨_,fun _ _=>rfl,hK _ ?_⟩;clear hK K;refine qFs fun K hK=>?_;go_simp;refine⟨_,fun _ _=>rfl,hK _ ?_⟩;clear hK K;refine qFs fun K hK=>?_;go_simp;refine⟨.slice (some ⟨sb,so,none⟩) cn cd,fun X hX=>?_,hK _ ?_⟩
   ·have z1:=kept k1 hX
    clear hX;go_simp
   clear hK K;refine qFs fun K hK=>?_;go_simp;refine⟨_,fun _ _=>rfl,hK _ ?_⟩;clear hK K;refine qFs fun K hK=>?_;go_simp;refine⟨.pointer (some ⟨sb,so+i * 2,none⟩),fun X hX=>?_,hK _ ?_⟩
   ·go_simp
   clear hK K;refine qFs fun K hK=>?_;go_simp;refine⟨_,fun _ _=>rfl,hK _ ?_⟩;clear hK K;refine qFs fun K hK=>?_;go_simp;refine⟨.int .i64 l0,fun X hX=>?_,hK _ ?_⟩
   ·have z1:=kept S0.out hX
    clear hX;go_simp
   clear hK K;refine qFc ?_;refine qFc ?_;refine qFs fun K hK=>?_;go_simp;refine⟨_,fun _ _=>rfl,hK _ ?_⟩;clear hK K;refine qFs fun K hK=>?_;go_simp;refine⟨_,fun _ _=>rfl,hK _ ?_⟩;clear hK K;refine qFs fun K hK=>?_;go_simp;refine⟨.slice (some ⟨sb,so,none⟩) cn cd,fun X hX=>?_,hK _ ?_⟩
   ·have z1:=kept k1 hX
    clear hX;go_simp
   clear hK K;refine qFs fun K hK=>?_;go_simp;refine⟨_,fun _ _=>rfl,hK _ ?_⟩;clear hK K;refine qFs fun K hK=>?_;go_simp;refine⟨.pointer (some ⟨sb,so+i * 2,none⟩),fun X hX=>?_,hK _ ?_⟩
   ·go_simp
   clear hK K;refine qFs fun K hK=>?_;go_simp;refine⟨_,fun _ _=>rfl,hK _ ?_⟩;clear hK K;refine qFs fun K hK=>?_;go_simp;refine⟨.int .i64 l1,fun X hX=>?_,hK _ ?_⟩
   ·have z1:=kept S1.out hX
    clear hX;go_simp
   clear hK K;refine qFc ?_;refine qFc ?_;refine qFc ?_;refine qFc ?_;refine zau ?_;have T0:=HT.out.drew;have B0:Below W5.heap.size W5 wr.drew:=HB.out.trans ⟨rfl,rfl,rfl,Nat.le_refl _,fun _ _=>rfl⟩;obtain⟨Wd,hWd⟩:∃ X,X=wr.drew:=⟨_,rfl⟩;rw [←hWd] at B0 T0 ⊢;clear hWd;refine zb0 (m:=5) (i:=7) (j:=16) (rem1:=[8,16,17,18,19]) (rem2:=[7,8,17,18,19]) (by kernel_rfl) (by rfl) (by rfl) (by rfl) (by rfl) (fun K hK=>?_) (fun K hK=>?_)
   ·dsimp only [List.getElem_toArray,List.getElem_cons_succ,List.getElem_cons_zero]
    go_wp2_with fail
    have T1:=T0.alloc (.cells #[.int .i64 l0] 3);have N1:=Nu.new T0 l0;have B1:=B0.alloc B0.size (.cells #[.int .i64 l0] 3);refine hK _ _ B1 ?_;clear hK K;obtain⟨X1,hX1⟩:∃ X,X=Wd.alloc (.cells #[.int .i64 l0] 3):=⟨_,rfl⟩;rw [←hX1] at T1 B1 N1 ⊢;obtain⟨p1,hp1⟩:∃ p,Wd.heap.size=p:=⟨_,rfl⟩;rw [hp1] at N1 ⊢;clear hX1 hp1;refine zb0 (m:=4) (i:=8) (j:=16) (rem1:=[16,17,18,19]) (rem2:=[8,17,18,19]) (by kernel_rfl) (by rfl) (by rfl) (by rfl) (by rfl) (fun K hK=>?_) (fun K hK=>?_)
    ·dsimp only [List.getElem_toArray,List.getElem_cons_succ,List.getElem_cons_zero]
     obtain⟨xs2,O2⟩:=T1.a;refine wpList_append_own_at _ rfl _ _ 59 rfl W5.heap.size 3 i_0 (.int .i64 0) 1 8 Tryz.underlying59 hi hz0 hz1 hz2 rfl (by decide) u7 i xs2 rfl O2 ⟨p1,0,none⟩ 1 1 [.int .i64 l0] rfl rfl N1.news (by simp [Value.oneCell']) (by unfold maxLen;omega) (by omega) B1.size ?_;intro r2 X2 o2 g2 _ at2;have T2:=T1.left ⟨_,o2⟩ g2 at2;have B2:=zfa B1 B1.size g2 fun g hg=>(T1.lt.1 g hg).1;refine hK _ _ B2 ?_;clear hK K;refine qT1 16 [17,18,19] fun K hK=>?_;dsimp only [List.getElem_toArray,List.getElem_cons_succ,List.getElem_cons_zero]
     go_wp2_with fail
     have T3:=T2.alloc (.cells #[.int .i64 l1] 3);have N3:=Nu.new T2 l1;have B3:=B2.alloc B2.size (.cells #[.int .i64 l1] 3);refine hK _ _ B3 ?_;clear hK K;obtain⟨X3,hX3⟩:∃ X,X=X2.alloc (.cells #[.int .i64 l1] 3):=⟨_,rfl⟩;rw [←hX3] at T3 B3 N3 ⊢;obtain⟨p3,hp3⟩:∃ p,X2.heap.size=p:=⟨_,rfl⟩;rw [hp3] at N3 ⊢;clear hX3 hp3;refine qT1 17 [18,19] fun K hK=>?_;dsimp only [List.getElem_toArray,List.getElem_cons_succ,List.getElem_cons_zero];obtain⟨xs4,O4⟩:=T3.b;refine wpList_append_own_at _ rfl _ _ 59 rfl W5.heap.size 3 i_0 (.int .i64 0) 1 8 Tryz.underlying59 hi hz0 hz1 hz2 rfl (by decide) u8 i xs4 rfl O4 ⟨p3,0,none⟩ 1 1 [.int .i64 l1] rfl rfl N3.news (by simp [Value.oneCell']) (by unfold maxLen;omega) (by omega) B3.size ?_;intro r4 X4 o4 g4 _ at4;have T4:=T3.right ⟨_,o4⟩ g4 at4;have B4:=zfa B3 B3.size g4 fun g hg=>(T3.lt.2 g hg).1;refine hK _ _ B4 ?_;clear hK K;refine qT1 18 [19] fun K hK=>?_;dsimp only [List.getElem_toArray,List.getElem_cons_succ,List.getElem_cons_zero]
     go_wp2_with fail
     refine hK _ _ B4 ?_;clear hK K;refine qT1 19 [] fun K hK=>?_;dsimp only [List.getElem_toArray,List.getElem_cons_succ,List.getElem_cons_zero]
     go_wp2_with fail
     refine hK _ _ B4 ?_;clear hK K;refine zan ?_;have HTN:=hid T4;have HBN:=hid B4;clear T4 B4;go_wp2;go_roundw
     case rel=>exact⟨i+1,by go_num,by omega,HTN,HBN⟩
     case measure=>simp [intOf];omega
    ·dsimp only [List.getElem_toArray,List.getElem_cons_succ,List.getElem_cons_zero]
     go_wp2_with fail
     have T7:=T1.alloc (.cells #[.int .i64 l1] 3);have N7:=Nu.new T1 l1;have B7:=B1.alloc B1.size (.cells #[.int .i64 l1] 3);have M7:=N1.alloc (.cells #[.int .i64 l1] 3);refine hK _ _ B7 ?_;clear hK K;obtain⟨X7,hX7⟩:∃ X,X=X1.alloc (.cells #[.int .i64 l1] 3):=⟨_,rfl⟩;rw [←hX7] at T7 B7 M7 N7 ⊢;obtain⟨p7,hp7⟩:∃ p,X1.heap.size=p:=⟨_,rfl⟩;rw [hp7] at N7 ⊢;clear hX7 hp7;refine qT1 8 [17,18,19] fun K hK=>?_;dsimp only [List.getElem_toArray,List.getElem_cons_succ,List.getElem_cons_zero];obtain⟨xs8,O8⟩:=T7.a;refine wpList_append_own_at _ rfl _ _ 59 rfl W5.heap.size 3 i_0 (.int .i64 0) 1 8 Tryz.underlying59 hi hz0 hz1 hz2 rfl (by decide) u7 i xs8 rfl O8 ⟨p1,0,none⟩ 1 1 [.int .i64 l0] rfl rfl M7.news (by simp [Value.oneCell']) (by unfold maxLen;omega) (by omega) B7.size ?_;intro r8 X8 o8 g8 _ at8;have T8:=T7.left ⟨_,o8⟩ g8 at8;have B8:=zfa B7 B7.size g8 fun g hg=>(T7.lt.1 g hg).1;have M8:=N7.left g8 at8;refine hK _ _ B8 ?_;clear hK K;refine qT1 17 [18,19] fun K hK=>?_;dsimp only [List.getElem_toArray,List.getElem_cons_succ,List.getElem_cons_zero];obtain⟨xs9,O9⟩:=T8.b;refine wpList_append_own_at _ rfl _ _ 59 rfl W5.heap.size 3 i_0 (.int .i64 0) 1 8 Tryz.underlying59 hi hz0 hz1 hz2 rfl (by decide) u8 i xs9 rfl O9 ⟨p7,0,none⟩ 1 1 [.int .i64 l1] rfl rfl M8.news (by simp [Value.oneCell']) (by unfold maxLen;omega) (by omega) B8.size ?_;intro r9 X9 o9 g9 _ at9;have T9:=T8.right ⟨_,o9⟩ g9 at9;have B9:=zfa B8 B8.size g9 fun g hg=>(T8.lt.2 g hg).1;refine hK _ _ B9 ?_;clear hK K;refine qT1 18 [19] fun K hK=>?_;dsimp only [List.getElem_toArray,List.getElem_cons_succ,List.getElem_cons_zero]
     go_wp2_with fail
     refine hK _ _ B9 ?_;clear hK K;refine qT1 19 [] fun K hK=>?_;dsimp only [List.getElem_toArray,List.getElem_cons_succ,List.getElem_cons_zero]
     go_wp2_with fail
     refine hK _ _ B9 ?_;clear hK K;refine zan ?_;have HTN:=hid T9;have HBN:=hid B9;clear T9 B9;go_wp2;go_roundw
     case rel=>exact⟨i+1,by go_num,by omega,HTN,HBN⟩
     case measure=>simp [intOf];omega
   ·dsimp only [List.getElem_toArray,List.getElem_cons_succ,List.getElem_cons_zero]
    go_wp2_with fail
    have T12:=T0.alloc (.cells #[.int .i64 l1] 3);have N12:=Nu.new T0 l1;have B12:=B0.alloc B0.size (.cells #[.int .i64 l1] 3);refine hK _ _ B12 ?_;clear hK K;obtain⟨X12,hX12⟩:∃ X,X=Wd.alloc (.cells #[.int .i64 l1] 3):=⟨_,rfl⟩;rw [←hX12] at T12 B12 N12 ⊢;obtain⟨p12,hp12⟩:∃ p,Wd.heap.size=p:=⟨_,rfl⟩;rw [hp12] at N12 ⊢;clear hX12 hp12;refine qT1 7 [8,17,18,19] fun K hK=>?_;dsimp only [List.getElem_toArray,List.getElem_cons_succ,List.getElem_cons_zero]
    go_wp2_with fail
    have T13:=T12.alloc (.cells #[.int .i64 l0] 3);have N13:=Nu.new T12 l0;have B13:=B12.alloc B12.size (.cells #[.int .i64 l0] 3);have M13:=N12.alloc (.cells #[.int .i64 l0] 3);refine hK _ _ B13 ?_;clear hK K;obtain⟨X13,hX13⟩:∃ X,X=X12.alloc (.cells #[.int .i64 l0] 3):=⟨_,rfl⟩;rw [←hX13] at T13 B13 N13 M13 ⊢;obtain⟨p13,hp13⟩:∃ p,X12.heap.size=p:=⟨_,rfl⟩;rw [hp13] at N13 ⊢;clear hX13 hp13;refine qT1 8 [17,18,19] fun K hK=>?_;dsimp only [List.getElem_toArray,List.getElem_cons_succ,List.getElem_cons_zero];obtain⟨xs14,O14⟩:=T13.a;refine wpList_append_own_at _ rfl _ _ 59 rfl W5.heap.size 3 i_0 (.int .i64 0) 1 8 Tryz.underlying59 hi hz0 hz1 hz2 rfl (by decide) u7 i xs14 rfl O14 ⟨p13,0,none⟩ 1 1 [.int .i64 l0] rfl rfl N13.news (by simp [Value.oneCell']) (by unfold maxLen;omega) (by omega) B13.size ?_;intro r14 X14 o14 g14 _ at14;have T14:=T13.left ⟨_,o14⟩ g14 at14;have B14:=zfa B13 B13.size g14 fun g hg=>(T13.lt.1 g hg).1;have M14:=M13.left g14 at14;refine hK _ _ B14 ?_;clear hK K;refine qT1 17 [18,19] fun K hK=>?_;dsimp only [List.getElem_toArray,List.getElem_cons_succ,List.getElem_cons_zero];obtain⟨xs15,O15⟩:=T14.b;refine wpList_append_own_at _ rfl _ _ 59 rfl W5.heap.size 3 i_0 (.int .i64 0) 1 8 Tryz.underlying59 hi hz0 hz1 hz2 rfl (by decide) u8 i xs15 rfl O15 ⟨p12,0,none⟩ 1 1 [.int .i64 l1] rfl rfl M14.news (by simp [Value.oneCell']) (by unfold maxLen;omega) (by omega) B14.size ?_;intro r15 X15 o15 g15 _ at15;have T15:=T14.right ⟨_,o15⟩ g15 at15;have B15:=zfa B14 B14.size g15 fun g hg=>(T14.lt.2 g hg).1;refine hK _ _ B15 ?_;clear hK K;refine qT1 18 [19] fun K hK=>?_;dsimp only [List.getElem_toArray,List.getElem_cons_succ,List.getElem_cons_zero]
    go_wp2_with fail
    refine hK _ _ B15 ?_;clear hK K;refine qT1 19 [] fun K hK=>?_;dsimp only [List.getElem_toArray,List.getElem_cons_succ,List.getElem_cons_zero]
    go_wp2_with fail
    refine hK _ _ B15 ?_;clear hK K;refine zan ?_;have HTN:=hid T15;have HBN:=hid B15;clear T15 B15;go_wp2;go_roundw
    case rel=>exact⟨i+1,by go_num,by omega,HTN,HBN⟩
    case measure=>simp [intOf];omega
  ·obtain rfl:i=cn:=by omega
   have t0:decide ((i:Int) < (i:Int))=false:=by simp
   have HB':=hid (HB5.out.trans (HB.out.mono HB5.out.size));have bI6:=(HB.out.block _ (Array.getElem?_eq_some_iff.1 HIR.out).1).trans HIR.out;have HR6:=hid ((HB.out.block _ (Array.getElem?_eq_some_iff.1 HRR.out).1).trans HRR.out);have j0:=zaa bI6 0;have j1:=zaa bI6 1;have j2:=zaa bI6 2;have j3:=zaa bI6 3;have HI6:=hid bI6;obtain⟨⟨_,hv⟩,⟨_,hu⟩,_⟩:=HT.out;obtain⟨va,vc,rfl,_,_⟩:=zar hv;obtain⟨ua,uc,rfl,_,_⟩:=zar hu;clear hv hu HT bI6 i0 i1 i2 i3 k0 k1
   go_upto_region 12 with (go_at_call 49;refine (HCN.out _ HB'.out).mono ?_;rintro e w7 ⟨b7,hcore⟩;rcases hcore with ⟨at_,er,hne,rfl⟩|⟨hk',c,z,rfl,hz⟩)
   ·have B7:=HB'.out.trans (b7.mono HB'.out.size)
    have bI7:=qBa b7 HI6.out;have bR7:=qBa b7 HR6.out;clear j0 j1 j2 j3;have j0:=zaa bI7 0;have j1:=zaa bI7 1;have j2:=zaa bI7 2;have j3:=zaa bI7 3;refine wp_region_lit ?_
    go_wp2_with fail
    refine (HRN.out _ _ _ _ _ _ _ B7).mono ?_;rintro e w8 ⟨⟨y,C,rfl⟩,b8⟩
    try rename_i KK hKK
    try refine hKK _ _ ?_
    try clear hKK KK
    have bR8:=qBa b8 bR7;have B8:=B7.trans (b8.mono B7.size);have hth:w8.there (w.heap.size+1) 0 (KL y C).toArray.size:=fun j hj=>by
     have hj:j < 141:=by rw [←zbi y C];simpa using hj
     refine⟨?_,zab bR8 _⟩;rw [zaa bR8,Nat.zero_add,Array.getElem?_eq_getElem (by exact hj)];rfl
    refine wpList_plain rfl fun K hK=>?_;go_simp;refine hK _ _ ?_;clear hK K;refine wpList_store_mid rfl 66 _ _ rfl (w.heap.size+1) 0 (KL y C).toArray rfl rfl hth (by simpa using zc6 y C) (all_oneCell_toArray (zhu y C)) ?_;have hrg:=World.rangeAt_setCells_same w8 (w.heap.size+1) 0 (KL y C) (by simpa using hth);have hbe:Below w.heap.size w (w8.setCells (w.heap.size+1) 0 (KL y C).toArray.toList):=zak (by omega) _ 0 _ B8;have HCI:True:=trivial;clear hth;show Exit.then _ _ _ _ _
    have hrg':(w8.setCells (w.heap.size+1) 0 (KL y C).toArray.toList).rangeAt (w.heap.size+1) 0 (KL y C):=hrg;clear hrg;generalize w8.setCells (w.heap.size+1) 0 (KL y C).toArray.toList=WE at hrg' hbe HCI ⊢;go_wp2;exact zjb rfl rfl rfl hrg' (zc6 y C) ⟨hbe,_,_,rfl,zbi y C,all_oneCell_toArray (zhu y C),.inl rfl⟩
   ·have B7:=HB'.out.trans (b7.mono HB'.out.size)
    have bI7:=qBa b7 HI6.out;have bR7:=qBa b7 HR6.out;clear j0 j1 j2 j3;have j0:=zaa bI7 0;have j1:=zaa bI7 1;have j2:=zaa bI7 2;have j3:=zaa bI7 3;refine wp_region_lit ?_
    go_wp2_with fail
    refine (HRN.out _ _ _ _ _ _ _ B7).mono ?_;rintro e w8 ⟨⟨y,C,rfl⟩,b8⟩
    try rename_i KK hKK
    try refine hKK _ _ ?_
    try clear hKK KK
    have bR8:=qBa b8 bR7;have B8:=B7.trans (b8.mono B7.size);have hth:w8.there (w.heap.size+1) 0 (KL y C).toArray.size:=fun j hj=>by
     have hj:j < 141:=by rw [←zbi y C];simpa using hj
     refine⟨?_,zab bR8 _⟩;rw [zaa bR8,Nat.zero_add,Array.getElem?_eq_getElem (by exact hj)];rfl
    refine wpList_plain rfl fun K hK=>?_;go_simp;refine hK _ _ ?_;clear hK K;refine wpList_store_mid rfl 66 _ _ rfl (w.heap.size+1) 0 (KL y C).toArray rfl rfl hth (by simpa using zc6 y C) (all_oneCell_toArray (zhu y C)) ?_;have hrg:=World.rangeAt_setCells_same w8 (w.heap.size+1) 0 (KL y C) (by simpa using hth);have hbe:Below w.heap.size w (w8.setCells (w.heap.size+1) 0 (KL y C).toArray.toList):=zak (by omega) _ 0 _ B8;have hcb:w.heap.size≤c.d.base:=by rw [hz.2.2.1];exact HB'.out.size
    have HCI:zBq x M q→zuc c∧zba c (w8.setCells (w.heap.size+1) 0 (KL y C).toArray.toList) z:=fun hr=>⟨(hz.2.2.2 hr).1,zvk ((hz.2.2.2 hr).2.below b8) (by omega) bR8 _ _⟩;clear hth;show Exit.then _ _ _ _ _
    have hrg':(w8.setCells (w.heap.size+1) 0 (KL y C).toArray.toList).rangeAt (w.heap.size+1) 0 (KL y C):=hrg;clear hrg;generalize w8.setCells (w.heap.size+1) 0 (KL y C).toArray.toList=WE at hrg' hbe HCI ⊢;go_wp2;exact zjb rfl rfl rfl hrg' (zc6 y C) ⟨hbe,_,_,rfl,zbi y C,all_oneCell_toArray (zhu y C),.inr ⟨hk',c,z,rfl,hz.1,hz.2.1,hcb,HCI⟩⟩
end Go.Proofs.YtpbmmoneeoijaaaGreatDoor
