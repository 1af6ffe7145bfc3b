/-
  A part of the proof: OverV BlockV RespV.
-/
import Derived.Test.YtpbmmoneeoijaaaGreatDoorP25
namespace Go.Proofs.YtpbmmoneeoijaaaGreatDoor
open Go.RowKit Go.Deep Go.Shelf
set_option maxRecDepth 100000
set_option maxHeartbeats 8000000
def zmv (T:Nat→Int) (t:Int):Nat→Nat
 |0=>0
 |i+1=>if T i≤t∧T i < 16 then zmv T t i |||bitN (i:Int) else zmv T t i
theorem zm3 (T:Nat→Int) (t:Int):∀ {i:Nat},i≤8→zmv T t i < 2 ^ i
 |0,_=>by show 0 < 2 ^ 0;decide
 |i+1,h=>by
  have ih:=zm3 T t (i:=i) (by omega);unfold zmv
  split
  ·exact zCr (by omega) ih
  ·exact Nat.lt_of_lt_of_le ih (Nat.pow_le_pow_right (by decide) (by omega))
theorem over_val (T:Nat→Int) (t:Int) (w:World):Calls Tryz.prog 273 #[tabV T,qI t] w fun e w'=>e=.returned (qU (zmv T t 8:Nat))∧Below w.heap.size w w':=by
 have hb1:=qBr (w:=w) (tabB T);unfold tabV;unfold tabB at hb1;go_enter Tryz.func273,Tryz.ntmps273;go_wp2;obtain⟨W0,hW0⟩:∃ W,W=(w.alloc (qC (qF8 T) 247)):=⟨_,rfl⟩;rw [←hW0] at hb1 ⊢;have HB:=hid hb1;clear hW0 hb1
 go_loopw [5,9] (fun s_ i_ wr=>∃ i s:Nat,i≤8∧s_=qU s∧i_=qI i∧Hid (s=zmv T t i)∧W0=wr) (fun _ i_ _=>8 - (intOf i_).toNat)
 case atStart=>exact⟨0,0,by omega,rfl,rfl,hid rfl,rfl⟩
 case round=>
  obtain⟨i,s,hi,rfl,rfl,HS,rfl⟩:=hrel;by_cases hlt:i < 8
  ·have t0:decide ((i:Int) < 8)=true:=by simp;omega
   obtain⟨l,hl⟩:∃ l,T i=l:=⟨_,rfl⟩;have hix:=zCu T hlt;rw [hl] at hix;have i0':(0:Int)≤(i:Int):=by omega
   have i1:(i:Int) < 8:=by omega
   have hrun:=zcv (w:=W0) 247 3 8 _ .i64 i l .i64 Tryz.underlying247 Tryz.underlying3 (by kernel_rfl) hlt hix;have HE:=hid (show zmv T t (i+1)=if l≤t∧l < 16 then s |||bitN (i:Int) else s by rw [HS.out,←hl];rfl);have hs32:s < 4294967296:=by rw [HS.out];exact Nat.lt_trans (zm3 T t (by omega)) (zyc (by omega))
   clear hl
   go_upto_region 5 with (rw [hrun];simp only [Result.andThen];rw [Oper.upon_value])
   clear hrun hix;by_cases k1:l≤t
   ·have u1:decide (l≤t)=true:=by simp [k1]
    by_cases k2:l < 16
    ·have u2:decide (l < 16)=true:=by simp [k2]
     go_wp2_with (go_at_call 138;refine (zjl s hs32 i _).mono ?_;rintro e w2 ⟨rfl,rfl⟩)
     go_roundw
     case rel=>exact⟨i+1,_,by omega,rfl,by go_num,hid (by rw [HE.out,if_pos ⟨k1,k2⟩]),trivial⟩
     case measure=>simp [intOf];omega
    ·have u2:decide (l < 16)=false:=by simp [k2]
     go_wp2;go_roundw
     case rel=>exact⟨i+1,_,by omega,rfl,by go_num,hid (by rw [HE.out,if_neg (fun h=>k2 h.2)]),trivial⟩
     case measure=>simp [intOf];omega
   ·have u1:decide (l≤t)=false:=by simp [k1]
    go_wp2;go_roundw
    case rel=>exact⟨i+1,_,by omega,rfl,by go_num,hid (by rw [HE.out,if_neg (fun h=>k1 h.1)]),trivial⟩
    case measure=>simp [intOf];omega
  ·obtain rfl:i=8:=by omega
   go_wp2;go_ret;rw [HS.out];exact⟨rfl,HB.out⟩
attribute [local go_sem] Oper.semAt_some
set_option maxRecDepth 100000
def ze4 (g:Nat→Nat→Int) (r:Nat) (l:List Nat):Int:=l.foldl (fun a k=>max a (g k (3+r))) 0
def zdu (g:Nat→Nat→Int) (al rl:List Nat):Int:=rl.foldl (fun a r=>a+ze4 g r al) 0
theorem zBu (g:Nat→Nat→Int) (r:Nat) (l:List Nat) (k:Nat):ze4 g r (l ++ [k])=max (ze4 g r l) (g k (3+r)):=by simp [ze4]
theorem zxg (g:Nat→Nat→Int) (al rl:List Nat) (r:Nat):zdu g al (rl ++ [r])=zdu g al rl+ze4 g r al:=by simp [zdu]
theorem zyo {n:Nat} {g:Nat→Nat→Int} (hO:Held n g) {r:Nat} (hr:r < 8) (l:List (Fin n)):0≤ze4 g r (l.map (·.val))∧ze4 g r (l.map (·.val))≤4096:=by
 unfold ze4;have key:∀ (l:List (Fin n)) (a:Int),0≤a→a≤4096→0≤(l.map (·.val)).foldl (fun a k=>max a (g k (3+r))) a∧(l.map (·.val)).foldl (fun a k=>max a (g k (3+r))) a≤4096:=by
  intro l
  induction l with
  |nil=>intro a h1 h2;exact⟨h1,h2⟩
  |cons k l ih=>
   intro a h1 h2;have:=hO k.val k.isLt r hr;exact ih _ (by dsimp only;omega) (by dsimp only;omega)
 exact key l 0 (by omega) (by omega)
def zhx (g:Nat→Nat→Int) (s:Nat) (T:Nat→Int) (t:Int):Int:=zdu g (zae (zkk s t)) (zae (zmv T t 8))
theorem zux (x:Img) (g:Nat→Nat→Int) (s:Nat) (T:Nat→Int) (t:Int) (w:World) (hs:s < 4294967296) (hm:s < 2 ^ x.n) (hT:zev w x.ao x.n g) (hO:Held x.n g) (hTab:Tab w):
  Calls Tryz.prog 223 #[iv x,qU (s:Nat),tabV T,qI t] w fun e w'=>e=.returned (qI (zhx g s T t))∧Below w.heap.size w w':=by
 obtain⟨r,ao,n,cap,mo,mn,mc,eo,en,ec⟩:=x;have HOV:=hid fun X=>over_val T t X;have hov:=zm3 T t (Nat.le_refl 8);have HAB:=hid (zEx s hs t);have havs:=zu2 s t;have hD:zhx g s T t=zdu g (zae (zkk s t)) (zae (zmv T t 8)):=rfl;rw [hD];clear hD;obtain⟨ov,hove⟩:∃ o,zmv T t 8=o:=⟨_,rfl⟩;obtain⟨av,have'⟩:∃ o,zkk s t=o:=⟨_,rfl⟩;rw [hove] at HOV hov ⊢;rw [have'] at HAB havs ⊢;clear hove have';unfold iv;unfold tabV at HOV ⊢;dsimp only at hT hO hm ⊢;have hav2:av < 2 ^ n:=Nat.lt_of_le_of_lt havs hm;refine (callsIn_wide (n:=8)).1 ?_;have h1:1≤8:=by omega
 refine callsIn_of_wp_marks Tryz.func223 rfl trivial ?_ rfl;simp only [Tryz.ntmps223,qPr,Nat.reduceAdd,Nat.reduceSub]
 gi_wp2_with (refine⟨trivial,?_⟩;gi_at_call 273;refine (callsIn_wide.2 (HOV.out _)).mono ?_;rintro e W1 ⟨rfl,hb1⟩)
 refine⟨trivial,?_⟩
 gi_at_call 159
 refine (callsIn_wide.2 (zdk ov _)).mono ?_;rintro e w' ⟨rfl,rfl⟩
 gi_wp2_with fail
 have hbI:Below w.heap.size w W1:=(((((qBr (w:=w) (qC #[qI r,.slice ao n cap,.slice mo mn mc,.slice eo en ec] 26)).alloc (by simp) (qC #[qU (s:Nat)] 140)).alloc (by simp;omega) (qC (qF8 T) 247)).alloc (by simp;omega) (qC #[qI t] 3))).trans (hb1.mono (by simp;omega));have hImg:W1.heap[w.heap.size]? =some (qC #[qI r,.slice ao n cap,.slice mo mn mc,.slice eo en ec] 26):=(hb1.block _ (by simp;omega)).trans (zac (zac (zac (heap_alloc_new w _) _) _) _);have hSet:W1.heap[w.heap.size+1]? =some (qC #[qU (s:Nat)] 140):=(hb1.block _ (by simp)).trans (zac (zac (by have:=heap_alloc_new (w.alloc (qC #[qI r,.slice ao n cap,.slice mo mn mc,.slice eo en ec] 26)) (qC #[qU (s:Nat)] 140);rwa [World.size_alloc] at this) _) _);have hTsk:W1.heap[w.heap.size+1+1+1]? =some (qC #[qI t] 3):=(hb1.block _ (by simp)).trans (by have:=heap_alloc_new (((w.alloc (qC #[qI r,.slice ao n cap,.slice mo mn mc,.slice eo en ec] 26)).alloc (qC #[qU (s:Nat)] 140)).alloc (qC (qF8 T) 247)) (qC #[qI t] 3);simpa [World.size_alloc] using this);have hs1:w.heap.size+4≤W1.heap.size:=by have:=hb1.size;simp at this;omega
 have hT1:=hT.below hbI;have hTab1:=hTab.below hbI hTab.pos;clear hb1 hT hTab HOV;have hI0:Boxed (W1.alloc (qC #[qI 0] 3)) W1.heap.size 3 (qI (zdu g (zae av) (([]:List (Fin 8)).map (·.val)))):=Boxed.new W1 _ _;have hb2:=qBr (w:=W1) (qC #[qI 0] 3);have hsz2:(W1.alloc (qC #[qI 0] 3)).heap.size=W1.heap.size+1:=by simp
 obtain⟨W2,hW2⟩:∃ X,X=W1.alloc (qC #[qI 0] 3):=⟨_,rfl⟩;rw [←hW2] at hb2 hI0 hsz2 ⊢;clear hW2;have hb3:=hb2.alloc hb2.size (qC #[qU (ov:Nat)] 140);have hI3:=hI0.alloc (qC #[qU (ov:Nat)] 140);have hc3:(W2.alloc (qC #[qU (ov:Nat)] 140)).cell? ⟨W1.heap.size+1,0,none⟩=some (qU (ov:Nat)):=by
  have:=(zba W2 (qU (ov:Nat)) 140).1
  rwa [hsz2] at this
 have hsz3:(W2.alloc (qC #[qU (ov:Nat)] 140)).heap.size=W1.heap.size+2:=by simp [hsz2]
 obtain⟨W3,hW3⟩:∃ X,X=W2.alloc (qC #[qU (ov:Nat)] 140):=⟨_,rfl⟩;rw [←hW3] at hb3 hI3 hc3 hsz3 ⊢;clear hW3 hb2 hI0 hsz2;have hTab3:=hTab1.below hb3 hTab1.pos;refine wpIn_rangeFunc_ownH rfl h1 (gf:=221) (lb:=#[qP (W1.heap.size+1)]) rfl trivial (enters_of Tryz.func221 (by kernel_rfl) rfl)
  (zfe 8 (8 - 1) (by omega) (W1.heap.size+1) W1.heap.size ov W3 (Nat.lt_trans hov (by decide)) hov (by omega) hc3 hTab3) belowK_t (belowK_b (by omega)) (Below.refl _ _) (fun _=>rfl)
  (fun pre W=>(Boxed W W1.heap.size 3 (qI (zdu g (zae av) (pre.map (·.val))))∧(0≤zdu g (zae av) (pre.map (·.val))∧zdu g (zae av) (pre.map (·.val))≤4096 * (pre.length:Int)))∧Below W1.heap.size W1 W)
  (fun _ _ _=>False)
  (OwnFrom.and (OwnFrom.and (Own.from (boxed_own _ _ (fun pre:List (Fin 8)=>qI (zdu g (zae av) (pre.map (·.val))))) _) (ownFrom_pure _ _)) (ownFrom_below (Nat.le_refl _) (by omega)))
  (fun _ _ _ _ _ hs _ _=>hs)
  ⟨⟨hI3,by simp [zdu]⟩,hb3⟩
  (fun (q:Fin 8) a' W=>∃ Bx,W1.heap.size < Bx∧Boxed W Bx 3 (qI (q.val:Nat))∧a'= { tmps:=#[.agg #[qI r,.slice ao n cap,.slice mo mn mc,.slice eo en ec],qU (s:Nat),.agg (qF8 T),qI t,qP w.heap.size,qP (w.heap.size+1),qP (w.heap.size+1+1),qP (w.heap.size+1+1+1),qI 0,qU (ov:Nat),qP W1.heap.size,qP Bx,undef,undef,.agg (qF8 T),qI t,qU (ov:Nat),qU (ov:Nat),.func (.func 221) #[] #[qP (W1.heap.size+1)],qI (q.val:Nat),undef,undef,undef,undef,undef,undef,undef,undef,undef,undef,undef,undef,undef,undef,undef,undef,undef,undef,undef,undef,undef,undef,undef,undef],defers:=[] })
  (fun q a' _ X Y row hs hg hr=>by obtain⟨Bx,h1,h2,h3⟩:=hs;exact⟨Bx,h1,boxed_own Bx 3 (fun (_:Unit)=>qI (q.val:Nat)) () X Y row h2 hg (fun r e=>(hr r e).2),h3⟩)
  ?assign ?body ?done ?stop
 case assign=>
  rintro l pre q W K ⟨⟨hI,hbd⟩,hB⟩ hK
  gi_wp2
  exact hK _ _ ((KeepsOthers.alloc _ _).from _) ((Below.refl _ W).alloc hB.size _) ⟨⟨hI.alloc _,hbd⟩,hB.alloc hB.size _⟩ ⟨W.heap.size,hI.lt,Boxed.new W 3 _,rfl⟩
 case body=>
  rintro l pre q a' W hl ⟨rr,hrr⟩ ⟨⟨bV,hv0,hv1⟩,hB⟩ ⟨Bx,hBx,bX,rfl⟩ hlt;have HPR:=hid (show zdu g (zae av) ((pre ++ [q]).map (·.val))=zdu g (zae av) (pre.map (·.val))+ze4 g q.val (zae av) by rw [List.map_append];exact zxg g _ _ _);obtain⟨v,hve⟩:∃ v,zdu g (zae av) (pre.map (·.val))=v:=⟨_,rfl⟩;rw [hve] at bV hv0 hv1 HPR;clear hve;have hsB:=hB.size;have c1:=(hB.cell (p:=⟨w.heap.size,1,none⟩) (by show w.heap.size < _;omega)).trans (zaa hImg 1);have s0:=(hB.cell (p:=⟨w.heap.size+1,0,none⟩) (by show w.heap.size+1 < _;omega)).trans (zaa hSet 0);have k0:=(hB.cell (p:=⟨w.heap.size+1+1+1,0,none⟩) (by show w.heap.size+1+1+1 < _;omega)).trans (zaa hTsk 0);have hbl:=qBr (w:=W) (qC #[qI 0] 3);have s1:=kept s0 hbl;have k1:=kept k0 hbl
  gi_wp2_with (refine⟨trivial,?_⟩;gi_at_call 274;refine (CallsIn.inRound l (callsIn_wide.2 (HAB.out _))).mono ?_;rintro e w' ⟨rfl,rfl⟩)
  refine⟨trivial,?_⟩
  gi_at_call 159
  refine (CallsIn.inRound l (callsIn_wide.2 (zdk av _))).mono ?_;rintro e w' ⟨rfl,rfl⟩
  gi_wp2_with fail
  have h1':1≤8 - 1 - 1:=by omega
  have bL0:Boxed (W.alloc (qC #[qI 0] 3)) W.heap.size 3 (qI (ze4 g q.val (([]:List (Fin n)).map (·.val)))):=Boxed.new W _ _;have bV1:=bV.alloc (qC #[qI 0] 3);have bX1:=bX.alloc (qC #[qI 0] 3);have hcA:((W.alloc (qC #[qI 0] 3)).alloc (qC #[qU (av:Nat)] 140)).cell? ⟨W.heap.size+1,0,none⟩=some (qU (av:Nat)):=by
   have:=(zba (W.alloc (qC #[qI 0] 3)) (qU (av:Nat)) 140).1
   rwa [World.size_alloc] at this
  have hbA:Below W.heap.size W ((W.alloc (qC #[qI 0] 3)).alloc (qC #[qU (av:Nat)] 140)):=hbl.alloc (by simp) _;have hrr':((W.alloc (qC #[qI 0] 3)).alloc (qC #[qU (av:Nat)] 140)).heap[l]? =some (.loop rr):=zac (zac hrr _) _;have hszA:((W.alloc (qC #[qI 0] 3)).alloc (qC #[qU (av:Nat)] 140)).heap.size=W.heap.size+2:=by simp
  have hKA:KeepsFrom W3.heap.size W ((W.alloc (qC #[qI 0] 3)).alloc (qC #[qU (av:Nat)] 140)):=((KeepsOthers.alloc _ _).from _).trans ((KeepsOthers.alloc _ _).from _);have bL2:=bL0.alloc (qC #[qU (av:Nat)] 140);have bV2:=bV1.alloc (qC #[qU (av:Nat)] 140);have bX2:=bX1.alloc (qC #[qU (av:Nat)] 140);have hTabA:=(hTab1.below hB hTab1.pos).below hbA (by omega);obtain⟨WA,hWA⟩:∃ X,X=(W.alloc (qC #[qI 0] 3)).alloc (qC #[qU (av:Nat)] 140):=⟨_,rfl⟩;rw [←hWA] at hcA hbA hrr' hszA hKA bL2 bV2 bX2 hTabA ⊢;clear hWA bL0 bV1 bX1 hbl s0 k0 s1 k1;have hbX:=bX.lt;have hbV:=bV.lt;refine wpIn_rangeFunc_ownN (l₀:=l) (r₀:=rr) rfl hrr' h1' (gf:=221) (lb:=#[qP (W.heap.size+1)]) rfl trivial (enters_of Tryz.func221 (by kernel_rfl) rfl)
   ((zfe n (8 - 1 - 1 - 1) (by omega) (W.heap.size+1) W1.heap.size av WA (by omega) hav2 (by omega) hcA hTabA).inRound l) belowK_t (belowK_b (by omega)) (Below.refl _ _) (fun _=>rfl)
   (fun pre' W'=>((Boxed W' W.heap.size 3 (qI (ze4 g q.val (pre'.map (·.val))))∧Boxed W' W1.heap.size 3 (qI v))∧Boxed W' Bx 3 (qI (q.val:Nat)))∧(Below W1.heap.size W W'∧KeepsFrom W3.heap.size W W'))
   (fun _ _ _=>False)
   (OwnFrom.and (OwnFrom.and (OwnFrom.and (Own.from (boxed_own _ _ (fun pre':List (Fin n)=>qI (ze4 g q.val (pre'.map (·.val))))) _) (Own.from (boxed_own _ _ _) _)) (Own.from (boxed_own _ _ _) _)) (OwnFrom.and (ownFrom_below hB.size (by omega)) (ownFrom_keepsFrom (by omega))))
   (fun _ _ _ _ _ hs _ _=>hs)
   ⟨⟨⟨bL2,bV2⟩,bX2⟩,hbA.mono hsB,hKA⟩
   (fun (k:Fin n) a'' _=>a''= { tmps:=#[.agg #[qI r,.slice ao n cap,.slice mo mn mc,.slice eo en ec],qU (s:Nat),.agg (qF8 T),qI t,qP w.heap.size,qP (w.heap.size+1),qP (w.heap.size+1+1),qP (w.heap.size+1+1+1),qI 0,qU (ov:Nat),qP W1.heap.size,qP Bx,qP W.heap.size,qI (k:Nat),.agg (qF8 T),qI t,qU (ov:Nat),qU (ov:Nat),.func (.func 221) #[] #[qP (W1.heap.size+1)],qI (q.val:Nat),qU (s:Nat),qI t,qU (av:Nat),.func (.func 221) #[] #[qP (W.heap.size+1)],qI (k:Nat),undef,undef,undef,undef,undef,undef,undef,undef,undef,undef,undef,undef,undef,undef,undef,undef,undef,undef,undef],defers:=[] })
   (fun _ _ _ _ _ _ hs _ _=>hs)
   ?assign2 ?body2 ?done2 ?stop2
  case assign2=>
   rintro l2 pre' k W' K hi hK
   gi_wp2
   exact hK _ _ (KeepsFrom.refl _ _) (Below.refl _ _) hi rfl
  case body2=>
   rintro l2 pre' k a'' W' _ _ ⟨⟨⟨bU,bV3⟩,bX3⟩,hBW,hKF⟩ rfl _;obtain⟨k,hkn⟩:=k;have HPL:=hid (show ze4 g q.val ((pre' ++ [(⟨k,hkn⟩:Fin n)]).map (·.val))=max (ze4 g q.val (pre'.map (·.val))) (g k (3+q.val)) by rw [List.map_append];exact zBu g _ _ _);obtain⟨u,hue⟩:∃ u,ze4 g q.val (pre'.map (·.val))=u:=⟨_,rfl⟩;rw [hue] at bU HPL;clear hue;dsimp only;have c1':=(hBW.cell (p:=⟨w.heap.size,1,none⟩) (by show w.heap.size < _;omega)).trans c1;have t0:decide ((k:Int) < (n:Int))=true:=by simp;omega
   obtain⟨tb,tf,rfl,hct⟩:=hT1 k hkn;obtain⟨q,hq8⟩:=q;dsimp only at bX3 HPL ⊢;have hgq:=hO k hkn q hq8;have CG:∀ i:Cls W',i.wd.cell? ⟨tb,tf+k * 11+3+q,none⟩=some (qI (g k (3+q))):=by
    have:=kept (hct (3+q) (by omega)) (hB.trans (hBW.mono (by omega)));rw [←Nat.add_assoc] at this;exact Cls.cell this
   generalize g k (3+q)=gv at CG hgq HPL;have CU:=Cls.cell bU.cell;have CX:=Cls.cell bX3.cell;have C1:=Cls.cell c1';have q0:(0:Int)≤(q:Int):=by omega
   have q1:(q:Int) < 8:=by omega
   have k0':(0:Int)≤(k:Int):=by omega
   have k1':(k:Int) < (n:Int):=by omega
   gi_wp2_with fail
   refine zeh 10 (by kernel_rfl) (by kernel_rfl) (by kernel_rfl) (by kernel_rfl) ?_ ?_
   ·rintro⟨_,_,h⟩
    exact h
   dsimp only [List.take,List.drop]
   repeat (go_big_quiet_step (fail))
   refine wpQuiet_nil ?_;intro _ hw';obtain⟨nq,rfl⟩:=hw';have bU4:Boxed nq.wd W.heap.size 3 (qI u):=(nq.below.block _ bU.lt).trans bU;have bV4:Boxed nq.wd W1.heap.size 3 (qI v):=(nq.below.block _ bV3.lt).trans bV3;have bX4:Boxed nq.wd Bx 3 (qI (q:Nat)):=(nq.below.block _ bX3.lt).trans bX3;have d1:=bU4.cell;have d2:=bU4.frozen;refine wpList_plain rfl fun K hK=>?_;go_simp;refine hK _ _ ?_;refine (show _∧_∧_ from ?_);have hk1:∀ B,KeepsFrom B W' nq.wd:=fun B=>(zcf.of_below (B:=B) nq.below).keeps;have hb5:Below W1.heap.size W' nq.wd:=nq.below.mono (by have:=hBW.size;omega);exact⟨(hk1 _).trans ((KeepsOthers.setCell _ _ _).from _),hb5.setCell (by simp;omega) _,⟨⟨(by rw [HPL.out,show max u gv=if u < gv then gv else u by split<;>omega];exact bU4.set _),bV4.other (by omega) _⟩,bX4.other (by omega) _⟩,(hBW.trans hb5).setCell (by simp;omega) _,(hKF.trans (hk1 _)).trans ((KeepsOthers.setCell _ _ _).from _)⟩
  case done2=>
   rintro ys' W' hys ⟨⟨⟨bU,bV3⟩,bX3⟩,hBW,hKF⟩;obtain⟨hu0,hu1⟩:=zyo hO q.isLt ys';have hLe:ze4 g q.val (zae av)=ze4 g q.val (ys'.map (·.val)):=by rw [hys]
   rw [hLe] at HPR;clear hLe;obtain⟨u,hue⟩:∃ u,ze4 g q.val (ys'.map (·.val))=u:=⟨_,rfl⟩;rw [hue] at bU hu0 hu1 HPR;clear hue;have d1:=bU.cell;have d2:=bV3.cell;have d3:=bV3.frozen;have hsum:IntKind.i64.wrap (v+u)=v+u:=IntWalk.i64_in _ (by omega)
   gi_wp2
   exact⟨hKF.trans ((KeepsOthers.setCell _ _ _).from _),hBW.setCell (by simp) _,⟨by rw [HPR.out];exact bV3.set _,by rw [HPR.out];omega,by rw [HPR.out];simp;omega⟩,(hB.trans (hBW.mono (by omega))).setCell (by simp) _⟩
  case stop2=>
   rintro c pre' W' _ h;exact h.elim
 case done=>
  rintro D xs W hD hxs ⟨⟨bV,_⟩,hB⟩ hK;rw [hxs] at bV;obtain⟨v,hve⟩:∃ v,zdu g (zae av) (zae ov)=v:=⟨_,rfl⟩;rw [hve] at bV;have HV:=hid hve;clear hve;have cV:=bV.cell
  gi_wp2
  refine⟨by simp,.inl ⟨_,_,rfl,run_takeDeferred hK,?_⟩⟩;exact⟨_,results_tmp rfl _ _ _,by rw [HV.out];rfl,(hbI.trans (hB.mono (by omega))).trans (belowK_b (w:=w) (Nat.le_refl _) W D _ _ (by omega) hK rfl rfl)⟩
 case stop=>
  rintro D c pre W hD _ h _;exact h.elim
end Go.Proofs.YtpbmmoneeoijaaaGreatDoor
namespace Go.Proofs.YtpbmmoneeoijaaaGreatDoor
open Go.RowKit Go.Deep Go.Shelf
set_option maxRecDepth 100000
set_option maxHeartbeats 8000000
attribute [local go_sem] zaq
set_option maxRecDepth 100000
theorem zEl {s m i:Nat} (hm:s < 2 ^ m) (h:i∈zae s):i < m:=by
 unfold zae at h;have hb:=(List.mem_filter.1 h).2;rcases Nat.lt_or_ge i m with h|h
 ·exact h
 ·rw [Nat.testBit_lt_two_pow (Nat.lt_of_lt_of_le hm (Nat.pow_le_pow_right (by decide) h))] at hb;cases hb
theorem long_bd {n:Nat} {g:Nat→Nat→Int} (hO:Held n g) {r:Nat} (hr:r < 8) {l:List Nat} (hl:∀ k∈l,k < n):0≤ze4 g r l∧ze4 g r l≤4096:=by
 have:=zyo hO hr (l.attach.map fun k=>(⟨k.1,hl k.1 k.2⟩:Fin n));simpa using this
theorem block_bd {n:Nat} {g:Nat→Nat→Int} (hO:Held n g) {al:List Nat} (ha:∀ k∈al,k < n):∀ {rl:List Nat},(∀ r∈rl,r < 8)→0≤zdu g al rl∧zdu g al rl≤4096 * (rl.length:Int):=by
 intro rl hr;unfold zdu;have key:∀ (rl:List Nat) (a:Int),(∀ r∈rl,r < 8)→0≤a→a≤rl.foldl (fun a r=>a+ze4 g r al) a∧rl.foldl (fun a r=>a+ze4 g r al) a≤a+4096 * (rl.length:Int):=by
  intro rl
  induction rl with
  |nil=>intro a _ _;simp
  |cons r rl ih=>
   intro a h h0;have h1:=long_bd hO (h r (by simp)) ha;have h2:=ih (a+ze4 g r al) (fun r hr=>h r (by simp [hr])) (by omega);simp only [List.foldl_cons,List.length_cons];omega
 have:=key rl 0 hr (by omega);omega
theorem zuy {n:Nat} {g:Nat→Nat→Int} (hO:Held n g) {s:Nat} (hm:s < 2 ^ n) (T:Nat→Int) (t:Int):0≤zhx g s T t∧zhx g s T t≤131072:=by
 have h:=block_bd hO (al:=zae (zkk s t)) (fun k hk=>zEl (Nat.lt_of_le_of_lt (zu2 s t) hm) hk) (rl:=zae (zmv T t 8)) fun r hr=>zEl (zm3 T t (Nat.le_refl 8)) hr;have:=zbm (zmv T t 8);unfold zhx;omega
def ztt (n:Nat) (g:Nat→Nat→Int) (s hold:Nat) (T:Nat→Int) (t:Nat):Int×Int×Bool:=
 (zhx g hold T (t:Nat),zit (g t 2+zhx g hold T (t:Nat)) (g t 1) (fOf g (zjv (zef s (t:Nat)) n)) (zjv (zef s (t:Nat)) n).length)
def rowV (t:Nat) (y:Int×Int×Bool):Value:=.tuple #[.agg #[qI (t:Nat),qI y.1,qI y.2.1],.bool y.2.2]
theorem zx6 (x:Img) (g:Nat→Nat→Int) (s hold:Nat) (T:Nat→Int) (t:Nat) (w:World) (hs:s < 4294967296) (hh:hold < 4294967296) (hm:hold < 2 ^ x.n) (htn:t < x.n) (hn:x.n≤maxLen) (hT:zev w x.ao x.n g) (hO:zf2 x.n g) (hTab:Tab w):
  Calls Tryz.prog 162 #[iv x,qU (s:Nat),qU (hold:Nat),tabV T,qI (t:Nat)] w fun e w'=>e=.returned (rowV t (ztt x.n g s hold T t))∧Below w.heap.size w w':=by
 have HBl:=hid fun X (hX:Below w.heap.size w X)=>zux x g hold T (t:Nat) X hh hm (hT.below hX) hO.held (hTab.below hX hTab.pos);obtain⟨hbl0,hbl1⟩:=zuy hO.held hm T (t:Nat);unfold ztt;obtain⟨bl,hble⟩:∃ b,zhx g hold T (t:Nat)=b:=⟨_,rfl⟩;rw [hble] at HBl hbl0 hbl1 ⊢;clear hble;have HBW:=hid (zpp s hs (t:Nat));have hu:=zpq s (t:Nat);obtain⟨u,hue⟩:∃ u,zef s (t:Nat)=u:=⟨_,rfl⟩;rw [hue] at HBW hu ⊢;clear hue;have HTe:=hid fun (u:Nat) X (hu:u < 4294967296) (hX:Below w.heap.size w X)=>ztf x g u X hu hn (hT.below hX) (hTab.below hX hTab.pos);have HT:=hid hT;obtain⟨r,ao,n,cap,mo,mn,mc,eo,en,ec⟩:=x;unfold iv at HBl HTe ⊢;unfold tabV at HBl ⊢;dsimp only at HBl HTe HT hO hn htn ⊢;clear hT hTab;have u1:decide ((t:Int) < 0)=false:=by simp
 have u2:decide ((n:Int)≤(t:Int))=false:=by simp;omega
 obtain⟨tb,tf,rfl,_⟩:=HT.out t htn;have j0:(0:Int)≤(t:Int):=by omega
 have j1:(t:Int) < (n:Int):=by omega
 obtain⟨res,hok⟩:=hO t htn;have hc1:=hok.c1;have hc2:g t 2≤4096:=by have:=hok.c2;have:=hok.d2;have:=hok.p2;omega
 clear hok hO;go_enter Tryz.func162,Tryz.ntmps162
 go_upto_region 3 with fail
 obtain⟨W0,hW0⟩:∃ X,X=((w.alloc (qC #[qI r,.slice (some ⟨tb,tf,none⟩) n cap,.slice mo mn mc,.slice eo en ec] 26)).alloc (qC (qF8 T) 247)).alloc (qC #[qI 0,qI 0,qI 0] 287):=⟨_,rfl⟩;have hb0:Below w.heap.size w W0:=by rw [hW0];exact (((qBr (w:=w) _).alloc (by simp) _).alloc (by simp;omega) _)
 have bI:W0.heap[w.heap.size]? =some (qC #[qI r,.slice (some ⟨tb,tf,none⟩) n cap,.slice mo mn mc,.slice eo en ec] 26):=by rw [hW0];exact zac (zac (heap_alloc_new w _) _) _
 have bT:W0.heap[w.heap.size+1]? =some (qC (qF8 T) 247):=by
  rw [hW0];refine zac ?_ _;have:=heap_alloc_new (w.alloc (qC #[qI r,.slice (some ⟨tb,tf,none⟩) n cap,.slice mo mn mc,.slice eo en ec] 26)) (qC (qF8 T) 247)
  rwa [World.size_alloc] at this
 have bR:W0.heap[w.heap.size+1+1]? =some (qC #[qI 0,qI 0,qI 0] 287):=by
  rw [hW0];have:=heap_alloc_new ((w.alloc (qC #[qI r,.slice (some ⟨tb,tf,none⟩) n cap,.slice mo mn mc,.slice eo en ec] 26)).alloc (qC (qF8 T) 247)) (qC #[qI 0,qI 0,qI 0] 287)
  rwa [World.size_alloc,World.size_alloc] at this
 rw [←hW0];clear hW0;obtain⟨⟨p0,p1,p2,p3⟩,⟨p4,p5,p6,p7⟩,p8,p9,p10⟩:=(HT.out.below hb0).at_ htn;have hb1:=hb0.alloc hb0.size (qC (qF11 (g t)) 165);have bI1:=zac bI (qC (qF11 (g t)) 165);have bT1:=zac bT (qC (qF11 (g t)) 165);have bR1:=zac bR (qC (qF11 (g t)) 165);have bK1:=heap_alloc_new W0 (qC (qF11 (g t)) 165);have c1:=zaa bI 1
 go_upto_region 4 with fail
 obtain⟨W1,hW1⟩:∃ X,X=W0.alloc (qC (qF11 (g t)) 165):=⟨_,rfl⟩;rw [←hW1] at hb1 bI1 bT1 bR1 bK1 ⊢;clear hW1 p0 p1 p2 p3 p4 p5 p6 p7 p8 p9 p10 c1;have c0:=zaa bI1 0;have c1:=zaa bI1 1;have c2:=zaa bI1 2;have c3:=zaa bI1 3;have t0:=zaa bT1 0;have t1:=zaa bT1 1;have t2:=zaa bT1 2;have t3:=zaa bT1 3;have t4:=zaa bT1 4;have t5:=zaa bT1 5;have t6:=zaa bT1 6;have t7:=zaa bT1 7;have HB1:=hid hb1;have HKI:=hid bI1;have HKR:=hid bR1;have HKK:=hid bK1;clear hb0 hb1 bI bT bR bI1 bT1 bR1 bK1
 go_upto_region 5 with (go_at_call 223;refine (HBl.out _ HB1.out).mono ?_;rintro e W2 ⟨rfl,hb2⟩)
 clear c0 c1 c2 c3 t0 t1 t2 t3 t4 t5 t6 t7;have ROWO2:=qBr (w:=W2) (qC #[qI (t:Nat),qI bl,qI 0] 287);have bI3:=zac (qBa hb2 HKI.out) (qC #[qI (t:Nat),qI bl,qI 0] 287);have bR3:=zac (qBa hb2 HKR.out) (qC #[qI (t:Nat),qI bl,qI 0] 287);have bK3:=zac (qBa hb2 HKK.out) (qC #[qI (t:Nat),qI bl,qI 0] 287);have bN3:=heap_alloc_new W2 (qC #[qI (t:Nat),qI bl,qI 0] 287);have hb3:=(HB1.out.trans (hb2.mono HB1.out.size)).trans (ROWO2.mono (Nat.le_trans HB1.out.size hb2.size));obtain⟨N2,hN2⟩:∃ N,W2.heap.size=N:=⟨_,rfl⟩;obtain⟨W3,hW3⟩:∃ X,X=W2.alloc (qC #[qI (t:Nat),qI bl,qI 0] 287):=⟨_,rfl⟩;have HS2:=hid (show w.heap.size+2 < W2.heap.size by have:=(qLt HKR.out);have:=hb2.size;omega);rw [←hW3] at bI3 bR3 bK3 bN3 hb3 ⊢;clear hW3 ROWO2 hb2 HKI HKR HKK;rw [hN2] at bN3 HS2 ⊢;clear hN2;have c0:=zaa bI3 0;have c1:=zaa bI3 1;have c2:=zaa bI3 2;have c3:=zaa bI3 3;have d1:=zaa bK3 1;have d2:=zaa bK3 2;have n1:=zaa bN3 1;have hwr:IntKind.i64.wrap (g t 2+bl)=g t 2+bl:=IntWalk.i64_in _ (by omega);have HB3:=hid hb3;have HKR:=hid bR3;have HKN:=hid bN3;clear hb3 bR3 bN3 bI3 bK3;refine zan [10,11,12,13,14,15,16,17] (fun X=>Below W3.heap.size W3 X) (by kernel_rfl) (by kernel_rfl) (by exact⟨rfl,rfl,rfl,Nat.le_refl _,fun _ _=>rfl⟩) ?_;refine qFs fun K hK=>?_;go_simp;refine⟨_,fun _ _=>rfl,hK _ ?_⟩;clear hK K;refine qFs fun K hK=>?_;go_simp;refine⟨qI (g t 2),fun X hX=>?_,hK _ ?_⟩
 ·have z0:=kept d2 hX
  go_simp
 clear hK K;refine qFs fun K hK=>?_;go_simp;refine⟨_,fun _ _=>rfl,hK _ ?_⟩;clear hK K;refine qFs fun K hK=>?_;go_simp;refine⟨qI bl,fun X hX=>?_,hK _ ?_⟩
 ·have z0:=kept n1 hX
  go_simp
 clear hK K;refine qFs fun K hK=>?_;go_simp;refine⟨_,fun _ _=>rfl,hK _ ?_⟩;clear hK K;refine qFs fun K hK=>?_;go_simp;refine⟨_,fun _ _=>rfl,hK _ ?_⟩;clear hK K;refine qFs fun K hK=>?_;go_simp;refine⟨qI (g t 1),fun X hX=>?_,hK _ ?_⟩
 ·have z0:=kept d1 hX
  go_simp
 clear hK K;refine qFs fun K hK=>?_;go_simp;refine⟨.agg #[qI r,.slice (some ⟨tb,tf,none⟩) n cap,.slice mo mn mc,.slice eo en ec],fun X hX=>?_,hK _ ?_⟩
 ·have z0:=kept c0 hX
  have z1:=kept c1 hX;have z2:=kept c2 hX;have z3:=kept c3 hX;go_simp
 clear hK K;refine qFs fun K hK=>?_;go_simp;refine⟨_,fun _ _=>rfl,hK _ ?_⟩;clear hK K;refine qFs fun K hK=>?_;go_simp;refine⟨_,fun _ _=>rfl,hK _ ?_⟩;clear hK K;refine qFc ?_;refine qFc ?_;refine qFc ?_;refine qFc ?_;refine qFc ?_;refine qFc ?_;refine qFc ?_;refine qFc ?_;refine za9 ?_;have HW:=hid (show Below W3.heap.size W3 W3.drew from ⟨rfl,rfl,rfl,Nat.le_refl _,fun _ _=>rfl⟩);clear c0 c1 c2 c3 d1 d2 n1;refine qT1 10 [11,12,13,14,15,16,17] fun K hK=>?_
 go_wp2_with fail
 refine (HBW.out _).mono ?_;rintro e w4 ⟨rfl,rfl⟩
 go_wp2_with fail
 refine hK _ _ HW.out ?_;clear hK K;refine qT1 11 [12,13,14,15,16,17] fun K hK=>?_
 go_wp2_with fail
 refine (HTe.out u _ (by omega) (HB3.out.trans (HW.out.mono HB3.out.size))).mono ?_;rintro e w5 ⟨v,rfl,hown,hb5⟩;have B5:=HW.out.trans (hb5.mono HW.out.size);have hlen:=zll u n;rw [znz] at hown;obtain⟨qo,qc,rfl,hTm⟩:=zfn hown;have HLw:=hid (zhn qo (zjv u n).length qc (fOf g (zjv u n)) (g t 2+bl) (g t 1) w5 (by omega) hTm (by omega));clear hown hTm hlen
 go_wp2_with fail
 refine hK _ _ B5 ?_;clear hK K;refine qT1 12 [13,14,15,16,17] fun K hK=>?_;obtain⟨⟨lr,lok⟩,hlr⟩:∃ y,zit (g t 2+bl) (g t 1) (fOf g (zjv u n)) (zjv u n).length=y:=⟨_,rfl⟩;rw [hlr] at HLw;have HLR:=hid hlr;clear hlr;unfold rv at HLw
 go_wp2_with fail
 refine HLw.out.mono ?_;rintro e w6 ⟨rfl,hb6⟩;have B6:=B5.trans (hb6.mono B5.size);clear HLw
 go_wp2_with fail
 refine hK _ _ B6 ?_;clear hK K;refine qT1 13 [14,15,16,17] fun K hK=>?_
 go_wp2_with fail
 refine hK _ _ B6 ?_;clear hK K;refine qT2 14 15 [15,16,17] [14,16,17] (fun K hK=>?_) fun K hK=>?_
 ·go_wp2_with fail
  refine hK _ _ B6 ?_;clear hK K;refine qT2 15 16 [16,17] [15,17] (fun K hK=>?_) fun K hK=>?_
  ·go_wp2_with fail
   refine hK _ _ B6 ?_;clear hK K;refine qT1 16 [17] fun K hK=>?_
   go_wp2_with fail
   refine hK _ _ B6 ?_;clear hK K;refine qT1 17 [] fun K hK=>?_
   go_wp2_with fail
   refine hK _ _ B6 ?_;clear hK K;refine za2 ?_;have bN6:=qBa B6 HKN.out;have bR6:=qBa B6 HKR.out;have n0:=zaa bN6 0;have n1:=zaa bN6 1;have n2:=zaa bN6 2;have f2:=zab bN6 2;have r0:=zaa bR6 0;have r1:=zaa bR6 1;have r2:=zaa bR6 2;have g0:=zab bR6 0;have g1:=zab bR6 1;have g2:=zab bR6 2;have hne:N2≠w.heap.size+1+1:=by have:=HS2.out;omega
   have hne2:w.heap.size+1+1≠N2:=by have:=HS2.out;omega
   have hBF:=HB3.out.trans (B6.mono HB3.out.size);have hFin:∀ a b c d:Value,Below w.heap.size w ((((w6.setCell ⟨N2,2,none⟩ a).setCell ⟨w.heap.size+1+1,0,none⟩ b).setCell ⟨w.heap.size+1+1,1,none⟩ c).setCell ⟨w.heap.size+1+1,2,none⟩ d):=fun a b c d=>
    (((hBF.setCell (by have:=HS2.out;simp;omega) _).setCell (by simp;omega) _).setCell (by simp;omega) _).setCell (by simp;omega) _
   go_wp2;refine bodyPost_ret (v:=.tuple #[.agg #[qI (t:Nat),qI bl,qI lr],.bool lok]) (by simp [results,Tryz.results162,go_sem,r0,r1,r2]) rfl ?_;exact⟨by rw [HLR.out];rfl,hFin _ _ _ _⟩
  ·go_wp2_with fail
   refine hK _ _ B6 ?_;clear hK K;refine qT1 15 [17] fun K hK=>?_
   go_wp2_with fail
   refine hK _ _ B6 ?_;clear hK K;refine qT1 17 [] fun K hK=>?_
   go_wp2_with fail
   refine hK _ _ B6 ?_;clear hK K;refine za2 ?_;have bN6:=qBa B6 HKN.out;have bR6:=qBa B6 HKR.out;have n0:=zaa bN6 0;have n1:=zaa bN6 1;have n2:=zaa bN6 2;have f2:=zab bN6 2;have r0:=zaa bR6 0;have r1:=zaa bR6 1;have r2:=zaa bR6 2;have g0:=zab bR6 0;have g1:=zab bR6 1;have g2:=zab bR6 2;have hne:N2≠w.heap.size+1+1:=by have:=HS2.out;omega
   have hne2:w.heap.size+1+1≠N2:=by have:=HS2.out;omega
   have hBF:=HB3.out.trans (B6.mono HB3.out.size);have hFin:∀ a b c d:Value,Below w.heap.size w ((((w6.setCell ⟨N2,2,none⟩ a).setCell ⟨w.heap.size+1+1,0,none⟩ b).setCell ⟨w.heap.size+1+1,1,none⟩ c).setCell ⟨w.heap.size+1+1,2,none⟩ d):=fun a b c d=>
    (((hBF.setCell (by have:=HS2.out;simp;omega) _).setCell (by simp;omega) _).setCell (by simp;omega) _).setCell (by simp;omega) _
   go_wp2;refine bodyPost_ret (v:=.tuple #[.agg #[qI (t:Nat),qI bl,qI lr],.bool lok]) (by simp [results,Tryz.results162,go_sem,r0,r1,r2]) rfl ?_;exact⟨by rw [HLR.out];rfl,hFin _ _ _ _⟩
 ·go_wp2_with fail
  refine hK _ _ B6 ?_;clear hK K;refine qT1 14 [16,17] fun K hK=>?_
  go_wp2_with fail
  refine hK _ _ B6 ?_;clear hK K;refine qT1 16 [17] fun K hK=>?_
  go_wp2_with fail
  refine hK _ _ B6 ?_;clear hK K;refine qT1 17 [] fun K hK=>?_
  go_wp2_with fail
  refine hK _ _ B6 ?_;clear hK K;refine za2 ?_;have bN6:=qBa B6 HKN.out;have bR6:=qBa B6 HKR.out;have n0:=zaa bN6 0;have n1:=zaa bN6 1;have n2:=zaa bN6 2;have f2:=zab bN6 2;have r0:=zaa bR6 0;have r1:=zaa bR6 1;have r2:=zaa bR6 2;have g0:=zab bR6 0;have g1:=zab bR6 1;have g2:=zab bR6 2;have hne:N2≠w.heap.size+1+1:=by have:=HS2.out;omega
  have hne2:w.heap.size+1+1≠N2:=by have:=HS2.out;omega
  have hBF:=HB3.out.trans (B6.mono HB3.out.size);have hFin:∀ a b c d:Value,Below w.heap.size w ((((w6.setCell ⟨N2,2,none⟩ a).setCell ⟨w.heap.size+1+1,0,none⟩ b).setCell ⟨w.heap.size+1+1,1,none⟩ c).setCell ⟨w.heap.size+1+1,2,none⟩ d):=fun a b c d=>
   (((hBF.setCell (by have:=HS2.out;simp;omega) _).setCell (by simp;omega) _).setCell (by simp;omega) _).setCell (by simp;omega) _
  go_wp2;refine bodyPost_ret (v:=.tuple #[.agg #[qI (t:Nat),qI bl,qI lr],.bool lok]) (by simp [results,Tryz.results162,go_sem,r0,r1,r2]) rfl ?_;exact⟨by rw [HLR.out];rfl,hFin _ _ _ _⟩
end Go.Proofs.YtpbmmoneeoijaaaGreatDoor
