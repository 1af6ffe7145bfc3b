/-
  A part of the proof: BlockFn Run Fix FreeIn Terms DemandRef RoundAny CheckGcd LoadRound LoadAdd LoadOverLaw.
-/
import Derived.Test.YtpbmmoneeoijaaaGreatDoorP25
import Derived.OrdersIn
import Derived.BigRegion
namespace Go.Proofs.YtpbmmoneeoijaaaGreatDoor
open Go.RowKit Go.Deep Go.Shelf
attribute [local go_sem] Oper.semAt_some
set_option maxRecDepth 100000
def Held (n:Nat) (g:Nat→Nat→Int):Prop:=∀ i,i < n→∀ j,j < 8→0≤g i (3+j)∧g i (3+j)≤4096
def NumI (b:Nat) (m:Int) (W:World):Prop:=∃ v:Int,Boxed W b 3 (.int .i64 v)∧0≤v∧v≤m
theorem zuw {β:Type} (b:Nat) (m:β→Int):Own (fun (x:β) W=>NumI b (m x) W):=fun s X Y row hs hg hrow=>by
 obtain⟨v,hv,h1,h2⟩:=hs;exact⟨v,boxed_own b 3 (fun (_:Unit)=>Value.int .i64 v) () X Y row hv hg hrow,h1,h2⟩
theorem NumI.alloc {b:Nat} {m:Int} {W:World} (h:NumI b m W) (o:Obj):NumI b m (W.alloc o):=by
 obtain⟨v,hv,h1,h2⟩:=h;exact⟨v,hv.alloc _,h1,h2⟩
set_option maxHeartbeats 4000000 in
theorem zn9 (x:Img) (g:Nat→Nat→Int) (s:Nat) (T:Nat→Int) (t:Int) (w:World) (hs:s < 4294967296) (hT:zck w x.ao x.n g) (hO:Held x.n g) (hTab:Tab w):
  Calls Tryz.prog 223 #[iv x,.int .u32 (s:Nat),tabV T,.int .i64 t] w fun e w'=>(∃ b:Int,e=.returned (.int .i64 b)∧0≤b∧b≤131072)∧Below w.heap.size w w':=by
 obtain⟨r,ao,n,cap,mo,mn,mc,eo,en,ec⟩:=x;have HOV:=hid fun X=>zzy T t X;unfold iv;unfold tabV at HOV ⊢;dsimp only at hT hO ⊢;refine (callsIn_wide (n:=8)).1 ?_;have h1:1≤8:=by omega
 refine callsIn_of_wp_marks Tryz.func223 rfl trivial ?_ rfl;simp only [Tryz.ntmps223,List.size_toArray,List.length_cons,List.length_nil,Nat.reduceAdd,Nat.reduceSub,Array.replicate_succ,Array.replicate_zero,List.push_toArray,List.append_toArray,List.nil_append,List.cons_append]
 gi_wp2_with (refine⟨trivial,?_⟩;gi_at_call 273;refine (callsIn_wide.2 (HOV.out _)).mono ?_;rintro e W1 ⟨ov,rfl,hov,hb1⟩)
 refine⟨trivial,?_⟩
 gi_at_call 159
 refine (callsIn_wide.2 (zdn ov _)).mono ?_;rintro e w' ⟨rfl,rfl⟩
 gi_wp2_with fail
 have hbI:Below w.heap.size w W1:=((((((Below.refl w.heap.size w).alloc (Nat.le_refl _) (Obj.cells #[.int .i64 r,.slice ao n cap,.slice mo mn mc,.slice eo en ec] 26)).alloc (by simp) (Obj.cells #[.int .u32 (s:Nat)] 140)).alloc (by simp;omega) (Obj.cells #[.int .i64 (T 0),.int .i64 (T 1),.int .i64 (T 2),.int .i64 (T 3),.int .i64 (T 4),.int .i64 (T 5),.int .i64 (T 6),.int .i64 (T 7)] 247)).alloc (by simp;omega) (Obj.cells #[.int .i64 t] 3))).trans (hb1.mono (by simp;omega));have hImg:W1.heap[w.heap.size]? =some (Obj.cells #[.int .i64 r,.slice ao n cap,.slice mo mn mc,.slice eo en ec] 26):=(hb1.block _ (by simp;omega)).trans (zac (zac (zac (heap_alloc_new w _) _) _) _);have hSet:W1.heap[w.heap.size+1]? =some (Obj.cells #[.int .u32 (s:Nat)] 140):=(hb1.block _ (by simp)).trans (zac (zac (by have:=heap_alloc_new (w.alloc (Obj.cells #[.int .i64 r,.slice ao n cap,.slice mo mn mc,.slice eo en ec] 26)) (Obj.cells #[.int .u32 (s:Nat)] 140);rwa [World.size_alloc] at this) _) _);have hTsk:W1.heap[w.heap.size+1+1+1]? =some (Obj.cells #[.int .i64 t] 3):=(hb1.block _ (by simp)).trans (by have:=heap_alloc_new (((w.alloc (Obj.cells #[.int .i64 r,.slice ao n cap,.slice mo mn mc,.slice eo en ec] 26)).alloc (Obj.cells #[.int .u32 (s:Nat)] 140)).alloc (Obj.cells #[.int .i64 (T 0),.int .i64 (T 1),.int .i64 (T 2),.int .i64 (T 3),.int .i64 (T 4),.int .i64 (T 5),.int .i64 (T 6),.int .i64 (T 7)] 247)) (Obj.cells #[.int .i64 t] 3);simpa [World.size_alloc] using this);have hs1:w.heap.size+4≤W1.heap.size:=by have:=hb1.size;simp at this;omega
 have hT1:=hT.below hbI;have hTab1:=hTab.below hbI hTab.pos;clear hb1 hT hTab HOV;have hI0:NumI W1.heap.size 0 (W1.alloc (Obj.cells #[.int .i64 0] 3)):=⟨0,Boxed.new W1 _ _,by omega,by omega⟩;have hb2:=(Below.refl W1.heap.size W1).alloc (Nat.le_refl _) (Obj.cells #[.int .i64 0] 3);have hsz2:(W1.alloc (Obj.cells #[.int .i64 0] 3)).heap.size=W1.heap.size+1:=by simp
 obtain⟨W2,hW2⟩:∃ X,X=W1.alloc (Obj.cells #[.int .i64 0] 3):=⟨_,rfl⟩;rw [←hW2] at hb2 hI0 hsz2 ⊢;clear hW2;have hb3:=hb2.alloc hb2.size (Obj.cells #[.int .u32 (ov:Nat)] 140);have hI3:=hI0.alloc (Obj.cells #[.int .u32 (ov:Nat)] 140);have hc3:(W2.alloc (Obj.cells #[.int .u32 (ov:Nat)] 140)).cell? ⟨W1.heap.size+1,0,none⟩=some (.int .u32 (ov:Nat)):=by
  have:=(zaq W2 (.int .u32 (ov:Nat)) 140).1
  rwa [hsz2] at this
 have hsz3:(W2.alloc (Obj.cells #[.int .u32 (ov:Nat)] 140)).heap.size=W1.heap.size+2:=by simp [hsz2]
 obtain⟨W3,hW3⟩:∃ X,X=W2.alloc (Obj.cells #[.int .u32 (ov:Nat)] 140):=⟨_,rfl⟩;rw [←hW3] at hb3 hI3 hc3 hsz3 ⊢;clear hW3 hb2 hI0 hsz2;have hTab3:=hTab1.below hb3 hTab1.pos;refine wpIn_rangeFunc_ownH rfl h1 (gf:=221) (lb:=#[.pointer (some ⟨W1.heap.size+1,0,none⟩)]) rfl trivial (enters_of Tryz.func221 (by kernel_rfl) rfl)
  (all1_fin 8 (8 - 1) (by omega) (W1.heap.size+1) W1.heap.size ov W3 (Nat.lt_trans hov (by decide)) hov (by omega) hc3 hTab3) belowK_t (belowK_b (by omega)) (Below.refl _ _) (fun _=>rfl)
  (fun pre W=>NumI W1.heap.size (4096 * ((min pre.length 32:Nat):Int)) W∧Below W1.heap.size W1 W)
  (fun _ _ _=>False)
  (OwnFrom.and (Own.from (zuw _ (fun pre:List (Fin 8)=>4096 * ((min pre.length 32:Nat):Int))) _) (ownFrom_below (Nat.le_refl _) (by omega)))
  (fun _ _ _ _ _ hs _ _=>hs)
  ⟨hI3,hb3⟩
  (fun (q:Fin 8) a' W=>∃ Bx,W1.heap.size < Bx∧Boxed W Bx 3 (.int .i64 (q.val:Nat))∧a'= { tmps:=#[.agg #[.int .i64 r,.slice ao n cap,.slice mo mn mc,.slice eo en ec],.int .u32 (s:Nat),.agg #[.int .i64 (T 0),.int .i64 (T 1),.int .i64 (T 2),.int .i64 (T 3),.int .i64 (T 4),.int .i64 (T 5),.int .i64 (T 6),.int .i64 (T 7)],.int .i64 t,.pointer (some ⟨w.heap.size,0,none⟩),.pointer (some ⟨w.heap.size+1,0,none⟩),.pointer (some ⟨w.heap.size+1+1,0,none⟩),.pointer (some ⟨w.heap.size+1+1+1,0,none⟩),.int .i64 0,.int .u32 (ov:Nat),.pointer (some ⟨W1.heap.size,0,none⟩),.pointer (some ⟨Bx,0,none⟩),undef,undef,.agg #[.int .i64 (T 0),.int .i64 (T 1),.int .i64 (T 2),.int .i64 (T 3),.int .i64 (T 4),.int .i64 (T 5),.int .i64 (T 6),.int .i64 (T 7)],.int .i64 t,.int .u32 (ov:Nat),.int .u32 (ov:Nat),.func (.func 221) #[] #[.pointer (some ⟨W1.heap.size+1,0,none⟩)],.int .i64 (q.val:Nat),undef,undef,undef,undef,undef,undef,undef,undef,undef,undef,undef,undef,undef,undef,undef,undef,undef,undef,undef,undef,undef,undef,undef,undef],defers:=[] })
  (fun q a' _ X Y row hs hg hr=>by obtain⟨Bx,h1,h2,h3⟩:=hs;exact⟨Bx,h1,boxed_own Bx 3 (fun (_:Unit)=>Value.int .i64 (q.val:Nat)) () X Y row h2 hg (fun r e=>(hr r e).2),h3⟩)
  ?assign ?body ?done ?stop
 case assign=>
  rintro l pre q W K ⟨hI,hB⟩ hK
  gi_wp2
  exact hK _ _ ((KeepsOthers.alloc _ _).from _) ((Below.refl _ W).alloc hB.size _) ⟨hI.alloc _,hB.alloc hB.size _⟩ ⟨W.heap.size,(by obtain⟨v,hv,_⟩:=hI;exact hv.lt),Boxed.new W 3 _,rfl⟩
 case body=>
  rintro l pre q a' W hl ⟨rr,hrr⟩ ⟨⟨v,bV,hv0,hv1⟩,hB⟩ ⟨Bx,hBx,bX,rfl⟩ hlt;have hsB:=hB.size;have c1:=(hB.cell (p:=⟨w.heap.size,1,none⟩) (by show w.heap.size < _;omega)).trans (zaa hImg 1);have s0:=(hB.cell (p:=⟨w.heap.size+1,0,none⟩) (by show w.heap.size+1 < _;omega)).trans (zaa hSet 0);have k0:=(hB.cell (p:=⟨w.heap.size+1+1+1,0,none⟩) (by show w.heap.size+1+1+1 < _;omega)).trans (zaa hTsk 0);have hbl:=(Below.refl W.heap.size W).alloc (Nat.le_refl _) (Obj.cells #[.int .i64 0] 3);have s1:=kept s0 hbl;have k1:=kept k0 hbl
  gi_wp2_with (refine⟨trivial,?_⟩;gi_at_call 274;refine (CallsIn.inRound l (callsIn_wide.2 (zBo s hs t _))).mono ?_;rintro e w' ⟨av,rfl,hav,rfl⟩)
  refine⟨trivial,?_⟩
  gi_at_call 159
  refine (CallsIn.inRound l (callsIn_wide.2 (zdn av _))).mono ?_;rintro e w' ⟨rfl,rfl⟩
  gi_wp2_with fail
  have h1':1≤8 - 1 - 1:=by omega
  have bL0:NumI W.heap.size 4096 (W.alloc (Obj.cells #[.int .i64 0] 3)):=⟨0,Boxed.new W _ _,by omega,by omega⟩;have bV1:=bV.alloc (Obj.cells #[.int .i64 0] 3);have bX1:=bX.alloc (Obj.cells #[.int .i64 0] 3);have hcA:((W.alloc (Obj.cells #[.int .i64 0] 3)).alloc (Obj.cells #[.int .u32 (av:Nat)] 140)).cell? ⟨W.heap.size+1,0,none⟩=some (.int .u32 (av:Nat)):=by
   have:=(zaq (W.alloc (Obj.cells #[.int .i64 0] 3)) (.int .u32 (av:Nat)) 140).1
   rwa [World.size_alloc] at this
  have hbA:Below W.heap.size W ((W.alloc (Obj.cells #[.int .i64 0] 3)).alloc (Obj.cells #[.int .u32 (av:Nat)] 140)):=hbl.alloc (by simp) _;have hrr':((W.alloc (Obj.cells #[.int .i64 0] 3)).alloc (Obj.cells #[.int .u32 (av:Nat)] 140)).heap[l]? =some (.loop rr):=zac (zac hrr _) _;have hszA:((W.alloc (Obj.cells #[.int .i64 0] 3)).alloc (Obj.cells #[.int .u32 (av:Nat)] 140)).heap.size=W.heap.size+2:=by simp
  have hKA:KeepsFrom W3.heap.size W ((W.alloc (Obj.cells #[.int .i64 0] 3)).alloc (Obj.cells #[.int .u32 (av:Nat)] 140)):=((KeepsOthers.alloc _ _).from _).trans ((KeepsOthers.alloc _ _).from _);have bL2:=bL0.alloc (Obj.cells #[.int .u32 (av:Nat)] 140);have bV2:=bV1.alloc (Obj.cells #[.int .u32 (av:Nat)] 140);have bX2:=bX1.alloc (Obj.cells #[.int .u32 (av:Nat)] 140);have hTabA:=(hTab1.below hB hTab1.pos).below hbA (by omega);obtain⟨WA,hWA⟩:∃ X,X=(W.alloc (Obj.cells #[.int .i64 0] 3)).alloc (Obj.cells #[.int .u32 (av:Nat)] 140):=⟨_,rfl⟩;rw [←hWA] at hcA hbA hrr' hszA hKA bL2 bV2 bX2 hTabA ⊢;clear hWA bL0 bV1 bX1 hbl s0 k0 s1 k1;have hbX:=bX.lt;have hbV:=bV.lt;refine wpIn_rangeFunc_ownN (l₀:=l) (r₀:=rr) rfl hrr' h1' (gf:=221) (lb:=#[.pointer (some ⟨W.heap.size+1,0,none⟩)]) rfl trivial (enters_of Tryz.func221 (by kernel_rfl) rfl)
   ((zcu (8 - 1 - 1 - 1) (by omega) (W.heap.size+1) W1.heap.size av WA (by omega) (by omega) hcA hTabA).inRound l) belowK_t (belowK_b (by omega)) (Below.refl _ _) (fun _=>rfl)
   (fun _ W'=>((NumI W.heap.size 4096 W'∧Boxed W' W1.heap.size 3 (.int .i64 v))∧Boxed W' Bx 3 (.int .i64 (q.val:Nat)))∧(Below W1.heap.size W W'∧KeepsFrom W3.heap.size W W'))
   (fun _ _ _=>False)
   (OwnFrom.and (OwnFrom.and (OwnFrom.and (Own.from (zuw _ (fun _=>4096)) _) (Own.from (boxed_own _ _ _) _)) (Own.from (boxed_own _ _ _) _)) (OwnFrom.and (ownFrom_below hB.size (by omega)) (ownFrom_keepsFrom (by omega))))
   (fun _ _ _ _ _ hs _ _=>hs)
   ⟨⟨⟨bL2,bV2⟩,bX2⟩,hbA.mono hsB,hKA⟩
   (fun (k:Nat) a'' _=>a''= { tmps:=#[.agg #[.int .i64 r,.slice ao n cap,.slice mo mn mc,.slice eo en ec],.int .u32 (s:Nat),.agg #[.int .i64 (T 0),.int .i64 (T 1),.int .i64 (T 2),.int .i64 (T 3),.int .i64 (T 4),.int .i64 (T 5),.int .i64 (T 6),.int .i64 (T 7)],.int .i64 t,.pointer (some ⟨w.heap.size,0,none⟩),.pointer (some ⟨w.heap.size+1,0,none⟩),.pointer (some ⟨w.heap.size+1+1,0,none⟩),.pointer (some ⟨w.heap.size+1+1+1,0,none⟩),.int .i64 0,.int .u32 (ov:Nat),.pointer (some ⟨W1.heap.size,0,none⟩),.pointer (some ⟨Bx,0,none⟩),.pointer (some ⟨W.heap.size,0,none⟩),.int .i64 (k:Nat),.agg #[.int .i64 (T 0),.int .i64 (T 1),.int .i64 (T 2),.int .i64 (T 3),.int .i64 (T 4),.int .i64 (T 5),.int .i64 (T 6),.int .i64 (T 7)],.int .i64 t,.int .u32 (ov:Nat),.int .u32 (ov:Nat),.func (.func 221) #[] #[.pointer (some ⟨W1.heap.size+1,0,none⟩)],.int .i64 (q.val:Nat),.int .u32 (s:Nat),.int .i64 t,.int .u32 (av:Nat),.func (.func 221) #[] #[.pointer (some ⟨W.heap.size+1,0,none⟩)],.int .i64 (k:Nat),undef,undef,undef,undef,undef,undef,undef,undef,undef,undef,undef,undef,undef,undef,undef,undef,undef,undef,undef],defers:=[] })
   (fun _ _ _ _ _ _ hs _ _=>hs)
   ?assign2 ?body2 ?done2 ?stop2
  case assign2=>
   rintro l2 pre' k W' K hi hK
   gi_wp2
   exact hK _ _ (KeepsFrom.refl _ _) (Below.refl _ _) hi rfl
  case body2=>
   rintro l2 pre' k a'' W' _ _ ⟨⟨⟨⟨u,bU,hu0,hu1⟩,bV3⟩,bX3⟩,hBW,hKF⟩ rfl _;have c1':=(hBW.cell (p:=⟨w.heap.size,1,none⟩) (by show w.heap.size < _;omega)).trans c1;by_cases hkn:k < n
   case neg=>
    have t0:decide ((k:Int) < (n:Int))=false:=by simp;omega
    gi_wp2
    exact⟨KeepsFrom.refl _ _,Below.refl _ _,⟨⟨⟨u,bU,hu0,hu1⟩,bV3⟩,bX3⟩,hBW,hKF⟩
   have t0:decide ((k:Int) < (n:Int))=true:=by simp;omega
   obtain⟨tb,tf,rfl,hct⟩:=hT1 k hkn;obtain⟨q,hq8⟩:=q;dsimp only at bX3 ⊢;have hgq:=hO k hkn q hq8;have CG:∀ i:Cls W',i.wd.cell? ⟨tb,tf+k * 11+3+q,none⟩=some (.int .i64 (g k (3+q))):=by
    have:=kept (hct (3+q) (by omega)) (hB.trans (hBW.mono (by omega)));rw [←Nat.add_assoc] at this;exact Cls.cell this
   generalize g k (3+q)=gv at CG hgq;have CU:=Cls.cell bU.cell;have CX:=Cls.cell bX3.cell;have C1:=Cls.cell c1';have q0:(0:Int)≤(q:Int):=by omega
   have q1:(q:Int) < 8:=by omega
   have k0':(0:Int)≤(k:Int):=by omega
   have k1':(k:Int) < (n:Int):=by omega
   gi_wp2_with fail
   refine zbk 10 (by kernel_rfl) (by kernel_rfl) (by kernel_rfl) (by kernel_rfl) ?_ ?_
   ·rintro⟨_,_,h⟩
    exact h
   dsimp only [List.take,List.drop]
   repeat (go_big_quiet_step (fail))
   refine wpQuiet_nil ?_;intro _ hw';obtain⟨nq,rfl⟩:=hw';have bU4:Boxed nq.wd W.heap.size 3 (.int .i64 u):=(nq.below.block _ bU.lt).trans bU;have bV4:Boxed nq.wd W1.heap.size 3 (.int .i64 v):=(nq.below.block _ bV3.lt).trans bV3;have bX4:Boxed nq.wd Bx 3 (.int .i64 (q:Nat)):=(nq.below.block _ bX3.lt).trans bX3;have d1:=bU4.cell;have d2:=bU4.frozen;refine wpList_plain rfl fun K hK=>?_;go_simp;refine hK _ _ ?_;refine (show _∧_∧_ from ?_);have hk1:∀ B,KeepsFrom B W' nq.wd:=fun B=>(zam.of_below (B:=B) nq.below).keeps;have hb5:Below W1.heap.size W' nq.wd:=nq.below.mono (by have:=hBW.size;omega);exact⟨(hk1 _).trans ((KeepsOthers.setCell _ _ _).from _),hb5.setCell (by simp;omega) _,⟨⟨⟨_,bU4.set _,by split<;>omega,by split<;>omega⟩,bV4.other (by omega) _⟩,bX4.other (by omega) _⟩,(hBW.trans hb5).setCell (by simp;omega) _,(hKF.trans (hk1 _)).trans ((KeepsOthers.setCell _ _ _).from _)⟩
  case done2=>
   rintro ys' W' _ ⟨⟨⟨⟨u,bU,hu0,hu1⟩,bV3⟩,bX3⟩,hBW,hKF⟩;have d1:=bU.cell;have d2:=bV3.cell;have d3:=bV3.frozen;have hsum:IntKind.i64.wrap (v+u)=v+u:=IntWalk.i64_in _ (by omega)
   gi_wp2
   exact⟨hKF.trans ((KeepsOthers.setCell _ _ _).from _),hBW.setCell (by simp) _,⟨_,bV3.set _,by omega,by simp;omega⟩,(hB.trans (hBW.mono (by omega))).setCell (by simp) _⟩
  case stop2=>
   rintro c pre' W' _ h;exact h.elim
 case done=>
  rintro D xs W hD _ ⟨⟨v,bV,hv0,hv1⟩,hB⟩ hK;have cV:=bV.cell
  gi_wp2
  refine⟨by simp,.inl ⟨_,_,rfl,run_takeDeferred hK,?_⟩⟩;exact⟨_,results_tmp rfl _ _ _,⟨v,rfl,hv0,by omega⟩,(hbI.trans (hB.mono (by omega))).trans (belowK_b (w:=w) (Nat.le_refl _) W D _ _ (by omega) hK rfl rfl)⟩
 case stop=>
  rintro D c pre W hD _ h _;exact h.elim
end Go.Proofs.YtpbmmoneeoijaaaGreatDoor
namespace Go.Proofs.YtpbmmoneeoijaaaGreatDoor
open Go.RowKit
def run (g:Int→Int×Bool) (most w:Int) (many:Nat):Option (Int×Nat):=
 if _h:w≤most then (if (g w).2 then (if _h2:(g w).1≤w then some (w,many+1) else run g most (g w).1 (many+1)) else none) else none
termination_by (most+1 - w).toNat
decreasing_by omega
theorem run_over {g:Int→Int×Bool} {most w:Int} {many:Nat} (h:most < w):run g most w many=none:=by
 rw [run,dif_neg (by omega)]
theorem run_none {g:Int→Int×Bool} {most w:Int} {many:Nat} (h:w≤most) (h2:(g w).2=false):run g most w many=none:=by
 rw [run,dif_pos h,if_neg (by rw [h2];simp)]
theorem run_some {g:Int→Int×Bool} {most w:Int} {many:Nat} (h:w≤most) (h2:(g w).2=true) (h3:(g w).1≤w):run g most w many=some (w,many+1):=by
 rw [run,dif_pos h,if_pos h2,dif_pos h3]
theorem run_on {g:Int→Int×Bool} {most w:Int} {many:Nat} (h:w≤most) (h2:(g w).2=true) (h3:w < (g w).1):run g most w many=run g most (g w).1 (many+1):=by
 rw [run,dif_pos h,if_pos h2,dif_neg (by omega)]
def zeo (own t:Int) (f:Nat→TT) (n:Nat):Int×Bool:=if (allR t f n).2 then addR own (allR t f n).1 else (0,false)
theorem zAm (ao:Option Addr) (n cap:Nat) (f:Nat→TT) (own t:Int) (w:World) (hn:n≤100) (hT:zrx w ao n f):
  Calls Tryz.prog 275 #[.int .i64 own,.int .i64 t,.slice ao n cap] w fun e w'=>e=.returned (rv (zeo own t f n))∧Below w.heap.size w w':=by
 have HD:=hid (zm8 ao n cap f t w hn hT);unfold zeo;obtain⟨⟨r,ok⟩,hx⟩:∃ y,allR t f n=y:=⟨_,rfl⟩;rw [hx] at HD ⊢;cases ok
 ·go_enter Tryz.func275,Tryz.ntmps275
  go_wp2_with (go_at_call 305;refine HD.out.mono ?_;rintro e w1 ⟨rfl,hb1⟩)
  go_ret2;exact⟨rfl,hb1⟩
 ·have HA:=hid (zt5 own r)
  simp only [if_true];obtain⟨⟨s,is⟩,hy⟩:∃ y,addR own r=y:=⟨_,rfl⟩;rw [hy] at HA ⊢;go_enter Tryz.func275,Tryz.ntmps275
  go_wp2_with (first|(go_at_call 305;refine HD.out.mono ?_;rintro e w1 ⟨rfl,hb1⟩)|(go_at_call 306;refine (HA.out _).mono ?_;rintro e w2 ⟨rfl,rfl⟩))
  go_ret2;exact⟨rfl,hb1⟩
def znr (own most:Int) (f:Nat→TT) (n:Nat):Int×Bool:=if own < 0 then (0,false) else match run (fun w=>zeo own w f n) most (max own 1) 0 with|some (w,_)=>(w,true)|none=>(0,false)
set_option maxHeartbeats 1000000 in
theorem zgq (ao:Option Addr) (n cap:Nat) (f:Nat→TT) (own most:Int) (w:World) (hn:n≤100) (hT:zrx w ao n f) (ho:own≤9223372036854775807):
  Calls Tryz.prog 224 #[.int .i64 own,.int .i64 most,.slice ao n cap] w fun e w'=>e=.returned (rv (znr own most f n))∧Below w.heap.size w w':=by
 by_cases h0:own < 0
 ·have HE:Hid (znr own most f n=(0,false)):=if_pos h0
  go_enter Tryz.func224,Tryz.ntmps224;go_wp2
  all_goals
   go_ret2;exact⟨by rw [HE.out];rfl,Below.refl _ _⟩
 ·have h1:decide (own < 0)=false:=by simp;omega
  have HS:=hid (fun t=>zAm ao n cap f own t);rcases (show max own 1=1∧own < 1∨max own 1=own∧1≤own by omega) with ⟨hx,hx2⟩|⟨hx,hx2⟩
  all_goals
   have HE:Hid (znr own most f n=match run (fun w=>zeo own w f n) most (max own 1) 0 with|some (w,_)=>(w,true)|none=>(0,false)):=if_neg h0;rw [hx] at HE;go_enter Tryz.func224,Tryz.ntmps224;go_wp2
   go_loopw [8,9,10] (fun a _ _ wr=>∃ x:Int,∃ many:Nat,a=.int .i64 x∧Hid (run (fun w=>zeo own w f n) most (_) 0=run (fun w=>zeo own w f n) most x many)∧Below w.heap.size w wr) (fun a _ _ _=>(most+1 - intOf a).toNat)
   case atStart=>exact⟨_,0,rfl,rfl,Below.refl _ _⟩
   case round=>
    obtain⟨x,many,rfl,HR,hb⟩:=hrel;rw [HR.out] at HE;by_cases hlt:x≤most
    ·have HN:Hid ((zeo own x f n).2=false→run (fun w=>zeo own w f n) most x many=none):=fun h=>run_none hlt h
     have HF:Hid ((zeo own x f n).2=true→(zeo own x f n).1≤x→run (fun w=>zeo own w f n) most x many=some (x,many+1)):=fun h h2=>run_some hlt h h2;have HG:Hid ((zeo own x f n).2=true→x < (zeo own x f n).1→run (fun w=>zeo own w f n) most x many=run (fun w=>zeo own w f n) most (zeo own x f n).1 (many+1)):=fun h h2=>run_on hlt h h2;have HW:=hid (HS.out x wr hn (hT.below hb));obtain⟨⟨r,ok⟩,hy⟩:∃ y,zeo own x f n=y:=⟨_,rfl⟩;rw [hy] at HN HF HG HW;cases ok
     ·have HN2:Hid (run (fun w=>zeo own w f n) most x many=none):=HN.out rfl
      clear HN HF HG hy
      go_wp2_with (go_at_call 275;refine HW.out.mono ?_;rintro e w1 ⟨rfl,hb1⟩)
      go_ret2;exact⟨by rw [HE.out,HN2.out];rfl,hb.trans (hb1.mono hb.size)⟩
     ·by_cases hle:r≤x
      ·have HF2:Hid (run (fun w=>zeo own w f n) most x many=some (x,many+1)):=HF.out rfl hle
       clear HN HF HG hy
       go_wp2_with (go_at_call 275;refine HW.out.mono ?_;rintro e w1 ⟨rfl,hb1⟩)
       go_ret2;exact⟨by rw [HE.out,HF2.out];rfl,hb.trans (hb1.mono hb.size)⟩
      ·have HG2:Hid (run (fun w=>zeo own w f n) most x many=run (fun w=>zeo own w f n) most r (many+1)):=HG.out rfl (by show x < r;omega)
       clear HN HF HG hy
       go_wp2_with (go_at_call 275;refine HW.out.mono ?_;rintro e w1 ⟨rfl,hb1⟩)
       go_roundw
       case rel=>exact⟨r,many+1,rfl,hid (by rw [HR.out,HG2.out]),hb.trans (hb1.mono hb.size)⟩
       case measure=>simp [intOf];omega
    ·have HN2:Hid (run (fun w=>zeo own w f n) most x many=none):=run_over (by omega)
     go_wp2;go_ret2;exact⟨by rw [HE.out,HN2.out];rfl,hb⟩
theorem zb4 {P:Program} {id:Nat} {Q:Exit→Act→World→Prop} {a:Act} {w:World} {l:List Oper} {k n:Nat} (T:List Nat) (C:World→Prop) (hm:P.follows .mixedOrders=true) (hB:zo9 l T=true) (hd:l.all (fun o=>match o.op with| .defer _=>false|_=>true)=true) (hQ:¬ LetsOut Q) (h0:C w.drew)
  (h:wpFl P l.toArray C T (fun a'=>wpTs P l.toArray C (fun a w=>Q .normal a w) T.length T a' w.drew) 0 l a):(Code.region id l.toArray true).wpIn (Fence.wide.inRound k) n P Q a w:=
 wpIn_region_draw fun t=>by
  refine zj7 (fun o ho c e=>?_) hQ _ _ _ ?_
  ·have:=List.all_eq_true.1 hd o (by simpa using ho)
   rw [e] at this;cases this
  ·simp only [Region.schedule,hm,Bool.true_or,if_true]
   exact wpAny_sound l.toArray.size t _ a _ (ze8 T C hB h0 h)
end Go.Proofs.YtpbmmoneeoijaaaGreatDoor
namespace Go.Proofs.YtpbmmoneeoijaaaGreatDoor
open Go.RowKit Go.Shelf
attribute [local go_sem] Oper.semAt_some zch
def zol (s n:Nat):List Nat:=(zdv s).filter fun i=>decide (i < n)
def zcm (g:Nat→Nat→Int) (l:List Nat):List Value:=l.flatMap fun i=>[.int .i64 (g i 0),.int .i64 (g i 2),.int .i64 0,.int .i64 0]
theorem zm0 (g:Nat→Nat→Int) (l:List Nat) (i:Nat):zcm g (l ++ [i])=zcm g l ++ [.int .i64 (g i 0),.int .i64 (g i 2),.int .i64 0,.int .i64 0]:=by simp [zcm]
theorem zu9:(Tryz.prog.info? 361).map (fun i=>(i.zero,i.size,i.bytes))=some (some (.agg #[.int .i64 0,.int .i64 0,.int .i64 0,.int .i64 0]),4,32):=by kernel_rfl
structure TmC (n₁:Nat) (W:World) (v:Value) (X:World):Prop where
 box:X.cell? ⟨n₁,0,none⟩=some v
 below:Below n₁ W X
set_option maxRecDepth 100000 in
set_option maxHeartbeats 2000000 in
theorem zp7 (x:Img) (g:Nat→Nat→Int) (s:Nat) (w:World) (hs:s < 4294967296) (hn:x.n≤maxLen) (hT:zck w x.ao x.n g) (hTab:Tab w):
  Calls Tryz.prog 225 #[iv x,.int .u32 s] w fun e W'=>∃ v,e=.returned v∧W'.ownsRow (w.heap.size+1) 361 4 v (zol s x.n).length (zcm g (zol s x.n))∧Below w.heap.size w W':=by
 obtain⟨r,ao,n,cap,mo,mn,mc,eo,en,ec⟩:=x;unfold iv;dsimp only at hn hT ⊢;refine (callsIn_wide (n:=4)).1 ?_;have h1:1≤4:=by omega
 obtain⟨i0,hi,hz0,hz1,hz2⟩:=info_parts zu9;refine callsIn_of_wp_marks Tryz.func225 rfl trivial ?_ rfl;simp only [Tryz.ntmps225,List.size_toArray,List.length_cons,List.length_nil,Nat.reduceAdd,Nat.reduceSub,Array.replicate_succ,Array.replicate_zero,List.push_toArray,List.append_toArray,List.nil_append,List.cons_append]
 gi_wp2_with (refine⟨trivial,?_⟩;gi_at_call 159;refine (callsIn_wide.2 (zdn s _)).mono ?_;rintro e w' ⟨rfl,rfl⟩)
 have hT0:Tab (((w.alloc (Obj.cells #[.int .i64 r,.slice ao n cap,.slice mo mn mc,.slice eo en ec] 26)).alloc (Obj.cells #[.slice none 0 0] 357)).alloc (Obj.cells #[.int .u32 s] 140)):=
  hTab.below ((((Below.refl w.heap.size w).alloc (Nat.le_refl _) _).alloc (by simp) _).alloc (by simp;omega) _) hTab.pos
 obtain⟨w1,hw1⟩:∃ X,X=w.alloc (Obj.cells #[.int .i64 r,.slice ao n cap,.slice mo mn mc,.slice eo en ec] 26):=⟨_,rfl⟩;have hs1:w1.heap.size=w.heap.size+1:=by rw [hw1];simp
 have hblk:w1.heap[w.heap.size]? =some (Obj.cells #[.int .i64 r,.slice ao n cap,.slice mo mn mc,.slice eo en ec] 26 (0,0)):=by rw [hw1];exact heap_alloc_new w _
 have c1:w1.cell? ⟨w.heap.size,1,none⟩=some (.slice ao n cap):=zaa hblk 1;have hT1:zck w1 ao n g:=by rw [hw1];exact hT.below ((Below.refl _ _).alloc (Nat.le_refl _) _)
 have hb1:Below w.heap.size w w1:=by rw [hw1];exact (Below.refl _ _).alloc (Nat.le_refl _) _
 rw [←hw1] at hT0 ⊢;clear hw1 hblk;have hc2:((w1.alloc (Obj.cells #[.slice none 0 0] 357)).alloc (Obj.cells #[.int .u32 s] 140)).cell? ⟨w.heap.size+2,0,none⟩=some (.int .u32 s):=by
  have:=(zaq (w1.alloc (Obj.cells #[.slice none 0 0] 357)) (.int .u32 s) 140).1
  rwa [World.size_alloc,hs1] at this
 have hB0:Below (w.heap.size+1) w1 ((w1.alloc (Obj.cells #[.slice none 0 0] 357)).alloc (Obj.cells #[.int .u32 s] 140)):=
  ((Below.refl _ w1).alloc (by omega) _).alloc (by simp;omega) _
 refine wpIn_rangeFunc_ownG rfl h1 (gf:=221) (lb:=#[.pointer (some ⟨w.heap.size+2,0,none⟩)]) rfl trivial (enters_of Tryz.func221 (by kernel_rfl) rfl)
  (zcu (4 - 1) (by omega) (w.heap.size+2) (w.heap.size+1) s _ hs (by omega) hc2 hT0) belowK_t (belowK_b (by simp;omega)) (Below.refl _ _) (fun _=>rfl)
  (fun pre W=>(∃ v,Boxed W (w.heap.size+1) 357 v∧W.ownsRow (w.heap.size+1) 361 4 v (pre.filter fun i=>decide (i < n)).length (zcm g (pre.filter fun i=>decide (i < n)))∧True)∧Below (w.heap.size+1) w1 W)
  (fun _ _ _=>False)
  (OwnFrom.and (Own.from (holdsRow_own (w.heap.size+1) (w.heap.size+1) 357 361 4 (fun pre:List Nat=>(pre.filter fun i=>decide (i < n)).length) (fun pre=>zcm g (pre.filter fun i=>decide (i < n))) (fun _ _=>True)) _) (ownFrom_below (by omega) (by simp;omega)))
  (fun _ _ _ _ _ hs _ _=>hs)
  ⟨⟨_,by have:=Boxed.new w1 357 (.slice none 0 0);rw [hs1] at this;exact this.alloc _,World.ownsRow_nil _ _ _ _,trivial⟩,hB0⟩
  (fun x=>{ tmps:=#[.agg #[.int .i64 r,.slice ao n cap,.slice mo mn mc,.slice eo en ec],.int .u32 s,.pointer (some ⟨w.heap.size,0,none⟩),undef,.slice none 0 0,.pointer (some ⟨w.heap.size+1,0,none⟩),.int .i64 x,.int .u32 s,.func (.func 221) #[] #[.pointer (some ⟨w.heap.size+2,0,none⟩)],.int .i64 x,undef,undef,undef,undef,undef,undef,undef,undef,undef,undef,undef,undef,undef,undef,undef],defers:=[] })
  ?assign ?body ?done ?stop
 case assign=>
  rintro l x W K hK
  gi_wp2
  exact hK
 case body=>
  rintro l pre x W ⟨⟨v,hv,hrow,_⟩,hB⟩ hlt;have hc:=hv.cell;have d1:=(hB.cell (p:=⟨w.heap.size,1,none⟩) (by show w.heap.size < _;omega)).trans c1;by_cases hx:x < n
  ·have t0:decide ((x:Int) < (n:Int))=true:=by simp;omega
   have e:(pre ++ [x]).filter (fun i=>decide (i < n))=pre.filter (fun i=>decide (i < n)) ++ [x]:=by simp [hx]
   obtain⟨sel,hsel⟩:∃ l,l=pre.filter fun i=>decide (i < n):=⟨_,rfl⟩;have hsl:sel.length≤32:=by rw [hsel];exact Nat.le_trans (List.length_filter_le _ _) (by omega)
   rw [←hsel] at hrow e;have HE:=hid e;clear hsel e;have i0':(0:Int)≤(x:Int):=by omega
   have i1:(x:Int) < (n:Int):=by omega
   obtain⟨b,o,rfl,hb⟩:=hT1.form hx;have hTW:=hT1.below (by rw [hs1];exact hB);obtain⟨⟨g0,g1,g2,g3⟩,⟨g4,g5,g6,g7⟩,g8,g9,g10⟩:=hTW.at_ hx
   gi_wp2
   refine zb4 [6,7,8,9] (TmC (w.heap.size+1) W v) (by kernel_rfl) (by kernel_rfl) (by kernel_rfl) (fun ⟨_,_,h⟩=>h) ⟨hc,⟨rfl,rfl,rfl,Nat.le_refl _,fun _ _=>rfl⟩⟩ ?_;refine qFs fun K hK=>?_;go_simp;refine⟨v,fun X hX=>by rw [hX.box];rfl,hK _ ?_⟩;clear hK K
   repeat (first|refine qFc ?_|(refine qFs fun K hK=>?_;go_simp;(refine⟨_,fun _ _=>rfl,hK _ ?_⟩;clear hK K)))
   refine qFs fun K hK=>?_;go_simp;refine⟨.slice (some ⟨b,o,none⟩) n cap,fun X hX=>?_,hK _ ?_⟩
   ·have cX:=(hX.below.cell (p:=⟨w.heap.size,1,none⟩) (by show w.heap.size < _;omega)).trans d1
    go_simp
   clear hK K
   repeat (first|refine qFc ?_|(refine qFs fun K hK=>?_;go_simp;(refine⟨_,fun _ _=>rfl,hK _ ?_⟩;clear hK K)))
   refine qFs fun K hK=>?_;go_simp;refine⟨tv (g x),fun X hX=>?_,hK _ ?_⟩
   ·have up:∀ {p:Addr} {u:Value},p.block=b→W.cell? p=some u→X.cell? p=some u:=fun hp hu=>(hX.below.cell (by rw [hp];omega)).trans hu
    have q0:=up rfl g0;have q1:=up rfl g1;have q2:=up rfl g2;have q3:=up rfl g3;have q4:=up rfl g4;have q5:=up rfl g5;have q6:=up rfl g6;have q7:=up rfl g7;have q8:=up rfl g8;have q9:=up rfl g9;have q10:=up rfl g10;go_simp
   clear hK K
   repeat (first|refine qFc ?_|(refine qFs fun K hK=>?_;go_simp;(refine⟨_,fun _ _=>rfl,hK _ ?_⟩;clear hK K)))
   refine zau ?_;show wpTs _ _ _ _ 4 _ _ _;have hb0:Below W.heap.size W W.drew:=⟨rfl,rfl,rfl,Nat.le_refl _,fun _ _=>rfl⟩;have hk0:KeepsOthers W W.drew:=KeepsOthers.drew _;have hv0:Boxed W.drew (w.heap.size+1) 357 v:=hv;have hr0:W.drew.ownsRow (w.heap.size+1) 361 4 v sel.length (zcm g sel):=hrow;obtain⟨Y0,hY0⟩:∃ Y,Y=W.drew:=⟨_,rfl⟩;rw [←hY0] at hb0 hk0 hv0 hr0 ⊢;clear hY0;refine qT1 6 [7,8,9] fun K hK=>?_
   go_wp2_with fail
   refine (of_any (g x) 0 _).mono ?_;rintro e1 X1 ⟨rfl,hx1⟩
   go_wp2_with fail
   have hb1':=hb0.trans (hx1.mono hb0.size);have hk1:KeepsOthers W X1:=hk0.trans ⟨hx1.size,fun k o hk _=>(hx1.block k (Array.getElem?_eq_some_iff.1 hk).1).trans hk⟩;have hv1:Boxed X1 (w.heap.size+1) 357 v:=(hx1.block _ hv0.lt).trans hv0;have hr1:X1.ownsRow (w.heap.size+1) 361 4 v sel.length (zcm g sel):=hr0.kept (zf7 hx1) (by cases v.ownBlock<;>simp);have hC1:TmC (w.heap.size+1) W v X1:=⟨hv1.cell,hb1'.mono (by have:=hv.lt;omega)⟩;refine hK _ _ hC1 ?_;clear hK K;refine qT1 7 [8,9] fun K hK=>?_
   go_wp2_with fail
   obtain⟨tmp,htmp⟩:∃ t:Obj,t=Obj.cells #[.int .i64 (g x 0),.int .i64 (g x 2),.int .i64 0,.int .i64 0] 361:=⟨_,rfl⟩;have hnews:∀ (j:Nat) (u:Value),[Value.int .i64 (g x 0),.int .i64 (g x 2),.int .i64 0,.int .i64 0][j]? =some u→(X1.alloc tmp).cell? ((⟨X1.heap.size,0,none⟩:Addr).add j)=some u:=fun j u hj=>by
    rw [za8,Nat.zero_add,htmp,World.cell?_alloc_at _ _ _ _ rfl];simpa using hj
   rw [←htmp];clear htmp;have ha1:Below X1.heap.size X1 (X1.alloc tmp):=(Below.refl _ _).alloc (Nat.le_refl _) _;have hC2:TmC (w.heap.size+1) W v (X1.alloc tmp):=⟨(hv1.alloc _).cell,hC1.below.trans (ha1.mono (by have:=hv1.lt;omega))⟩;refine hK _ _ hC2 ?_;clear hK K;refine qT1 8 [9] fun K hK=>?_;refine wpList_append_own _ rfl _ _ 357 rfl (w.heap.size+1) 361 i0 _ 4 32 Tryz.underlying357 hi hz0 hz1 hz2 rfl (by decide) _ _ _ rfl (hr1.alloc _) ⟨X1.heap.size,0,none⟩ 1 1 _ rfl rfl hnews (by simp [Value.oneCell']) (by unfold maxLen;omega) (by omega) (by have:=hv1.lt;simp;omega) ?_;intro v' X3 hown' hgrow _;obtain⟨g',cap',rfl⟩:=ownsRow_succ hown';obtain⟨hv3,hv4,hr4,hk4,hb4⟩:=hv1.appended (by decide) hr1 (by have:=hv1.lt;omega) (Nat.le_refl _) hown' hgrow;have hc1:=hv3.cell;have hf1:=hv3.frozen;have hC3:TmC (w.heap.size+1) W v X3:=⟨hv3.cell,(hC2.below.grown hgrow (by have:=hv1.lt;simp;omega) fun k e=>(hr1.lt k e).1)⟩;refine hK _ _ hC3 ?_;go_simp;clear hK K;refine zcy (i:=9) (rem1:=[]) (by kernel_rfl) (by rfl) (by rfl) (by kernel_rfl) (fun K hK=>?_)
   go_wp2_with fail
   refine zan ?_
   gi_wp2
   have hBW:Below (w.heap.size+1) W (X3.setCell ⟨w.heap.size+1,0,none⟩ (.slice (some ⟨g',0,none⟩) (sel.length+1) cap')):=hC1.below.trans hb4;exact⟨(hk1.trans hk4).from _,hBW,⟨_,hv4,by rw [HE.out,List.length_append,zm0];exact hr4,trivial⟩,hB.trans hBW⟩
  ·have t0:decide ((x:Int) < (n:Int))=false:=by simp;omega
   have e:(pre ++ [x]).filter (fun i=>decide (i < n))=pre.filter (fun i=>decide (i < n)):=by simp [hx]
   gi_wp2
   exact⟨KeepsFrom.refl _ _,Below.refl _ _,⟨v,hv,by rw [e];exact hrow,trivial⟩,hB⟩
 case done=>
  rintro D ys W hD rfl ⟨⟨v,hv,hrow,_⟩,hB⟩ hK;have hc:=hv.cell
  gi_wp2
  refine⟨by simp,.inl ⟨_,_,rfl,run_takeDeferred hK,?_⟩⟩;have hB2:Below w.heap.size w W:=hb1.trans (hB.mono (by omega));exact⟨_,results_tmp rfl _ _ _,v,rfl,ownsRow_putObj hrow _ hK rfl,hB2.trans (belowK_b (w:=w) (Nat.le_refl _) W D _ _ (by simp at hD;omega) hK rfl rfl)⟩
 case stop=>
  rintro D c pre W _ _ h _;exact h.elim
end Go.Proofs.YtpbmmoneeoijaaaGreatDoor
namespace Go.Proofs.YtpbmmoneeoijaaaGreatDoor
open Go.RowKit
def zc9 (f:Nat→TT) (k:Nat):List Value:=(List.range k).flatMap fun i=>[.int .i64 (f i).p,.int .i64 (f i).c,.int .i64 (f i).o,.int .i64 (f i).k]
theorem zen (f:Nat→TT) (k:Nat):zc9 f (k+1)=zc9 f k ++ [.int .i64 (f k).p,.int .i64 (f k).c,.int .i64 (f k).o,.int .i64 (f k).k]:=by
 unfold zc9;rw [List.range_succ,List.flatMap_append];rfl
theorem zce (f:Nat→TT) (k:Nat):(zc9 f k).length=k * 4:=by
 induction k with
 |zero=>rfl
 |succ k ih=>rw [zen,List.length_append,ih];simp;omega
theorem zg0 (f:Nat→TT) {i k j:Nat} (h:i < k) (hj:j < 4):(zc9 f k)[i * 4+j]? =[Value.int .i64 (f i).p,.int .i64 (f i).c,.int .i64 (f i).o,.int .i64 (f i).k][j]?:=by
 induction k with
 |zero=>omega
 |succ k ih=>
  rw [zen];by_cases hk:i=k
  ·subst hk
   rw [List.getElem?_append_right (by rw [zce];omega),zce,show i * 4+j - i * 4=j by omega]
  ·rw [List.getElem?_append_left (by rw [zce];omega)]
   exact ih (by omega)
theorem zet {w:World} {base:Nat} {e:TypeId} {v:Value} {n:Nat} {f:Nat→TT} (h:w.ownsRow base e 4 v n (zc9 f n)):∃ ao cap,v=.slice ao n cap∧zrx w ao n f:=by
 rcases h.2 with ⟨rfl,h2⟩|⟨g,cap,cur,rfl,_⟩
 ·have:n=0:=h2
  subst this;exact⟨none,0,rfl,fun i hi=>by omega⟩
 ·refine⟨_,cap,rfl,fun i hi=>⟨g,0,rfl,?_⟩⟩
  have hc:=fun j (hj:j < 4)=>(h.cellAt (i * 4+j) (by omega)).trans (zg0 f hi hj);rw [Nat.zero_add];exact⟨hc 0 (by omega),hc 1 (by omega),hc 2 (by omega),hc 3 (by omega)⟩
theorem zsn {P:Program} {ops:Array Oper} {Q:Exit→Act→World→Prop} {l n:Nat} (hd:∀ o∈ops.toList,∀ c,o.op≠.defer c):
  ∀ is a w,wpOpsIn Fence.wide n P ops Q is a w→wpOpsIn (Fence.wide.inRound l) n P ops Q is a w:=by
 intro is
 induction is with
 |nil=>intro a w h;exact h
 |cons i rest ih=>
  intro a w h;unfold wpOpsIn at h ⊢
  cases ho:ops[i]? with
  |none=>rw [ho] at h;exact ih a w h
  |some o=>
   rw [ho] at h;simp only at h ⊢;by_cases hw:Region.wanted o (yielded ops a.tmps)=true
   ·rw [if_pos hw] at h ⊢
    refine⟨fun f _=>trivial,?_⟩;have hm:o∈ops.toList:=by
     obtain⟨hlt,e⟩:=Array.getElem?_eq_some_iff.1 ho;rw [←e];simp
    have h2:=h.2;rw [Fence.inRound_round,Oper.semAt_some l _ o (hd o hm)];rw [show Oper.semAt Fence.wide.round a.eval o=execOp a.eval o from rfl] at h2
    cases hr:(execOp a.eval o).run P w with
    |ok nx w'=>
     rw [hr] at h2
     cases nx with
     |value v=>exact ih _ _ h2
     |skip=>exact ih _ _ h2
     |defer d=>exact ih _ _ h2
     |enter f args=>
      refine⟨fun e=>(by cases e),CallsIn.inRound l (CallsIn.mono h2.2 ?_)⟩;intro e w'' he
      cases e with
      |returned v=>exact ih _ _ he
      |panicked ch=>exact he
      |outgrown=>exact he
     |row row args=>
      refine⟨fun e=>(by cases e),RowsIn.mono (show RowsIn (Fence.wide.inRound l) _ _ _ _ _ _ from h2.2) ?_⟩;intro v w'' he;exact ih _ _ he
     |round l' f tmps assign body=>
      refine⟨fun e=>(by cases e),RoundIn.mono (show RoundIn (Fence.wide.inRound l) _ _ _ _ _ _ _ _ _ from h2.2) ?_⟩;intro e w'' he
      cases e with
      |returned v=>exact ih _ _ he
      |panicked ch=>exact he
      |outgrown=>exact he
     |_=>exact h2.elim
    |halt x w'=>
     rw [hr] at h2
     cases x with
     |panic v=>exact h2
     |_=>exact h2.elim
   ·rw [if_neg hw] at h ⊢
    exact⟨fun f _=>trivial,ih _ _ h.2⟩
theorem zji {P:Program} {id:Nat} {Q:Exit→Act→World→Prop} {a:Act} {w:World} {l:List Oper} {k n:Nat} (hm:P.follows .mixedOrders=true) (hd:l.all (fun o=>match o.op with| .defer _=>false|_=>true)=true)
  (h:wpAnyIn Fence.wide n P .any l.toArray Q l.toArray.size (Array.replicate l.toArray.size false) a w.drew):(Code.region id l.toArray true).wpIn (Fence.wide.inRound k) n P Q a w:=
 wpIn_region_draw fun t=>by
  refine zsn (fun o ho c e=>?_) _ _ _ ?_
  ·have:=List.all_eq_true.1 hd o (by simpa using ho)
   rw [e] at this;cases this
  ·simp only [Region.schedule,hm,Bool.true_or,if_true]
   exact wpAnyIn_sound l.toArray.size t _ a _ h
def multR (a b:Int):Int×Bool:=if inB a && inB b && !(a == 0) && !(b == 0) then mulR (a / ((Int.gcd a b:Nat):Int)) b else (0,false)
end Go.Proofs.YtpbmmoneeoijaaaGreatDoor
namespace Go.Proofs.YtpbmmoneeoijaaaGreatDoor
open Go.RowKit Go.Shelf
attribute [local go_sem] Oper.semAt_some
def zqi (f:Nat→Int) (acc:Int):List Nat→Option Int
 | []=>some acc
 |i :: l=>if (multR acc (f i)).2 then zqi f (multR acc (f i)).1 l else none
@[go_sem] def tvBox (x:Nat→Int):Obj:=.cells #[.int .i64 (x 0),.int .i64 (x 1),.int .i64 (x 2),.int .i64 (x 3),.int .i64 (x 4),.int .i64 (x 5),.int .i64 (x 6),.int .i64 (x 7),.int .i64 (x 8),.int .i64 (x 9),.int .i64 (x 10)] 165
theorem zvn {B b:Nat} {cs:Array Value} {t:TypeId} {X Y:World} {row:Option Nat} (h:X.heap[b]? =some (.cells cs t (0,0))) (hg:X.grownBy Y row) (hr:∀ r,row=some r→B≤r∧∃ o:Obj,X.heap[r]? =some o∧o.isCells=false):Y.heap[b]? =some (.cells cs t (0,0)):=
 (hg.block b (Array.getElem?_eq_some_iff.1 h).1 fun e=>by
  obtain⟨_,o,ho,hc⟩:=hr b e.symm;rw [h] at ho
  cases ho;cases hc).trans h
end Go.Proofs.YtpbmmoneeoijaaaGreatDoor
namespace Go.Proofs.YtpbmmoneeoijaaaGreatDoor
open Go.RowKit Go.Shelf
@[go_sem] def pv (p:(Int×Int)×Bool):Value:=.tuple #[.agg #[.int .i64 p.1.1,.int .i64 p.1.2],.bool p.2]
end Go.Proofs.YtpbmmoneeoijaaaGreatDoor
namespace Go.Proofs.YtpbmmoneeoijaaaGreatDoor
def fOf (g:Nat→Nat→Int) (l:List Nat) (k:Nat):TT:=⟨g (l.getD k 0) 0,g (l.getD k 0) 2,0,0⟩
end Go.Proofs.YtpbmmoneeoijaaaGreatDoor
