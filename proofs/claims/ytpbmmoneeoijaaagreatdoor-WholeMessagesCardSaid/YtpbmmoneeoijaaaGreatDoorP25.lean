/-
  A part of the proof: CeilOf SchCeil CoreKit OverFn.
-/
import Derived.Test.YtpbmmoneeoijaaaGreatDoorP24
namespace Go.Proofs.YtpbmmoneeoijaaaGreatDoor
open Go.RowKit Go.Deep Go.Shelf
attribute [local go_sem] Oper.semAt_some
set_option maxRecDepth 100000
def tabV (T:Nat→Int):Value:=.agg #[.int .i64 (T 0),.int .i64 (T 1),.int .i64 (T 2),.int .i64 (T 3),.int .i64 (T 4),.int .i64 (T 5),.int .i64 (T 6),.int .i64 (T 7)]
def tabB (T:Nat→Int):Obj:=.cells #[.int .i64 (T 0),.int .i64 (T 1),.int .i64 (T 2),.int .i64 (T 3),.int .i64 (T 4),.int .i64 (T 5),.int .i64 (T 6),.int .i64 (T 7)] 247
theorem zze (T:Nat→Int) {i:Nat} (hi:i < 8):(#[.int .i64 (T 0),.int .i64 (T 1),.int .i64 (T 2),.int .i64 (T 3),.int .i64 (T 4),.int .i64 (T 5),.int .i64 (T 6),.int .i64 (T 7)]:Array Value)[i]? =some (.int .i64 (T i)):=by
 rcases i with _|_|_|_|_|_|_|_|i
 all_goals first|rfl|omega
theorem zag {W:World} {b:Nat} {T:Nat→Int} (h:W.heap[b]? =some (tabB T)) {i:Nat} (hi:i < 8):W.cell? ⟨b,i,none⟩=some (.int .i64 (T i)):=by
 unfold tabB at h;rw [zaa h];exact zze T hi
theorem zad {w:World} {b i:Nat} {c:Array Value} {u:Value} {t:TypeId} (h:w.heap[b]? =some (.cells c t (0,0))):(w.setCell ⟨b,i,none⟩ u).heap[b]? =some (.cells (c.setIfInBounds i u) t (0,0)):=by
 have hlt:=(Array.getElem?_eq_some_iff.1 h).1;have h':w.heap[b]=.cells c t (0,0):=(Array.getElem?_eq_some_iff.1 h).2;show (w.heap.modify b _)[b]? =_;rw [Array.getElem?_eq_getElem (by simpa using hlt),Array.getElem_modify_self,h'];rfl
theorem tabB_set {W:World} {b:Nat} {T:Nat→Int} (h:W.heap[b]? =some (tabB T)) {i:Nat} (hi:i < 8) (v:Int):(W.setCell ⟨b,i,none⟩ (.int .i64 v)).heap[b]? =some (tabB fun j=>if j=i then v else T j):=by
 unfold tabB at h ⊢;rw [zad h];rcases i with _|_|_|_|_|_|_|_|i
 all_goals first|omega|simp
def TabI (bt:Nat) (W:World):Prop:=∃ T,W.heap[bt]? =some (tabB T)
theorem zoi {β:Type} (bt:Nat):Own (fun (_:β) W=>TabI bt W):=fun s X Y row hs hg hrow=>by
 obtain⟨T,hT⟩:=hs;refine⟨T,(hg.block bt (Array.getElem?_eq_some_iff.1 hT).1 fun e=>?_).trans hT⟩;obtain⟨o,ho,hc⟩:=hrow bt e.symm;rw [hT] at ho;cases ho;cases hc
theorem TabI.alloc {bt:Nat} {W:World} (h:TabI bt W) (o:Obj):TabI bt (W.alloc o):=by
 obtain⟨T,hT⟩:=h;exact⟨T,(Below.heap_alloc _ _ _ (Array.getElem?_eq_some_iff.1 hT).1).trans hT⟩
set_option maxHeartbeats 4000000 in
theorem zjx (x:Img) (g:Nat→Nat→Int) (s:Nat) (w:World) (hs:s < 4294967296) (hT:zck w x.ao x.n g) (hTab:Tab w):
  Calls Tryz.prog 161 #[iv x,.int .u32 (s:Nat)] w fun e w'=>(∃ T:Nat→Int,e=.returned (tabV T))∧Below w.heap.size w w':=by
 obtain⟨r,ao,n,cap,mo,mn,mc,eo,en,ec⟩:=x;unfold iv;dsimp only at hT ⊢;refine (callsIn_wide (n:=8)).1 ?_;have h1:1≤8:=by omega
 refine callsIn_of_wp_marks Tryz.func161 rfl trivial ?_ rfl;simp only [Tryz.ntmps161,List.size_toArray,List.length_cons,List.length_nil,Nat.reduceAdd,Nat.reduceSub,Array.replicate_succ,Array.replicate_zero,List.push_toArray,List.append_toArray,List.nil_append,List.cons_append]
 gi_wp2_with (refine⟨trivial,?_⟩;gi_at_call 181;refine (callsIn_wide.2 (zi9 _)).mono ?_;rintro e W1 ⟨rfl,hb1⟩)
 have hbI:Below w.heap.size w W1:=(((Below.refl w.heap.size w).alloc (Nat.le_refl _) (Obj.cells #[.int .i64 r,.slice ao n cap,.slice mo mn mc,.slice eo en ec] 26)).alloc (by simp) (Obj.cells #[.int .i64 0,.int .i64 0,.int .i64 0,.int .i64 0,.int .i64 0,.int .i64 0,.int .i64 0,.int .i64 0] 247)).trans (hb1.mono (by simp;omega));have hImg:W1.heap[w.heap.size]? =some (Obj.cells #[.int .i64 r,.slice ao n cap,.slice mo mn mc,.slice eo en ec] 26):=(hb1.block _ (by simp;omega)).trans ((Below.heap_alloc _ _ _ (by simp)).trans (heap_alloc_new w _));have hRes:W1.heap[w.heap.size+1]? =some (Obj.cells #[.int .i64 0,.int .i64 0,.int .i64 0,.int .i64 0,.int .i64 0,.int .i64 0,.int .i64 0,.int .i64 0] 247):=(hb1.block _ (by simp)).trans (by have:=heap_alloc_new (w.alloc (Obj.cells #[.int .i64 r,.slice ao n cap,.slice mo mn mc,.slice eo en ec] 26)) (Obj.cells #[.int .i64 0,.int .i64 0,.int .i64 0,.int .i64 0,.int .i64 0,.int .i64 0,.int .i64 0,.int .i64 0] 247);rwa [World.size_alloc] at this);have hs1:w.heap.size+2≤W1.heap.size:=by have:=hb1.size;simp at this;omega
 have hT1:=hT.below hbI;have hTab1:=hTab.below hbI hTab.pos;clear hb1 hT hTab;refine⟨trivial,?_⟩
 gi_at_call 159
 refine (callsIn_wide.2 (zdn s _)).mono ?_;rintro e w' ⟨rfl,rfl⟩;have hb2:=(Below.refl W1.heap.size W1).alloc (Nat.le_refl _) (Obj.cells #[.int .i64 16,.int .i64 16,.int .i64 16,.int .i64 16,.int .i64 16,.int .i64 16,.int .i64 16,.int .i64 16] 247);have hI0:TabI W1.heap.size (W1.alloc (Obj.cells #[.int .i64 16,.int .i64 16,.int .i64 16,.int .i64 16,.int .i64 16,.int .i64 16,.int .i64 16,.int .i64 16] 247)):=⟨fun _=>16,heap_alloc_new W1 _⟩;have hsz2:(W1.alloc (Obj.cells #[.int .i64 16,.int .i64 16,.int .i64 16,.int .i64 16,.int .i64 16,.int .i64 16,.int .i64 16,.int .i64 16] 247)).heap.size=W1.heap.size+1:=by simp
 obtain⟨W2,hW2⟩:∃ X,X=W1.alloc (Obj.cells #[.int .i64 16,.int .i64 16,.int .i64 16,.int .i64 16,.int .i64 16,.int .i64 16,.int .i64 16,.int .i64 16] 247):=⟨_,rfl⟩;rw [←hW2] at hb2 hI0 hsz2 ⊢;clear hW2;have hb3:=hb2.alloc hb2.size (Obj.cells #[.int .u32 (s:Nat)] 140);have hI3:=hI0.alloc (Obj.cells #[.int .u32 (s:Nat)] 140);have hc3:(W2.alloc (Obj.cells #[.int .u32 (s:Nat)] 140)).cell? ⟨W1.heap.size+1,0,none⟩=some (.int .u32 (s:Nat)):=by
  have:=(zaq W2 (.int .u32 (s:Nat)) 140).1
  rwa [hsz2] at this
 have hsz3:(W2.alloc (Obj.cells #[.int .u32 (s:Nat)] 140)).heap.size=W1.heap.size+2:=by simp [hsz2]
 rw [hsz2];obtain⟨W3,hW3⟩:∃ X,X=W2.alloc (Obj.cells #[.int .u32 (s:Nat)] 140):=⟨_,rfl⟩;rw [←hW3] at hb3 hI3 hc3 hsz3 ⊢;clear hW3 hb2 hI0 hsz2;have hTab3:=hTab1.below hb3 hTab1.pos
 gi_wp2_with fail
 refine wpIn_rangeFunc_ownH rfl h1 (gf:=221) (lb:=#[.pointer (some ⟨W1.heap.size+1,0,none⟩)]) rfl trivial (enters_of Tryz.func221 (by kernel_rfl) rfl)
  (zcu (8 - 1) (by omega) (W1.heap.size+1) W1.heap.size s W3 hs (by omega) hc3 hTab3) belowK_t (belowK_b (by omega)) (Below.refl _ _) (fun _=>rfl)
  (fun _ W=>TabI W1.heap.size W∧Below W1.heap.size W1 W)
  (fun c _ W=>c=.exit 0∧TabI W1.heap.size W∧Below W1.heap.size W1 W)
  (OwnFrom.and (Own.from (zoi _) _) (ownFrom_below (Nat.le_refl _) (by omega)))
  (fun c=>OwnFrom.and (ownFrom_pure _ _) (OwnFrom.and (Own.from (zoi _) _) (ownFrom_below (Nat.le_refl _) (by omega))))
  ⟨hI3,hb3⟩
  (fun (x:Nat) a' W=>∃ Bx,W1.heap.size < Bx∧Boxed W Bx 3 (.int .i64 (x:Nat))∧a'= { tmps:=#[.agg #[.int .i64 r,.slice ao n cap,.slice mo mn mc,.slice eo en ec],.int .u32 (s:Nat),.pointer (some ⟨w.heap.size,0,none⟩),undef,.pointer (some ⟨w.heap.size+1,0,none⟩),.pointer (some ⟨W1.heap.size,0,none⟩),.pointer (some ⟨Bx,0,none⟩),undef,.agg #[.int .i64 16,.int .i64 16,.int .i64 16,.int .i64 16,.int .i64 16,.int .i64 16,.int .i64 16,.int .i64 16],.int .u32 (s:Nat),.func (.func 221) #[] #[.pointer (some ⟨W1.heap.size+1,0,none⟩)],.int .i64 (x:Nat),undef,undef,undef,undef,undef,undef,undef,undef,undef,undef,undef,undef,undef,undef,undef,undef,undef,undef,undef,undef,undef],defers:=[] })
  (fun x a' _ X Y row hs hg hr=>by obtain⟨Bx,h1,h2,h3⟩:=hs;exact⟨Bx,h1,boxed_own Bx 3 (fun (_:Unit)=>Value.int .i64 (x:Nat)) () X Y row h2 hg (fun r e=>(hr r e).2),h3⟩)
  ?assign ?body ?done ?stop
 case assign=>
  rintro l pre x W K ⟨hI,hB⟩ hK
  gi_wp2
  exact hK _ _ ((KeepsOthers.alloc _ _).from _) ((Below.refl _ W).alloc hB.size _) ⟨hI.alloc _,hB.alloc hB.size _⟩ ⟨W.heap.size,(by obtain⟨T,hT⟩:=hI;exact (Array.getElem?_eq_some_iff.1 hT).1),Boxed.new W 3 _,rfl⟩
 case body=>
  rintro l pre x a' W hl ⟨rr,hrr⟩ ⟨hI,hB⟩ ⟨Bx,hBx,bX,rfl⟩ hlt;have cX:=bX.cell;have c1:=(hB.cell (p:=⟨w.heap.size,1,none⟩) (by show w.heap.size < _;omega)).trans (zaa hImg 1);by_cases hxn:x < n
  case neg=>
   have t0:decide ((n:Int)≤(x:Int))=true:=by simp;omega
   gi_wp2
   exact⟨KeepsFrom.refl _ _,rfl,hI,hB⟩
  have t0:decide ((n:Int)≤(x:Int))=false:=by simp;omega
  obtain⟨tb,tf,rfl,htb⟩:=hT1.form hxn;obtain⟨⟨g0,g1,g2,g3⟩,⟨g4,g5,g6,g7⟩,g8,g9,g10⟩:=(hT1.below hB).at_ hxn;have i0':(0:Int)≤(x:Int):=by omega
  have i1:(x:Int) < (n:Int):=by omega
  gi_wp2_with (refine⟨trivial,?_⟩;gi_at_call 220;refine (CallsIn.inRound l (callsIn_wide.2 (zs8 (g x) _))).mono ?_;rintro e w' ⟨rfl,rfl⟩)
  gi_wp2_with fail
  have h1':1≤8 - 1 - 1:=by omega
  have hrr':(W.alloc (zih (g x))).heap[l]? =some (.loop rr):=(Below.heap_alloc W _ l (Array.getElem?_eq_some_iff.1 hrr).1).trans hrr;have hbU:=heap_alloc_new W (zih (g x));refine wpIn_rangeFunc_ownN (l₀:=l) (r₀:=rr) rfl hrr' h1' (gf:=272) (lb:=#[.pointer (some ⟨W.heap.size,0,none⟩)]) rfl trivial (enters_of Tryz.func272 (by kernel_rfl) rfl)
   ((zr7 (8 - 1 - 1 - 1) (by omega) W.heap.size W1.heap.size (g x) _ hbU).inRound l) belowK_t (belowK_b (by simp;have:=hB.size;omega)) (Below.refl _ _) (fun _=>rfl)
   (fun _ W'=>(TabI W1.heap.size W'∧Boxed W' Bx 3 (.int .i64 (x:Nat)))∧(Below W1.heap.size W W'∧KeepsFrom W3.heap.size W W'))
   (fun _ _ _=>False)
   (OwnFrom.and (OwnFrom.and (Own.from (zoi _) _) (Own.from (boxed_own _ _ _) _)) (OwnFrom.and (ownFrom_below hB.size (by simp;have:=hB.size;omega)) (ownFrom_keepsFrom (by simp))))
   (fun _ _ _ _ _ hs _ _=>hs)
   ⟨⟨hI.alloc _,bX.alloc _⟩,(Below.refl _ W).alloc hB.size _,(KeepsOthers.alloc _ _).from _⟩
   (fun (y:Fin 8×Int) a'' _=>a''= { tmps:=#[.agg #[.int .i64 r,.slice (some ⟨tb,tf,none⟩) n cap,.slice mo mn mc,.slice eo en ec],.int .u32 (s:Nat),.pointer (some ⟨w.heap.size,0,none⟩),undef,.pointer (some ⟨w.heap.size+1,0,none⟩),.pointer (some ⟨W1.heap.size,0,none⟩),.pointer (some ⟨Bx,0,none⟩),.int .i64 (y.1.val:Nat),.agg #[.int .i64 16,.int .i64 16,.int .i64 16,.int .i64 16,.int .i64 16,.int .i64 16,.int .i64 16,.int .i64 16],.int .u32 (s:Nat),.func (.func 221) #[] #[.pointer (some ⟨W1.heap.size+1,0,none⟩)],.int .i64 (x:Nat),.int .i64 (x:Nat),.pointer (some ⟨w.heap.size,1,none⟩),.slice (some ⟨tb,tf,none⟩) n cap,.int .i64 (n:Nat),.bool false,.pointer (some ⟨w.heap.size,1,none⟩),.slice (some ⟨tb,tf,none⟩) n cap,.int .i64 (x:Nat),.pointer (some ⟨tb,tf+x * 11,none⟩),.agg #[.int .i64 (g x 0),.int .i64 (g x 1),.int .i64 (g x 2),.int .i64 (g x 3),.int .i64 (g x 4),.int .i64 (g x 5),.int .i64 (g x 6),.int .i64 (g x 7),.int .i64 (g x 8),.int .i64 (g x 9),.int .i64 (g x 10)],.func (.func 272) #[] #[.pointer (some ⟨W.heap.size,0,none⟩)],.int .i64 (y.1.val:Nat),.int .i64 y.2,undef,undef,undef,undef,undef,undef,undef,undef],defers:=[] })
   (fun _ _ _ _ _ _ hs _ _=>hs)
   ?assign2 ?body2 ?done2 ?stop2
  case assign2=>
   rintro l2 pre' y W' K hi hK
   gi_wp2
   exact hK _ _ (KeepsFrom.refl _ _) (Below.refl _ _) hi rfl
  case body2=>
   rintro l2 pre' y a'' W' _ _ ⟨⟨⟨T,hT⟩,bX2⟩,hBW,hKF⟩ rfl _;obtain⟨⟨q,hq8⟩,yv⟩:=y;dsimp only;have CT:=Cls.cell (zag hT hq8);have CX:=Cls.cell bX2.cell;have q0:(0:Int)≤(q:Int):=by omega
   have q1:(q:Int) < 8:=by omega
   gi_wp2_with fail
   refine zbk 7 (by kernel_rfl) (by kernel_rfl) (by kernel_rfl) (by kernel_rfl) ?_ ?_
   ·rintro⟨_,_,h⟩
    exact h
   dsimp only [List.take,List.drop]
   repeat (go_big_quiet_step (fail))
   refine wpQuiet_nil ?_;intro _ hw';obtain⟨nq,rfl⟩:=hw';have hT4:=(nq.below.block _ (Array.getElem?_eq_some_iff.1 hT).1).trans hT;have bX4:Boxed nq.wd Bx 3 (.int .i64 (x:Nat)):=(nq.below.block _ bX2.lt).trans bX2;have d1:=zag hT4 hq8;have d2:nq.wd.frozen? ⟨W1.heap.size,q,none⟩=false:=by
    have h:=hT4;unfold tabB at h;exact zab h q
   refine wpList_plain rfl fun K hK=>?_;go_simp;refine hK _ _ ?_;refine (show _∧_∧_ from ?_);have hk1:∀ B,KeepsFrom B W' nq.wd:=fun B=>(zam.of_below (B:=B) nq.below).keeps;have hb5:Below W1.heap.size W' nq.wd:=nq.below.mono (by have:=hBW.size;have:=hB.size;omega);exact⟨(hk1 _).trans ((KeepsOthers.setCell _ _ _).from _),hb5.setCell (by simp) _,⟨⟨_,tabB_set hT4 hq8 _⟩,(Below.heap_setCell _ _ _ _ (by show Bx≠W1.heap.size;omega)).trans bX4⟩,(hBW.trans hb5).setCell (by simp) _,(hKF.trans (hk1 _)).trans ((KeepsOthers.setCell _ _ _).from _)⟩
  case done2=>
   rintro ys' W' _ ⟨⟨hI2,bX2⟩,hBW,hKF⟩
   gi_wp2
   exact⟨hKF,hBW,hI2,hB.trans hBW⟩
  case stop2=>
   rintro c pre' W' _ h;exact h.elim
 case done=>
  rintro D xs W hD _ ⟨⟨T,hT⟩,hB⟩ hK;have t0:=zag hT (i:=0) (by decide);have t1:=zag hT (i:=1) (by decide);have t2:=zag hT (i:=2) (by decide);have t3:=zag hT (i:=3) (by decide);have t4:=zag hT (i:=4) (by decide);have t5:=zag hT (i:=5) (by decide);have t6:=zag hT (i:=6) (by decide);have t7:=zag hT (i:=7) (by decide);have hR:=(hB.block _ (by omega)).trans hRes;have r0:=zaa hR 0;have r1:=zaa hR 1;have r2:=zaa hR 2;have r3:=zaa hR 3;have r4:=zaa hR 4;have r5:=zaa hR 5;have r6:=zaa hR 6;have r7:=zaa hR 7;have f0:=zab hR 0;have f1:=zab hR 1;have f2:=zab hR 2;have f3:=zab hR 3;have f4:=zab hR 4;have f5:=zab hR 5;have f6:=zab hR 6;have f7:=zab hR 7;have hbF:Below w.heap.size w ((((((((W.setCell ⟨w.heap.size+1,0,none⟩ (.int .i64 (T 0))).setCell ⟨w.heap.size+1,1,none⟩ (.int .i64 (T 1))).setCell ⟨w.heap.size+1,2,none⟩ (.int .i64 (T 2))).setCell ⟨w.heap.size+1,3,none⟩ (.int .i64 (T 3))).setCell ⟨w.heap.size+1,4,none⟩ (.int .i64 (T 4))).setCell ⟨w.heap.size+1,5,none⟩ (.int .i64 (T 5))).setCell ⟨w.heap.size+1,6,none⟩ (.int .i64 (T 6))).setCell ⟨w.heap.size+1,7,none⟩ (.int .i64 (T 7))):=by
   have h:=hbI.trans (hB.mono (by omega));exact (((((((h.setCell (by simp) _).setCell (by simp) _).setCell (by simp) _).setCell (by simp) _).setCell (by simp) _).setCell (by simp) _).setCell (by simp) _).setCell (by simp) _
  have hbk:((((((((W.setCell ⟨w.heap.size+1,0,none⟩ (.int .i64 (T 0))).setCell ⟨w.heap.size+1,1,none⟩ (.int .i64 (T 1))).setCell ⟨w.heap.size+1,2,none⟩ (.int .i64 (T 2))).setCell ⟨w.heap.size+1,3,none⟩ (.int .i64 (T 3))).setCell ⟨w.heap.size+1,4,none⟩ (.int .i64 (T 4))).setCell ⟨w.heap.size+1,5,none⟩ (.int .i64 (T 5))).setCell ⟨w.heap.size+1,6,none⟩ (.int .i64 (T 6))).setCell ⟨w.heap.size+1,7,none⟩ (.int .i64 (T 7))).heap[w.heap.size+1]? =some (tabB T):=by
   unfold tabB;refine (zad (zad (zad (zad (zad (zad (zad (zad hR)))))))).trans ?_;simp
  have hK8:((((((((W.setCell ⟨w.heap.size+1,0,none⟩ (.int .i64 (T 0))).setCell ⟨w.heap.size+1,1,none⟩ (.int .i64 (T 1))).setCell ⟨w.heap.size+1,2,none⟩ (.int .i64 (T 2))).setCell ⟨w.heap.size+1,3,none⟩ (.int .i64 (T 3))).setCell ⟨w.heap.size+1,4,none⟩ (.int .i64 (T 4))).setCell ⟨w.heap.size+1,5,none⟩ (.int .i64 (T 5))).setCell ⟨w.heap.size+1,6,none⟩ (.int .i64 (T 6))).setCell ⟨w.heap.size+1,7,none⟩ (.int .i64 (T 7))).heap[D]? =some (.deferred (some [])):=by
   repeat rw [Below.heap_setCell _ _ _ _ (by simp;omega)]
   exact hK
  obtain⟨F,hF⟩:∃ F,F=((((((((W.setCell ⟨w.heap.size+1,0,none⟩ (.int .i64 (T 0))).setCell ⟨w.heap.size+1,1,none⟩ (.int .i64 (T 1))).setCell ⟨w.heap.size+1,2,none⟩ (.int .i64 (T 2))).setCell ⟨w.heap.size+1,3,none⟩ (.int .i64 (T 3))).setCell ⟨w.heap.size+1,4,none⟩ (.int .i64 (T 4))).setCell ⟨w.heap.size+1,5,none⟩ (.int .i64 (T 5))).setCell ⟨w.heap.size+1,6,none⟩ (.int .i64 (T 6))).setCell ⟨w.heap.size+1,7,none⟩ (.int .i64 (T 7))):=⟨_,rfl⟩;rw [←hF] at hbF hbk hK8
  gi_wp2_with fail
  rw [←hF];clear hF;refine⟨by simp,.inl ⟨_,_,rfl,run_takeDeferred hK8,?_⟩⟩;refine⟨tabV T,?_,⟨T,rfl⟩,hbF.trans (belowK_b (w:=w) (Nat.le_refl _) F D _ _ (by omega) hK8 rfl rfl)⟩;have hD2:∀ o:Obj,(F.putObj D o).heap[w.heap.size+1]? =some (tabB T):=fun o=>(World.putObj_heap_other (by omega)).trans hbk;have z0:=zag (hD2 (.deferred none)) (i:=0) (by decide);have z1:=zag (hD2 (.deferred none)) (i:=1) (by decide);have z2:=zag (hD2 (.deferred none)) (i:=2) (by decide);have z3:=zag (hD2 (.deferred none)) (i:=3) (by decide);have z4:=zag (hD2 (.deferred none)) (i:=4) (by decide);have z5:=zag (hD2 (.deferred none)) (i:=5) (by decide);have z6:=zag (hD2 (.deferred none)) (i:=6) (by decide);have z7:=zag (hD2 (.deferred none)) (i:=7) (by decide);generalize F.putObj D (.deferred none)=Z at z0 z1 z2 z3 z4 z5 z6 z7 ⊢;simp [results,Tryz.results161,go_sem,z0,z1,z2,z3,z4,z5,z6,z7,tabV]
 case stop=>
  rintro D c pre W hD _ ⟨rfl,⟨T,hT⟩,hB⟩ hK;have t0:=zag hT (i:=0) (by decide);have t1:=zag hT (i:=1) (by decide);have t2:=zag hT (i:=2) (by decide);have t3:=zag hT (i:=3) (by decide);have t4:=zag hT (i:=4) (by decide);have t5:=zag hT (i:=5) (by decide);have t6:=zag hT (i:=6) (by decide);have t7:=zag hT (i:=7) (by decide);have hR:=(hB.block _ (by omega)).trans hRes;have r0:=zaa hR 0;have r1:=zaa hR 1;have r2:=zaa hR 2;have r3:=zaa hR 3;have r4:=zaa hR 4;have r5:=zaa hR 5;have r6:=zaa hR 6;have r7:=zaa hR 7;have f0:=zab hR 0;have f1:=zab hR 1;have f2:=zab hR 2;have f3:=zab hR 3;have f4:=zab hR 4;have f5:=zab hR 5;have f6:=zab hR 6;have f7:=zab hR 7;have hbF:Below w.heap.size w ((((((((W.setCell ⟨w.heap.size+1,0,none⟩ (.int .i64 (T 0))).setCell ⟨w.heap.size+1,1,none⟩ (.int .i64 (T 1))).setCell ⟨w.heap.size+1,2,none⟩ (.int .i64 (T 2))).setCell ⟨w.heap.size+1,3,none⟩ (.int .i64 (T 3))).setCell ⟨w.heap.size+1,4,none⟩ (.int .i64 (T 4))).setCell ⟨w.heap.size+1,5,none⟩ (.int .i64 (T 5))).setCell ⟨w.heap.size+1,6,none⟩ (.int .i64 (T 6))).setCell ⟨w.heap.size+1,7,none⟩ (.int .i64 (T 7))):=by
   have h:=hbI.trans (hB.mono (by omega));exact (((((((h.setCell (by simp) _).setCell (by simp) _).setCell (by simp) _).setCell (by simp) _).setCell (by simp) _).setCell (by simp) _).setCell (by simp) _).setCell (by simp) _
  have hbk:((((((((W.setCell ⟨w.heap.size+1,0,none⟩ (.int .i64 (T 0))).setCell ⟨w.heap.size+1,1,none⟩ (.int .i64 (T 1))).setCell ⟨w.heap.size+1,2,none⟩ (.int .i64 (T 2))).setCell ⟨w.heap.size+1,3,none⟩ (.int .i64 (T 3))).setCell ⟨w.heap.size+1,4,none⟩ (.int .i64 (T 4))).setCell ⟨w.heap.size+1,5,none⟩ (.int .i64 (T 5))).setCell ⟨w.heap.size+1,6,none⟩ (.int .i64 (T 6))).setCell ⟨w.heap.size+1,7,none⟩ (.int .i64 (T 7))).heap[w.heap.size+1]? =some (tabB T):=by
   unfold tabB;refine (zad (zad (zad (zad (zad (zad (zad (zad hR)))))))).trans ?_;simp
  have hK8:((((((((W.setCell ⟨w.heap.size+1,0,none⟩ (.int .i64 (T 0))).setCell ⟨w.heap.size+1,1,none⟩ (.int .i64 (T 1))).setCell ⟨w.heap.size+1,2,none⟩ (.int .i64 (T 2))).setCell ⟨w.heap.size+1,3,none⟩ (.int .i64 (T 3))).setCell ⟨w.heap.size+1,4,none⟩ (.int .i64 (T 4))).setCell ⟨w.heap.size+1,5,none⟩ (.int .i64 (T 5))).setCell ⟨w.heap.size+1,6,none⟩ (.int .i64 (T 6))).setCell ⟨w.heap.size+1,7,none⟩ (.int .i64 (T 7))).heap[D]? =some (.deferred (some [])):=by
   repeat rw [Below.heap_setCell _ _ _ _ (by simp;omega)]
   exact hK
  obtain⟨F,hF⟩:∃ F,F=((((((((W.setCell ⟨w.heap.size+1,0,none⟩ (.int .i64 (T 0))).setCell ⟨w.heap.size+1,1,none⟩ (.int .i64 (T 1))).setCell ⟨w.heap.size+1,2,none⟩ (.int .i64 (T 2))).setCell ⟨w.heap.size+1,3,none⟩ (.int .i64 (T 3))).setCell ⟨w.heap.size+1,4,none⟩ (.int .i64 (T 4))).setCell ⟨w.heap.size+1,5,none⟩ (.int .i64 (T 5))).setCell ⟨w.heap.size+1,6,none⟩ (.int .i64 (T 6))).setCell ⟨w.heap.size+1,7,none⟩ (.int .i64 (T 7))):=⟨_,rfl⟩;rw [←hF] at hbF hbk hK8
  gi_wp2_with fail
  rw [←hF];clear hF;refine⟨by simp,.inl ⟨_,_,rfl,run_takeDeferred hK8,?_⟩⟩;refine⟨tabV T,?_,⟨T,rfl⟩,hbF.trans (belowK_b (w:=w) (Nat.le_refl _) F D _ _ (by omega) hK8 rfl rfl)⟩;have hD2:∀ o:Obj,(F.putObj D o).heap[w.heap.size+1]? =some (tabB T):=fun o=>(World.putObj_heap_other (by omega)).trans hbk;have z0:=zag (hD2 (.deferred none)) (i:=0) (by decide);have z1:=zag (hD2 (.deferred none)) (i:=1) (by decide);have z2:=zag (hD2 (.deferred none)) (i:=2) (by decide);have z3:=zag (hD2 (.deferred none)) (i:=3) (by decide);have z4:=zag (hD2 (.deferred none)) (i:=4) (by decide);have z5:=zag (hD2 (.deferred none)) (i:=5) (by decide);have z6:=zag (hD2 (.deferred none)) (i:=6) (by decide);have z7:=zag (hD2 (.deferred none)) (i:=7) (by decide);generalize F.putObj D (.deferred none)=Z at z0 z1 z2 z3 z4 z5 z6 z7 ⊢;simp [results,Tryz.results161,go_sem,z0,z1,z2,z3,z4,z5,z6,z7,tabV]
end Go.Proofs.YtpbmmoneeoijaaaGreatDoor
namespace Go.Proofs.YtpbmmoneeoijaaaGreatDoor
open Go.RowKit Go.Deep Go.Shelf
attribute [local go_sem] Oper.semAt_some
set_option maxRecDepth 100000
theorem zBm (n:Nat) (Bn:Nat) (Kp:World→World→Prop) (w:World) (hc:w.cell? ⟨Bn,0,none⟩=some (.int .u32 0)):
  SeqStopsK Fence.wide n Tryz.prog 221 #[.pointer (some ⟨Bn,0,none⟩)] (fun x:Nat=>#[.int .i64 x]) Kp (fun ys=>ys=[]) (fun _=>False) 0 w:=by
 intro l J Jx W hW hJ hJx hY h0;have hc1:W.cell? ⟨Bn,0,none⟩=some (.int .u32 0):=(hW.cell (p:=⟨Bn,0,none⟩) (zal hc)).trans hc;refine callsIn_of_wp Tryz.func221 rfl trivial ?_ rfl;simp only [Tryz.ntmps221,List.size_toArray,List.length_cons,List.length_nil,Nat.reduceAdd,Nat.reduceSub,Array.replicate_succ,Array.replicate_zero,List.push_toArray,List.append_toArray,List.nil_append,List.cons_append]
 gi_wp2
 gi_loopw [3] (fun p wr=>p=.int .u32 0∧J [] wr) (fun p _=>(intOf p).toNat)
 case atStart=>exact⟨rfl,h0⟩
 case round=>
  obtain⟨rfl,hJr⟩:=hrel
  gi_wp2
  go_end0
  exact⟨⟨_,rfl⟩,.inl ⟨[],rfl,hJr⟩⟩
set_option maxHeartbeats 2000000 in
theorem zrp (base sb:Nat) (T:Nat→Int) (w:World) (h:zb8 w base sb):
  Calls Tryz.prog 184 #[.pointer (some ⟨sb,0,none⟩),tabV T] w fun e w'=>(∃ v,e=.returned v)∧zb8 w' base sb∧FT SchT base w w':=by
 unfold tabV;have hbw:base≤w.heap.size:=by have:=h.lo;have:=h.lt;omega
 have b2:Below w.heap.size w ((w.alloc (Obj.cells #[.pointer (some ⟨sb,0,none⟩)] 139)).alloc (tabB T)):=((Below.refl _ _).alloc (Nat.le_refl _) _).alloc (by simp) _;have hP:=zac (heap_alloc_new w (Obj.cells #[.pointer (some ⟨sb,0,none⟩)] 139)) (tabB T);have hT:=heap_alloc_new (w.alloc (Obj.cells #[.pointer (some ⟨sb,0,none⟩)] 139)) (tabB T);rw [World.size_alloc] at hT;have h2:=h.below b2;have hs2:=hid (show ((w.alloc (Obj.cells #[.pointer (some ⟨sb,0,none⟩)] 139)).alloc (tabB T)).heap.size=w.heap.size+2 from by simp);obtain⟨W2,hW2⟩:∃ X,X=(w.alloc (Obj.cells #[.pointer (some ⟨sb,0,none⟩)] 139)).alloc (tabB T):=⟨_,rfl⟩;rw [←hW2] at b2 hP hT h2 hs2;refine (callsIn_wide (n:=8)).1 ?_;have h1:1≤8:=by omega
 refine callsIn_of_wp_marks Tryz.func184 rfl trivial ?_ rfl;simp only [Tryz.ntmps184,List.size_toArray,List.length_cons,List.length_nil,Nat.reduceAdd,Nat.reduceSub,Array.replicate_succ,Array.replicate_zero,List.push_toArray,List.append_toArray,List.nil_append,List.cons_append];refine wpIn_wide.2 ?_
 go_upto_region 1 with fail
 unfold tabB at hW2 hT;rw [←hW2];clear hW2;obtain⟨v0,w0⟩:=h2.tb 0 (by decide);have y0:=h2.fz 131;obtain⟨v1,w1⟩:=h2.tb 1 (by decide);have y1:=h2.fz 132;obtain⟨v2,w2⟩:=h2.tb 2 (by decide);have y2:=h2.fz 133;obtain⟨v3,w3⟩:=h2.tb 3 (by decide);have y3:=h2.fz 134;obtain⟨v4,w4⟩:=h2.tb 4 (by decide);have y4:=h2.fz 135;obtain⟨v5,w5⟩:=h2.tb 5 (by decide);have y5:=h2.fz 136;obtain⟨v6,w6⟩:=h2.tb 6 (by decide);have y6:=h2.fz 137;obtain⟨v7,w7⟩:=h2.tb 7 (by decide);have y7:=h2.fz 138;have t0:=zaa hT 0;have t1:=zaa hT 1;have t2:=zaa hT 2;have t3:=zaa hT 3;have t4:=zaa hT 4;have t5:=zaa hT 5;have t6:=zaa hT 6;have t7:=zaa hT 7;simp only [Nat.add_zero,Nat.reduceAdd] at w0 w1 w2 w3 w4 w5 w6 w7;have p0:=zaa hP 0
 go_upto_region 2 with fail
 have s0:=h2.set (j:=131) (v:=.int .i64 (T 0)) (.inl (by omega));have s1:=s0.set (j:=132) (v:=.int .i64 (T 1)) (.inl (by omega));have s2:=s1.set (j:=133) (v:=.int .i64 (T 2)) (.inl (by omega));have s3:=s2.set (j:=134) (v:=.int .i64 (T 3)) (.inl (by omega));have s4:=s3.set (j:=135) (v:=.int .i64 (T 4)) (.inl (by omega));have s5:=s4.set (j:=136) (v:=.int .i64 (T 5)) (.inl (by omega));have s6:=s5.set (j:=137) (v:=.int .i64 (T 6)) (.inl (by omega));have s7:=s6.set (j:=138) (v:=.int .i64 (T 7)) (.inl (by omega));have kf:=(((((((h2.ft_set 131 (.int .i64 (T 0))).trans (s0.ft_set 132 (.int .i64 (T 1)))).trans (s1.ft_set 133 (.int .i64 (T 2)))).trans (s2.ft_set 134 (.int .i64 (T 3)))).trans (s3.ft_set 135 (.int .i64 (T 4)))).trans (s4.ft_set 136 (.int .i64 (T 5)))).trans (s5.ft_set 137 (.int .i64 (T 6)))).trans (s6.ft_set 138 (.int .i64 (T 7)));have hP3:=kf.blk hP (by unfold SchT;decide);obtain⟨W3,hW3⟩:∃ X,X=((((((((W2.setCell ⟨sb,131,none⟩ (.int .i64 (T 0))).setCell ⟨sb,132,none⟩ (.int .i64 (T 1))).setCell ⟨sb,133,none⟩ (.int .i64 (T 2))).setCell ⟨sb,134,none⟩ (.int .i64 (T 3))).setCell ⟨sb,135,none⟩ (.int .i64 (T 4))).setCell ⟨sb,136,none⟩ (.int .i64 (T 5))).setCell ⟨sb,137,none⟩ (.int .i64 (T 6))).setCell ⟨sb,138,none⟩ (.int .i64 (T 7))):=⟨_,rfl⟩;rw [←hW3] at s7 kf hP3 ⊢;clear hW3 s0 s1 s2 s3 s4 s5 s6 h2 w0 w1 w2 w3 w4 w5 w6 w7 y0 y1 y2 y3 y4 y5 y6 y7 t0 t1 t2 t3 t4 t5 t6 t7 p0 hT;have q0:=zaa hP3 0;have q96:=s7.c96
 go_wp2_with (go_at_call 159;refine (zdn 0 _).mono ?_;rintro e W4 ⟨rfl,rfl⟩)
 have b4:Below W3.heap.size W3 (W3.alloc (Obj.cells #[.int .u32 0] 140)):=(Below.refl _ _).alloc (Nat.le_refl _) _;have hc4:=(zaq W3 (.int .u32 0) 140).1;have h4:=s7.below b4;have k4:FT SchT base w (W3.alloc (Obj.cells #[.int .u32 0] 140)):=((FT.of_below b2).trans kf).trans (FT.of_below b4);obtain⟨W4,hW4⟩:∃ X,X=W3.alloc (Obj.cells #[.int .u32 0] 140):=⟨_,rfl⟩;rw [←hW4] at hc4 h4 k4 ⊢;clear hW4 s7 kf b2 b4 hP3 hP q0 q96 hs2;refine (wpIn_wide (n:=8)).1 ?_;have hIo:∀ {β:Type},OwnFrom W4.heap.size (fun (_:β) X=>zb8 X base sb∧FT SchT base w X):=fun _ X Y row hs hg hr=>by
  have hsv:=Save.of_grown hg;refine⟨hs.1.eq ?_,hs.2.then_new hsv fun k hk=>Nat.le_trans k4.size (hr k hk).1⟩;obtain⟨cur,hc⟩:=hs.1.ty;exact (zaj hc hsv fun hk=>zlp (fun r e=>(hr r e).2) _ _ _ hk hc).trans hc.symm
 refine wpIn_rangeFunc_ownG rfl h1 (gf:=221) (lb:=#[.pointer (some ⟨W3.heap.size,0,none⟩)]) rfl trivial (enters_of Tryz.func221 (by kernel_rfl) rfl)
  (zBm (8 - 1) W3.heap.size (Below 0) W4 hc4) belowK_t (belowK_b (Nat.zero_le _)) (Below.refl _ _) (fun _=>rfl)
  (fun _ X=>zb8 X base sb∧FT SchT base w X)
  (fun _ _ _=>False)
  hIo
  (fun _ _ _ _ _ hs _ _=>hs)
  ⟨h4,k4⟩
  (fun i=>{ tmps:=#[.pointer (some ⟨sb,0,none⟩),.agg #[.int .i64 (T 0),.int .i64 (T 1),.int .i64 (T 2),.int .i64 (T 3),.int .i64 (T 4),.int .i64 (T 5),.int .i64 (T 6),.int .i64 (T 7)],.pointer (some ⟨w.heap.size,0,none⟩),.pointer (some ⟨w.heap.size+1,0,none⟩),.int .i64 (i:Nat),.pointer (some ⟨sb,0,none⟩),.agg #[.int .i64 (T 0),.int .i64 (T 1),.int .i64 (T 2),.int .i64 (T 3),.int .i64 (T 4),.int .i64 (T 5),.int .i64 (T 6),.int .i64 (T 7)],.pointer (some ⟨sb,0,none⟩),.pointer (some ⟨sb,131,none⟩),.pointer (some ⟨sb,0,none⟩),.pointer (some ⟨sb,0,none⟩),.pointer (some ⟨sb,96,none⟩),.int .u32 0,.func (.func 221) #[] #[.pointer (some ⟨W3.heap.size,0,none⟩)],.int .i64 (i:Nat),undef,undef,undef,undef,undef,undef,undef,undef],defers:=[] })
  ?assign ?body ?done ?stop
 case assign=>
  rintro l i X K hK
  gi_wp2
  exact hK
 case body=>
  rintro l pre i X _ hlt;exact absurd hlt (Nat.not_lt_zero _)
 case done=>
  rintro D ys X hD _ hI hK
  gi_wp2
  have hI2:=hIo.putObj (s:=()) (.deferred none) hI hD hK rfl;refine⟨by simp,.inl ⟨_,_,rfl,run_takeDeferred hK,?_⟩⟩;exact⟨.tuple #[],by simp [results,Tryz.results184,go_sem],⟨_,rfl⟩,hI2.1,hI2.2⟩
 case stop=>
  rintro D c pre X _ _ h _;exact h.elim
end Go.Proofs.YtpbmmoneeoijaaaGreatDoor
namespace Go.Proofs.YtpbmmoneeoijaaaGreatDoor
open Go.RowKit Go.Deep Go.Shelf
set_option maxRecDepth 100000
set_option maxHeartbeats 1000000 in
theorem zy1 (d:zbg) (s:EngS) (r:Dl.TL) (w:World) (hk:zib d.y s r) (hd:d.at_ w s r):
  Calls Tryz.prog 183 #[.pointer (some ⟨d.eb,0,none⟩)] w fun e w'=>(∃ q:Nat,q < 4294967296∧e=.returned (.int .u32 (q:Nat)))∧Below w.heap.size w w':=by
 have c8:=hd.eng.c8;by_cases hp:s.ph=3
 ·have u1:(s.ph == 3)=true:=by simp [hp]
  obtain⟨j,hj⟩:∃ j:Nat,s.ed=j:=⟨s.ed.toNat,by have:=hk.e0 (by omega);omega⟩;have HCL:=hid (zmg d s r j w hj (by have:=hk.e1;omega) hd);have l1:=zez hd.env (d.h j 0);have l2:=zez hd.env (d.h j 1);have b1:clO d j < 4294967296:=Nat.lt_of_le_of_lt (zd5 _ _) l1;have b2:clN d j < 4294967296:=Nat.lt_of_le_of_lt (zd5 _ _) l2;have b3:clS d j < 4294967296:=Nat.lt_of_le_of_lt Nat.and_le_left l1;have HBO:=hid fun X=>zbo (clO d j) (clN d j) (clS d j) b1 b2 b3 X;have hor:clO d j |||clN d j |||clS d j < 4294967296:=Nat.or_lt_two_pow (n:=32) (Nat.or_lt_two_pow (n:=32) b1 b2) b3
  go_enter Tryz.func183,Tryz.ntmps183
  go_wp2_with (first|(go_at_call 252;refine HCL.out.mono ?_;rintro e w2 ⟨rfl,hb2⟩)|(go_at_call 167;refine (HBO.out _).mono ?_;rintro e w3 ⟨rfl,hb3⟩))
  go_ret;exact⟨⟨_,hor,rfl⟩,hb2.trans (hb3.mono hb2.size)⟩
 ·have u1:(s.ph == 3)=false:=by simp [hp]
  have C0:=Cls.cell hd.eng.c0;have C1:=Cls.cell hd.eng.c1;have C2:=Cls.cell hd.eng.c2;have C3:=Cls.cell hd.eng.c3;have C6:=Cls.cell hd.eng.c6;have HTK:=hid fun (m:Int) (i:Cls w)=>show Calls Tryz.prog 89 #[.agg #[.int .i64 d.y.r,.slice d.y.ao d.y.n d.y.cap,.slice d.y.mo d.y.mn d.y.mc,.slice d.y.eo d.y.en d.y.ec],.int .i64 m] i.wd fun e w'=>e=.returned (.int .u32 (zax d.y d.R m:Nat))∧Below i.wd.heap.size i.wd w' from zij d.y d.R m i.wd (hd.env.modes.below i.below);have hlt:=zez hd.env s.mo;obtain⟨q,hq⟩:∃ q:Int→Nat,(fun m=>zax d.y d.R m)=q:=⟨_,rfl⟩;have hq2:=fun m=>congrFun hq m;rw [hq2] at hlt;have HT2:Hid (∀ (m:Int) (i:Cls w),Calls Tryz.prog 89 #[.agg #[.int .i64 d.y.r,.slice d.y.ao d.y.n d.y.cap,.slice d.y.mo d.y.mn d.y.mc,.slice d.y.eo d.y.en d.y.ec],.int .i64 m] i.wd fun e w'=>e=.returned (.int .u32 (q m:Nat))∧Below i.wd.heap.size i.wd w'):=fun m i=>by rw [←hq2];exact HTK.out m i
  clear hq hq2 HTK;go_enter Tryz.func183,Tryz.ntmps183
  go_upto_region 3 with fail
  refine zcw (by kernel_rfl) (by kernel_rfl) ?_
  repeat (go_big_quiet_step ((go_at_call 89;exact Calls.cls _ (HT2.out _ _))))
  refine wpQuiet_nil ?_;intro _ hw';obtain⟨nq,rfl⟩:=hw';go_wp2;go_ret;exact⟨⟨_,hlt,rfl⟩,nq.below⟩
structure za3 where
 d:zbg
 cb:Nat
 sb:Nat
 x:Img
 R:Nat→za9
 g:Nat→Nat→Int
 q:Nat→Nat→Nat→Int
 h:Nat→Nat→Int
def CbT (t:TypeId):Prop:=t=148
structure zbc (c:za3) (W:World) (qv av lv ev:Value):Prop where
 c0:W.cell? ⟨c.cb,0,none⟩=some (.pointer (some ⟨c.sb,0,none⟩))
 c2:W.cell? ⟨c.cb,2,none⟩=some (.int .i64 c.x.r)
 c3:W.cell? ⟨c.cb,3,none⟩=some (.slice c.x.ao c.x.n c.x.cap)
 c4:W.cell? ⟨c.cb,4,none⟩=some (.slice c.x.mo c.x.mn c.x.mc)
 c5:W.cell? ⟨c.cb,5,none⟩=some (.slice c.x.eo c.x.en c.x.ec)
 c40:W.cell? ⟨c.cb,40,none⟩=some (.pointer (some ⟨c.d.eb,0,none⟩))
 c41:W.cell? ⟨c.cb,41,none⟩=some qv
 c42:W.cell? ⟨c.cb,42,none⟩=some av
 c43:W.cell? ⟨c.cb,43,none⟩=some lv
 c44:W.cell? ⟨c.cb,44,none⟩=some ev
 fz:∀ o,W.frozen? ⟨c.cb,o,none⟩=false
 ty:∃ cur,W.heap[c.cb]? =some (.cells cur 148 (0,0))
 lo:c.d.base≤c.cb
variable {c:za3} {W W':World} {qv av lv ev:Value}
theorem zbc.lt (h:zbc c W qv av lv ev):c.cb < W.heap.size:=zal h.c0
theorem zbc.eq (h:zbc c W qv av lv ev) (hb:W'.heap[c.cb]? =W.heap[c.cb]?):zbc c W' qv av lv ev:=by
 obtain⟨cur,hc⟩:=h.ty;have cc:∀ o,W'.cell? ⟨c.cb,o,none⟩=W.cell? ⟨c.cb,o,none⟩:=fun o=>World.cell?_of_block (w:=W) (w':=W') (a:=⟨c.cb,o,none⟩) hb;exact⟨(cc _).trans h.c0,(cc _).trans h.c2,(cc _).trans h.c3,(cc _).trans h.c4,(cc _).trans h.c5,(cc _).trans h.c40,(cc _).trans h.c41,(cc _).trans h.c42,(cc _).trans h.c43,(cc _).trans h.c44,fun o=>by have:=h.fz o;simpa [World.frozen?,hb] using this,⟨cur,hb.trans hc⟩,h.lo⟩
theorem zbc.keep {M:TypeId→Prop} {base:Nat} (h:zbc c W qv av lv ev) (k:FT M base W W') (hm:¬ M 148):zbc c W' qv av lv ev:=by
 obtain⟨cur,hc⟩:=h.ty;exact h.eq ((k.blk hc hm).trans hc.symm)
theorem zbc.below (h:zbc c W qv av lv ev) (k:Below W.heap.size W W'):zbc c W' qv av lv ev:=h.keep (M:=fun _=>False) (base:=0) (FT.of_below k) id
theorem zbc.ft_set (h:zbc c W qv av lv ev) (j:Nat) (v:Value):FT CbT c.d.base W (W.setCell ⟨c.cb,j,none⟩ v):=by
 obtain⟨cur,hc⟩:=h.ty;exact FT.set (M:=CbT) hc rfl h.lo v
theorem zbc.set (h:zbc c W qv av lv ev) {j:Nat} {v qv' av' lv' ev':Value} (hj:41≤j) (h41:(if j=41 then v else qv)=qv') (h42:(if j=42 then v else av)=av') (h43:(if j=43 then v else lv)=lv') (h44:(if j=44 then v else ev)=ev'):
  zbc c (W.setCell ⟨c.cb,j,none⟩ v) qv' av' lv' ev':=by
 obtain⟨cur,hc⟩:=h.ty;have hb:=Dl.blk_put0 (i:=j) (u:=v) hc;have key:∀ (o:Nat) (u:Value),W.cell? ⟨c.cb,o,none⟩=some u→(W.setCell ⟨c.cb,j,none⟩ v).cell? ⟨c.cb,o,none⟩=some (if j=o then v else u):=fun o u ho=>by
  rw [zaa hc] at ho;rw [zaa hb];by_cases e:j=o
  ·subst e
   have:=(Array.getElem?_eq_some_iff.1 ho).1;simp [this]
  ·rw [if_neg e,Array.getElem?_setIfInBounds_ne e,ho]
 exact⟨by rw [key _ _ h.c0,if_neg (by omega)],by rw [key _ _ h.c2,if_neg (by omega)],by rw [key _ _ h.c3,if_neg (by omega)],by rw [key _ _ h.c4,if_neg (by omega)],by rw [key _ _ h.c5,if_neg (by omega)],by rw [key _ _ h.c40,if_neg (by omega)],
  by rw [key _ _ h.c41,h41],by rw [key _ _ h.c42,h42],by rw [key _ _ h.c43,h43],by rw [key _ _ h.c44,h44],fun o=>by have:=h.fz o;simpa [World.frozen?_setCell] using this,⟨_,hb⟩,h.lo⟩
def TabT (t:TypeId):Prop:=t=148∨t=249
theorem zxr {t:TypeId} (h:CbT t):TabT t:=.inl h
theorem zsc {t:TypeId} (h:SchT t):TabT t:=.inr h
theorem zyz {P:Program} {f:FuncId} {fn:Func} {c:Code} {args:Array Value} {w:World} {R:Ending→World→Prop} (hf:P.funcs[f]? =some fn) (hb:fn.body=some c)
  (h:c.wp P (bodyPost P fn R) { tmps:=args ++ Array.replicate (fn.ntmps - args.size) undef,defers:=[] } w):
  Calls P f args w R∧∀ u,CallsD P f args u w fun e u' w'=>u'=u∧R e w':=⟨calls_of_wp hf hb h,fun _=>callsD_of_wp hf hb h⟩
def TabA (c:za3) (qv lv ev:Value) (w:World) (e:Ending) (w':World):Prop:=
 (∃ v,e=.returned v)∧(∃ ac':Nat,zbc c w' qv (.int .u32 (ac':Nat)) lv ev)∧zb8 w' c.d.base c.sb∧FT TabT c.d.base w w'
set_option maxHeartbeats 2000000 in
theorem zik (c:za3) (s:EngS) (r:Dl.TL) (qv lv ev:Value) (ac:Nat) (w:World) (hk:zib c.d.y s r) (hd:c.d.at_ w s r) (hc:zbc c w qv (.int .u32 (ac:Nat)) lv ev) (hs:zb8 w c.d.base c.sb) (ho:zg6 w c.x c.R c.g c.q c.h):
  Calls Tryz.prog 108 #[.pointer (some ⟨c.cb,0,none⟩)] w (TabA c qv lv ev w)∧∀ u,CallsD Tryz.prog 108 #[.pointer (some ⟨c.cb,0,none⟩)] u w fun e u' w'=>u'=u∧TabA c qv lv ev w e w':=by
 have hbw:c.d.base≤w.heap.size:=by have:=hd.eng.lo;have:=hd.eng.lt;omega
 have hpos:=hd.pos;have HAC:=hid (zy1 c.d s r w hk hd);have c40:=hc.c40;refine zyz Tryz.func108 rfl ?_;simp only [Tryz.ntmps108,List.size_toArray,List.length_cons,List.length_nil,Nat.reduceAdd,Nat.reduceSub,Array.replicate_succ,Array.replicate_zero,List.push_toArray,List.append_toArray,List.nil_append,List.cons_append]
 go_upto_region 1 with (go_at_call 183;refine HAC.out.mono ?_;rintro e w2 ⟨⟨q,hq,rfl⟩,b2⟩)
 have hc2:=hc.below b2;have hs2:=hs.below b2;have ho2:=ho.below b2;have hT2:=hd.tab.below b2 hd.tab.pos;have c42:=hc2.c42;have f42:=hc2.fz 42;by_cases he:((q:Int) != (ac:Int))=true
 case neg=>
  have u1:((q:Int) != (ac:Int))=false:=by simpa using he
  go_wp2
  go_end0
  exact⟨⟨_,rfl⟩,⟨ac,hc2⟩,hs2,FT.of_below b2⟩
 have hc3:=hc2.set (j:=42) (v:=.int .u32 (q:Nat)) (by omega) rfl rfl rfl rfl;have k3:=hc2.ft_set 42 (.int .u32 (q:Nat))
 go_upto_region 3 with fail
 have hs3:=hs2.keep k3 (by unfold CbT;decide);have ho3:=ho2.keep ⟨by unfold CbT;decide,by unfold CbT;decide,by unfold CbT;decide,by unfold CbT;decide,by unfold CbT;decide⟩ k3;have hT3:=hT2.below (k3.below (Nat.le_trans hbw b2.size)) hpos;have kw3:FT TabT c.d.base w (w2.setCell ⟨c.cb,42,none⟩ (.int .u32 (q:Nat))):=(FT.of_below b2).trans (k3.mono fun _=>zxr);obtain⟨W3,hW3⟩:∃ X,X=w2.setCell ⟨c.cb,42,none⟩ (.int .u32 (q:Nat)):=⟨_,rfl⟩;rw [←hW3] at hc3 hs3 ho3 hT3 kw3 ⊢;clear hW3 k3 hc2 hs2 ho2 hT2 c42 f42 c40 HAC hk hd hc hs ho;have HCO:=hid fun X (hX:Below W3.heap.size W3 X)=>zjx c.x c.g q X hq (ho3.tasks.below hX) (hT3.below hX hT3.pos);have HCE:=hid fun (T:Nat→Int) X (hX:Below W3.heap.size W3 X)=>zrp c.d.base c.sb T X (hs3.below hX);refine zcx [9,10] (fun X=>zbc c X qv (.int .u32 (q:Nat)) lv ev) (by kernel_rfl) (by kernel_rfl) (hc3.eq rfl) ?_;refine qFs fun K hK=>?_;go_simp;refine⟨_,fun _ _=>rfl,hK _ ?_⟩;clear hK K;refine qFs fun K hK=>?_;go_simp;refine⟨_,fun _ _=>rfl,hK _ ?_⟩;clear hK K;refine qFs fun K hK=>?_;go_simp;refine⟨_,fun _ _=>rfl,hK _ ?_⟩;clear hK K;refine qFs fun K hK=>?_;go_simp;refine⟨.pointer (some ⟨c.sb,0,none⟩),fun X hX=>?_,hK _ ?_⟩
 ·have EX:=hX
  have z0:=EX.c0;go_simp
 clear hK K;refine qFs fun K hK=>?_;go_simp;refine⟨_,fun _ _=>rfl,hK _ ?_⟩;clear hK K;refine qFs fun K hK=>?_;go_simp;refine⟨_,fun _ _=>rfl,hK _ ?_⟩;clear hK K;refine qFs fun K hK=>?_;go_simp;refine⟨_,fun _ _=>rfl,hK _ ?_⟩;clear hK K;refine qFs fun K hK=>?_;go_simp;refine⟨.agg #[.int .i64 c.x.r,.slice c.x.ao c.x.n c.x.cap,.slice c.x.mo c.x.mn c.x.mc,.slice c.x.eo c.x.en c.x.ec],fun X hX=>?_,hK _ ?_⟩
 ·have EX:=hX
  have z0:=EX.c2;have z1:=EX.c3;have z2:=EX.c4;have z3:=EX.c5;go_simp
 clear hK K;refine qFs fun K hK=>?_;go_simp;refine⟨_,fun _ _=>rfl,hK _ ?_⟩;clear hK K;refine qFc ?_;refine qFc ?_;refine zau ?_;have B0:Below W3.heap.size W3 W3.drew:=⟨rfl,rfl,rfl,Nat.le_refl _,fun _ _=>rfl⟩;refine zcn (by rfl) (fun K hK=>?_)
 go_wp2_with fail
 refine (HCO.out _ B0).mono ?_;rintro e W6 ⟨⟨T,rfl⟩,b6⟩;have B6:=B0.trans (b6.mono B0.size)
 go_wp2_with fail
 refine hK _ _ (hc3.below B6) ?_;clear hK K b6;refine zcn (by rfl) (fun K hK=>?_)
 go_wp2_with fail
 refine (HCE.out T _ B6).mono ?_;rintro e W7 ⟨⟨v7,rfl⟩,hs7,k7⟩;have hc7:=(hc3.below B6).keep k7 (by unfold SchT;decide)
 go_wp2_with fail
 refine hK _ _ hc7 ?_;clear hK K;refine zkq ?_;go_wp2
 go_end0
 exact⟨⟨_,rfl⟩,⟨q,hc7⟩,hs7,(kw3.trans (FT.of_below B6)).trans (k7.mono fun _=>zsc)⟩
end Go.Proofs.YtpbmmoneeoijaaaGreatDoor
namespace Go.Proofs.YtpbmmoneeoijaaaGreatDoor
open Go.RowKit Go.Deep
set_option maxRecDepth 100000
set_option maxHeartbeats 4000000 in
theorem zzy (T:Nat→Int) (t:Int) (w:World):Calls Tryz.prog 273 #[tabV T,.int .i64 t] w fun e w'=>∃ r:Nat,e=.returned (.int .u32 (r:Nat))∧r < 2 ^ 8∧Below w.heap.size w w':=by
 have hb1:=(Below.refl w.heap.size w).alloc (Nat.le_refl _) (tabB T);unfold tabV;unfold tabB at hb1;go_enter Tryz.func273,Tryz.ntmps273;go_wp2;obtain⟨W0,hW0⟩:∃ W,W=(w.alloc (Obj.cells #[.int .i64 (T 0),.int .i64 (T 1),.int .i64 (T 2),.int .i64 (T 3),.int .i64 (T 4),.int .i64 (T 5),.int .i64 (T 6),.int .i64 (T 7)] 247)):=⟨_,rfl⟩;rw [←hW0] at hb1 ⊢;have HB:=hid hb1;clear hW0 hb1
 go_loopw [5,9] (fun s_ i_ wr=>∃ i s:Nat,i≤8∧s_=.int .u32 s∧i_=.int .i64 i∧Hid (s < 2 ^ i)∧W0=wr) (fun _ i_ _=>8 - (intOf i_).toNat)
 case atStart=>exact⟨0,0,by omega,rfl,rfl,hid (by decide),rfl⟩
 case round=>
  obtain⟨i,s,hi,rfl,rfl,HS,rfl⟩:=hrel;by_cases hlt:i < 8
  ·have t0:decide ((i:Int) < 8)=true:=by simp;omega
   obtain⟨l,hl⟩:∃ l,T i=l:=⟨_,rfl⟩;have hix:=zze T hlt;rw [hl] at hix;have i0':(0:Int)≤(i:Int):=by omega
   have i1:(i:Int) < 8:=by omega
   have hrun:=zc0 (w:=W0) 247 3 8 _ .i64 i l .i64 Tryz.underlying247 Tryz.underlying3 (by kernel_rfl) hlt hix;have HS2:=hid (zy9 (by omega) HS.out);have HS3:=hid (show s < 2 ^ (i+1) from Nat.lt_of_lt_of_le HS.out (Nat.pow_le_pow_right (by decide) (by omega)));have hs32:s < 4294967296:=Nat.lt_trans HS.out (zzt (by omega))
   go_upto_region 5 with (rw [hrun];simp only [Result.andThen];rw [Oper.upon_value])
   clear hrun hix;by_cases k1:l≤t
   ·have u1:decide (l≤t)=true:=by simp [k1]
    by_cases k2:l < 16
    ·have u2:decide (l < 16)=true:=by simp [k2]
     go_wp2_with (go_at_call 138;refine (zfq s hs32 i _).mono ?_;rintro e w2 ⟨rfl,rfl⟩)
     go_roundw
     case rel=>exact⟨i+1,_,by omega,rfl,by go_num,HS2,trivial⟩
     case measure=>simp [intOf];omega
    ·have u2:decide (l < 16)=false:=by simp [k2]
     go_wp2;go_roundw
     case rel=>exact⟨i+1,_,by omega,rfl,by go_num,HS3,trivial⟩
     case measure=>simp [intOf];omega
   ·have u1:decide (l≤t)=false:=by simp [k1]
    go_wp2;go_roundw
    case rel=>exact⟨i+1,_,by omega,rfl,by go_num,HS3,trivial⟩
    case measure=>simp [intOf];omega
  ·obtain rfl:i=8:=by omega
   go_wp2;go_ret;exact⟨s,rfl,HS.out,HB.out⟩
end Go.Proofs.YtpbmmoneeoijaaaGreatDoor
