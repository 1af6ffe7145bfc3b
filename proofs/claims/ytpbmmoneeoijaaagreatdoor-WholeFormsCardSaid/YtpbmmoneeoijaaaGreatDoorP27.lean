/-
  A part of the proof: ModeV TermsV.
-/
import Derived.Test.YtpbmmoneeoijaaaGreatDoorP26
namespace Go.Proofs.YtpbmmoneeoijaaaGreatDoor
open Go.RowKit Go.Deep Go.Shelf
set_option maxRecDepth 100000
set_option maxHeartbeats 8000000
attribute [local go_sem] Oper.semAt_some
set_option maxRecDepth 100000
abbrev RowF:=Nat→Int×Int×Bool
def zjx (f:RowF) (l:List Nat):List Value:=l.flatMap fun t=>[qI (t:Nat),qI (f t).1,qI (f t).2.1]
theorem zA7 (f:RowF) (l:List Nat) (t:Nat):zjx f (l ++ [t])=zjx f l ++ [qI (t:Nat),qI (f t).1,qI (f t).2.1]:=by simp [zjx]
def badF (f:RowF) (l:List Nat):Option Nat:=l.find? fun t=>!(f t).2.2
theorem zEq {f:RowF} {l:List Nat} (h:∀ t∈l,(f t).2.2=true):badF f l=none:=List.find?_eq_none.2 fun t ht=>by simp [h t ht]
theorem zEp {f:RowF} {l p:List Nat} {t:Nat} (hp:p ++ [t] <+:l) (h:∀ u∈p,(f u).2.2=true) (ht:(f t).2.2=false):badF f l=some t:=by
 obtain⟨r,rfl⟩:=hp;unfold badF;rw [List.append_assoc,List.find?_append,List.find?_eq_none.2 fun u hu=>by simp [h u hu]];simp [ht]
def zy9 (b m:Nat) (xs:List Value) (W:World):Prop:=∃ v,Boxed W b 199 v∧W.ownsRow b 287 3 v m xs
theorem zA6 {β:Type} (b:Nat) (m:β→Nat) (xs:β→List Value):Own (fun (x:β) W=>zy9 b (m x) (xs x) W):=fun s X Y row hs hg hrow=>by
 obtain⟨v,hv,hr⟩:=hs;obtain⟨v',h1,h2,_⟩:=holdsRow_own b b 199 287 3 m xs (fun _ _=>True) s X Y row ⟨v,hv,hr,trivial⟩ hg hrow;exact⟨v',h1,h2⟩
theorem zk1 {W:World} {B b s n:Nat} {e:TypeId} {u:Value} {ys:List Value} (h:W.ownsRow B e s u n ys) (hb:b < B) (o:Nat) (v:Value):(W.setCell ⟨b,o,none⟩ v).ownsRow B e s u n ys:=by
 rcases h.2 with ⟨rfl,h1⟩|⟨g,cap,cur,rfl,h2,h3,h4⟩
 ·exact⟨h.1,.inl ⟨rfl,h1⟩⟩
 ·exact⟨h.1,.inr ⟨g,cap,cur,rfl,h2,(heap_setCell_other W ⟨b,o,none⟩ g v (by show g≠b;omega)).trans h3,h4⟩⟩
theorem zBe {W:World} {B s n D:Nat} {e:TypeId} {u:Value} {ys:List Value} {o o':Obj} (h:W.ownsRow B e s u n ys) (hD:W.heap[D]? =some o) (ho:o.isCells=false):(W.putObj D o').ownsRow B e s u n ys:=by
 rcases h.2 with ⟨rfl,h1⟩|⟨g,cap,cur,rfl,h2,h3,h4⟩
 ·exact⟨h.1,.inl ⟨rfl,h1⟩⟩
 ·refine⟨h.1,.inr ⟨g,cap,cur,rfl,h2,(World.putObj_heap_other fun e=>?_).trans h3,h4⟩⟩
  subst e;rw [h3] at hD;cases hD;cases ho
def zm0 (f:RowF) (l:List Nat) (w:World) (e:Ending) (w':World):Prop:=(match badF f l with
 |none=>∃ v B,e=.returned (.tuple #[v,qI 0,.bool true])∧w.heap.size≤B∧w'.ownsRow B 287 3 v l.length (zjx f l)
 |some t=>e=.returned (.tuple #[.slice none 0 0,qI (t:Nat),.bool false]))∧Below w.heap.size w w'
theorem zm0.yes {f:RowF} {l:List Nat} {w w':World} {v:Value} {B:Nat} (h:badF f l=none) (hB:w.heap.size≤B) (ho:w'.ownsRow B 287 3 v l.length (zjx f l)) (hb:Below w.heap.size w w'):zm0 f l w (.returned (.tuple #[v,qI 0,.bool true])) w':=by
 unfold zm0;rw [h];exact⟨⟨v,B,rfl,hB,ho⟩,hb⟩
theorem zm0.no {f:RowF} {l:List Nat} {w w':World} {t:Nat} (h:badF f l=some t) (hb:Below w.heap.size w w'):zm0 f l w (.returned (.tuple #[.slice none 0 0,qI (t:Nat),.bool false])) w':=by
 unfold zm0;rw [h];exact⟨rfl,hb⟩
theorem mode_val (x:Img) (g:Nat→Nat→Int) (s:Nat) (w:World) (hs:s < 4294967296) (hm:s < 2 ^ x.n) (hn:x.n≤maxLen) (hT:zev w x.ao x.n g) (hO:zf2 x.n g) (hTab:Tab w):
  Calls Tryz.prog 88 #[iv x,qU (s:Nat)] w (zm0 (ztt x.n g s s (zfk g (zae s))) (zae s) w):=by
 have HC:=hid fun X (hX:Below w.heap.size w X)=>zrd x g s X hs hm (hT.below hX) (hTab.below hX hTab.pos);have HR:=hid fun (T:Nat→Int) (t:Nat) (ht:t < x.n) X (hX:Below w.heap.size w X)=>zx6 x g s s T t X hs hs hm ht hn (hT.below hX) hO (hTab.below hX hTab.pos);obtain⟨T,hTe⟩:∃ T,zfk g (zae s)=T:=⟨_,rfl⟩;rw [hTe] at HC ⊢;clear hTe;have HR:=hid (HR.out T);obtain⟨f,hf⟩:∃ f:RowF,ztt x.n g s s T=f:=⟨_,rfl⟩;rw [hf] at HR ⊢;clear hf;obtain⟨r,ao,n,cap,mo,mn,mc,eo,en,ec⟩:=x;unfold iv at HC HR ⊢;unfold tabV at HC HR;dsimp only at HC HR hm ⊢;have hp:=hTab.pos;obtain⟨i0,hi,hz0,hz1,hz2⟩:=info_parts infoRow;refine (callsIn_wide (n:=8)).1 ?_;have h1:1≤8:=by omega
 refine callsIn_of_wp_marks Tryz.func88 rfl trivial ?_ rfl;simp only [Tryz.ntmps88,qPr,Nat.reduceAdd,Nat.reduceSub];have hB0:Below w.heap.size w (((((w.alloc (qC #[qI r,.slice ao n cap,.slice mo mn mc,.slice eo en ec] 26)).alloc (qC #[qU (s:Nat)] 140)).alloc (qC #[.slice none 0 0] 199)).alloc (qC #[qI 0] 3)).alloc (qC #[.bool false] 4)):=
  ((((qBr (w:=w) _).alloc (by simp) _).alloc (by simp;omega) _).alloc (by simp;omega) _).alloc (by simp;omega) _
 have hI0:((((w.alloc (qC #[qI r,.slice ao n cap,.slice mo mn mc,.slice eo en ec] 26)).alloc (qC #[qU (s:Nat)] 140)).alloc (qC #[.slice none 0 0] 199)).alloc (qC #[qI 0] 3)).heap[w.heap.size]? =some (qC #[qI r,.slice ao n cap,.slice mo mn mc,.slice eo en ec] 26):=zac (zac (zac (heap_alloc_new w _) _) _) _;have hS0:((((w.alloc (qC #[qI r,.slice ao n cap,.slice mo mn mc,.slice eo en ec] 26)).alloc (qC #[qU (s:Nat)] 140)).alloc (qC #[.slice none 0 0] 199)).alloc (qC #[qI 0] 3)).heap[w.heap.size+1]? =some (qC #[qU (s:Nat)] 140):=zac (zac (by have:=heap_alloc_new (w.alloc (qC #[qI r,.slice ao n cap,.slice mo mn mc,.slice eo en ec] 26)) (qC #[qU (s:Nat)] 140);rwa [World.size_alloc] at this) _) _;have hL0:((((w.alloc (qC #[qI r,.slice ao n cap,.slice mo mn mc,.slice eo en ec] 26)).alloc (qC #[qU (s:Nat)] 140)).alloc (qC #[.slice none 0 0] 199)).alloc (qC #[qI 0] 3)).heap[w.heap.size+1+1]? =some (qC #[.slice none 0 0] 199):=zac (by have:=heap_alloc_new ((w.alloc (qC #[qI r,.slice ao n cap,.slice mo mn mc,.slice eo en ec] 26)).alloc (qC #[qU (s:Nat)] 140)) (qC #[.slice none 0 0] 199);rwa [World.size_alloc,World.size_alloc] at this) _;have hN0:((((w.alloc (qC #[qI r,.slice ao n cap,.slice mo mn mc,.slice eo en ec] 26)).alloc (qC #[qU (s:Nat)] 140)).alloc (qC #[.slice none 0 0] 199)).alloc (qC #[qI 0] 3)).heap[w.heap.size+1+1+1]? =some (qC #[qI 0] 3):=by have:=heap_alloc_new (((w.alloc (qC #[qI r,.slice ao n cap,.slice mo mn mc,.slice eo en ec] 26)).alloc (qC #[qU (s:Nat)] 140)).alloc (qC #[.slice none 0 0] 199)) (qC #[qI 0] 3);rwa [World.size_alloc,World.size_alloc,World.size_alloc] at this
 have hsz0:((((w.alloc (qC #[qI r,.slice ao n cap,.slice mo mn mc,.slice eo en ec] 26)).alloc (qC #[qU (s:Nat)] 140)).alloc (qC #[.slice none 0 0] 199)).alloc (qC #[qI 0] 3)).heap.size=w.heap.size+1+1+1+1:=by simp
 gi_wp2_with (refine⟨trivial,?_⟩;gi_at_call 161;refine (callsIn_wide.2 (HC.out _ hB0)).mono ?_;rintro e W1 ⟨rfl,hb1⟩;have s1:=kept (zaa (zac hS0 (qC #[.bool false] 4)) 0) hb1;have s2:=kept s1 (qBr (w:=W1) (qC (qF8 T) 247));have s3:=kept s2 (qBr (qC #[.slice none 0 0] 199)))
 refine⟨trivial,?_⟩
 gi_at_call 159
 refine (callsIn_wide.2 (zdk s _)).mono ?_;rintro e w' ⟨rfl,rfl⟩;have bF0:=heap_alloc_new ((((w.alloc (qC #[qI r,.slice ao n cap,.slice mo mn mc,.slice eo en ec] 26)).alloc (qC #[qU (s:Nat)] 140)).alloc (qC #[.slice none 0 0] 199)).alloc (qC #[qI 0] 3)) (qC #[.bool false] 4);rw [hsz0] at bF0;have bI1:=(hb1.block _ (by simp;omega)).trans (zac hI0 (qC #[.bool false] 4));have bS1:=(hb1.block _ (by simp)).trans (zac hS0 (qC #[.bool false] 4));have bL1:=(hb1.block _ (by simp)).trans (zac hL0 (qC #[.bool false] 4));have bN1:=(hb1.block _ (by simp)).trans (zac hN0 (qC #[.bool false] 4));have bF1:=(hb1.block _ (by simp)).trans bF0;have hbI:=hB0.trans (hb1.mono hB0.size);have hs1:w.heap.size+5≤W1.heap.size:=by have:=hb1.size;simp at this;omega
 clear hb1 hI0 hS0 hL0 hN0 hsz0 hB0 bF0 s1 s2 s3;have hTab1:=hTab.below hbI hTab.pos;have bT2:=heap_alloc_new W1 (qC (qF8 T) 247);have hb2:=qBr (w:=W1) (qC (qF8 T) 247);have bO3:=Boxed.new (W1.alloc (qC (qF8 T) 247)) 199 (.slice none 0 0);rw [World.size_alloc] at bO3;have hb3:=hb2.alloc hb2.size (qC #[.slice none 0 0] 199);have bT3:=zac bT2 (qC #[.slice none 0 0] 199);have hsz3:((W1.alloc (qC (qF8 T) 247)).alloc (qC #[.slice none 0 0] 199)).heap.size=W1.heap.size+1+1:=by simp
 obtain⟨W2,hW2⟩:∃ X,X=(W1.alloc (qC (qF8 T) 247)).alloc (qC #[.slice none 0 0] 199):=⟨_,rfl⟩;rw [←hW2] at hb3 bT3 bO3 hsz3 ⊢;clear hW2 hb2 bT2;have hI3:zy9 (W1.heap.size+1) 0 [] W2:=⟨_,bO3,World.ownsRow_nil _ _ _ _⟩;have hc3:(W2.alloc (qC #[qU (s:Nat)] 140)).cell? ⟨W1.heap.size+1+1,0,none⟩=some (qU (s:Nat)):=by
  have:=(zba W2 (qU (s:Nat)) 140).1
  rwa [hsz3] at this
 have hb4:Below (W1.heap.size+1) W2 (W2.alloc (qC #[qU (s:Nat)] 140)):=(Below.refl _ _).alloc (by omega) _;have hI4:zy9 (W1.heap.size+1) 0 [] (W2.alloc (qC #[qU (s:Nat)] 140)):=⟨_,bO3.alloc _,World.ownsRow_nil _ _ _ _⟩;have hsz4:(W2.alloc (qC #[qU (s:Nat)] 140)).heap.size=W1.heap.size+3:=by simp [hsz3]
 have hTab4:=(hTab1.below hb3 hTab1.pos).below hb4 (by omega);obtain⟨W3,hW3⟩:∃ X,X=W2.alloc (qC #[qU (s:Nat)] 140):=⟨_,rfl⟩;rw [hsz3];rw [←hW3] at hb4 hI4 hc3 hsz4 hTab4 ⊢;clear hW3 hI3
 gi_wp2_with fail
 refine wpIn_rangeFunc_ownG rfl h1 (gf:=221) (lb:=#[qP (W1.heap.size+1+1)]) rfl trivial (enters_of Tryz.func221 (by kernel_rfl) rfl)
  (zfe n (8 - 1) (by omega) (W1.heap.size+1+1) (W1.heap.size+1) s W3 hs hm (by omega) hc3 hTab4) belowK_t (belowK_b (by omega)) (Below.refl _ _) (fun _=>rfl)
  (fun pre W=>(zy9 (W1.heap.size+1) (pre.map (·.val)).length (zjx f (pre.map (·.val))) W∧∀ t∈pre.map (·.val),(f t).2.2=true)∧Below (W1.heap.size+1) W2 W)
  (fun c pre W=>c=.ret∧(∃ i:Fin n,(∃ p:List (Fin n),pre=p ++ [i]∧(∀ t∈p.map (·.val),(f t).2.2=true)∧(f i.val).2.2=false)∧(Boxed W (w.heap.size+1+1) 199 (.slice none 0 0)∧Boxed W (w.heap.size+1+1+1) 3 (qI (i.val:Nat)))∧Boxed W (w.heap.size+1+1+1+1) 4 (.bool false))∧Below w.heap.size w W)
  (OwnFrom.and (OwnFrom.and (Own.from (zA6 _ (fun pre:List (Fin n)=>(pre.map (·.val)).length) (fun pre=>zjx f (pre.map (·.val)))) _) (ownFrom_pure _ _)) (ownFrom_below (by omega) (by omega)))
  (fun c=>OwnFrom.and (ownFrom_pure _ _) (OwnFrom.and (fun s X Y row hs hg hr=>by obtain⟨i,hp,⟨h1,h2⟩,h3⟩:=hs;exact⟨i,hp,⟨boxed_own _ _ (fun (_:Unit)=>_) () X Y row h1 hg (fun r e=>(hr r e).2),boxed_own _ _ (fun (_:Unit)=>_) () X Y row h2 hg (fun r e=>(hr r e).2)⟩,boxed_own _ _ (fun (_:Unit)=>_) () X Y row h3 hg (fun r e=>(hr r e).2)⟩) (ownFrom_below (Nat.le_refl _) (by omega))))
  ⟨⟨hI4,by simp⟩,hb4⟩
  (fun (x:Fin n)=>{ tmps:=#[.agg #[qI r,.slice ao n cap,.slice mo mn mc,.slice eo en ec],qU (s:Nat),qP w.heap.size,qP (w.heap.size+1),qP (w.heap.size+1+1),qP (w.heap.size+1+1+1),qP (w.heap.size+1+1+1+1),qP W1.heap.size,qP (W1.heap.size+1),(qI (x.val:Nat)),undef,undef,.agg #[qI r,.slice ao n cap,.slice mo mn mc,.slice eo en ec],qU (s:Nat),.agg (qF8 T),qU (s:Nat),.func (.func 221) #[] #[qP (W1.heap.size+1+1)],qI (x.val:Nat),undef,undef,undef,undef,undef,undef,undef,undef,undef,undef,undef,undef,undef,undef,undef,undef,undef],defers:=[] })
  ?assign ?body ?done ?stop
 case assign=>
  rintro l x W K hK
  gi_wp2
  exact hK
 case body=>
  rintro l pre x W ⟨⟨⟨v,bO,hrow⟩,hall⟩,hB⟩ hlt;have HPR:=hid (show zjx f ((pre ++ [x]).map (·.val))=zjx f (pre.map (·.val)) ++ [qI (x.val:Nat),qI (f x.val).1,qI (f x.val).2.1] by rw [List.map_append];exact zA7 f _ _);have HPL:=hid (show ((pre ++ [x]).map (·.val)).length=(pre.map (·.val)).length+1 by simp);have hlen:(pre.map (·.val)).length < 32:=by simpa using hlt
  have HALL:=hid hall;clear hall;have HX:=hid (fun h:(f x.val).2.2=true=>(show ∀ t∈(pre ++ [x]).map (·.val),(f t).2.2=true by
   intro t ht;rw [List.map_append,List.mem_append] at ht;rcases ht with ht|ht
   ·exact HALL.out t ht
   ·simp at ht
    rw [ht];exact h))
  have HZ:=hid (fun h:(f x.val).2.2=false=>(⟨pre,rfl,HALL.out,h⟩:∃ p:List (Fin n),pre ++ [x]=p ++ [x]∧(∀ t∈p.map (·.val),(f t).2.2=true)∧(f x.val).2.2=false));obtain⟨PL,hPL⟩:∃ p,(pre.map (·.val)).length=p:=⟨_,rfl⟩;obtain⟨PC,hPC⟩:∃ p,zjx f (pre.map (·.val))=p:=⟨_,rfl⟩;rw [hPL] at hrow hlen HPL;rw [hPC] at hrow HPR;clear hPL hPC hlt;have bI:=(hB.block _ (by omega)).trans ((hb3.block _ (by omega)).trans bI1);have bS:=(hB.block _ (by omega)).trans ((hb3.block _ (by omega)).trans bS1);have bT:=(hB.block _ (by omega)).trans bT3;have hBw:=(hbI.trans (hb3.mono (by omega))).trans (hB.mono (by omega));have c0:=zaa bI 0;have c1:=zaa bI 1;have c2:=zaa bI 2;have c3:=zaa bI 3;have s0:=zaa bS 0;have t0:=zaa bT 0;have t1:=zaa bT 1;have t2:=zaa bT 2;have t3:=zaa bT 3;have t4:=zaa bT 4;have t5:=zaa bT 5;have t6:=zaa bT 6;have t7:=zaa bT 7
  gi_wp2_with fail
  refine⟨trivial,?_⟩
  gi_at_call 162
  have HRR:=hid (HR.out x.val x.isLt W hBw);obtain⟨⟨b,c,ok⟩,hfx⟩:∃ y,f x.val=y:=⟨_,rfl⟩;have HF:=hid hfx;rw [hfx] at HRR HPR HX;clear hfx;unfold rowV at HRR;dsimp only at HRR HPR HX;refine (CallsIn.inRound l (callsIn_wide.2 HRR.out)).mono ?_;rintro e W5 ⟨rfl,hb5⟩;have hB5:=hB.trans (hb5.mono (by have:=hB.size;omega));have hBw5:=hBw.trans (hb5.mono hBw.size);have bO5:Boxed W5 (W1.heap.size+1) 199 v:=(hb5.block _ bO.lt).trans bO;have hrow5:W5.ownsRow (W1.heap.size+1) 287 3 v PL PC:=hrow.kept (zg3 hb5) (by cases v.ownBlock<;>simp);clear c0 c1 c2 c3 s0 t0 t1 t2 t3 t4 t5 t6 t7 bI bS bT hBw;cases ok
  ·have l1:Boxed W5 (w.heap.size+1+1) 199 (.slice none 0 0):=(hB5.block _ (by omega)).trans ((hb3.block _ (by omega)).trans bL1)
   have l2:Boxed W5 (w.heap.size+1+1+1) 3 (qI 0):=(hB5.block _ (by omega)).trans ((hb3.block _ (by omega)).trans bN1);have l3:Boxed W5 (w.heap.size+1+1+1+1) 4 (.bool false):=(hB5.block _ (by omega)).trans ((hb3.block _ (by omega)).trans bF1);have m1:=(l1.alloc (qC #[qI (x.val:Nat),qI b,qI c] 287)).cell;have m2:=(l2.alloc (qC #[qI (x.val:Nat),qI b,qI c] 287)).cell;have m3:=(l3.alloc (qC #[qI (x.val:Nat),qI b,qI c] 287)).cell;have f1:=(l1.alloc (qC #[qI (x.val:Nat),qI b,qI c] 287)).frozen;have f2:=(l2.alloc (qC #[qI (x.val:Nat),qI b,qI c] 287)).frozen;have f3:=(l3.alloc (qC #[qI (x.val:Nat),qI b,qI c] 287)).frozen
   gi_wp2
   refine⟨((((zcf.of_below hb5).keeps.trans ((KeepsOthers.alloc _ _).from _)).trans ((KeepsOthers.setCell _ _ _).from _)).trans ((KeepsOthers.setCell _ _ _).from _)).trans ((KeepsOthers.setCell _ _ _).from _),rfl,⟨x,HZ.out (by rw [HF.out]),⟨(((l1.alloc _).set _).other (by omega) _).other (by omega) _,(((l2.alloc _).other (by omega) _).set _).other (by omega) _⟩,((((l3.alloc _).other (by omega) _).other (by omega) _).set _)⟩,(((hBw5.alloc hBw5.size _).setCell (by simp;omega) _).setCell (by simp;omega) _).setCell (by simp;omega) _⟩
  ·have bO6:=bO5.alloc (qC #[qI (x.val:Nat),qI b,qI c] 287)
   have hrow6:=hrow5.alloc (qC #[qI (x.val:Nat),qI b,qI c] 287);have hc:=bO6.cell;have x0:=zaa (heap_alloc_new W5 (qC #[qI (x.val:Nat),qI b,qI c] 287)) 0;have x1:=zaa (heap_alloc_new W5 (qC #[qI (x.val:Nat),qI b,qI c] 287)) 1;have x2:=zaa (heap_alloc_new W5 (qC #[qI (x.val:Nat),qI b,qI c] 287)) 2;have hk6:=(zcf.of_below (B:=W3.heap.size) hb5).keeps.trans ((KeepsOthers.alloc W5 (qC #[qI (x.val:Nat),qI b,qI c] 287)).from _);have hB6:Below (W1.heap.size+1) W (W5.alloc (qC #[qI (x.val:Nat),qI b,qI c] 287)):=(hb5.mono (by have:=hB.size;omega)).alloc (by have:=hB5.size;omega) _;have hnews:∀ (j:Nat) (u:Value),[qI (x.val:Nat),qI b,qI c][j]? =some u→((W5.alloc (qC #[qI (x.val:Nat),qI b,qI c] 287)).alloc (qC #[qI (x.val:Nat),qI b,qI c] 287)).cell? ((⟨W5.heap.size+1,0,none⟩:Addr).add j)=some u:=fun j u hj=>by
    rw [zbn,Nat.zero_add,World.cell?_alloc_at _ _ _ _ (by simp)];simpa using hj
   gi_wp2_with (gi_at_builtin;refine wpListIn_append_own _ rfl _ _ 199 rfl (W1.heap.size+1) 287 i0 (.agg #[qI 0,qI 0,qI 0]) 3 24 Tryz.underlying199 hi hz0 hz1 hz2 rfl (by decide) _ _ _ rfl (hrow6.alloc _) ⟨W5.heap.size+1,0,none⟩ 1 1 [qI (x.val:Nat),qI b,qI c] rfl rfl hnews (by simp [Value.oneCell']) (by unfold maxLen;omega) (by omega) (by have:=hB5.size;simp;omega) ?_;intro v' w1 hown' hgrow _;obtain⟨g',cap',rfl⟩:=ownsRow_succ hown';obtain⟨hv1,hv2,hr2,hk2,hb2⟩:=bO6.appended (by decide) hrow6 (by have:=hB5.size;simp;omega) (Nat.le_refl _) hown' hgrow;have hc1:=hv1.cell;have hf1:=hv1.frozen)
   exact⟨hk6.trans (hk2.from _),(hB6.trans (hb2.mono (by omega))),⟨⟨_,hv2,by rw [HPL.out,HPR.out];exact hr2⟩,HX.out trivial⟩,hB.trans (hB6.trans (hb2.mono (by omega)))⟩
 case done=>
  rintro D xs W hD hxs ⟨⟨⟨v,bO,hrow⟩,hall⟩,hB⟩ hK;rw [hxs] at hrow hall;have HBN:=hid (zEq hall);clear hall hxs;have hBw:=(hbI.trans (hb3.mono (by omega))).trans (hB.mono (by omega));have hc:=bO.cell;have l1:Boxed W (w.heap.size+1+1) 199 (.slice none 0 0):=(hB.block _ (by omega)).trans ((hb3.block _ (by omega)).trans bL1);have l2:Boxed W (w.heap.size+1+1+1) 3 (qI 0):=(hB.block _ (by omega)).trans ((hb3.block _ (by omega)).trans bN1);have l3:Boxed W (w.heap.size+1+1+1+1) 4 (.bool false):=(hB.block _ (by omega)).trans ((hb3.block _ (by omega)).trans bF1);have m1:=l1.cell;have m2:=l2.cell;have m3:=l3.cell;have f1:=l1.frozen;have f2:=l2.frozen;have f3:=l3.frozen;obtain⟨va,vl,vc,rfl⟩:=zC6 hrow;obtain⟨F,hF⟩:∃ F,F=((W.setCell ⟨w.heap.size+1+1,0,none⟩ (.slice va vl vc)).setCell ⟨w.heap.size+1+1+1,0,none⟩ (qI 0)).setCell ⟨w.heap.size+1+1+1+1,0,none⟩ (.bool true):=⟨_,rfl⟩;have hrF:F.ownsRow (W1.heap.size+1) 287 3 (.slice va vl vc) (zae s).length (zjx f (zae s)):=by rw [hF];exact zk1 (zk1 (zk1 hrow (by omega) _ _) (by omega) _ _) (by omega) _ _
  have k1:Boxed F (w.heap.size+1+1) 199 (.slice va vl vc):=by rw [hF];exact ((l1.set _).other (by omega) _).other (by omega) _
  have k2:Boxed F (w.heap.size+1+1+1) 3 (qI 0):=by rw [hF];exact ((l2.other (by omega) _).set _).other (by omega) _
  have k3:Boxed F (w.heap.size+1+1+1+1) 4 (.bool true):=by rw [hF];exact ((l3.other (by omega) _).other (by omega) _).set _
  have hbF:Below w.heap.size w F:=by rw [hF];exact ((hBw.setCell (by simp;omega) _).setCell (by simp;omega) _).setCell (by simp;omega) _
  have hK8:F.heap[D]? =some (.deferred (some [])):=by
   rw [hF]
   repeat rw [Below.heap_setCell _ _ _ _ (by simp;omega)]
   exact hK
  gi_wp2
  rw [←hF];clear hF;refine⟨by simp,.inl ⟨_,_,rfl,run_takeDeferred hK8,?_⟩⟩;refine⟨.tuple #[.slice va vl vc,qI 0,.bool true],?_,zm0.yes HBN.out (B:=W1.heap.size+1) (by omega) (zBe hrF hK8 rfl) (hbF.trans (belowK_b (w:=w) (Nat.le_refl _) F D _ _ (by omega) hK8 rfl rfl))⟩;have z1:=(show Boxed (F.putObj D (.deferred none)) (w.heap.size+1+1) 199 (.slice va vl vc) from (World.putObj_heap_other (by omega)).trans k1).cell;have z2:=(show Boxed (F.putObj D (.deferred none)) (w.heap.size+1+1+1) 3 (qI 0) from (World.putObj_heap_other (by omega)).trans k2).cell;have z3:=(show Boxed (F.putObj D (.deferred none)) (w.heap.size+1+1+1+1) 4 (.bool true) from (World.putObj_heap_other (by omega)).trans k3).cell;generalize F.putObj D (.deferred none)=Z at z1 z2 z3 ⊢;simp [results,Tryz.results88,go_sem,z1,z2,z3]
 case stop=>
  rintro D c pre W hD hpf ⟨rfl,⟨i,⟨p,rfl,hall,hbad⟩,⟨b1,b2⟩,b3⟩,hB⟩ hK;have HBS:=hid (zEp (f:=f) (p:=p.map (·.val)) (t:=i.val) (by simpa using hpf) hall hbad);clear hall hbad hpf
  gi_wp2
  refine⟨by simp,.inl ⟨_,_,rfl,run_takeDeferred hK,?_⟩⟩;refine⟨.tuple #[.slice none 0 0,qI (i.val:Nat),.bool false],?_,zm0.no HBS.out (hB.trans (belowK_b (w:=w) (Nat.le_refl _) W D _ _ (by omega) hK rfl rfl))⟩;have z1:=(show Boxed (W.putObj D (.deferred none)) (w.heap.size+1+1) 199 (.slice none 0 0) from (World.putObj_heap_other (by omega)).trans b1).cell;have z2:=(show Boxed (W.putObj D (.deferred none)) (w.heap.size+1+1+1) 3 (qI (i.val:Nat)) from (World.putObj_heap_other (by omega)).trans b2).cell;have z3:=(show Boxed (W.putObj D (.deferred none)) (w.heap.size+1+1+1+1) 4 (.bool false) from (World.putObj_heap_other (by omega)).trans b3).cell;generalize W.putObj D (.deferred none)=Z at z1 z2 z3 ⊢;simp [results,Tryz.results88,go_sem,z1,z2,z3]
end Go.Proofs.YtpbmmoneeoijaaaGreatDoor
namespace Go.Proofs.YtpbmmoneeoijaaaGreatDoor
open Go.RowKit Go.Deep Go.Shelf
set_option maxRecDepth 100000
set_option maxHeartbeats 8000000
attribute [local go_sem] Oper.semAt_some zaq
set_option maxRecDepth 100000
def tmV (z:ShR) (g:Nat→Nat→Int) (i:Nat):TT:=⟨g i 0,g i 2,offN z i,0⟩
def orN (z:ShR):Nat:=z.o |||z.n |||z.s
def zli (z:ShR) (g:Nat→Nat→Int) (t:Nat):List TT:=(zae (zef (orN z) (t:Nat))).map (tmV z g)
theorem ztm (n:Nat) (hn:3≤n) (Bi Bs n₀:Nat) (z:ShR) (t:Nat) (g:Nat→Nat→Int) (w:World) (ho:z.o < 4294967296) (hnn:z.n < 4294967296) (hs:z.s < 4294967296) (hm:orN z < 2 ^ z.x.n) (hn0:0 < n₀) (hnw:n₀≤w.heap.size) (hBi:w.heap[Bi]? =some (shB z)) (hBs:w.cell? ⟨Bs,0,none⟩=some (qI (t:Nat)))
  (hT:zev w z.x.ao z.x.n g) (hTn:∀ b o,z.x.ao=some ⟨b,o,none⟩→0 < z.x.n→b < n₀) (h16:z.x.n≤16) (hTab:Tab w):
  SeqN Fence.wide n Tryz.prog 315 #[qP Bi,qP Bs] (fun x:TT=>#[ttV x]) (KpW n₀) (fun ys=>ys=zli z g t) (fun _=>True) 32 w:=by
 have htv:zli z g t=(zae (zef (orN z) (t:Nat))).map (tmV z g):=rfl;have htm:tmV z g=fun i=>⟨g i 0,g i 2,offN z i,0⟩:=rfl;unfold orN at hm htv;rw [htv];clear htv;obtain⟨TM,hTM⟩:∃ f,tmV z g=f:=⟨_,rfl⟩;rw [hTM] at htm ⊢;clear hTM;intro l J Jx W hW hJ hJx hoJ hoJx hY h0;have h1:1≤n:=by omega
 have HOF:=hid fun (i:Nat) (hi:i < 16) X=>zia z i X hnn hi;obtain⟨⟨r,ao,nn,cap,mo,mn,mc,eo,en,ec⟩,o,n1,s,T,O⟩:=z;unfold shB shL at hBi;unfold shV at HOF;dsimp only at hT hTn hBi HOF h16 ho hnn hs hm htm ⊢;have hBi0:Bi < w.heap.size:=(qLt hBi);have hBiW:=(hW.block _ hBi0).trans hBi;have hBsW:=kept hBs hW;have hTW:=hT.below hW;have hTabW:=hTab.below hW hTab.pos;have hszW:=hW.size;have a1:Below W.heap.size W (W.alloc (qC #[.func (.yield l) #[] #[]] 436)):=qBr _;have hBs1:=kept hBsW a1;have hyb:=Boxed.new W 436 (.func (.yield l) #[] #[]);refine callsIn_of_wp_marks Tryz.func315 rfl trivial ?_ rfl;simp only [Tryz.ntmps315,qPr,Nat.reduceAdd,Nat.reduceSub];have hbiA:=zac hBiW (qC #[.func (.yield l) #[] #[]] 436);have CO:=Cls.cell (zaa hbiA 4);have CN:=Cls.cell (zaa hbiA 5);have CS:=Cls.cell (zaa hbiA 6);have CB:=Cls.cell hBs1;have HBO:=hid fun X=>zcx o n1 s ho hnn hs X;have hor:o |||n1 |||s < 4294967296:=Nat.or_lt_two_pow (n:=32) (Nat.or_lt_two_pow (n:=32) ho hnn) hs
 obtain⟨bo,hbo⟩:∃ q,q=o |||n1 |||s:=⟨_,rfl⟩
 rw [←hbo] at HBO hor hm ⊢;clear hbo;have HBW:=hid (zpp bo hor (t:Nat));have hu:=zpq bo (t:Nat);obtain⟨u,hue⟩:∃ u,zef bo (t:Nat)=u:=⟨_,rfl⟩;rw [hue] at HBW hu ⊢;clear hue;have hu2:u < 2 ^ nn:=Nat.lt_of_le_of_lt hu hm;have HTM:=hid htm;clear htm;unfold cv at HBO
 gi_wp2
 refine wpIn_wide.2 ?_;refine zfx 4 (by kernel_rfl) (by kernel_rfl) (by kernel_rfl) ?_;dsimp only [List.take,List.drop]
 repeat (go_big_quiet_step ((go_at_call 167;exact Calls.cls _ (HBO.out _))))
 refine wpQuiet_nil ?_;intro _ hw';obtain⟨nq,rfl⟩:=hw';have hq:=nq.below;obtain⟨Wq,hWq⟩:∃ X,X=nq.wd:=⟨_,rfl⟩;rw [←hWq] at hq ⊢;clear hWq nq HBO CO CN CS CB
 go_wp2_with fail
 refine (HBW.out _).mono ?_;rintro e w' ⟨rfl,hw'⟩;obtain rfl:=hw'.symm;have hu32:u < 4294967296:=by omega
 go_wp2_with (go_at_call 159;refine (zdk u _).mono ?_;rintro e w' ⟨rfl,rfl⟩)
 have hyq:Wq.heap[W.heap.size]? =some (qC #[.func (.yield l) #[] #[]] 436 (0,0)):=(hq.block _ (by simp)).trans hyb;have aq:=a1.trans (hq.mono a1.size);have hszq:W.heap.size+1≤Wq.heap.size:=by have:=hq.size;simpa using this
 have hj0:J [] Wq:=hoJ.alloc (qC #[.func (.yield l) #[] #[]] 436) h0 |> fun h=>hoJ [] _ Wq none h ⟨hq.os,hq.tape,hq.output,hq.size,fun k hk _=>hq.block k hk⟩ (fun r e=>by cases e)
 have hj0:=hoJ.alloc (qC #[qU u] 140) hj0;have a2:Below W.heap.size W (Wq.alloc (qC #[qU u] 140)):=aq.alloc (by omega) _;have hyb2:=zac hyq (qC #[qU u] 140);have hcs:=(zba Wq (qU u) 140).1;have hsz2:(Wq.alloc (qC #[qU u] 140)).heap.size=Wq.heap.size+1:=by simp
 obtain⟨W1,hW1⟩:∃ X,X=Wq.alloc (qC #[qU u] 140):=⟨_,rfl⟩;rw [←hW1] at a2 hyb2 hcs hj0 hsz2 ⊢;obtain⟨Bu,hBu⟩:∃ X,X=Wq.heap.size:=⟨_,rfl⟩;rw [←hBu] at hszq hcs hsz2 ⊢;clear hW1 a1 hBs1 hyb h0 hyq aq hq hBu hbiA;have hup:∀ {J:List TT→World→Prop},OwnFrom W.heap.size J→OwnFrom W1.heap.size J:=fun h z X Y row hz hg hr=>h z X Y row hz hg fun r e=>⟨by have:=(hr r e).1;omega,(hr r e).2⟩
 gi_wp2_with fail
 refine wpIn_rangeFunc_ownG rfl h1 (gf:=221) (lb:=#[qP Bu]) rfl trivial (enters_of Tryz.func221 (by kernel_rfl) rfl)
  (zfe nn (n - 1) (by omega) Bu n₀ u W1 hu32 hu2 hn0 hcs (hTabW.below a2 hTabW.pos)) belowK_t (belowK_b (by omega)) (Below.refl _ _) (fun _=>rfl)
  (fun (pre:List (Fin nn)) X=>((J ((pre.map (fun i:Fin nn=>i.val)).map TM) X∧X.heap[Bi]? =some (.cells (shL ⟨⟨r,ao,nn,cap,mo,mn,mc,eo,en,ec⟩,o,n1,s,T,O⟩).toArray 296 (0,0)))∧X.heap[W.heap.size]? =some (.cells #[.func (.yield l) #[] #[]] 436 (0,0)))∧Below n₀ W X)
  (fun c pre X=>c=.ret∧∃ ys:List TT,Jx ys X)
  (OwnFrom.and (za6 (za6 (fun (z:List (Fin nn)) X Y row hz hg hr=>hup hoJ _ X Y row hz hg hr) (by omega)) (by omega)) (ownFrom_below (by omega) (by omega)))
  (fun c z X Y row hz hg hr=>⟨hz.1,hz.2.elim fun ys h2=>⟨ys,hup hoJx _ X Y row h2 hg hr⟩⟩)
  ⟨⟨⟨hj0,(a2.block _ (by omega)).trans hBiW⟩,hyb2⟩,a2.mono (by omega)⟩
  (fun (i:Fin nn)=>{ tmps:=#[.func (.yield l) #[] #[],qP Bi,qP Bs,qP W.heap.size,qI (i.val:Nat),.pointer (some ⟨Bi,4,none⟩),.agg #[qU (o:Nat),qU (n1:Nat),qU (s:Nat)],qU (bo:Nat),qI (t:Nat),qU (u:Nat),.func (.func 221) #[] #[qP Bu],qI (i.val:Nat),undef,undef,undef,undef,undef,undef,undef,undef,undef,undef,undef,undef,undef,undef,undef,undef,undef,undef,undef,undef,undef],defers:=[] })
  ?assign ?body ?done ?stop
 case assign=>
  rintro l' i X K hK
  gi_wp2
  exact hK
 case body=>
  rintro l' pre i X ⟨⟨⟨hj,hbi⟩,hyx⟩,hB⟩ hlt;obtain⟨i,hi⟩:=i;have hylt:((pre.map (·.val)).map TM).length < 32:=by simpa using hlt
  have HPR:=hid (show ((pre ++ [(⟨i,hi⟩:Fin nn)]).map (·.val)).map TM=(pre.map (·.val)).map TM ++ [TM i] by simp);obtain⟨ys,hys⟩:∃ ys,(pre.map (·.val)).map TM=ys:=⟨_,rfl⟩;rw [hys] at hj hylt HPR;clear hys;have HTI:=hid (show TM i=_ from congrFun HTM.out i);dsimp only at HTI ⊢;have t0:decide (nn≤i)=false:=by simp;omega
  have i0':(0:Int)≤(i:Int):=by omega
  have i1:(i:Int) < (nn:Int):=by omega
  obtain⟨b,bo2,rfl,hb⟩:=hTW.form hi;have hRT:=hTW i hi;obtain⟨b',o',he,hcT⟩:=hRT;cases he;have hbn:=hTn b bo2 rfl (by omega);have hHR:=hid (zbr (znx (W:=X) (fun j hj=>(hB.cell (by show b < n₀;omega)).trans (hcT j hj))));have hHZ:=hid (zbr (zd9 (z:=⟨⟨r,some ⟨b,bo2,none⟩,nn,cap,mo,mn,mc,eo,en,ec⟩,o,n1,s,T,O⟩) hbi));have hOFi:=hid fun (j:Cls X)=>HOF.out i (by omega) j.wd;obtain⟨off,hoff⟩:∃ q,q=offN ⟨⟨r,some ⟨b,bo2,none⟩,nn,cap,mo,mn,mc,eo,en,ec⟩,o,n1,s,T,O⟩ i:=⟨_,rfl⟩;rw [←hoff] at hOFi HTI;clear hoff;have hDO:=hid fun (j:Cls X)=>show Calls Tryz.prog 276 #[.agg (tvL (g i)).toArray,qI off] j.wd fun e w'=>e=.returned (.agg #[qI (g i 0),qI (g i 2),qI off,qI 0])∧Below j.wd.heap.size j.wd w' from of_any (g i) off j.wd;have CY:=Cls.cell (zaa hyx 0);have C1:=Cls.cell (zaa hbi 1);unfold shL at C1
  gi_wp2
  refine zf4 18 (by kernel_rfl) (by kernel_rfl) (by kernel_rfl) (by kernel_rfl) ?_;dsimp only [List.take,List.drop]
  repeat (go_big_quiet_step (fail))
  go_big_quiet_want
  refine zbp 165 _ rfl b (bo2+i * 11) rfl (tvL (g i)) _ hHR.out Tryz.underlying165 rfl (zrp _) ?_;go_simp
  go_big_quiet_on
  go_big_quiet_want
  refine zbp 296 _ rfl Bi 0 rfl _ _ hHZ.out Tryz.underlying296 rfl (zdj _) ?_;go_simp
  go_big_quiet_on
  repeat (go_big_quiet_step ((first|(go_at_call 229;exact Calls.cls _ (hOFi.out _))|(go_at_call 276;exact Calls.cls _ (hDO.out _)))))
  refine wpQuiet_nil ?_;intro _ hw';obtain⟨nq,rfl⟩:=hw';have hq:=nq.below;have hjq:J ys nq.wd:=hoJ _ X _ none hj ⟨hq.os,hq.tape,hq.output,hq.size,fun k hk _=>hq.block k hk⟩ (fun r e=>by cases e);obtain⟨fn,tmps,assign,body,hy,hR⟩:=hY ys ⟨g i 0,g i 2,off,0⟩ nq.wd hjq hylt;unfold ttV at hy;dsimp only at hy
  gi_wp2_with fail
  refine⟨fun e=>(by cases e),(zak rfl hR).mono ?_⟩;have hbi3:=qBa hq hbi;have hyx3:=qBa hq hyx;have hqn:=hq.mono (show n₀≤X.heap.size by have:=hB.size;omega);have hqs:=zcf.of_below (B:=W1.heap.size) hq;clear hq CY C1 hHR hHZ hDO hOFi HOF;rintro e W3 (⟨rfl,hj3,hk3,hs3⟩|⟨rfl,hj3,hk3,hs3⟩)
  ·have hkb:Below n₀ nq.wd W3:=⟨hk3.below.os,hk3.below.tape,hk3.below.output,hk3.below.size,hk3.below.block⟩
   have hsm:KeepsFrom W1.heap.size nq.wd W3:=⟨hs3.size,fun k o hk=>hs3.same k o (by omega)⟩
   gi_wp2
   exact⟨hqs.keeps.trans hsm,hqn.trans hkb,⟨⟨by rw [HPR.out,HTI.out];exact hj3,hk3.keep _ _ _ (.inl rfl) hbi3⟩,hk3.keep _ _ _ (.inr rfl) hyx3⟩,hB.trans (hqn.trans hkb)⟩
  ·have hkb:Below n₀ nq.wd W3:=⟨hk3.below.os,hk3.below.tape,hk3.below.output,hk3.below.size,hk3.below.block⟩
   have hsm:KeepsFrom W1.heap.size nq.wd W3:=⟨hs3.size,fun k o hk=>hs3.same k o (by omega)⟩
   gi_wp2
   exact⟨hqs.keeps.trans hsm,rfl,⟨_,hj3⟩⟩
 case done=>
  rintro D xs X hD hxs ⟨⟨⟨hj,hbi⟩,hyx⟩,hB⟩ hK;rw [hxs] at hj
  gi_wp2
  refine⟨by simp,.inl ⟨_,_,rfl,run_takeDeferred hK,?_⟩⟩;exact⟨_,results_none rfl _ _ _,⟨_,rfl⟩,.inl ⟨_,rfl,hoJ _ X _ (some D) hj (grownBy_putObj' X D _) (fun r e=>by cases e;exact⟨by omega,_,hK,rfl⟩)⟩⟩
 case stop=>
  rintro D c pre X hD hpre ⟨rfl,hjx⟩ hK
  gi_wp2
  refine⟨by simp,.inl ⟨_,_,rfl,run_takeDeferred hK,?_⟩⟩;refine⟨_,results_none rfl _ _ _,⟨_,rfl⟩,?_⟩;obtain⟨ys,hj⟩:=hjx;exact .inr ⟨_,trivial,hoJx _ X _ (some D) hj (grownBy_putObj' X D _) (fun r e=>by cases e;exact⟨by omega,_,hK,rfl⟩)⟩
end Go.Proofs.YtpbmmoneeoijaaaGreatDoor
