/-
  A part of the proof: AdmitV AdmCongr UsesV FreshV EncLaw TextOk.
-/
import Derived.Test.YtpbmmoneeoijaaaGreatDoorP31
namespace Go.Proofs.YtpbmmoneeoijaaaGreatDoor
open Go.RowKit Go.Deep Go.Shelf
set_option maxRecDepth 100000
set_option maxHeartbeats 8000000
def zp4 (x:Img) (g:Nat→Nat→Int) (M:Nat→zas) (i:Nat):RowF:=ztt x.n g (zai x M (i:Nat)) (zai x M (i:Nat)) (zfk g (zae (zai x M (i:Nat))))
def zos (x:Img) (M:Nat→zas) (i:Nat):List Nat:=zae (zai x M (i:Nat))
def zle (x:Img) (g:Nat→Nat→Int) (M:Nat→zas) (h:Nat→Nat→Int) (i:Nat):Int×Int×Bool:=zld (zjs x M h g i fun j=>h i (3+j)) g (h i 2)
def rowG (f:RowF) (l:List Nat) (k c:Nat):Int:=if c=0 then (l.getD k 0:Nat) else if c=1 then (f (l.getD k 0)).1 else (f (l.getD k 0)).2.1
theorem ztq (f:RowF):∀ (l:List Nat) (k c:Nat),k < l.length→c < 3→(zjx f l)[k * 3+c]? =some (qI (rowG f l k c))
 |t :: l,0,c,_,hc=>by
  rcases c with _|_|_|c
  ·rfl
  ·rfl
  ·rfl
  ·omega
 |t :: l,k+1,c,hk,hc=>by
  have e:(k+1) * 3+c=(k * 3+c)+3:=by omega
  rw [e];show (zjx f l)[k * 3+c]? =_;rw [ztq f l k c (by simpa using hk) hc];rfl
def CRow (f:RowF) (l:List Nat) (X:World) (v:Value):Prop:=∃ ra rc,v=.slice ra l.length rc∧zb9 X ra l.length 3 (rowG f l)∧TyAt X ra 287
theorem zw7 {f:RowF} {l:List Nat} {X:World} {v:Value} {B:Nat} (h:X.ownsRow B 287 3 v l.length (zjx f l)):CRow f l X v:=by
 obtain⟨ao,c,e1,h1,h2⟩:=zar h;refine⟨ao,c,e1,fun i hi=>?_,h1⟩;obtain⟨b,rfl,_,h3,_⟩:=h2 (by omega);exact⟨b,0,rfl,fun j hj=>by rw [Nat.zero_add,h3 _ (by omega),ztq f l i j hi hj]⟩
theorem CRow.keep {f:RowF} {l:List Nat} {X Y:World} {v:Value} {M:TypeId→Prop} {base:Nat} (h:CRow f l X v) (hM:¬ M 287) (k:FT M base X Y):CRow f l Y v:=by
 obtain⟨ra,rc,e,h1,h2⟩:=h;exact⟨ra,rc,e,h1.keep h2 hM k,h2.keep hM k⟩
def zl3 (F:Nat→RowF) (L:Nat→List Nat) (X:World) (i:Nat) (xs:List Value):Prop:=xs.length=i∧∀ j v,xs[j]? =some v→CRow (F j) (L j) X v
theorem zl3.keep {F:Nat→RowF} {L:Nat→List Nat} {X Y:World} {i:Nat} {xs:List Value} {M:TypeId→Prop} {base:Nat} (h:zl3 F L X i xs) (hM:¬ M 287) (k:FT M base X Y):zl3 F L Y i xs:=⟨h.1,fun j v hj=>(h.2 j v hj).keep hM k⟩
theorem zl3.snoc {F:Nat→RowF} {L:Nat→List Nat} {X:World} {i:Nat} {xs:List Value} {v:Value} (h:zl3 F L X i xs) (hv:CRow (F i) (L i) X v):zl3 F L X (i+1) (xs ++ [v]):=by
 refine⟨by simp [h.1],fun j u hj=>?_⟩;by_cases hl:j < xs.length
 ·rw [List.getElem?_append_left hl] at hj
  exact h.2 j u hj
 ·rw [List.getElem?_append_right (by omega)] at hj
  have e:j - xs.length=0:=by
   rcases Nat.eq_zero_or_pos (j - xs.length) with h1|h1
   ·exact h1
   ·rw [List.getElem?_eq_none (by simp;omega)] at hj;cases hj
  rw [e] at hj;cases hj;obtain rfl:j=i:=by have:=h.1;omega
  exact hv
def zdv (F:Nat→RowF) (L:Nat→List Nat) (X:World) (va:Option Addr) (n:Nat):Prop:=TyAt X va 199∧∀ j,j < n→∃ b v,va=some ⟨b,0,none⟩∧X.cell? ⟨b,j,none⟩=some v∧CRow (F j) (L j) X v
theorem zdv.none (F:Nat→RowF) (L:Nat→List Nat) (X:World):zdv F L X none 0:=⟨fun b o e=>(by cases e),fun j hj=>by omega⟩
theorem zdv.keep {F:Nat→RowF} {L:Nat→List Nat} {X Y:World} {va:Option Addr} {n:Nat} {M:TypeId→Prop} {base:Nat} (h:zdv F L X va n) (hM:¬ M 287) (hM2:¬ M 199) (k:FT M base X Y):zdv F L Y va n:=
 ⟨h.1.keep hM2 k,fun j hj=>by
  obtain⟨b,v,rfl,hc,hr⟩:=h.2 j hj;exact⟨b,v,rfl,h.1.cell hM2 k hc,hr.keep hM k⟩⟩
theorem zDi {F:Nat→RowF} {L:Nat→List Nat} {X:World} {B i:Nat} {v:Value} {xs:List Value} (ho:X.ownsRow B 199 1 v i xs) (h:zl3 F L X i xs):∃ va vc,v=.slice va i vc∧zdv F L X va i:=by
 obtain⟨va,vc,rfl,h1,h2⟩:=zar ho;refine⟨va,vc,rfl,h1,fun j hj=>?_⟩;obtain⟨b,rfl,_,h3,_⟩:=h2 (by omega);have hjl:j < xs.length:=by rw [h.1];exact hj
 refine⟨b,xs[j],rfl,?_,h.2 j _ (List.getElem?_eq_getElem hjl)⟩;rw [h3 j (by omega),List.getElem?_eq_getElem hjl]
def spG (E:Nat→Int×Int×Bool) (i c:Nat):Int:=if c=0 then (E i).1 else (E i).2.1
theorem spG_snoc (E:Nat→Int×Int×Bool) (k:Nat) {a b:Int} {ok:Bool} (h:E k=(a,b,ok)):zhf (spG E) k 2 ++ [qI a,qI b]=zhf (spG E) (k+1) 2:=by
 have e:(fun i=>if i=k then spG E k else spG E i)=spG E:=by
  funext i;by_cases hi:i=k
  ·rw [if_pos hi,hi]
  ·rw [if_neg hi]
 have:=zq0 (spG E) k 2 (spG E k);rw [e] at this;rw [this]
 congr 1
 show _=[qI (spG E k 0),qI (spG E k 1)];unfold spG;rw [h];rfl
def admF (F:Nat→RowF) (L:Nat→List Nat) (E:Nat→Int×Int×Bool) (mn en:Nat):Int×Int:=
 match (List.range mn).find? fun i=>(badF (F i) (L i)).isSome with
 |some i=>((i:Int),(180:Int))
 |none=>match (List.range en).find? fun i=>!(E i).2.2 with
  |some i=>((i:Int),(190:Int))
  |none=>(0,0)
def admN (F:Nat→RowF) (L:Nat→List Nat) (E:Nat→Int×Int×Bool) (mn en n:Nat):Nat:=if (admF F L E mn en).2=0 then n else 0
def AdmC (F:Nat→RowF) (L:Nat→List Nat) (E:Nat→Int×Int×Bool) (mn en:Nat) (w:World) (e:Ending) (w':World):Prop:=
 ∃ (ca ce:Option Addr) (cc cd:Nat),e=.returned (.tuple #[.agg #[.slice ca (admN F L E mn en mn) cc,.slice ce (admN F L E mn en en) cd],qI (admF F L E mn en).1,qI (admF F L E mn en).2])∧zdv F L w' ca (admN F L E mn en mn)∧zb9 w' ce (admN F L E mn en en) 2 (spG E)∧Below w.heap.size w w'
theorem zq1 {n i:Nat} {p:Nat→Bool} (hi:i < n) (hp:p i=true) (h:∀ j,j < i→p j=false):(List.range n).find? p=some i:=by
 rw [List.find?_range_eq_some];exact⟨hp,by simpa using hi,fun j hj=>by simp [h j hj]⟩
section
variable {F:Nat→RowF} {L:Nat→List Nat} {E:Nat→Int×Int×Bool} {mn en:Nat} {w w':World}
theorem AdmC.bad {at_ er:Int} (h:admF F L E mn en=(at_,er)) (he:er≠0) (hb:Below w.heap.size w w'):AdmC F L E mn en w (.returned (.tuple #[.agg #[.slice none 0 0,.slice none 0 0],qI at_,qI er])) w':=by
 unfold AdmC admN;rw [h,if_neg he,if_neg he];exact⟨none,none,0,0,rfl,.none _ _ _,fun i hi=>by omega,hb⟩
theorem zEv {i t:Nat} (hi:i < mn) (h:∀ j,j < i→badF (F j) (L j)=none) (hb:badF (F i) (L i)=some t):admF F L E mn en=((i:Int),180):=by
 unfold admF;rw [zq1 hi (by rw [hb];rfl) fun j hj=>by rw [h j hj];rfl]
theorem zEw {i:Nat} (hm:∀ j,j < mn→badF (F j) (L j)=none) (hi:i < en) (h:∀ j,j < i→(E j).2.2=true) (hb:(E i).2.2=false):admF F L E mn en=((i:Int),190):=by
 unfold admF;rw [List.find?_eq_none.2 fun j hj=>by rw [hm j (by simpa using hj)];simp];rw [zq1 hi (by rw [hb];rfl) fun j hj=>by rw [h j hj];rfl]
theorem admF_ok (hm:∀ j,j < mn→badF (F j) (L j)=none) (h:∀ j,j < en→(E j).2.2=true):admF F L E mn en=(0,0):=by
 unfold admF;rw [List.find?_eq_none.2 fun j hj=>by rw [hm j (by simpa using hj)];simp];rw [List.find?_eq_none.2 fun j hj=>by rw [h j (by simpa using hj)];simp]
theorem AdmC.yes {ca ce:Option Addr} {cc cd:Nat} (h:admF F L E mn en=(0,0)) (hM:zdv F L w' ca mn) (hE:zb9 w' ce en 2 (spG E)) (hb:Below w.heap.size w w'):AdmC F L E mn en w (.returned (.tuple #[.agg #[.slice ca mn cc,.slice ce en cd],qI 0,qI 0])) w':=by
 unfold AdmC admN;rw [h,if_pos rfl,if_pos rfl];exact⟨ca,ce,cc,cd,rfl,hM,hE,hb⟩
end
theorem zm0.tells {f:RowF} {l:List Nat} {w w':World} {e:Ending} (h:zm0 f l w e w'):∃ (ra:Option Addr) (rl rc:Nat) (ri:Int) (ok:Bool),e=.returned (.tuple #[.slice ra rl rc,qI ri,.bool ok])∧(ok=true→badF f l=none∧CRow f l w' (.slice ra rl rc))∧(ok=false→∃ t,badF f l=some t)∧Below w.heap.size w w':=by
 obtain⟨h1,hb⟩:=h
 cases hf:badF f l with
 |none=>
  rw [hf] at h1;obtain⟨v,B,rfl,hB,ho⟩:=h1;have hr:=zw7 ho;obtain⟨ra,rc,rfl,h2,h3⟩:=hr;exact⟨ra,_,rc,0,true,rfl,fun _=>⟨rfl,ra,rc,rfl,h2,h3⟩,fun h=>(by cases h),hb⟩
 |some t=>
  rw [hf] at h1;obtain rfl:=h1;exact⟨none,0,0,t,false,rfl,fun h=>(by cases h),fun _=>⟨t,rfl⟩,hb⟩
theorem zAz {x:Img} {M:Nat→zas} (h:∀ i,i < x.mn→(M i).t < 2 ^ x.n) (m:Int):zai x M m < 2 ^ x.n:=by
 unfold zai
 split
 ·rename_i hm;exact h _ (by omega)
 ·exact Nat.two_pow_pos _
theorem zEu (x:Img) (g:Nat→Nat→Int) (M:Nat→zas) (q:Nat→Nat→Nat→Int) (h:Nat→Nat→Int) (w:World) (hx:zdr w x g M q h) (hv:VX x g M q h) (hTab:Tab w):
  Calls Tryz.prog 34 #[iv x] w (AdmC (zp4 x g M) (zos x M) (zle x g M h) x.mn x.en w):=by
 have hok:=hv.o;have HCK:=hid fun X (hX:Below w.heap.size w X)=>zgu x g M q h X (hx.below hX) hv;have HTK:=hid fun (i:Nat) X (hX:Below w.heap.size w X)=>zjo x M (i:Nat) X (hx.modes.below hX);have hTO:zf2 x.n g:=fun i hi=>⟨x.r,hok.tasks i hi⟩;have HMD:=hid fun (i:Nat) X (hX:Below w.heap.size w X)=>(mode_val x g (zai x M (i:Nat)) X (ze1 hx.tb _) (zAz hok.mt _) (by have:=hok.n2;unfold maxLen;omega) (hx.tasks.below hX) hTO (hTab.below hX hTab.pos)).mono fun e w' hh=>show zm0 (zp4 x g M i) (zos x M i) X e w' from hh;have HWE:=hid fun (i:Nat) (hi:i < x.en) X (hX:Below w.heap.size w X)=>(zpz x g M h i X (hx.modes.below hX) (hx.edges.below hX) hx.tb hok.mt hi (hx.tasks.below hX) hTO hok.n2 (hok.edges i hi).p1 (hok.edges i hi).p2 (hTab.below hX hTab.pos)).mono fun e w' hh=>show (∃ a b ok,zle x g M h i=(a,b,ok)∧e=.returned (.tuple #[.agg #[qI a,qI b],.bool ok]))∧Below X.heap.size X w' from ⟨⟨(zle x g M h i).1,(zle x g M h i).2.1,(zle x g M h i).2.2,rfl,hh.1⟩,hh.2⟩;obtain⟨F,hF⟩:∃ F,zp4 x g M=F:=⟨_,rfl⟩;obtain⟨L,hL⟩:∃ L,zos x M=L:=⟨_,rfl⟩;obtain⟨E,hE⟩:∃ E,zle x g M h=E:=⟨_,rfl⟩;rw [hF,hL] at HMD;rw [hE] at HWE;rw [hF,hL,hE];have m2:=hok.m2;have e24:=hok.e;obtain⟨i0,hi,hz0,hz1,hz2⟩:=info_parts infoRr;obtain⟨j0,hj,hj0,hj1,hj2⟩:=info_parts infoSn;clear hx hTab hF hL hE hTO hv hok;obtain⟨r,ao,n,cap,mo,mn,mc,eo,en,ec⟩:=x;unfold iv at HCK HTK HMD HWE ⊢;dsimp only at HTK HMD HWE m2 e24 ⊢;have hb1:Below w.heap.size w (w.alloc (qC #[qI r,.slice ao n cap,.slice mo mn mc,.slice eo en ec] 26)):=qBr _;have hb2:=hb1.alloc hb1.size (qC #[.slice none 0 0,.slice none 0 0] 97);have bI2:=zac (heap_alloc_new w (qC #[qI r,.slice ao n cap,.slice mo mn mc,.slice eo en ec] 26)) (qC #[.slice none 0 0,.slice none 0 0] 97);have bC2:=heap_alloc_new (w.alloc (qC #[qI r,.slice ao n cap,.slice mo mn mc,.slice eo en ec] 26)) (qC #[.slice none 0 0,.slice none 0 0] 97);rw [World.size_alloc] at bC2;have c0:=zaa bI2 0;have c1:=zaa bI2 1;have c2:=zaa bI2 2;have c3:=zaa bI2 3;go_enter Tryz.func34,Tryz.ntmps34
 go_upto_region 2 with (go_at_call 77;refine (HCK.out _ hb2).mono ?_;rintro e w3 ⟨rfl,hb3⟩)
 have hbI:=qBa hb3 bI2;have hbC:=qBa hb3 bC2;have hB3:=hb2.trans (hb3.mono hb2.size);clear c0 c1 c2 c3 bI2 bC2 hb1 hb2 hb3 HCK;have hb4:=hB3.alloc hB3.size (qC #[.slice none 0 0,.slice none 0 0] 97);have hbI4:=zac hbI (qC #[.slice none 0 0,.slice none 0 0] 97);have hbC4:=zac hbC (qC #[.slice none 0 0,.slice none 0 0] 97);have hbK4:=heap_alloc_new w3 (qC #[.slice none 0 0,.slice none 0 0] 97);have hs3:=hB3.size;have d2:=zaa hbI4 2;have k0:=zaa hbK4 0;have k1:=zaa hbK4 1;have l0:=zab hbK4 0;have l1:=zab hbK4 1
 go_upto_region 6 with fail
 obtain⟨W4,hW4⟩:∃ X,X=w3.alloc (qC #[.slice none 0 0,.slice none 0 0] 97):=⟨_,rfl⟩;rw [←hW4] at hb4 hbI4 hbC4 hbK4 ⊢;have hs4:W4.heap.size=w3.heap.size+1:=by rw [hW4];simp
 have HN4:w.heap.size+2≤w3.heap.size:=by have:=(qLt hbC);omega
 clear hW4 hbI hbC hB3 d2 k0 k1 l0 l1;have HI:=hid hbI4;have HR:=hid hbC4;have HC:=hid hbK4;have HB:=hid hb4;clear hbI4 hbC4 hbK4 hb4
 go_loopw [29] (fun i_ wr=>∃ (i:Nat) (v:Value) (xs:List Value),i_=qI i∧i≤mn∧Hid (wr.heap[w3.heap.size]? =some (qC #[v,.slice none 0 0] 97))∧Hid (wr.ownsRow (w3.heap.size+1) 199 1 v i xs)∧Hid (zl3 F L wr i xs)∧Hid (∀ j,j < i→badF (F j) (L j)=none)∧
  Hid (wr.heap[w.heap.size]? =some (qC #[qI r,.slice ao n cap,.slice mo mn mc,.slice eo en ec] 26))∧Hid (wr.heap[w.heap.size+1]? =some (qC #[.slice none 0 0,.slice none 0 0] 97))∧Hid (Below w.heap.size w wr∧w3.heap.size+1≤wr.heap.size)) (fun i_ _=>mn - (intOf i_).toNat)
 case atStart=>exact⟨0,_,[],rfl,Nat.zero_le _,HC,World.ownsRow_nil _ _ _ _,⟨rfl,fun j v hj=>by simp at hj⟩,fun j hj=>absurd hj (by omega),HI,HR,HB.out,by omega⟩
 case round=>
  clear HI HR HC HB;obtain⟨i,v,xs,rfl,hin,HC,HO,HRO,HBF0,HI,HR,HB2⟩:=hrel;have HB:=hid HB2.out.1;have hszr:=HB2.out.2;clear HB2;by_cases hlt:i < mn
  ·have t0:decide ((i:Int) < (mn:Int))=true:=by simp;omega
   go_upto_region 8 with fail
   refine zan [3,4,5,6,7,8,9,10,11] (fun X=>Below wr.heap.size wr X) (by kernel_rfl) (by kernel_rfl) (by exact⟨rfl,rfl,rfl,Nat.le_refl _,fun _ _=>rfl⟩) ?_;refine qFs fun K hK=>?_;go_simp;refine⟨.agg #[qI r,.slice ao n cap,.slice mo mn mc,.slice eo en ec],fun X hX=>?_,hK _ ?_⟩
   ·have hI:=qBa hX HI.out
    have z0:=zaa hI 0;have z1:=zaa hI 1;have z2:=zaa hI 2;have z3:=zaa hI 3;go_simp
   clear hK K;refine qFs fun K hK=>?_;go_simp;refine⟨.agg #[qI r,.slice ao n cap,.slice mo mn mc,.slice eo en ec],fun X hX=>?_,hK _ ?_⟩
   ·have hI:=qBa hX HI.out
    have z0:=zaa hI 0;have z1:=zaa hI 1;have z2:=zaa hI 2;have z3:=zaa hI 3;go_simp
   clear hK K;refine qFs fun K hK=>?_;go_simp;refine⟨_,fun _ _=>rfl,hK _ ?_⟩;clear hK K;refine qFc ?_;refine qFc ?_;refine qFc ?_;refine qFc ?_;refine qFc ?_;refine qFc ?_;refine qFc ?_;refine qFc ?_;refine qFc ?_;refine za9 ?_;have B5:Below wr.heap.size wr wr.drew:=⟨rfl,rfl,rfl,Nat.le_refl _,fun _ _=>rfl⟩;refine qT1 3 [4,5,6,7,8,9,10,11] fun K hK=>?_
   go_wp2_with fail
   refine (HTK.out i _ (HB.out.trans (B5.mono HB.out.size))).mono ?_;rintro e W6 ⟨rfl,hb6⟩;have B6:=B5.trans (hb6.mono B5.size)
   go_wp2_with fail
   refine hK _ _ B6 ?_;clear hK K hb6 B5;refine qT1 4 [5,6,7,8,9,10,11] fun K hK=>?_
   go_wp2_with fail
   refine (HMD.out i _ (HB.out.trans (B6.mono HB.out.size))).mono ?_;rintro e W7 hmv;obtain⟨ra,rl,rc,ri,ok,rfl,hY,hN,hb7⟩:=hmv.tells;have HY:=hid hY;have HN:=hid hN;clear hmv hY hN;have B7:=B6.trans (hb7.mono B6.size)
   go_wp2_with fail
   refine hK _ _ B7 ?_;clear hK K hb7 B6;refine zbw (m:=6) (i:=5) (rem1:=[6,7,8,9,10,11]) rfl (by kernel_rfl) (by rfl) (by rfl) B7 (by rfl) (fun K hK=>?_);go_simp;refine⟨_,fun _ _=>rfl,hK _ ?_⟩;clear hK K;refine zbw (m:=5) (i:=6) (rem1:=[7,8,9,10,11]) rfl (by kernel_rfl) (by rfl) (by rfl) B7 (by rfl) (fun K hK=>?_);go_simp;refine⟨_,fun _ _=>rfl,hK _ ?_⟩;clear hK K;refine zbw (m:=4) (i:=7) (rem1:=[8,9,10,11]) rfl (by kernel_rfl) (by rfl) (by rfl) B7 (by rfl) (fun K hK=>?_);go_simp;refine⟨_,fun _ _=>rfl,hK _ ?_⟩;clear hK K;refine zbw (m:=3) (i:=8) (rem1:=[9,10,11]) rfl (by kernel_rfl) (by rfl) (by rfl) B7 (by rfl) (fun K hK=>?_);go_simp;refine⟨_,fun _ _=>rfl,hK _ ?_⟩;clear hK K;refine qT1 9 [10,11] fun K hK=>?_
   go_wp2_with fail
   refine hK _ _ B7 ?_;clear hK K;refine qT1 10 [11] fun K hK=>?_
   go_wp2_with fail
   refine hK _ _ B7 ?_;clear hK K;refine qT1 11 [] fun K hK=>?_
   go_wp2_with fail
   refine hK _ _ B7 ?_;clear hK K;refine za2 ?_;have HB7:=hid (HB.out.trans (B7.mono HB.out.size));have HI7:=hid (qBa B7 HI.out);have HR7:=hid (qBa B7 HR.out);have HC7:=hid (qBa B7 HC.out);have HO7:=hid (zkz HO.out B7);have HRO7:=hid (HRO.out.keep (M:=fun t=>t=199∨t=97) (base:=0) (by decide) (FT.of_below B7));clear HB HI HR HC HO HRO B7;have n0:=zaa HR7.out 0;have n1:=zaa HR7.out 1;have y0:=zab HR7.out 0;have y1:=zab HR7.out 1;cases ok
   ·obtain⟨bt,hbt⟩:=HN.out rfl
    have hbt:=hid hbt;have hCC:=Dl.blk_put0 (i:=1) (u:=.slice none 0 0) (Dl.blk_put0 (i:=0) (u:=.slice none 0 0) HR7.out);clear HN HY;go_wp2;exact zpt rfl rfl rfl rfl hCC (.bad (zEv hlt HBF0.out hbt.out) (by decide) ((HB7.out.setCell (by simp) _).setCell (by simp) _))
   ·clear n0 n1 y0 y1
    have HYY:=HY.out rfl;have HBF1:Hid (∀ j,j < i+1→badF (F j) (L j)=none):=fun j hj=>by
     rcases (show j < i∨j=i by omega) with h1|rfl
     ·exact HBF0.out j h1
     ·exact HYY.1
    have HRO8:=hid (HRO7.out.snoc HYY.2);obtain⟨va,vc,rfl,_,_⟩:=zar HO7.out;clear HY HN HYY HBF0 HRO7;have m0:=zaa HC7.out 0;have hs7:=hid HB7.out.size;have hszC:=(qLt HC7.out);have hnews:∀ (j:Nat) (u:Value),[Value.slice ra rl rc][j]? =some u→(W7.alloc (qC #[.slice ra rl rc] 199)).cell? ((⟨W7.heap.size,0,none⟩:Addr).add j)=some u:=fun j u hj=>by
     rw [zbn,Nat.zero_add,World.cell?_alloc_at _ _ _ _ rfl];simpa using hj
    go_upto_region 11 with fail
    refine wp_region_lit ?_;refine wpList_plain rfl fun K hK=>?_;go_simp;refine hK _ _ ?_;clear hK K;refine wpList_plain rfl fun K hK=>?_;go_simp;refine hK _ _ ?_;clear hK K;refine wpList_plain rfl fun K hK=>?_;go_simp;refine hK _ _ ?_;clear hK K;refine wpList_plain rfl fun K hK=>?_;go_simp;refine hK _ _ ?_;clear hK K;refine wpList_append_own _ rfl _ _ 94 rfl (w3.heap.size+1) 199 i0 (.slice none 0 0) 1 24 Tryz.underlying94 hi hz0 hz1 hz2 rfl (by decide) _ _ _ rfl (HO7.out.alloc _) ⟨W7.heap.size,0,none⟩ 1 1 [.slice ra rl rc] rfl rfl hnews (by simp [Value.oneCell']) (by unfold maxLen;omega) (by omega) (by simp;omega) ?_;intro v' w8 h8 g8 _;obtain⟨va8,vc8,rfl,_,_⟩:=zar h8;have b8:=(Save.of_grown g8).below (Below.refl (w3.heap.size+1) _) (by simp;omega) (fun k hk=>(HO7.out.lt k hk).1);have p8:=(b8.block _ (by omega)).trans (zac HC7.out _);have m8:=zaa p8 0;have f8:=zab p8 0;have HRO9:=hid (HRO8.out.keep (M:=fun t=>t=199∨t=97) (base:=0) (by decide) (((FT.alloc W7 _).trans (FT.grown (HO7.out.alloc _) g8 (.inl rfl) (Nat.zero_le _))).trans (FT.set (i:=0) p8 (.inr rfl) (Nat.zero_le _) (.slice va8 (i+1) vc8))));have b7:Below (w3.heap.size+1) W7 w8:=((Below.refl (w3.heap.size+1) W7).alloc (by omega) (qC #[.slice ra rl rc] 199)).trans b8;have HCF:=hid (Dl.blk_put0 (i:=0) (u:=.slice va8 (i+1) vc8) p8);have hOF:=hid (zis h8 (show w3.heap.size < w3.heap.size+1 by omega) 0 (.slice va8 (i+1) vc8));have HIF:=hid ((heap_setCell_other w8 ⟨w3.heap.size,0,none⟩ w.heap.size (.slice va8 (i+1) vc8) (by show w.heap.size≠w3.heap.size;omega)).trans ((b7.block _ (by omega)).trans HI7.out));have HRF:=hid ((heap_setCell_other w8 ⟨w3.heap.size,0,none⟩ (w.heap.size+1) (.slice va8 (i+1) vc8) (by show w.heap.size+1≠w3.heap.size;omega)).trans ((b7.block _ (by omega)).trans HR7.out));have HBF:=hid ((HB7.out.trans (b7.mono (by omega))).setCell (p:=⟨w3.heap.size,0,none⟩) (by show w.heap.size≤w3.heap.size;omega) (.slice va8 (i+1) vc8));have hszF:w3.heap.size+1≤(w8.setCell ⟨w3.heap.size,0,none⟩ (.slice va8 (i+1) vc8)).heap.size:=by have:=b7.size;simp;omega
    clear HRO8 h8 g8 b8 b7 p8 HC7 HO7 HI7 HR7 HB7 m0 hnews;go_wp2;go_roundw
    case rel=>exact⟨i+1,_,_,by go_num,by omega,HCF,hOF,HRO9,HBF1,HIF,HRF,HBF.out,hszF⟩
    case measure=>simp [intOf];omega
  ·obtain rfl:i=mn:=by omega
   have t0:decide ((i:Int) < (i:Int))=false:=by simp
   obtain⟨va,vc,rfl,hMC⟩:=zDi HO.out HRO.out;have HMC:=hid hMC;clear hMC HRO;have d3:=zaa HI.out 3
   go_upto_region 14 with fail
   clear d3 t0 HO hin
   go_loopw [55] (fun i_ wr=>∃ (k:Nat) (u:Value),i_=qI k∧k≤en∧Hid (wr.heap[w3.heap.size]? =some (qC #[.slice va i vc,u] 97))∧Hid (wr.ownsRow (w3.heap.size+1) 154 2 u k (zhf (spG E) k 2))∧Hid (zdv F L wr va i)∧Hid (∀ j,j < k→(E j).2.2=true)∧
    Hid (wr.heap[w.heap.size]? =some (qC #[qI r,.slice ao n cap,.slice mo i mc,.slice eo en ec] 26))∧Hid (wr.heap[w.heap.size+1]? =some (qC #[.slice none 0 0,.slice none 0 0] 97))∧Hid (Below w.heap.size w wr∧w3.heap.size+1≤wr.heap.size)) (fun i_ _=>en - (intOf i_).toNat)
   case atStart=>exact⟨0,_,rfl,Nat.zero_le _,HC,World.ownsRow_nil _ _ _ _,HMC,fun j hj=>absurd hj (by omega),HI,HR,HB.out,hszr⟩
   case round=>
    clear HI HR HC HB HMC hszr;obtain⟨k,u,rfl,hkn,HC,HO,HMC,HEK,HI,HR,HB2⟩:=hrel;have HB:=hid HB2.out.1;have hszr:=HB2.out.2;clear HB2;by_cases hlt:k < en
    ·have t0:decide ((k:Int) < (en:Int))=true:=by simp;omega
     have d0:=zaa HI.out 0;have d1:=zaa HI.out 1;have d2:=zaa HI.out 2;have d3:=zaa HI.out 3
     go_upto_region 17 with (go_at_call 90;refine (HWE.out k hlt _ HB.out).mono ?_;rintro e w7 ⟨⟨a,b,ok,hEk,rfl⟩,b7⟩)
     have HEk:=hid hEk;clear hEk;have HB7:=hid (((HB.out.trans (b7.mono HB.out.size))).alloc (by have:=b7.size;have:=HB.out.size;omega) (qC #[qI a,qI b] 154));have HI7:=hid (zac (qBa b7 HI.out) (qC #[qI a,qI b] 154));have HR7:=hid (zac (qBa b7 HR.out) (qC #[qI a,qI b] 154));have HC7:=hid (zac (qBa b7 HC.out) (qC #[qI a,qI b] 154));have HO7:=hid ((zkz HO.out b7).alloc (qC #[qI a,qI b] 154));have HMC7:=hid (HMC.out.keep (M:=fun t=>t=154∨t=97) (base:=0) (by decide) (by decide) ((FT.of_below b7).trans (FT.alloc w7 (qC #[qI a,qI b] 154))));have hX7:=heap_alloc_new w7 (qC #[qI a,qI b] 154);have hs8:(w7.alloc (qC #[qI a,qI b] 154)).heap.size=w7.heap.size+1:=by simp
     have hs7:w3.heap.size+1≤w7.heap.size:=by have:=b7.size;omega
     obtain⟨W8,hW8⟩:∃ X,X=w7.alloc (qC #[qI a,qI b] 154):=⟨_,rfl⟩;rw [←hW8] at HB7 HI7 HR7 HC7 HO7 HMC7 hX7 hs8 ⊢;clear hW8 HB HI HR HC HO HMC b7 d0 d1 d2 d3;cases ok
     ·have n0:=zaa HR7.out 0
      have n1:=zaa HR7.out 1;have y0:=zab HR7.out 0;have y1:=zab HR7.out 1;have hCC:=Dl.blk_put0 (i:=1) (u:=.slice none 0 0) (Dl.blk_put0 (i:=0) (u:=.slice none 0 0) HR7.out);go_wp2;exact zpt rfl rfl rfl rfl hCC (.bad (zEw HBF0.out hlt HEK.out (by rw [HEk.out])) (by decide) ((HB7.out.setCell (by simp) _).setCell (by simp) _))
     ·obtain⟨ua,uc,rfl,_,_⟩:=zar HO7.out
      have m0:=zaa HC7.out 1;have x0:=zaa hX7 0;have x1:=zaa hX7 1;have hnews:∀ (j:Nat) (u:Value),[qI a,qI b][j]? =some u→(W8.alloc (qC #[qI a,qI b] 154)).cell? ((⟨W8.heap.size,0,none⟩:Addr).add j)=some u:=fun j u hj=>by
       rw [zbn,Nat.zero_add,World.cell?_alloc_at _ _ _ _ rfl];simpa using hj
      go_upto_region 19 with fail
      clear hs8;refine wp_region_lit ?_;refine wpList_plain rfl fun K hK=>?_;go_simp;refine hK _ _ ?_;clear hK K;refine wpList_plain rfl fun K hK=>?_;go_simp;refine hK _ _ ?_;clear hK K;refine wpList_plain rfl fun K hK=>?_;go_simp;refine hK _ _ ?_;clear hK K;refine wpList_plain rfl fun K hK=>?_;go_simp;refine hK _ _ ?_;clear hK K;refine wpList_append_own _ rfl _ _ 95 rfl (w3.heap.size+1) 154 j0 _ 2 16 Tryz.underlying95 hj hj0 hj1 hj2 rfl (by decide) _ _ _ rfl (HO7.out.alloc _) ⟨W8.heap.size,0,none⟩ 1 1 [qI a,qI b] rfl rfl hnews (by simp [Value.oneCell']) (by unfold maxLen;omega) (by omega) (by have:=(qLt hX7);simp;omega) ?_;intro v' w9 h9 g9 _;obtain⟨ua9,uc9,rfl,_,_⟩:=zar h9;have b9:Below (w3.heap.size+1) W8 w9:=((Below.refl (w3.heap.size+1) W8).alloc (by have:=(qLt hX7);omega) (qC #[qI a,qI b] 154)).trans ((Save.of_grown g9).below (Below.refl (w3.heap.size+1) _) (by have:=(qLt hX7);simp;omega) (fun k hk=>(HO7.out.lt k hk).1));have p9:=(b9.block _ (by omega)).trans HC7.out;have m9:=zaa p9 1;have f9:=zab p9 1;have e9:=spG_snoc E k HEk.out;rw [e9] at h9;have HCF:=hid (Dl.blk_put0 (i:=1) (u:=.slice ua9 (k+1) uc9) p9);have hOF:=hid (zis h9 (show w3.heap.size < w3.heap.size+1 by omega) 1 (.slice ua9 (k+1) uc9));have HMCF:=hid (HMC7.out.keep (M:=fun t=>t=154∨t=97) (base:=0) (by decide) (by decide) (((FT.alloc W8 _).trans (FT.grown (HO7.out.alloc _) g9 (.inl rfl) (Nat.zero_le _))).trans (FT.set (i:=1) p9 (.inr rfl) (Nat.zero_le _) (.slice ua9 (k+1) uc9))));have HEK2:Hid (∀ j,j < k+1→(E j).2.2=true):=fun j hj=>by
       rcases (show j < k∨j=k by omega) with h1|rfl
       ·exact HEK.out j h1
       ·rw [HEk.out]
      have HIF:=hid ((heap_setCell_other w9 ⟨w3.heap.size,1,none⟩ w.heap.size (.slice ua9 (k+1) uc9) (by show w.heap.size≠w3.heap.size;omega)).trans ((b9.block _ (by omega)).trans HI7.out));have HRF:=hid ((heap_setCell_other w9 ⟨w3.heap.size,1,none⟩ (w.heap.size+1) (.slice ua9 (k+1) uc9) (by show w.heap.size+1≠w3.heap.size;omega)).trans ((b9.block _ (by omega)).trans HR7.out));have HBF:=hid ((HB7.out.trans (b9.mono (by omega))).setCell (p:=⟨w3.heap.size,1,none⟩) (by show w.heap.size≤w3.heap.size;omega) (.slice ua9 (k+1) uc9));have hszF:w3.heap.size+1≤(w9.setCell ⟨w3.heap.size,1,none⟩ (.slice ua9 (k+1) uc9)).heap.size:=by have:=b9.size;have:=(qLt hX7);simp;omega
      clear HMC7 HEK HEk h9 g9 b9 p9 HC7 HO7 HI7 HR7 HB7 m0 hnews e9 x0 x1 hX7;go_wp2;go_roundw
      case rel=>exact⟨k+1,_,by go_num,by omega,HCF,hOF,HMCF,HEK2,HIF,HRF,HBF.out,hszF⟩
      case measure=>simp [intOf];omega
    ·obtain rfl:k=en:=by omega
     have t0:decide ((k:Int) < (k:Int))=false:=by simp
     obtain⟨ua,uc,rfl,hF,hY⟩:=zgw HO.out;have m0:=zaa HC.out 0;have m1:=zaa HC.out 1;have n0:=zaa HR.out 0;have n1:=zaa HR.out 1;have y0:=zab HR.out 0;have y1:=zab HR.out 1;have hCC:=Dl.blk_put0 (i:=1) (u:=.slice ua k uc) (Dl.blk_put0 (i:=0) (u:=.slice va i vc) HR.out);have kk:FT (fun t=>t=97) w.heap.size wr _:=(FT.set (M:=fun t=>t=97) (i:=0) HR.out rfl (by omega) (.slice va i vc)).trans (FT.set (M:=fun t=>t=97) (i:=1) (Dl.blk_put0 (i:=0) (u:=.slice va i vc) HR.out) rfl (by omega) (.slice ua k uc));go_wp2;exact zpt rfl rfl rfl rfl hCC (.yes (admF_ok HBF0.out HEK.out) (HMC.out.keep (by decide) (by decide) kk) (hF.keep hY (by decide) kk) ((HB.out.setCell (by simp) _).setCell (by simp) _))
def nImg (n:Nat):Img:=⟨0,none,n,0,none,0,0,none,0,0⟩
def nrm (z:ShR):ShR:=⟨nImg z.x.n,z.o,z.n,z.s,z.T,z.O⟩
theorem zpc (z:ShR) (g:Nat→Nat→Int) (p:Int):zld z g p=zld (nrm z) g p:=rfl
theorem zcm {x y:Img} {M K:Nat→zas} (hm:x.mn=y.mn) (hM:∀ i,(M i).t=(K i).t) (m:Int):zai x M m=zai y K m:=by
 unfold zai;rw [hm,hM]
theorem zv1 {x y:Img} {M K:Nat→zas} (hm:x.mn=y.mn) (hM:∀ i,(M i).t=(K i).t):zos x M=zos y K:=by
 funext i;unfold zos;rw [zcm hm hM]
theorem zv2 {x y:Img} {M K:Nat→zas} {g:Nat→Nat→Int} (hn:x.n=y.n) (hm:x.mn=y.mn) (hM:∀ i,(M i).t=(K i).t):zp4 x g M=zp4 y g K:=by
 funext i;unfold zp4;rw [zcm hm hM,hn]
theorem zw0 {x y:Img} {M K:Nat→zas} {g h:Nat→Nat→Int} (hn:x.n=y.n) (hm:x.mn=y.mn) (hM:∀ i,(M i).t=(K i).t):zle x g M h=zle y g K h:=by
 funext i;unfold zle;rw [zpc,zpc (zjs y K h g i _)];unfold zjs nrm;simp only [zcm hm hM,hn]
attribute [local go_sem] Oper.semAt_some zaq
set_option maxRecDepth 100000
def zfy (l:List (Nat×Int)):Nat:=l.foldl (fun s p=>s |||bitN (p.1:Int)) 0
theorem zqi (l:List (Nat×Int)) (p:Nat×Int):zfy (l ++ [p])=zfy l |||bitN (p.1:Int):=by simp [zfy]
theorem zxt:∀ l:List (Nat×Int),zfy l < 4294967296:=by
 intro l;have:∀ (l:List (Nat×Int)) (s:Nat),s < 4294967296→l.foldl (fun s p=>s |||bitN (p.1:Int)) s < 4294967296:=by
  intro l
  induction l with
  |nil=>intro s h;exact h
  |cons p l ih=>intro s h;exact ih _ (zt4 h _)
 exact this l 0 (by decide)
def SetIs (b:Nat) (s:Nat) (W:World):Prop:=Boxed W b 140 (qU (s:Nat))
theorem zC4 {β:Type} (b:Nat) (s:β→Nat):Own (fun (x:β) W=>SetIs b (s x) W):=boxed_own b 140 fun x=>qU (s x:Nat)
theorem uses_val (y:Nat→Int) (w:World):Calls Tryz.prog 219 #[tv y] w fun e w'=>e=.returned (qU (zfy (zb3 y 8):Nat))∧Below w.heap.size w w':=by
 refine (callsIn_wide (n:=8)).1 ?_;have h1:1≤8:=by omega
 refine callsIn_of_wp_marks Tryz.func219 rfl trivial ?_ rfl;simp only [Tryz.ntmps219,qPr,Nat.reduceAdd,Nat.reduceSub];refine wpIn_wide.2 ?_;obtain⟨V,hV⟩:∃ V,tv y=V:=⟨_,rfl⟩;have hUS:=fun X=>zi9 y X;have bT:=heap_alloc_new w (zaj y);have hb1:=qBr (w:=w) (zaj y);unfold tv zaj at hUS;unfold zaj at bT hb1;unfold tv;have c0:=zaa bT 0;have hb2:=hb1.alloc hb1.size (qC #[qU 0] 140);have bS:=Boxed.new (w.alloc (qC (qF11 y) 165)) 140 (qU 0)
 go_upto_region 2 with fail
 have hs2:((w.alloc (qC (qF11 y) 165)).alloc (qC #[qU 0] 140)).heap.size=w.heap.size+2:=by simp
 have bT2:=zac bT (qC #[qU 0] 140);rw [World.size_alloc] at bS;obtain⟨W2,hW2⟩:∃ X,X=(w.alloc (qC (qF11 y) 165)).alloc (qC #[qU 0] 140):=⟨_,rfl⟩;rw [←hW2] at hs2 bT2 bS hb2 ⊢;clear hW2 bT hb1 c0;have c0:=zaa bT2 0;have c1:=zaa bT2 1;have c2:=zaa bT2 2;have c3:=zaa bT2 3;have c4:=zaa bT2 4;have c5:=zaa bT2 5;have c6:=zaa bT2 6;have c7:=zaa bT2 7;have c8:=zaa bT2 8;have c9:=zaa bT2 9;have c10:=zaa bT2 10;have HUS:=hid hUS;have HS2:=hid hs2;clear hUS hV V
 go_wp2_with (go_at_call 220;refine (HUS.out _).mono ?_;rintro r w' ⟨rfl,rfl⟩)
 clear c0 c1 c2 c3 c4 c5 c6 c7 c8 c9 c10 hs2;have hbU:=heap_alloc_new W2 (zaj y);have bS3:=bS.alloc (zaj y);have hb3:=hb2.alloc (by have:=HS2.out;omega) (zaj y);have hs3:(W2.alloc (zaj y)).heap.size=w.heap.size+3:=by have:=HS2.out;simp;omega
 rw [HS2.out] at hbU;show Code.wp _ _ _ _ (W2.alloc (zaj y));obtain⟨W3,hW3⟩:∃ X,X=W2.alloc (zaj y):=⟨_,rfl⟩;rw [←hW3] at hbU bS3 hb3 hs3 ⊢;clear hW3 bS hb2 bT2 HUS;refine (wpIn_wide (n:=8)).1 ?_;refine wpIn_rangeFunc_ownG rfl h1 (gf:=272) (lb:=#[qP (w.heap.size+2)]) rfl trivial (enters_of Tryz.func272 (by kernel_rfl) rfl)
  (zve (8 - 1) (by omega) (w.heap.size+2) (w.heap.size+1) y W3 hbU) belowK_t (belowK_b (by omega)) (Below.refl _ _) (fun _=>rfl)
  (fun (pre:List (Fin 8×Int)) X=>SetIs (w.heap.size+1) (zfy (pre.map prU)) X∧Below w.heap.size w X)
  (fun _ _ _=>False)
  (OwnFrom.and (Own.from (zC4 _ (fun pre:List (Fin 8×Int)=>zfy (pre.map prU))) _) (ownFrom_below (Nat.le_refl _) (by omega)))
  (fun _ _ _ _ _ hz _ _=>hz)
  ⟨bS3,hb3⟩
  (fun (x:Fin 8×Int)=>{ tmps:=#[.agg (qF11 y),qP w.heap.size,qU 0,qP (w.heap.size+1),qI (x.1.val:Nat),.agg (qF11 y),.func (.func 272) #[] #[qP (w.heap.size+2)],qI (x.1.val:Nat),qI x.2,undef,undef,undef,undef],defers:=[] })
  ?assign ?body ?done ?stop
 case assign=>
  rintro l x X K hK
  gi_wp2
  exact hK
 case body=>
  rintro l pre x X ⟨hS,hB⟩ hlt;obtain⟨⟨q,hq8⟩,yv⟩:=x;have HPS:=hid (show zfy ((pre ++ [((⟨q,hq8⟩,yv):Fin 8×Int)]).map prU)=zfy (pre.map prU) |||bitN (q:Int) by rw [List.map_append];exact zqi _ _);have hS:Boxed X (w.heap.size+1) 140 (qU (zfy (pre.map prU):Nat)):=hS;have hlt32:=zxt (pre.map prU);generalize zfy (pre.map prU)=s at hS HPS hlt32;have hc:=hS.cell;have hf:=hS.frozen;have HW:=hid fun Y=>zjl s hlt32 (q:Int) Y;dsimp only;have hw2:=hS.set (qU (s |||bitN (q:Int):Nat))
  gi_wp2_with (refine⟨trivial,?_⟩;gi_at_call 138;refine (CallsIn.inRound l (callsIn_wide.2 (HW.out _))).mono ?_;rintro e w' ⟨rfl,rfl⟩)
  exact⟨(KeepsOthers.setCell _ _ _).from _,(Below.refl _ _).setCell (p:=⟨w.heap.size+1,0,none⟩) (Nat.le_refl _) _,by rw [HPS.out];exact hw2,hB.setCell (p:=⟨w.heap.size+1,0,none⟩) (by show w.heap.size≤w.heap.size+1;omega) _⟩
 case done=>
  rintro D xs X hD hxs ⟨hS,hB⟩ hK;rw [hxs] at hS;have hc:=(show Boxed _ _ _ _ from hS).cell;have HB:=hid hB;go_wp2;refine⟨by simp,.inl ⟨_,_,rfl,run_takeDeferred hK,?_⟩⟩;exact⟨_,results_tmp rfl _ _ _,rfl,HB.out.trans (belowK_b (w:=w) (Nat.le_refl _) X D _ _ (by omega) hK rfl rfl)⟩
 case stop=>
  rintro D c pre X hD hpre hx hK;exact hx.elim
end Go.Proofs.YtpbmmoneeoijaaaGreatDoor
namespace Go.Proofs.YtpbmmoneeoijaaaGreatDoor
open Go.RowKit Go.Deep Go.Shelf
set_option maxRecDepth 100000
set_option maxHeartbeats 8000000
theorem zuh (x:Img) (M:Nat→zas) (f:Nat→Int) (w:World) (hM:zcu w x.mo x.mn M) (htb:∀ j,j < x.mn→(M j).t < 4294967296):
  Calls Tryz.prog 160 #[iv x,.agg (zbf f).toArray] w fun e w'=>e=.returned (qU (zcl (zai x M (f 1)) (zai x M (f 0)):Nat))∧Below w.heap.size w w':=by
 have HT:=hid fun (m:Int) X (hX:Below w.heap.size w X)=>zjo x M m X (hM.below hX);have h1:=ze1 htb (f 1);have h0:=ze1 htb (f 0);have hAN:=zez h1 h0;obtain⟨r1,hr1⟩:∃ y,zcl (zai x M (f 1)) (zai x M (f 0))=y:=⟨_,rfl⟩;rw [hr1] at hAN ⊢;obtain⟨T,hT⟩:∃ y,zai x M=y:=⟨_,rfl⟩;rw [hT] at HT hAN;clear hT hr1 h0 h1 hM htb;obtain⟨r,ao,n,cap,mo,mn,mc,eo,en,ec⟩:=x;unfold iv at HT ⊢;dsimp only at HT ⊢;have hb1:=qBr (w:=w) (qC #[qI r,.slice ao n cap,.slice mo mn mc,.slice eo en ec] 26);have hB0:=hb1.alloc hb1.size (zcj f);have bI:=zac (heap_alloc_new w (qC #[qI r,.slice ao n cap,.slice mo mn mc,.slice eo en ec] 26)) (zcj f);have bE:=heap_alloc_new (w.alloc (qC #[qI r,.slice ao n cap,.slice mo mn mc,.slice eo en ec] 26)) (zcj f);rw [World.size_alloc] at bE;have e0:=zaz bE (j:=0) (by decide);have e1:=zaz bE (j:=1) (by decide);go_enter Tryz.func160,Tryz.ntmps160
 go_upto_region 1 with fail
 obtain⟨W,hW⟩:∃ X,X=(w.alloc (qC #[qI r,.slice ao n cap,.slice mo mn mc,.slice eo en ec] 26)).alloc (zcj f):=⟨_,rfl⟩;unfold zcj at hW hB0 bI e0 e1;rw [←hW] at hB0 bI e0 e1 ⊢;clear hW bE hb1;have HB:=hid hB0;have C0:=Cls.cell (zaa bI 0);have C1:=Cls.cell (zaa bI 1);have C2:=Cls.cell (zaa bI 2);have C3:=Cls.cell (zaa bI 3);have E0:=Cls.cell e0;have E1:=Cls.cell e1;have HTT:=hid fun (m:Int) (j:Cls W)=>HT.out m j.wd (HB.out.trans (j.below.mono HB.out.size));clear bI e0 e1 hB0 HT;refine zag (by kernel_rfl) (by kernel_rfl) ?_
 repeat (go_big_quiet_step ((go_at_call 89;exact Calls.cls _ (HTT.out _ _))))
 refine wpQuiet_nil ?_;intro _ hw';obtain⟨nq,rfl⟩:=hw';go_wp2;go_ret;exact⟨rfl,HB.out.trans (nq.below.mono HB.out.size)⟩
def zim (y:Nat→Int):List Int:=[y 0,y 1,y 2,((zfy (zb3 y 8):Nat):Int)] ++ (zb3 y 8).map (·.2)
def zcn (q:Nat→Nat→Int) (n:Nat):List Int:=(List.range n).flatMap fun j=>[q j 0,q j 1]
theorem zfp (q:Nat→Nat→Int) (n:Nat):zcn q (n+1)=zcn q n ++ [q n 0,q n 1]:=by simp [zcn,List.range_succ]
def zin (t qn:Nat) (q:Nat→Nat→Int):List Int:=[(t:Int),(qn:Int)] ++ zcn q qn
def zdl (x:Img) (M:Nat→zas) (f:Nat→Int):Nat:=zcl (zai x M (f 1)) (zai x M (f 0))
def zfi (f:Nat→Int) (s:Nat):List Int:=[f 0,f 1,f 2,f 19,f 20,f 21,f 22] ++ if f 2=3 then (zae s).map fun k=>f (3+k) else []
def zbt (g:Nat→Nat→Int) (n:Nat):List Int:=(List.range n).flatMap fun i=>zim (g i)
theorem ziy (g:Nat→Nat→Int) (n:Nat):zbt g (n+1)=zbt g n ++ zim (g n):=by simp [zbt,List.range_succ]
def zbq (M:Nat→zas) (q:Nat→Nat→Nat→Int) (n:Nat):List Int:=(List.range n).flatMap fun i=>zin (M i).t (M i).qn (q i)
theorem zi5 (M:Nat→zas) (q:Nat→Nat→Nat→Int) (n:Nat):zbq M q (n+1)=zbq M q n ++ zin (M n).t (M n).qn (q n):=by simp [zbq,List.range_succ]
def zb0 (x:Img) (M:Nat→zas) (h:Nat→Nat→Int) (n:Nat):List Int:=(List.range n).flatMap fun i=>zfi (h i) (zdl x M (h i))
theorem zje (x:Img) (M:Nat→zas) (h:Nat→Nat→Int) (n:Nat):zb0 x M h (n+1)=zb0 x M h n ++ zfi (h n) (zdl x M (h n)):=by simp [zb0,List.range_succ]
def encW (x:Img) (g:Nat→Nat→Int) (M:Nat→zas) (q:Nat→Nat→Nat→Int) (h:Nat→Nat→Int):List Int:=
 [1380273457,x.r,(x.n:Int),(x.mn:Int),(x.en:Int)] ++ zbt g x.n ++ zbq M q x.mn ++ zb0 x M h x.en
theorem zra {x y:Img} {g:Nat→Nat→Int} {M K:Nat→zas} {q:Nat→Nat→Nat→Int} {h:Nat→Nat→Int} (hr:x.r=y.r) (hn:x.n=y.n) (hm:x.mn=y.mn) (he:x.en=y.en) (hM:∀ i,(M i).t=(K i).t∧(M i).qn=(K i).qn):
  encW x g M q h=encW y g K q h:=by
 have h1:zbq M q=zbq K q:=by
  funext n;unfold zbq;simp only [hM]
 have h2:zb0 x M h=zb0 y K h:=by
  funext n;unfold zb0 zdl;simp only [zcm hm fun i=>(hM i).1]
 unfold encW;rw [hr,hn,hm,he,h1,h2]
theorem zDf {f:Nat→Int} {s:Nat}:∀ k,k≤16→zhe f s k=true→∀ i,16 - k≤i→i < 16→offB f s i=true
 |0,_,_,i,h1,h2=>by omega
 |k+1,hk,h,i,h1,h2=>by
  rw [show zhe f s (k+1)=(offB f s (15 - k) && zhe f s k) from rfl,Bool.and_eq_true] at h;rcases Nat.lt_or_ge (15 - k) i with hi|hi
  ·exact zDf k (by omega) h.2 i (by omega) h2
  ·have e:i=15 - k:=by omega
   subst e;exact h.1
theorem zwg {x:Nat→Int} {p q:Int} (hq:0≤q):∀ k s,k≤4→zhk x p q k s=true→∀ i,4 - k≤i→i < 4→0≤x i∧x i≤q
 |0,_,_,_,i,h1,h2=>by omega
 |k+1,s,hk,h,i,h1,h2=>by
  unfold zhk at h;rcases Nat.lt_or_ge (3 - k) i with hi|hi
  ·split at h
   ·exact zwg hq k s (by omega) h i (by omega) h2
   ·split at h
    ·cases h
    ·exact zwg hq k _ (by omega) h i (by omega) h2
  ·have e:i=3 - k:=by omega
   subst e
   split at h
   ·rename_i h0;omega
   ·split at h
    ·cases h
    ·rename_i h3;simp only [not_or] at h3;omega
structure zu7 (f:Nat→Int) (s:Nat):Prop where
 f0:0≤f 0∧f 0≤7
 f1:0≤f 1∧f 1≤7
 f2:1≤f 2∧f 2≤3
 mp:∀ j,j < 4→0≤f (19+j)∧f (19+j)≤4
 of:∀ j:Nat,j < 16→0≤f (3+j)∧f (3+j)≤16384∧(f (3+j)≠0→f 2=3∧hasN s (j:Int)=true)
theorem zu7.all {f:Nat→Int} {s:Nat} (h:zu7 f s):∀ j,j < 23→0≤f j∧f j < 2147483648:=fun j hj=>by
 have h0:=h.f0;have h1:=h.f1;have h2:=h.f2;rcases Nat.lt_or_ge j 3 with h3|h3
 ·obtain rfl|rfl|rfl:j=0∨j=1∨j=2:=by omega
  all_goals omega
 ·rcases Nat.lt_or_ge j 19 with h4|h4
  ·have:=h.of (j - 3) (by omega)
   rw [show 3+(j - 3)=j by omega] at this;omega
  ·have:=h.mp (j - 19) (by omega)
   rw [show 19+(j - 19)=j by omega] at this;omega
section
variable {x:Img} {g:Nat→Nat→Int} {M:Nat→zas} {q:Nat→Nat→Nat→Int} {h:Nat→Nat→Int}
theorem VX.edgeN (hx:VX x g M q h) {i:Nat} (hi:i < x.en):zu7 (h i) (zdl x M (h i)):=by
 have he:=hx.edges i hi;have hm:=hx.o.m2;have o1:=he.o.f1;have o2:=he.o.f2;have o3:=he.o.t1;have o4:=he.o.t2;refine⟨⟨o1,by omega⟩,⟨o3,by omega⟩,⟨he.o.p1,he.o.p2⟩,fun j hj=>?_,fun j hj=>?_⟩
 ·have:=zwg (x:=fun j=>h i (19+j)) (by omega) 4 0 (Nat.le_refl _) he.mp j (by omega) hj
  have hq:=(hx.o.mq (h i 1).toNat (by omega)).1;omega
 ·have:=zDf 16 (Nat.le_refl _) he.of j (by omega) hj
  unfold offB at this;simp only [Bool.not_eq_true',Bool.or_eq_false_iff,Bool.and_eq_false_iff,decide_eq_false_iff_not] at this;obtain⟨⟨h1,h2⟩,h3⟩:=this;refine⟨by omega,by omega,fun h0=>?_⟩;rcases h3 with h3|⟨h3,h4⟩
  ·omega
  ·refine⟨by simpa using h3,?_⟩
   show hasN (zcl _ _) _=true;simpa using h4
theorem VX.taskN (hx:VX x g M q h) {i:Nat} (hi:i < x.n):∀ j,j < 11→0≤g i j∧g i j≤4096:=fun j hj=>by
 have ht:=(hx.tasks i hi).o;have a1:=ht.p1;have a2:=ht.p2;have a3:=ht.d1;have a4:=ht.d2;have a5:=ht.c1;have a6:=ht.c2;rcases Nat.lt_or_ge j 3 with h3|h3
 ·obtain rfl|rfl|rfl:j=0∨j=1∨j=2:=by omega
  all_goals omega
 ·have:=ht.l (j - 3) (by omega)
  rw [show 3+(j - 3)=j by omega] at this;omega
end
def zel (s:St) (L:List zb8):Prop:=∀ k d,L[k]? =some d→zzb (s.run (L.take k)) d
theorem zel.append {s:St} {L K:List zb8} (h:zel s L) (k:zel (s.run L) K):zel s (L ++ K):=fun i d hd=>by
 rcases Nat.lt_or_ge i L.length with hi|hi
 ·rw [List.getElem?_append_left hi] at hd
  rw [List.take_append_of_le_length (by omega)];exact h i d hd
 ·rw [List.getElem?_append_right hi] at hd
  have e:(L ++ K).take i=L ++ K.take (i - L.length):=by rw [List.take_append,List.take_of_length_le hi]
  rw [e,St.run_append];exact k _ d hd
theorem zel.nil (s:St):zel s []:=fun i d hd=>by simp at hd
theorem zel.one {s:St} {d:zb8} (h:zzb s d):zel s [d]:=fun i e he=>by
 rcases i with _|i
 ·simp at he;subst he;exact h
 ·simp at he
theorem zye (g:Nat→Nat→Int) (s:St):∀ n,s.ts.length+n≤1000→(∀ i,i < n→∀ j,j < 11→0≤g i j∧g i j < 2147483648)→zel s (zc0 g n)
 |0,_,_=>zel.nil s
 |n+1,hl,hg=>by
  rw [zh3];refine (zye g s n (by omega) fun i hi=>hg i (by omega)).append (zel.one ?_);rw [zhh];exact⟨by simp,fun _=>⟨hg n (by omega),by simp;omega⟩,by simp,by simp,by simp,by simp⟩
theorem zyg (h:Nat→Nat→Int) (s:St):∀ n,s.es.length+n≤1000→(∀ i,i < n→(∀ j,j < 23→0≤h i j∧h i j < 2147483648)∧(1≤h i 2∧h i 2≤3))→zel s (zdb h n)
 |0,_,_=>zel.nil s
 |n+1,hl,hg=>by
  rw [zid];refine (zyg h s n (by omega) fun i hi=>hg i (by omega)).append (zel.one ?_);rw [zoc];exact⟨by simp,by simp,by simp,by simp,fun _=>⟨(hg n (by omega)).1,(hg n (by omega)).2,by simp;omega⟩,by simp⟩
theorem zt6 (q:Nat→Nat→Int) (s:St) (ms:List (Nat×List (Nat→Int))) (t:Nat) (hs:s.ms=ms ++ [(t,[])]) (hl:s.ms.length≤1000):∀ n,n≤1000→(∀ j,j < n→OkQ (q j))→zel s (za8 q n)
 |0,_,_=>zel.nil s
 |n+1,hn,hq=>by
  rw [zfq];refine (zt6 q s ms t hs hl n (by omega) fun j hj=>hq j (by omega)).append (zel.one ?_);rw [zku q s ms t hs];obtain⟨c1,c2,p1,p2⟩:=hq n (by omega);rw [hs] at hl;simp at hl;exact⟨by simp [zj0],by simp [zj0],by simp [zj0],fun _=>⟨⟨by show 0≤q n 0;omega,by show q n 0 < _;omega,p1,p2⟩,by simp;omega,ms,_,rfl,by simp;omega⟩,by simp [zj0],by simp [zj0]⟩
theorem zyf (M:Nat→zas) (q:Nat→Nat→Nat→Int) (s:St):∀ n,s.ms.length+n < 1000→(∀ i,i < n→(M i).t < 4294967296∧(M i).qn≤1000∧∀ j,j < (M i).qn→OkQ (q i j))→zel s (za3 M q n)
 |0,_,_=>zel.nil s
 |n+1,hl,hm=>by
  obtain⟨h1,h2,h3⟩:=hm n (by omega);rw [zc8,zmw,←List.singleton_append];refine (zyf M q s n (by omega) fun i hi=>hm i (by omega)).append ?_;rw [zjw];refine (zel.one ⟨by simp,by simp,fun _=>⟨h1,by simp;omega⟩,by simp,by simp,by simp⟩).append ?_;rw [St.run_one];exact zt6 (q n) _ (s.ms ++ (List.range n).map fun i=>((M i).t,(List.range (M i).qn).map (q i))) (M n).t (by simp [St.step]) (by simp [St.step];omega) _ h2 h3
theorem zj5 (M:Nat→zas) (q:Nat→Nat→Nat→Int):∀ n,(∀ i,i < n→(M i).qn≤4)→(za3 M q n).length≤5 * n
 |0,_=>by simp [za3]
 |n+1,h=>by
  have:=zj5 M q n fun i hi=>h i (by omega);have:=h n (by omega);rw [zc8,List.length_append,zmw,List.length_cons,za8,List.length_map,List.length_range];omega
theorem zv0 {M:Nat→zas} {q:Nat→Nat→Nat→Int} {n:Nat}:∀ d∈za3 M q n,d.k≠0:=fun d hd=>by
 obtain⟨i,_,hd⟩:=List.mem_flatMap.1 hd;rcases List.mem_cons.1 hd with rfl|hd
 ·simp
 ·obtain⟨j,_,rfl⟩:=List.mem_map.1 hd
  simp [zj0]
theorem zBg {x:Img} {g:Nat→Nat→Int} {M:Nat→zas} {q:Nat→Nat→Nat→Int} {h:Nat→Nat→Int} (hx:VX x g M q h):OkText (imgD x g M q h):=by
 have hr1:=hx.o.r1;have hr2:=hx.o.r2;have hn:=hx.o.n2;have hm:=hx.o.m2;have he:=hx.o.e;have hml:=zj5 M q x.mn fun i hi=>(hx.o.mq i hi).1;have hlen:(imgD x g M q h).length≤81:=by
  unfold imgD;simp only [List.length_append,List.length_singleton,zc0,zdb,List.length_map,List.length_range];omega
 refine⟨?_,?_,?_,by omega,?_⟩
 ·show zel St.none (imgD x g M q h)
  unfold imgD;refine zel.append (zel.append (zel.append (zel.one ?_) ?_) ?_) ?_
  ·exact⟨fun _=>⟨hr1,by show x.r < _;omega⟩,by simp [resD],by simp [resD],by simp [resD],by simp [resD],by simp [resD]⟩
  ·exact zye g _ _ (by simp [St.run_one,St.step,resD,St.none];omega) fun i hi j hj=>by have:=hx.taskN hi j hj;omega
  ·refine zyf M q _ _ (by rw [St.run_append,zhh];simp [St.run_one,St.step,resD,St.none];omega) fun i hi=>⟨?_,?_,(hx.o.mq i hi).2⟩
   ·exact Nat.lt_of_lt_of_le (hx.o.mt i hi) (Nat.le_trans (Nat.pow_le_pow_right (by decide) hn) (by decide))
   ·have:=(hx.o.mq i hi).1;omega
  ·exact zyg h _ _ (by rw [St.run_append,St.run_append,zhh,zjw];simp [St.run_one,St.step,resD,St.none];omega) fun i hi=>⟨(hx.edgeN hi).all,(hx.edgeN hi).f2⟩
 ·intro k d hd
  rcases k with _|k
  ·simp [imgD,resD] at hd
   subst hd;simp
  ·have hmem:d∈zc0 g x.n ++ za3 M q x.mn ++ zdb h x.en:=by
    unfold imgD at hd;rw [List.append_assoc,List.append_assoc,List.singleton_append,List.getElem?_cons_succ,←List.append_assoc] at hd;exact List.mem_of_getElem? hd
   have:d.k≠0:=by
    rcases List.mem_append.1 hmem with h1|h1
    ·rcases List.mem_append.1 h1 with h1|h1
     ·obtain⟨i,_,rfl⟩:=List.mem_map.1 h1;simp
     ·exact zv0 d h1
    ·obtain⟨i,_,rfl⟩:=List.mem_map.1 h1;simp
   simp [this]
 ·unfold imgD;simp
 ·have:=zbc (imgD x g M q h)
  omega
end Go.Proofs.YtpbmmoneeoijaaaGreatDoor
