/-
  A part of the proof: ImgRows NextW DecLaw AllSeq DecTask AnyTwo EncKit.
-/
import Derived.Test.YtpbmmoneeoijaaaGreatDoorP32
namespace Go.Proofs.YtpbmmoneeoijaaaGreatDoor
open Go.RowKit Go.Deep Go.Shelf
set_option maxRecDepth 100000
set_option maxHeartbeats 8000000
structure RwAt (base:Nat) (W:World) (s:St) (v:RdV):Prop where
 T:W.ownsRow base 165 11 v.T s.ts.length (zjp s.ts)
 M:W.ownsRow base 71 2 v.M s.ms.length (zem s.ms v.q)
 ql:v.q.length=s.ms.length
 Q:∀ (i:Nat) (m:Nat×List (Nat→Int)) (u:Value),s.ms[i]? =some m→v.q[i]? =some u→W.ownsRow base 74 2 u m.2.length (zc1 m.2)
 E:W.ownsRow base 176 23 v.E s.es.length (zkd s.es)
theorem RdAt.rows {base b:Nat} {W:World} {s:St} {P:List (List UInt8)} {v:RdV} (h:RdAt base b W s P v):RwAt base W s v:=⟨h.T,h.M,h.ql,h.Q,h.E⟩
def sAo:Value→Option Addr
 | .slice a _ _=>a
 |_=>none
def sCap:Value→Nat
 | .slice _ _ c=>c
 |_=>0
theorem zB6 (g:Nat→Nat→Int) (n K:Nat):zhf g (n+1) K=zhf g n K ++ (List.range K).map fun j=>qI (g n j):=by
 have:=zq0 g n K (g n)
 rwa [show (fun i=>if i=n then g n else g i)=g from funext fun i=>by split<;>simp_all] at this
theorem zib (g:Nat→Nat→Int) (K:Nat):∀ n,(List.range n).flatMap (fun i=>(List.range K).map fun j=>qI (g i j))=zhf g n K
 |0=>by simp [zhf]
 |n+1=>by rw [List.range_succ,List.flatMap_append,zib g K n,zB6];simp
theorem zt9:∀ (ms:List (Nat×List (Nat→Int))) (vs:List Value),vs.length=ms.length→∀ (i:Nat) (m:Nat×List (Nat→Int)) (u:Value),ms[i]? =some m→vs[i]? =some u→(zem ms vs)[i * 2]? =some (qU (m.1:Nat))∧(zem ms vs)[i * 2+1]? =some u
 | [],_,_,i,m,u,h1,_=>by simp at h1
 |a :: ms,[],h,_,_,_,_,_=>by simp at h
 |a :: ms,b :: vs,h,i,m,u,h1,h2=>by
  rcases i with _|i
  ·simp at h1 h2
   subst h1 h2;exact⟨rfl,rfl⟩
  ·have:=zt9 ms vs (by simpa using h) i m u (by simpa using h1) (by simpa using h2)
   rw [show (i+1) * 2=i * 2+1+1 by omega];simpa [zem] using this
def zkv (v:RdV) (M:Nat→zas):Nat→zas:=fun i=>⟨(M i).t,sAo (v.q.getD i undef),(M i).qn,sCap (v.q.getD i undef)⟩
section
variable {base:Nat} {W:World} {s:St} {v:RdV} {M:Nat→zas} {q:Nat→Nat→Nat→Int} {mn:Nat}
theorem RwAt.queue (h:RwAt base W s v) (hs:s.ms=(List.range mn).map fun i=>((M i).t,(List.range (M i).qn).map (q i))) {i:Nat} (hi:i < mn):
  ∃ u,v.q[i]? =some u∧u=.slice (zkv v M i).qo (M i).qn (zkv v M i).qc∧zb9 W (zkv v M i).qo (M i).qn 2 (q i):=by
 have hl:=h.ql;rw [hs,List.length_map,List.length_range] at hl;have hu:v.q[i]? =some v.q[i]:=List.getElem?_eq_getElem (by omega);have hm:s.ms[i]? =some ((M i).t,(List.range (M i).qn).map (q i)):=by rw [hs];simp [hi]
 have hr:=h.Q i _ _ hm hu;have e:zc1 ((List.range (M i).qn).map (q i))=zhf (q i) (M i).qn 2:=by
  rw [←zib];simp only [zc1,List.flatMap_map];rfl
 rw [e] at hr;simp only [List.length_map,List.length_range] at hr;obtain⟨ao,c,hv,hf,_⟩:=zgw hr;have hg:v.q.getD i undef=.slice ao (M i).qn c:=by rw [List.getD_eq_getElem?_getD,hu,hv];rfl
 refine⟨_,hu,?_,?_⟩
 ·rw [hv];unfold zkv;simp only [hg];rfl
 ·unfold zkv;simp only [hg];exact hf
theorem RwAt.modesAt (h:RwAt base W s v) (hs:s.ms=(List.range mn).map fun i=>((M i).t,(List.range (M i).qn).map (q i))):∃ mo mc,v.M=.slice mo mn mc∧zcu W mo mn (zkv v M):=by
 have hM:=h.M;have hml:s.ms.length=mn:=by rw [hs];simp
 rw [hml] at hM;obtain⟨mo,mc,hv,_,hc⟩:=zar hM;refine⟨mo,mc,hv,fun i hi=>?_⟩;obtain⟨b,rfl,_,hcell,_⟩:=hc (by omega);obtain⟨u,hu,hue,_⟩:=h.queue hs hi;obtain⟨h1,h2⟩:=zt9 s.ms v.q h.ql i ((M i).t,(List.range (M i).qn).map (q i)) u (by rw [hs];simp [hi]) hu;refine⟨b,0,rfl,?_,?_⟩
 ·rw [Nat.zero_add,hcell _ (by omega)];exact h1
 ·rw [Nat.zero_add,hcell _ (by omega),h2,hue];rfl
end
theorem zk0 {X Y:World} {row:Option Nat} {base:Nat} {e:TypeId} {K:Nat} {v:Value} {n:Nat} {xs:List Value} (ho:X.ownsRow base e K v n xs) (hg:X.grownBy Y row) (hr:∀ g,row=some g→g < base):Y.ownsRow base e K v n xs:=ho.kept hg (by
 cases hv:v.ownBlock with
 |none=>exact .inl rfl
 |some g=>
  right;intro e;have:=(zbj ho hv).1;have:=hr g e.symm;omega)
section
variable {base:Nat} {W:World} {s:St} {v:RdV}
theorem RwAt.low (h:RwAt base W s v) {Y:World} {row:Option Nat} (hg:W.grownBy Y row) (hr:∀ g,row=some g→g < base):RwAt base Y s v:=
 ⟨zk0 h.T hg hr,zk0 h.M hg hr,h.ql,fun i m u h1 h2=>zk0 (h.Q i m u h1 h2) hg hr,zk0 h.E hg hr⟩
theorem RwAt.addT (h:RwAt base W s v) (f:Nat→Int) {v':Value} {W1:World} (ho:W1.ownsRow base 165 11 v' (s.ts ++ [f]).length (zjp (s.ts ++ [f]))) (hg:W.grownBy W1 v.T.ownBlock):
  RwAt base W1 { s with ts:=s.ts ++ [f] } { v with T:=v' }:=
 ⟨ho,zah h.M hg (zbv h.T (by decide)),h.ql,fun i m u h1 h2=>zah (h.Q i m u h1 h2) hg (zbv h.T (by decide)),zah h.E hg (zbv h.T (by decide))⟩
theorem RwAt.addE (h:RwAt base W s v) (f:Nat→Int) {v':Value} {W1:World} (ho:W1.ownsRow base 176 23 v' (s.es ++ [f]).length (zkd (s.es ++ [f]))) (hg:W.grownBy W1 v.E.ownBlock):
  RwAt base W1 { s with es:=s.es ++ [f] } { v with E:=v' }:=
 ⟨zah h.T hg (zbv h.E (by decide)),zah h.M hg (zbv h.E (by decide)),h.ql,fun i m u h1 h2=>zah (h.Q i m u h1 h2) hg (zbv h.E (by decide)),ho⟩
theorem RwAt.addM (h:RwAt base W s v) (m:Nat×List (Nat→Int)) (u:Value) (hu:W.ownsRow base 74 2 u m.2.length (zc1 m.2)) {v':Value} {W1:World} (ho:W1.ownsRow base 71 2 v' (s.ms ++ [m]).length (zem (s.ms ++ [m]) (v.q ++ [u]))) (hg:W.grownBy W1 v.M.ownBlock):
  RwAt base W1 { s with ms:=s.ms ++ [m] } { v with M:=v',q:=v.q ++ [u] }:=by
 refine⟨zah h.T hg (zbv h.M (by decide)),ho,by simp [h.ql],fun i m' x h1 h2=>?_,zah h.E hg (zbv h.M (by decide))⟩;dsimp only at h1 h2;rcases Nat.lt_or_ge i s.ms.length with hi|hi
 ·rw [List.getElem?_append_left hi] at h1
  rw [List.getElem?_append_left (by rw [h.ql];exact hi)] at h2;exact zah (h.Q i m' x h1 h2) hg (zbv h.M (by decide))
 ·rw [List.getElem?_append_right hi] at h1
  rw [List.getElem?_append_right (by rw [h.ql];exact hi),h.ql] at h2;have h0:i - s.ms.length=0:=by
   have:=(List.getElem?_eq_some_iff.1 h1).1;simp at this;omega
  rw [h0] at h1 h2;simp at h1 h2;subst h1 h2;exact zah hu hg (zbv h.M (by decide))
end
theorem zk7 (f:Nat→List Int) {i n:Nat} (h:i < n):∃ R,(List.range n).flatMap f=(List.range i).flatMap f ++ (f i ++ R):=by
 obtain⟨k,rfl⟩:∃ k,n=(i+1)+k:=⟨n - (i+1),by omega⟩;rw [List.range_add,List.flatMap_append,List.range_succ,List.flatMap_append];exact⟨((List.range k).map (i+1+ ·)).flatMap f,by rw [List.append_assoc];simp⟩
theorem RwAt.img {base:Nat} {W w0:World} {v:RdV} {x:Img} {g:Nat→Nat→Int} {M:Nat→zas} {q:Nat→Nat→Nat→Int} {h:Nat→Nat→Int} (hr:RwAt base W (zmy x g M q h) v) (hx:zdr w0 x g M q h):
  ∃ y:Img,Value.agg #[qI x.r,v.T,v.M,v.E]=iv y∧(x.r=y.r∧x.n=y.n∧x.mn=y.mn∧x.en=y.en)∧zdr W y g (zkv v M) q h:=by
 obtain⟨mo,mc,hM,hmo⟩:=hr.modesAt (M:=M) (q:=q) (mn:=x.mn) rfl;have hT:=hr.T;have hE:=hr.E;have e1:zjp (zmy x g M q h).ts=zhf g x.n 11:=by rw [←zib];simp only [zmy,zjp,List.flatMap_map]
 have e2:zkd (zmy x g M q h).es=zhf h x.en 23:=by rw [←zib];simp only [zmy,zkd,List.flatMap_map];rfl
 rw [e1] at hT;rw [e2] at hE;simp only [zmy,List.length_map,List.length_range] at hT hE;obtain⟨ao,c,hTv,hTf,_⟩:=zgw hT;obtain⟨eo,ec,hEv,hEf,_⟩:=zgw hE;refine⟨⟨x.r,ao,x.n,c,mo,x.mn,mc,eo,x.en,ec⟩,by rw [hTv,hM,hEv];rfl,⟨rfl,rfl,rfl,rfl⟩,hx.r,hTf,hx.gwf,hx.n,hmo,hx.mn,hx.tb,fun i hi=>?_,hx.qn,hEf,hx.hwf,hx.en⟩;obtain⟨_,_,_,hf⟩:=hr.queue (M:=M) (q:=q) (mn:=x.mn) rfl hi;exact hf
theorem zrt (v:RdV) (M:Nat→zas):∀ i,(M i).t=(zkv v M i).t∧(M i).qn=(zkv v M i).qn:=fun _=>⟨rfl,rfl⟩
theorem VX.congr {x y:Img} {g:Nat→Nat→Int} {M K:Nat→zas} {q:Nat→Nat→Nat→Int} {h:Nat→Nat→Int} (hx:VX x g M q h) (e:x.r=y.r∧x.n=y.n∧x.mn=y.mn∧x.en=y.en) (hM:∀ i,(M i).t=(K i).t∧(M i).qn=(K i).qn):VX y g K q h:=by
 obtain⟨hr,hn,hm,he⟩:=e;have ht:=zcm hm fun i=>(hM i).1;have okE:∀ f,OkE x f→OkE y f:=fun f ⟨a,b,c,d,e,f⟩=>⟨a,by omega,c,by omega,e,f⟩;obtain⟨⟨r1,r2,n1,n2,tasks,m1,m2,mt,mq,e,edges⟩,tk,ed⟩:=hx;refine⟨⟨by omega,by omega,by omega,by omega,fun i hi=>by rw [←hr];exact tasks i (by omega),by omega,by omega,fun i hi=>by rw [←(hM i).1,←hn];exact mt i (by omega),fun i hi=>by rw [←(hM i).2];exact mq i (by omega),by omega,fun i hi=>okE _ (edges i (by omega))⟩,fun i hi=>by rw [←hr];exact tk i (by omega),fun i hi=>?_⟩;obtain⟨o,ne,first,mp,of⟩:=ed i (by omega);exact⟨okE _ o,ne,first,by rw [←(hM _).2,←(hM _).2];exact mp,by simp only [←ht];exact of⟩
theorem next_val (b g k n c:Nat) (x most:Int) (w:World) (hb:w.heap[b]? =some (qC #[.slice (some ⟨g,0,none⟩) n c,qI k,.bool false] 193)) (hg:w.cell? ⟨g,k,none⟩=some (qU x)) (hk:k < n) (hn:n≤100000)
  (hx0:0≤x) (hx:x≤most) (h32:x < 4294967296) (hne:g≠b):
  Calls Tryz.prog 79 #[qP b,qI most] w fun e w'=>e=.returned (qI x)∧
   w'.heap[b]? =some (qC #[.slice (some ⟨g,0,none⟩) n c,qI (k+1),.bool false] 193)∧Save (fun k=>k=b) w w':=by
 have c0:=zaa hb 0;have c1:=zaa hb 1;have c2:=zaa hb 2;have C0:=Cls.cell c0;have C1:=Cls.cell c1;have C2:=Cls.cell c2;have CG:=Cls.cell hg;have t0:((k:Int) == (n:Int))=false:=beq_eq_false_iff_ne.2 (by omega);have hxw:IntKind.i64.wrap x=x:=IntWalk.i64_in _ (by omega);have t1:decide (most < x)=false:=decide_eq_false (by omega);have k0:(0:Int)≤(k:Int):=by omega
 have k1:(k:Int) < (n:Int):=by omega
 go_enter Tryz.func79,Tryz.ntmps79
 go_upto_region 1 with fail
 refine zag (by kernel_rfl) (by kernel_rfl) ?_
 repeat (go_big_quiet_step (fail))
 refine wpQuiet_nil ?_;rintro _ ⟨cq,rfl⟩;have hbq:=(cq.below.block _ (qLt hb)).trans hb;have hgq:=kept hg cq.below;have hsq:=cq.below;generalize cq.wd=X at hbq hgq hsq ⊢;clear C0 C1 C2 CG c0 c1 c2;have c1:=zaa hbq 1;have f1:=zab hbq 1;have kw:IntKind.i64.wrap ((k:Int)+1)=(k:Int)+1:=IntWalk.i64_in _ (by omega);have kw2:IntKind.i64.wrap ((k:Int)+1 - 1)=(k:Int):=by rw [Int.add_sub_cancel];exact IntWalk.i64_in _ (by omega)
 obtain⟨Y,hY⟩:∃ Z,Z=X.setCell ⟨b,1,none⟩ (qI ((k:Int)+1)):=⟨_,rfl⟩;have hbY:Y.heap[b]? =some (qC #[.slice (some ⟨g,0,none⟩) n c,qI (k+1),.bool false] 193):=by rw [hY];exact zbh hbq
 have hgY:Y.cell? ⟨g,k,none⟩=some (qU x):=by rw [hY];exact (World.cell?_of_block (w:=X) (w':=X.setCell ⟨b,1,none⟩ (qI ((k:Int)+1))) (a:=⟨g,k,none⟩) (Below.heap_setCell _ _ _ _ (by show g≠b;exact hne))).trans hgq
 have hS:Save (fun k=>k=b) w Y:=by rw [hY];exact (Save.of_below hsq (fun k=>k=b)).trans (Save.set X b 1 _) (fun _ _ h=>h)
 go_upto_region 5 with fail
 rw [←hY];clear hY;have C0:=Cls.cell (zaa hbY 0);have C1:=Cls.cell (zaa hbY 1);have CG:=Cls.cell hgY;refine zag (by kernel_rfl) (by kernel_rfl) ?_
 repeat (go_big_quiet_step (fail))
 refine wpQuiet_nil ?_;rintro _ ⟨cr,rfl⟩;go_wp2;go_ret;exact⟨rfl,(cr.below.block _ (qLt hbY)).trans hbY,hS.trans (Save.of_below cr.below (fun k=>k=b)) (fun _ _ h=>h)⟩
structure WdAt (b g c:Nat) (ws:List Int) (k:Nat) (W:World):Prop where
 blk:W.heap[b]? =some (qC #[.slice (some ⟨g,0,none⟩) ws.length c,qI k,.bool false] 193)
 wds:∀ j x,ws[j]? =some x→W.cell? ⟨g,j,none⟩=some (qU x)∧0≤x∧x < 4294967296
 len:ws.length≤100000
 ne:g≠b
theorem WdAt.save {b g c:Nat} {ws:List Int} {k:Nat} {W Y:World} (h:WdAt b g c ws k W) {S:Nat→Prop} (hs:Save S W Y) (h1:¬ S b) (h2:¬ S g):WdAt b g c ws k Y:=
 ⟨zap h.blk hs h1,fun j x hj=>⟨(World.cell?_of_block (w:=W) (w':=Y) (a:=⟨g,j,none⟩) (hs.block g (zcr (h.wds j x hj).1) h2)).trans (h.wds j x hj).1,(h.wds j x hj).2⟩,h.len,h.ne⟩
theorem zcc {b g c:Nat} {ws:List Int} {k:Nat} {W:World} (h:WdAt b g c ws k W) {x:Int} (hx:ws[k]? =some x) (most:Int) (hm:x≤most):
  Calls Tryz.prog 79 #[qP b,qI most] W fun e w'=>e=.returned (qI x)∧WdAt b g c ws (k+1) w'∧Save (fun k=>k=b) W w':=by
 obtain⟨h1,h2,h3⟩:=h.wds k x hx;refine (next_val b g k ws.length c x most W h.blk h1 (List.getElem?_eq_some_iff.1 hx).1 h.len h2 hm h3 h.ne).mono ?_;rintro e w' ⟨rfl,hb,hs⟩;exact⟨rfl,⟨hb,fun j y hj=>⟨(World.cell?_of_block (w:=W) (w':=w') (a:=⟨g,j,none⟩) (hs.block g (zcr (h.wds j y hj).1) h.ne)).trans (h.wds j y hj).1,(h.wds j y hj).2⟩,h.len,h.ne⟩,hs⟩
attribute [local go_sem] Oper.semAt_some zaq
set_option maxRecDepth 100000
structure zxn (y:Nat→Int):Prop where
 p:∀ j,j < 11→0≤y j∧y j≤4096
theorem zns (y:Nat→Int):∀ n,n≤8→∀ i,(zfy (zb3 y n)).testBit i=decide (i < n∧0 < y (3+i)):=by
 intro n
 induction n with
 |zero=>intro _ i;simp [zb3,zfy]
 |succ n ih=>
  intro hn i;unfold zb3;by_cases hp:0 < y (3+n)
  ·rw [if_pos hp,zqi,Nat.testBit_or,ih (by omega),zih]
   by_cases hi:i=n
   ·subst hi
    have h1:(i:Int)≤31:=by omega
    simp [h1,hp]
   ·have h2:(i < n)=(i < n+1):=by apply propext;omega
    simp [hi,h2]
  ·rw [if_neg hp,ih (by omega)]
   by_cases hi:i=n
   ·subst hi;simp [hp]
   ·have:(i < n)=(i < n+1):=by apply propext;omega
    simp [this]
theorem znr (y:Nat→Int):∀ n,(zb3 y n).map (·.1)=(List.range n).filter fun i=>decide (0 < y (3+i))
 |0=>rfl
 |n+1=>by
  have ih:=znr y n;rw [List.range_succ,List.filter_append,←ih];rw [show zb3 y (n+1)=if 0 < y (3+n) then zb3 y n ++ [(n,y (3+n))] else zb3 y n from rfl];by_cases hp:0 < y (3+n)<;>simp [hp]
theorem zxh (y:Nat→Int):zae (zfy (zb3 y 8))=(zb3 y 8).map (·.1):=by
 rw [znr];unfold zae;rw [show List.range 32=List.range 8 ++ (List.range 24).map (8+ ·) from rfl,List.filter_append];have h1:(List.range 8).filter (fun i=>(zfy (zb3 y 8)).testBit i)=(List.range 8).filter fun i=>decide (0 < y (3+i)):=by
  apply List.filter_congr;intro i hi;have:=List.mem_range.1 hi;rw [zns y 8 (by omega)];simp [this]
 have h2:((List.range 24).map (8+ ·)).filter (fun i=>(zfy (zb3 y 8)).testBit i)=[]:=by
  rw [List.filter_eq_nil_iff];intro i hi;obtain⟨k,_,rfl⟩:=List.mem_map.1 hi;rw [zns y 8 (by omega)];simp only [decide_eq_true_eq];omega
 rw [h1,h2,List.append_nil]
def rowA (n:Nat) (f:Nat→Int):Array Value:=((List.range n).map fun j=>qI (f j)).toArray
theorem zrw {n k:Nat} (f:Nat→Int) (v:Int):(rowA n f).setIfInBounds k (qI v)=rowA n fun j=>if j=k then v else f j:=by
 unfold rowA;rw [List.setIfInBounds_toArray]
 congr 1
 apply List.ext_getElem (by simp);intro i h1 h2;simp only [List.getElem_set,List.getElem_map,List.getElem_range];by_cases h:k=i
 ·simp [h]
 ·simp [h,Ne.symm h]
def zhd (n:Nat) (f:Nat→Int) (q:List Nat):Nat→Int:=fun j=>if 3≤j∧j < n∧¬ (j - 3)∈q then 0 else f j
theorem zqp {n k:Nat} (f:Nat→Int) (q:List Nat):(fun j=>if j=3+k then f (3+k) else zhd n f q j)=zhd n f (q ++ [k]):=by
 funext j;unfold zhd;by_cases e:j=3+k
 ·subst e;simp
 ·by_cases h3:3≤j
  ·have hk:j - 3≠k:=by omega
   simp [e,h3,hk]
  ·simp [e,h3]
theorem zon {n:Nat} {f:Nat→Int} {q:List Nat} (h:∀ j,3≤j→j < n→¬ (j - 3)∈q→f j=0):zhd n f q=f:=by
 funext j;unfold zhd
 split
 ·rename_i hh;exact (h j hh.1 hh.2.1 hh.2.2).symm
 ·rfl
theorem zBd {y:Nat→Int} (hy:zxn y):zhd 11 y ((zb3 y 8).map (·.1))=y:=zon fun j h3 hj hn=>by
 rw [znr] at hn;have:=(hy.p j hj).1;simp only [List.mem_filter,List.mem_range,decide_eq_true_eq,not_and] at hn;have:=hn (by omega);rw [show 3+(j - 3)=j by omega] at this;omega
theorem znq (y:Nat→Int):∀ (n:Nat) (p:Nat×Int),p∈zb3 y n→p.2=y (3+p.1)∧p.1 < n∧0 < p.2
 |0,p,h=>by simp [zb3] at h
 |n+1,p,h=>by
  rw [show zb3 y (n+1)=if 0 < y (3+n) then zb3 y n ++ [(n,y (3+n))] else zb3 y n from rfl] at h;have key:p∈zb3 y n→p.2=y (3+p.1)∧p.1 < n+1∧0 < p.2:=fun h=>by
   obtain⟨h1,h2,h3⟩:=znq y n p h;exact⟨h1,by omega,h3⟩
  split at h
  ·rename_i hp
   rcases List.mem_append.1 h with h|h
   ·exact key h
   ·simp at h;subst h;exact⟨rfl,by simp,hp⟩
  ·exact key h
theorem usesL_at {y:Nat→Int} {pre rest:List Nat} {i:Nat} (h:pre ++ [i] ++ rest=(zb3 y 8).map (·.1)):(zim y)[4+pre.length]? =some (y (3+i))∧i < 8∧0 < y (3+i):=by
 have e:((zb3 y 8).map (·.1))[pre.length]? =some i:=by rw [←h];simp
 rw [List.getElem?_map] at e;obtain⟨p,hp,rfl⟩:=Option.map_eq_some_iff.1 e;obtain⟨h1,h2,h3⟩:=znq y 8 p (List.mem_of_getElem? hp);refine⟨?_,h2,h1▸h3⟩;unfold zim;rw [List.getElem?_append_right (by simp)];simp [hp,h1]
theorem ztg (y:Nat→Int):(zim y).length=4+((zb3 y 8).map (·.1)).length:=by simp [zim];omega
theorem zjy {n j:Nat} (f:Nat→Int) (h:j < n):(rowA n f)[j]? =some (qI (f j)):=by simp [rowA,h]
theorem WdAt.bad {b g c k:Nat} {ws:List Int} {W:World} (h:WdAt b g c ws k W):WdAt b g c ws k (W.setCell ⟨b,2,none⟩ (.bool false)):=
 ⟨(zbh h.blk).trans rfl,fun j x hj=>⟨(World.cell?_of_block (w:=W) (w':=W.setCell ⟨b,2,none⟩ (.bool false)) (a:=⟨g,j,none⟩) (Below.heap_setCell _ _ _ _ h.ne)).trans (h.wds j x hj).1,(h.wds j x hj).2⟩,h.len,h.ne⟩
theorem zqw {B:Nat} {S:Nat→Prop} {X Y:World} (hs:Save S X Y) (h:∀ k,S k→k < B):KeepsFrom B X Y:=⟨hs.size,fun k o hB hk _=>(hs.block k (qLt hk) fun hS=>by have:=h k hS;omega).trans hk⟩
structure DT (b g c:Nat) (ws:List Int) (W0:World) (k:Nat) (X:World):Prop where
 rd:WdAt b g c ws k X
 s:Save (fun i=>i=b) W0 X
section
variable {b g c k k':Nat} {ws:List Int} {W0 X Y:World}
theorem DT.next (h:DT b g c ws W0 k X) (hr:WdAt b g c ws k' Y) (hs:Save (fun i=>i=b) X Y):DT b g c ws W0 k' Y:=⟨hr,h.s.trans hs fun _ _ e=>e⟩
theorem DT.below (h:DT b g c ws W0 k X) (hb:Below X.heap.size X Y):DT b g c ws W0 k Y:=⟨h.rd.save (Save.of_below hb (fun _=>False)) id id,h.s.trans (Save.of_below hb (fun i=>i=b)) fun _ _ e=>e⟩
theorem DT.other (h:DT b g c ws W0 k X) (hg:g < W0.heap.size) (hb:b < W0.heap.size) {S:Nat→Prop} (hs:Save S X Y) (hS:∀ i,S i→W0.heap.size≤i):DT b g c ws W0 k Y:=
 ⟨h.rd.save hs (fun e=>by have:=hS _ e;omega) (fun e=>by have:=hS _ e;omega),h.s.trans hs (fun i hi e=>by have:=hS _ e;omega)⟩
theorem DT.box0 (h:DT b g c ws W0 k X) (o:Obj) {n:Nat} (hn:W0.heap.size=n):∃ tb Y,X.heap.size=tb∧X.alloc o=Y∧n≤tb∧Y.heap[tb]? =some o∧DT b g c ws W0 k Y:=
 ⟨_,_,rfl,rfl,hn▸h.s.size,heap_alloc_new X o,h.below (qBr o)⟩
theorem DT.at (h:DT b g c ws W0 k X) {i:Nat} {o:Obj} (hi:W0.heap[i]? =some o) (hne:i≠b):X.heap[i]? =some o:=zap hi h.s hne
end
theorem zch (b:Nat):∀ (vs:List Value) (o:Nat) (W:World),Save (fun k=>k=b) W (W.setCells b o vs)
 | [],_,W=>Save.refl _ W
 |v :: vs,o,W=>(Save.set W b o v).trans (zch b vs (o+1) _) fun _ _ h=>h
theorem zA8 {n:Nat} {f h:Nat→Int} (e:∀ j,j < n→f j=h j):rowA n f=rowA n h:=by
 unfold rowA
 congr 1
 exact List.map_congr_left fun j hj=>by rw [e j (List.mem_range.1 hj)]
theorem zh6 {W:World} {b n:Nat} {f:Nat→Int} {t:TypeId} (h:W.heap[b]? =some (.cells (rowA n f) t (0,0))):W.rangeAt b 0 ((List.range n).map fun j=>qI (f j)):=fun j v hv=>by
 rw [Nat.zero_add,zaa h];unfold rowA;rw [List.getElem?_toArray];exact hv
theorem zkw {W:World} {b n:Nat} {f:Nat→Int} {t:TypeId} {old:List Value} (h:W.heap[b]? =some (.cells old.toArray t (0,0))) (hl:old.length=n):
  W.there b 0 (rowA n f).size∧(W.setCells b 0 (rowA n f).toList).heap[b]? =some (.cells (rowA n f) t (0,0)):=by
 refine⟨fun j hj=>?_,?_⟩
 ·have hj:j < n:=by simpa [rowA] using hj
  refine⟨?_,zab h _⟩;rw [zaa h,Nat.zero_add,Array.getElem?_eq_getElem (by simpa [hl] using hj)];rfl
 ·exact (zdc b t (rowA n f).toList [] old W h (by simp [rowA,hl])).trans (by simp)
theorem zrx (n:Nat) (f:Nat→Int):(rowA n f).all (·.oneCell')=true:=all_oneCell_toArray fun v hv=>by
 obtain⟨j,_,rfl⟩:=List.mem_map.1 hv;rfl
def zr6 (f:Nat→Int) (i:Nat):Nat→Int:=fun j=>if 3≤j∧¬ (19≤j∧j < 19+i) then 0 else f j
theorem zBc (f:Nat→Int) (i:Nat):(fun j=>if j=19+i then f (19+i) else zr6 f i j)=zr6 f (i+1):=by
 funext j;unfold zr6;by_cases e:j=19+i
 ·subst e
  rw [if_pos rfl,if_neg (by omega)]
 ·rw [if_neg e]
  by_cases h:3≤j∧¬ (19≤j∧j < 19+i)
  ·rw [if_pos h,if_pos (by omega)]
  ·rw [if_neg h,if_neg (by omega)]
theorem zDa (f:Nat→Int):rowA 23 (zr6 f 4)=rowA 23 (zhd 19 f []):=zA8 fun j hj=>by
 unfold zr6 zhd;by_cases h:3≤j∧j < 19
 ·rw [if_pos (by omega),if_pos ⟨h.1,h.2,by simp⟩]
 ·rw [if_neg (by omega),if_neg (fun e=>h ⟨e.1,e.2.1⟩)]
theorem zBt {s j:Nat} (hj:j < 32):j∈zae s↔s.testBit j=true:=by
 unfold zae;simp [hj]
end Go.Proofs.YtpbmmoneeoijaaaGreatDoor
namespace Go.Proofs.YtpbmmoneeoijaaaGreatDoor
open Go.RowKit Go.Deep Go.Shelf
set_option maxRecDepth 100000
set_option maxHeartbeats 8000000
theorem zpr (n:Nat) (hn:1≤n) (Bn n₀:Nat) (s:Nat) (w:World) (hs:s < 4294967296) (hn0:0 < n₀) (hc:w.cell? ⟨Bn,0,none⟩=some (qU s)) (hT:Tab w):
  SeqA Fence.wide n Tryz.prog 221 #[qP Bn] (fun x:Nat=>#[qI x]) (Below n₀) (fun _ _=>False) (fun pre x=>pre ++ [x] <+:zae s) (fun ys=>ys=zae s) w:=by
 intro l J W hW hoJ _ hY h0;have hc1:W.cell? ⟨Bn,0,none⟩=some (qU s):=(hW.cell (p:=⟨Bn,0,none⟩) (zcr hc)).trans hc;have hT1:Tab W:=hT.below hW hT.pos;have hlen:=zbm s;refine callsIn_of_wp Tryz.func221 rfl trivial ?_ rfl;simp only [Tryz.ntmps221,qPr,Nat.reduceAdd,Nat.reduceSub]
 gi_wp2
 gi_loopw [3] (fun p wr=>∃ (pre:List Nat) (x:Nat),p=qU x∧x < 4294967296∧zae s=pre ++ zae x∧Tab wr∧J pre wr)
  (fun p _=>(intOf p).toNat)
 case atStart=>exact⟨[],s,rfl,hs,rfl,hT1,h0⟩
 case round=>
  obtain⟨pre,x,rfl,hx,hb,hTr,hJr⟩:=hrel;by_cases hx0:x=0
  ·subst hx0
   gi_wp2
   go_end0
   exact⟨⟨_,rfl⟩,pre,by rw [hb,zpm];simp,hJr⟩
  ·have hst:=zjh hx0 hx
   have hlt:=zwi hx0;have t1:((x:Int) != 0)=true:=by simp;omega
   have t2:((x:Int) == 0)=false:=by simp;omega
   obtain⟨fn,tmps,assign,body,hy,hR⟩:=hY pre (Lib.ctz 32 x) wr hJr ⟨zae (x &&& (x - 1)),by rw [hb,hst];simp⟩;have e1:IntKind.u32.wrap ((x:Int) - 1)=((x - 1:Nat):Int):=by rw [IntKind.wrap_u32];omega
   have e2:bits BinOp.and IntKind.u32 (x:Int) ((x - 1:Nat):Int)=((x &&& (x - 1):Nat):Int):=bits_and_u32_nat x (x - 1) hx (by omega)
   gi_wp2_with (first
    |(refine⟨trivial,?_⟩;gi_at_call 222;refine (callsIn_wide.2 (zro x hx hx0 _ hTr)).mono ?_;rintro e w' ⟨rfl,rfl⟩)
    |(refine hR.mono ?_;clear hR;rintro e W3 ⟨rfl,hJ3,hk3,_⟩))
   go_roundw
   case rel=>exact⟨pre ++ [Lib.ctz 32 x],x &&& (x - 1),rfl,by omega,by rw [hb,hst];simp,hTr.below hk3 hn0,hJ3⟩
   case measure=>simp only [intOf];omega
attribute [local go_sem] Oper.semAt_some zaq
set_option maxRecDepth 100000
theorem zs7 (y:Nat→Int):zfy (zb3 y 8) < 256:=by
 refine Nat.lt_pow_two_of_testBit (n:=8) _ fun i hi=>?_;rw [zns y 8 (by omega)];simp only [decide_eq_false_iff_not];omega
theorem zw4 {b g c:Nat} {ws:List Int} {k:Nat} {w:World} (h:WdAt b g c ws k w) (y:Nat→Int) (hy:zxn y) (hws:∀ i x,(zim y)[i]? =some x→ws[k+i]? =some x) (hT:Tab w) (hb1:0 < b):
  Calls Tryz.prog 80 #[qP b] w fun e w'=>e=.returned (tv y)∧WdAt b g c ws (k+(zim y).length) w'∧Save (fun k=>k=b) w w':=by
 refine (callsIn_wide (n:=8)).1 ?_;have h1:1≤8:=by omega
 refine callsIn_of_wp_marks Tryz.func80 rfl trivial ?_ rfl;simp only [Tryz.ntmps80,qPr,Nat.reduceAdd,Nat.reduceSub];have hbw:b < w.heap.size:=(qLt h.blk);have e0:=hws 0 (y 0) rfl;have e1:=hws 1 (y 1) rfl;have e2:=hws 2 (y 2) rfl;have e3:=hws 3 ((zfy (zb3 y 8):Nat):Int) rfl;have hgw:g < w.heap.size:=zcr (h.wds _ _ e0).1;obtain⟨p,hp⟩:∃ p,w.heap.size=p:=⟨_,rfl⟩;obtain⟨V0,hV0⟩:∃ X,X=(w.alloc (qC #[qP b] 191)).alloc (qC qZ11 165):=⟨_,rfl⟩;obtain⟨W0,hW0⟩:∃ X,X=V0.drew:=⟨_,rfl⟩;have hB0:Below w.heap.size w W0:=by rw [hW0,hV0];exact ((qBr _).alloc (by simp) _).drew
 have r1:W0.heap[p]? =some (qC #[qP b] 191):=by rw [hW0,hV0,←hp];exact (Below.heap_alloc _ _ _ (by simp)).trans (heap_alloc_new w _)
 have r2:W0.heap[p+1]? =some (qC qZ11 165):=by
  rw [hW0,hV0,←hp];have:=heap_alloc_new (w.alloc (qC #[qP b] 191)) (qC qZ11 165);rw [World.size_alloc] at this;exact this
 have HSZ:=hid (show W0.heap.size=p+2 by rw [hW0];show V0.heap.size=p+2;rw [hV0,←hp];simp);have HD:=hid (show DT b g c ws W0 k W0 from ⟨h.save (Save.of_below hB0 (fun _=>False)) id id,Save.refl _ _⟩);have hb0:b < W0.heap.size:=by rw [HSZ.out];omega
 have hg0:g < W0.heap.size:=by rw [HSZ.out];omega
 have R0:=hid fun (k:Nat) (X:World) (hX:DT b g c ws W0 k X)=>zaa (hX.at r1 (by omega)) 0;have RZ:=hid fun (k:Nat) (X:World) (hX:DT b g c ws W0 k X)=>hX.at r2 (by omega);have HS0:=hid (Save.of_below hB0 (fun i=>i=b));have HTA:=hid fun (k:Nat) (X:World) (hX:DT b g c ws W0 k X)=>show Tab X from fun j hj=>(World.cell?_of_block (w:=w) (w':=X) (a:=⟨0,j,none⟩) ((HS0.out.trans hX.s fun _ _ e=>e).block 0 (by omega) (fun e=>by omega))).trans (hT j hj);have HN0:=hid fun (X:World) (hX:DT b g c ws W0 k X)=>zcc hX.rd e0 4096 (hy.p 0 (by decide)).2;have HN1:=hid fun (X:World) (hX:DT b g c ws W0 (k+1) X)=>zcc hX.rd e1 4096 (hy.p 1 (by decide)).2;have HN2:=hid fun (X:World) (hX:DT b g c ws W0 (k+1+1) X)=>zcc hX.rd e2 4096 (hy.p 2 (by decide)).2;have HV0:=hid hV0;have HW0:=hid hW0;have HWS:=hid hws;clear e0 e1 e2 r1 r2 hW0 hV0 hB0 hT h hws;have HP:=hid hp;refine wpIn_wide.2 ?_
 go_upto_region 1 with fail
 rw [←HV0.out];rw [hp] at hbw hgw;clear hp HV0;refine (wpIn_wide (n:=8)).1 ?_;obtain⟨OZ,hOZ⟩:∃ o,Obj.cells qZ11 165=o:=⟨_,rfl⟩;have HOZ:=hid hOZ;clear hOZ;refine wpIn_mono (Q:=fun e a' X=>e=.normal∧∃ tb ag,a'= { tmps:=#[qP b,qP p,qP (p+1),qP tb,undef,qP b,qI (y 0),qP b,qI (y 1),qP b,qI (y 2),ag,undef,undef,undef,undef,undef,undef,undef,undef,undef,undef,undef,undef,undef,undef,undef,undef,undef,undef,undef,undef,undef,undef,undef,undef,undef],defers:=[] }∧DT b g c ws W0 (k+1+1+1) X∧X.heap[tb]? =some (Obj.cells (rowA 11 (zhd 11 y [])) 165)∧p+2≤tb) (wpIn_wide.2 ?_) ?_
 ·refine zan [1,3,5,6,7,8] (fun X=>X.cell? ⟨p,0,none⟩=some (qP b)) (by kernel_rfl) (by kernel_rfl) (by rw [←HW0.out];exact R0.out _ _ HD.out) ?_
  rw [←HW0.out];clear HW0;refine qFs fun K hK=>?_;go_simp;refine⟨qP b,fun X hX=>?_,hK _ ?_⟩
  ·go_simp
  clear hK K;refine qFc ?_;refine qFs fun K hK=>?_;go_simp;refine⟨qP b,fun X hX=>?_,hK _ ?_⟩
  ·go_simp
  clear hK K;refine qFc ?_;refine qFs fun K hK=>?_;go_simp;refine⟨qP b,fun X hX=>?_,hK _ ?_⟩
  ·go_simp
  clear hK K;refine qFc ?_;refine qFc ?_;refine qFc ?_;refine qFc ?_;refine za9 ?_;refine qT2 1 7 [3,5,6,7,8] [1,3,5,6,8] (fun K hK=>?_) fun K hK=>?_
  rotate_left
  go_wp2_with fail
  rw [HOZ.out];obtain⟨tb,X,h1,h2,h3,h4,h5⟩:=HD.out.box0 OZ HSZ.out;rw [h1,h2];have HTB:=hid h3;have HB:=hid h4;have HD:=hid h5;refine hK _ _ (R0.out _ _ HD.out) ?_;clear hK K h1 h2 h3 h4 h5
  all_goals try refine qT1 1 [3,5,6,8] fun K hK=>?_
  all_goals
   go_wp2_with (go_at_call 79;refine (HN0.out _ HD.out).mono ?_;rintro e X ⟨rfl,hr,hs⟩)
   have HD:=hid (HD.out.next hr hs)
   try have HB:=hid (zap HB.out hs (by have:=HTB.out;omega))
   refine hK _ _ (R0.out _ _ HD.out) ?_;clear hK K hr hs
  rotate_right
  refine qT2 3 7 [5,6,7,8] [3,5,6,8] (fun K hK=>?_) fun K hK=>?_
  rotate_left
  go_wp2_with fail
  rw [HOZ.out];obtain⟨tb,X,h1,h2,h3,h4,h5⟩:=HD.out.box0 OZ HSZ.out;rw [h1,h2];have HTB:=hid h3;have HB:=hid h4;have HD:=hid h5;refine hK _ _ (R0.out _ _ HD.out) ?_;clear hK K h1 h2 h3 h4 h5
  all_goals try refine qT1 3 [5,6,8] fun K hK=>?_
  all_goals
   go_wp2_with (go_at_call 79;refine (HN1.out _ HD.out).mono ?_;rintro e X ⟨rfl,hr,hs⟩)
   have HD:=hid (HD.out.next hr hs)
   try have HB:=hid (zap HB.out hs (by have:=HTB.out;omega))
   refine hK _ _ (R0.out _ _ HD.out) ?_;clear hK K hr hs
  rotate_right
  refine qT2 5 7 [6,7,8] [5,6,8] (fun K hK=>?_) fun K hK=>?_
  rotate_left
  go_wp2_with fail
  rw [HOZ.out];obtain⟨tb,X,h1,h2,h3,h4,h5⟩:=HD.out.box0 OZ HSZ.out;rw [h1,h2];have HTB:=hid h3;have HB:=hid h4;have HD:=hid h5;refine hK _ _ (R0.out _ _ HD.out) ?_;clear hK K h1 h2 h3 h4 h5
  all_goals try refine qT1 5 [6,8] fun K hK=>?_
  all_goals
   go_wp2_with (go_at_call 79;refine (HN2.out _ HD.out).mono ?_;rintro e X ⟨rfl,hr,hs⟩)
   have HD:=hid (HD.out.next hr hs)
   try have HB:=hid (zap HB.out hs (by have:=HTB.out;omega))
   refine hK _ _ (R0.out _ _ HD.out) ?_;clear hK K hr hs
  rotate_right
  refine qT2 6 7 [7,8] [6,8] (fun K hK=>?_) fun K hK=>?_
  rotate_left
  go_wp2_with fail
  rw [HOZ.out];obtain⟨tb,X,h1,h2,h3,h4,h5⟩:=HD.out.box0 OZ HSZ.out;rw [h1,h2];have HTB:=hid h3;have HB:=hid h4;have HD:=hid h5;refine hK _ _ (R0.out _ _ HD.out) ?_;clear hK K h1 h2 h3 h4 h5
  all_goals try refine qT1 6 [8] fun K hK=>?_
  all_goals
   go_wp2_with fail
   refine hK _ _ (R0.out _ _ HD.out) ?_;clear hK K
  rotate_right
  refine qT1 7 [8] fun K hK=>?_
  go_wp2_with fail
  rw [HOZ.out];obtain⟨tb,X,h1,h2,h3,h4,h5⟩:=HD.out.box0 OZ HSZ.out;rw [h1,h2];have HTB:=hid h3;have HB:=hid h4;have HD:=hid h5;refine hK _ _ (R0.out _ _ HD.out) ?_;clear hK K h1 h2 h3 h4 h5
  all_goals
    refine zby (m:=0) (i:=8) (rem1:=[]) (by kernel_rfl) (by rfl) (by rfl) (by kernel_rfl) (fun K hK=>?_);have hb:=HB.out;rw [←HOZ.out] at hb;have hth:World.there _ tb 0 11:=fun j hj=>by
     refine⟨?_,zab hb _⟩;rw [zaa hb,Nat.zero_add,Array.getElem?_eq_getElem (by exact hj)];rfl
    refine wpList_store_mid rfl 165 _ _ rfl tb 0 _ rfl rfl hth (by kernel_rfl) (by simp [Value.oneCell']) ?_;refine hK _ _ ?_;refine za2 ?_;exact⟨(by first|exact trivial|rfl),tb,_,rfl,HD.out.other hg0 hb0 (zch tb _ 0 _) (fun i e=>by subst e;rw [HSZ.out];exact HTB.out),zdc tb 165 _ [] _ _ hb rfl,HTB.out⟩
 rintro _ _ X ⟨rfl,tb,ag,rfl,hD3,hbx,htb⟩;have HD3:=hid hD3;have HTB:=hid htb;clear hD3 htb HN0 HN1 HN2 HOZ;have HBX:=hid (show X.heap[tb]? =some (Obj.cells (rowA 11 (zhd 11 y [])) 165) from hbx);clear hbx;have hU:=zs7 y;have HBU:=hid (zxh y);obtain⟨U,hUe⟩:∃ U,zfy (zb3 y 8)=U:=⟨_,rfl⟩;rw [hUe] at hU e3 HBU;clear hUe;have HN3:=hid (zcc HD3.out.rd e3 255 (by omega));have u0:(0:Int)≤(U:Int):=by omega
 have u1:(U:Int) < 4294967296:=by omega
 have huw:IntKind.u32.wrap (U:Int)=(U:Int):=by rw [IntKind.wrap_u32];omega
 have c0:=R0.out _ _ HD3.out;clear e3
 go_wp2_with (first|(go_at_call 79;refine HN3.out.mono ?_;rintro e X4 ⟨rfl,hr,hs⟩)|(go_at_call 159;refine (zdk _ _).mono ?_;rintro e Xa ⟨rfl,rfl⟩))
 have HD4:=hid (HD3.out.next hr hs);have HB4:=hid (zap HBX.out hs (by have:=HTB.out;omega));clear hr hs HN3 c0 HD3 HBX;obtain⟨s4,hs4⟩:∃ n,X4.heap.size=n:=⟨_,rfl⟩;have HS4:=hid (show tb < s4 from hs4▸(qLt HB4.out));have hcs:=heap_alloc_new X4 (qC #[qU (U:Nat)] 140);have hab:=qBr (w:=X4) (qC #[qU (U:Nat)] 140);have HDa:=hid (HD4.out.below hab);have HBa:=hid (qBa hab HB4.out);rw [hs4] at hcs ⊢;have HW7:=hid (show (X4.alloc (qC #[qU (U:Nat)] 140)).heap.size=s4+1 by rw [World.size_alloc,hs4]);clear hab hs4 HD4 HB4;generalize X4.alloc (qC #[qU (U:Nat)] 140)=W7 at HDa HBa HW7 hcs ⊢;refine (wpIn_wide (n:=8)).1 ?_;refine zf9 rfl h1 (gf:=221) (lb:=#[qP s4]) rfl trivial (enters_of Tryz.func221 (by kernel_rfl) rfl)
  (zpr (8 - 1) (by omega) s4 1 U W7 (by omega) (by decide) (zaa hcs 0) (HTA.out _ _ HDa.out)) belowK_t (belowK_b (by have:=HW7.out;omega)) (Below.refl _ _) (fun _=>rfl)
  (fun (q:List Nat) Z=>DT b g c ws W0 (k+4+q.length) Z∧Z.heap[tb]? =some (Obj.cells (rowA 11 (zhd 11 y q)) 165))
  (fun q Y Z row hz hg hr=>⟨hz.1.other hg0 hb0 (Save.of_grown hg) fun i e=>by have:=(hr i e).1;have:=HW7.out;have:=HS4.out;have:=HTB.out;have:=HSZ.out;omega,zap hz.2 (Save.of_grown hg) fun e=>by have:=(hr _ e).1;have:=HW7.out;have:=HS4.out;omega⟩)
  (fun _ _ hh=>hh.elim) (fun _ _ hh=>hh.elim) ⟨HDa.out,HBa.out⟩
  (fun (i:Nat) a' _=>a'= { tmps:=#[qP b,qP p,qP (p+1),qP tb,qI i,qP b,qI (y 0),qP b,qI (y 1),qP b,qI (y 2),ag,qP b,qI (U:Int),qU (U:Int),.func (.func 221) #[] #[qP s4],qI i,undef,undef,undef,undef,undef,undef,undef,undef,undef,undef,undef,undef,undef,undef,undef,undef,undef,undef,undef,undef],defers:=[] }) (fun x a' _ X Y row hz hg hr=>hz)
  ?assign ?body ?done
 case assign=>
  rintro l' q i Z K hI hK
  gi_wp2
  exact hK _ _ (KeepsFrom.refl _ _) (Below.refl _ _) hI rfl
 case body=>
  rintro l' q i a' Z hdl hlr ⟨hD,hB⟩ rfl ⟨rest,hfit⟩;rw [HBU.out] at hfit;obtain⟨hw,hi8,hpos⟩:=usesL_at hfit;have hw2:=HWS.out _ _ hw;rw [←Nat.add_assoc] at hw2;have HN4:=hid (zcc hD.rd hw2 4096 (hy.p (3+i) (by omega)).2);have HPF:=hid (zqp (n:=11) (k:=i) y q);obtain⟨v,hv⟩:∃ v,y (3+i)=v:=⟨_,rfl⟩;rw [hv] at HN4 hpos HPF;clear hfit hw hw2 hv;have i0:(0:Int)≤(i:Int):=by omega
  have i1:(i:Int) < 8:=by omega
  have hD:=hid hD;have hB:=hid hB;have c0:=R0.out _ _ hD.out;dsimp only
  gi_wp2_with (refine⟨trivial,?_⟩;gi_at_call 79;refine (callsIn_wide.2 HN4.out).mono ?_;rintro e Z5 ⟨rfl,hr,hs⟩;have h5:=zap hB.out hs (by have:=HTB.out;omega);have c5:=(zaa h5 (3+i)).trans (zjy _ (by omega));have f5:=zab h5 (3+i))
  have h5:=zap hB.out hs (by have:=HTB.out;omega);have HD5:=hid (hD.out.next hr hs);obtain⟨Z6,hZ6⟩:∃ X,X=Z5.setCell ⟨tb,3+i,none⟩ (qI v):=⟨_,rfl⟩;have hB6:Z6.heap[tb]? =some (Obj.cells (rowA 11 (zhd 11 y (q ++ [i]))) 165):=by rw [hZ6,zbh h5,zrw,HPF.out]
  have hS6:Save (fun j=>j=b∨j=tb) Z Z6:=by rw [hZ6];exact (hs.mono fun _ e=>.inl e).trans (Save.set Z5 tb (3+i) (qI v)) fun _ _ e=>.inr e
  have hD6:DT b g c ws W0 (k+4+q.length+1) Z6:=by rw [hZ6];exact HD5.out.other hg0 hb0 (Save.set Z5 tb (3+i) (qI v)) fun i e=>by subst e;rw [HSZ.out];exact HTB.out
  have ck:Z6.cell? ⟨tb,3+i,none⟩=some (qI v):=(zaa hB6 (3+i)).trans (by rw [←HPF.out,zjy _ (by omega),if_pos rfl]);have t0:((v:Int) == 0)=false:=beq_eq_false_iff_ne.2 (by omega);rw [←hZ6];clear hZ6 h5 HD5 hr hs HN4 c0 HPF;have CR:=Cls.cell (R0.out _ _ hD6);have C2:=Cls.cell (zaa hD6.rd.blk 2);have CK:=Cls.cell ck;have HD6:=hid hD6;have HB6:=hid hB6;have HS6:=hid hS6;clear hD6 hB6 hS6 ck;refine zf4 14 (by kernel_rfl) (by kernel_rfl) (by kernel_rfl) (by kernel_rfl) ?_;dsimp only [List.take,List.drop]
  repeat (go_big_quiet_step (fail))
  refine wpQuiet_nil ?_;intro _ hw';obtain⟨cq,rfl⟩:=hw';clear CR C2 CK;have hD7:=HD6.out.below cq.below;have hB7:=(cq.below.block _ (qLt HB6.out)).trans HB6.out;have HS7:=hid ((HS6.out.trans (Save.of_below cq.below (fun j=>j=b∨j=tb)) fun _ _ e=>e).trans (Save.set cq.wd b 2 (.bool false)) fun _ _ e=>.inl e);have HD7:=hid (hD7.next hD7.rd.bad (Save.set cq.wd b 2 (.bool false)));have HB7:=hid (zap hB7 (Save.set cq.wd b 2 (.bool false)) (by have:=HTB.out;omega));have c2:=zaa hD7.rd.blk 2;have y2:=zab hD7.rd.blk 2;clear hD7 hB7 HS6 HD6 HB6
  gi_wp2
  refine⟨zqw HS7.out fun j e=>by have:=HTB.out;have:=HW7.out;have:=HS4.out;omega,HS7.out.below (Below.refl _ _) (by have:=(qLt hB.out);omega) fun j e=>by have:=HTB.out;omega,?_,HB7.out⟩;rw [List.length_append,List.length_singleton,←Nat.add_assoc];exact HD7.out
 case done=>
  rintro D q X hD rfl ⟨hDT,hB⟩ hK;rw [HBU.out] at hDT hB;rw [zBd hy] at hB;have HDT:=hid hDT;have hz:=RZ.out _ _ hDT;have hDs:s4+1≤D:=by rw [←HW7.out];exact hD
  obtain⟨hth,hst⟩:=zkw (f:=y) hz (by rfl:_=11);have hS8:=zch (p+1) (rowA 11 y).toList 0 X;have hran:=zh6 hB;clear hDT hB
  gi_wp2
  go_wp2_with (first|(refine wpList_load_mid rfl 165 _ rfl tb 0 rfl _ _ hran Tryz.underlying165 rfl (by rw [List.length_map,List.length_range];kernel_rfl) ?_)|(refine wpList_store_mid rfl 165 _ _ rfl (p+1) 0 (rowA 11 y) rfl rfl hth (by rw [show (rowA 11 y).size=11 by simp [rowA]];kernel_rfl) (zrx 11 y) ?_))
  obtain⟨F,hF⟩:∃ F,F=X.setCells (p+1) 0 (rowA 11 y).toList:=⟨_,rfl⟩;rw [←hF] at hst hS8 ⊢;clear hF hth hran hz;have hpD:p+1 < D:=by have:=HTB.out;have:=HS4.out;omega
  have hK8:=zap hK hS8 (by omega);have hgr:=Save.of_grown (show F.grownBy (F.putObj D (.deferred none)) (some D) from ⟨rfl,rfl,rfl,by simp,fun k _ hne=>World.putObj_heap_other (fun e=>hne (by rw [e]))⟩);have hst2:=zap hst hgr (by intro e;cases e;omega);refine⟨by simp,.inl ⟨_,_,rfl,run_takeDeferred hK8,?_⟩⟩;refine⟨.agg (rowA 11 y),results_cell_row (p:=2) (ty:=165) rfl _ _ (p+1) _ _ _ _ (by rfl) hst2 Tryz.underlying165 rfl (by rw [show (rowA 11 y).size=11 by simp [rowA]];kernel_rfl),rfl,?_,?_⟩
  ·rw [ztg,←Nat.add_assoc]
   exact (HDT.out.rd.save hS8 (by omega) (by omega)).save hgr (fun e=>by cases e;omega) (fun e=>by cases e;omega)
  ·exact ((HS0.out.trans HDT.out.s fun _ _ e=>e).trans hS8 fun i hi e=>by have:=HP.out;omega).trans hgr fun i hi e=>by cases e;have:=HP.out;omega
end Go.Proofs.YtpbmmoneeoijaaaGreatDoor
namespace Go.Proofs.YtpbmmoneeoijaaaGreatDoor
open Go.RowKit
theorem znd {P:Program} {id:Nat} {Q:Exit→Act→World→Prop} {a:Act} {w:World} {l:List Oper} {n:Nat} (hm:P.follows .mixedOrders=true)
  (h:wpAnyIn Fence.wide n P .any l.toArray (Exit.then (Q .normal) fun _ _ _=>False) l.toArray.size (Array.replicate l.toArray.size false) a w.drew):(Code.region id l.toArray true).wpIn Fence.wide n P Q a w:=
 wpIn_mono (wpIn_region_draw fun t=>by
  simp only [Region.schedule,hm,Bool.true_or,if_true];exact wpAnyIn_sound l.toArray.size t _ a _ h) fun e a w hq=>by cases e<;>first|exact hq|exact hq.elim
theorem zgn {P:Program} {ops:Array Oper} {Q:Exit→Act→World→Prop} {n fuel:Nat} {listed:Array Bool} {a:Act} {w:World} {i j:Nat} {o1 o2:Oper} (v1 v2:Value)
  (hr:Region.ready .any ops listed=[i,j]) (h1:Region.ready .any ops (listed.setIfInBounds i true)=[j]) (h2:Region.ready .any ops (listed.setIfInBounds j true)=[i]) (ho1:ops[i]? =some o1) (ho2:ops[j]? =some o2) (hne:i≠j)
  (hc:(a.put o2.dst v2).put o1.dst v1=(a.put o1.dst v1).put o2.dst v2)
  (s1:∀ K:Act→World→Prop,K (a.put o1.dst v1) w→if Region.wanted o1 (yielded ops a.tmps)=true then Oper.wpIn Fence.wide n P o1 a w K Q else (∀ f,o1.about P w a.eval=some f→Fence.wide.fn f)∧K (a.put o1.dst undef) w)
  (s2:∀ K:Act→World→Prop,K ((a.put o1.dst v1).put o2.dst v2) w→if Region.wanted o2 (yielded ops (a.put o1.dst v1).tmps)=true then Oper.wpIn Fence.wide n P o2 (a.put o1.dst v1) w K Q else (∀ f,o2.about P w (a.put o1.dst v1).eval=some f→Fence.wide.fn f)∧K ((a.put o1.dst v1).put o2.dst undef) w)
  (s3:∀ K:Act→World→Prop,K (a.put o2.dst v2) w→if Region.wanted o2 (yielded ops a.tmps)=true then Oper.wpIn Fence.wide n P o2 a w K Q else (∀ f,o2.about P w a.eval=some f→Fence.wide.fn f)∧K (a.put o2.dst undef) w)
  (s4:∀ K:Act→World→Prop,K ((a.put o2.dst v2).put o1.dst v1) w→if Region.wanted o1 (yielded ops (a.put o2.dst v2).tmps)=true then Oper.wpIn Fence.wide n P o1 (a.put o2.dst v2) w K Q else (∀ f,o1.about P w (a.put o2.dst v2).eval=some f→Fence.wide.fn f)∧K ((a.put o2.dst v2).put o1.dst undef) w)
  (h:wpAnyIn Fence.wide n P .any ops Q fuel ((listed.setIfInBounds i true).setIfInBounds j true) ((a.put o1.dst v1).put o2.dst v2) w):wpAnyIn Fence.wide n P .any ops Q (fuel+2) listed a w:=by
 refine wpAnyIn_all hr (by simp) fun k hk=>?_;rcases List.mem_cons.1 hk with rfl|hk
 ·refine wpOpIn_step ho1 fun K hK=>s1 K (hK _ _ ?_)
  refine wpAnyIn_all h1 (by simp) fun k hk=>?_;obtain rfl:=List.mem_singleton.1 hk;exact wpOpIn_step ho2 fun K hK=>s2 K (hK _ _ h)
 ·obtain rfl:=List.mem_singleton.1 hk
  refine wpOpIn_step ho2 fun K hK=>s3 K (hK _ _ ?_);refine wpAnyIn_all h2 (by simp) fun k hk=>?_;obtain rfl:=List.mem_singleton.1 hk;refine wpOpIn_step ho1 fun K hK=>s4 K (hK _ _ ?_);rw [hc,Array.setIfInBounds_comm _ _ (Ne.symm hne)];exact h
theorem zvb {P:Program} {ops:Array Oper} {Q:Exit→Act→World→Prop} {n fuel:Nat} {listed:Array Bool} {a:Act} {w:World} (fuel':Nat) (listed':Array Bool) (a':Act) (C:World→Prop)
  (h2:∀ X,C X→wpAnyIn Fence.wide n P .any ops Q fuel' listed' a' X) (h1:(∀ X l b,l=listed'→b=a'→C X→wpAnyIn Fence.wide n P .any ops Q fuel' l b X)→wpAnyIn Fence.wide n P .any ops Q fuel listed a w):wpAnyIn Fence.wide n P .any ops Q fuel listed a w:=
 h1 fun X l b hl hb hc=>by subst hl hb;exact h2 X hc
end Go.Proofs.YtpbmmoneeoijaaaGreatDoor
namespace Go.Proofs.YtpbmmoneeoijaaaGreatDoor
open Go.RowKit Go.Deep Go.Shelf
set_option maxRecDepth 100000
set_option maxHeartbeats 8000000
structure KpE (n₀:Nat) (A C:World):Prop where
 below:Below n₀ A C
 keep:∀ (b:Nat) (cs:Array Value) (t:TypeId),t≠39→t≠28→A.heap[b]? =some (Obj.cells cs t (0,0))→C.heap[b]? =some (Obj.cells cs t (0,0))
theorem KpE.t {n₀:Nat} {A C D:World} (h:KpE n₀ A C) (k:KpE n₀ C D):KpE n₀ A D:=⟨h.below.trans k.below,fun b cs t h1 h2 hb=>k.keep b cs t h1 h2 (h.keep b cs t h1 h2 hb)⟩
theorem KpE.refl (n₀:Nat) (A:World):KpE n₀ A A:=⟨Below.refl _ _,fun _ _ _ _ _ h=>h⟩
theorem KpE.b {n₀:Nat} {w:World} (hn:n₀≤w.heap.size) (W:World) (l:Nat) (o o':Obj) (hl:w.heap.size≤l) (h:W.heap[l]? =some o) (hc:o.isCells=false) (hw:o.isWalk=false):KpE n₀ W (W.putObj l o'):=
 ⟨belowK_b hn W l o o' hl h hc hw,fun b cs t _ _ hb=>(World.putObj_heap_other fun e=>by subst e;rw [h] at hb;cases hb;cases hc).trans hb⟩
theorem KpE.of_below {n₀:Nat} {W X:World} (h:n₀≤W.heap.size) (hb:Below W.heap.size W X):KpE n₀ W X:=⟨hb.mono h,fun b _ _ _ _ hc=>(hb.block b (qLt hc)).trans hc⟩
theorem KpE.set {n₀:Nat} {A C:World} (h:KpE n₀ A C) (hn:n₀≤A.heap.size) {b:Nat} (hb:A.heap.size≤b) (o:Nat) (v:Value):KpE n₀ A (C.setCell ⟨b,o,none⟩ v):=
 ⟨h.below.setCell (by show n₀≤b;omega) v,fun c cs t h1 h2 hc=>(Below.heap_setCell C ⟨b,o,none⟩ v c (by have:=(qLt hc);show c≠b;omega)).trans (h.keep c cs t h1 h2 hc)⟩
def SetB (n₀:Nat) (X Y:World):Prop:=∃ b c v,n₀≤b∧X.heap[b]? =some (qC #[c] 4)∧Y=X.setCell ⟨b,0,none⟩ v
structure EncJ (l:Nat) (N B n₀:Nat) (J:List Int→World→Prop):Prop where
 own:OwnFrom B J
 st:∀ X Y,SetB n₀ X Y→∀ s,J s X→J s Y
 y:∀ pre (x:Int) W1,J pre W1→pre.length < N→YieldAt Fence.wide 8 Tryz.prog l #[qI x] W1 fun e W'=>e=.returned (.bool true)∧J (pre ++ [x]) W'∧KpE n₀ W1 W'∧KeepsFrom B W1 W'
section
variable {l N B n₀:Nat} {J:List Int→World→Prop}
theorem EncJ.below (h:EncJ l N B n₀ J) {s:List Int} {X Y:World} (hj:J s X) (hb:Below X.heap.size X Y):J s Y:=h.own s X _ none hj ⟨hb.os,hb.tape,hb.output,hb.size,fun k hk _=>hb.block k hk⟩ (fun r e=>by cases e)
end
structure MB (B n₀:Nat) (J:List Int→World→Prop) (p:Nat) (cs:Array Value) (ty:TypeId) (w:World) (s:List Int) (X:World):Prop where
 j:J s X
 t:X.heap[p]? =some (Obj.cells cs ty)
 k:KpE n₀ w X
 m:KeepsFrom B w X
theorem ze6 {B:Nat} {X Y:World} (h:Below X.heap.size X Y):KeepsFrom B X Y:=⟨h.size,fun k _o _ hk _=>(h.block k (qLt hk)).trans hk⟩
section
variable {l N B n₀:Nat} {J:List Int→World→Prop} {cs:Array Value} {ty:TypeId} {p:Nat} {w X Y:World} {s:List Int}
theorem MB.below (hE:EncJ l N B n₀ J) (h:MB B n₀ J p cs ty w s X) (hn:n₀≤w.heap.size) (hb:Below X.heap.size X Y):MB B n₀ J p cs ty w s Y:=
 ⟨hE.below h.j hb,qBa hb h.t,h.k.t (KpE.of_below (Nat.le_trans hn h.k.below.size) hb),h.m.trans (ze6 hb)⟩
theorem MB.next (h:MB B n₀ J p cs ty w s X) (h1:ty≠39) (h2:ty≠28) {s':List Int} (hj:J s' Y) (hk:KpE n₀ X Y) (hm:KeepsFrom B X Y):MB B n₀ J p cs ty w s' Y:=
 ⟨hj,hk.keep _ _ _ h1 h2 h.t,h.k.t hk,h.m.trans hm⟩
end
def EncA (J:List Int→World→Prop) (B n₀:Nat) (pre ws:List Int) (W:World) (e:Ending) (W':World):Prop:=e=.returned (.bool true)∧J (pre ++ ws) W'∧KpE n₀ W W'∧KeepsFrom B W W'
end Go.Proofs.YtpbmmoneeoijaaaGreatDoor
