/-
  A part of the proof: Kit Law Row Yield Mask LawLaid Check CheckSum Demand.
-/
import Derived.Test.YtpbmmoneeoijaaaGreatDoorRows
import Derived.WalkKit
import Derived.WalkLawsBesides
import Derived.WalkSpells
import Derived.Outline
import Derived.RegionTactic
import Derived.ChangeAlike
import Derived.Deep.QuietTactic
import Derived.BigQuiet
import Derived.ProofKit
import Derived.OpenShut
import Derived.SizedLaws
import Derived.Lib.SmallJoins
import Derived.RangeFuncNested
import Derived.RangeFuncBound
import Derived.RangeFuncCalls
import Derived.RangeFuncLeaves
import Derived.RangeFuncFrom
import Derived.RangeFuncBox
import Derived.Maps.AppendAt
import Derived.Shelf.Abstract
import Derived.Shelf.RegionOpen
import Derived.OwnWalkIn
import Derived.TacticsInMore
import Derived.LoopNIn
import Derived.LoopIn
import Derived.Shelf.Spec.TrailingZeros
import Derived.Test.YtpbmmoneeoijaaaGreatDoorCards
import Derived.Test.YtpbmmoneeoijaaaGreatDoorTie
import Derived.Lib.LaidTab
import Derived.LaidMore
import Derived.LaidLaws
import Derived.MakeChecks
import Derived.SevenTiedAt
import Derived.Stop.Joined
namespace Go.Proofs.YtpbmmoneeoijaaaGreatDoor
abbrev qI (n:Int):Value:=.int .i64 n
abbrev qU (n:Int):Value:=.int .u32 n
abbrev qP (b:Nat):Value:=.pointer (some ⟨b,0,none⟩)
abbrev qC (c:Array Value) (t:TypeId) (f:Nat×Nat:=(0,0)):Obj:=.cells c t f
abbrev qZ8:Array Value:=#[qI 0,qI 0,qI 0,qI 0,qI 0,qI 0,qI 0,qI 0]
abbrev qZ11:Array Value:=#[qI 0,qI 0,qI 0,qI 0,qI 0,qI 0,qI 0,qI 0,qI 0,qI 0,qI 0]
abbrev qZ16:Array Value:=#[qI 0,qI 0,qI 0,qI 0,qI 0,qI 0,qI 0,qI 0,qI 0,qI 0,qI 0,qI 0,qI 0,qI 0,qI 0,qI 0]
abbrev qZ23:Array Value:=#[qI 0,qI 0,qI 0,qI 0,qI 0,qI 0,qI 0,qI 0,qI 0,qI 0,qI 0,qI 0,qI 0,qI 0,qI 0,qI 0,qI 0,qI 0,qI 0,qI 0,qI 0,qI 0,qI 0]
abbrev qF8 (f:Nat→Int):Array Value:=#[qI (f 0),qI (f 1),qI (f 2),qI (f 3),qI (f 4),qI (f 5),qI (f 6),qI (f 7)]
abbrev qF11 (f:Nat→Int):Array Value:=#[qI (f 0),qI (f 1),qI (f 2),qI (f 3),qI (f 4),qI (f 5),qI (f 6),qI (f 7),qI (f 8),qI (f 9),qI (f 10)]
abbrev qF16 (f:Nat→Int):Array Value:=#[qI (f 0),qI (f 1),qI (f 2),qI (f 3),qI (f 4),qI (f 5),qI (f 6),qI (f 7),qI (f 8),qI (f 9),qI (f 10),qI (f 11),qI (f 12),qI (f 13),qI (f 14),qI (f 15)]
abbrev qF23 (f:Nat→Int):Array Value:=#[qI (f 0),qI (f 1),qI (f 2),qI (f 3),qI (f 4),qI (f 5),qI (f 6),qI (f 7),qI (f 8),qI (f 9),qI (f 10),qI (f 11),qI (f 12),qI (f 13),qI (f 14),qI (f 15),qI (f 16),qI (f 17),qI (f 18),qI (f 19),qI (f 20),qI (f 21),qI (f 22)]
theorem qPr:(∀ l:List Value,l.toArray.size=l.length)∧(∀ (a:Value) (l:List Value),(a :: l).length=l.length+1)∧([]:List Value).length=0∧(∀ (n:Nat) (x:Value),Array.replicate (n+1) x=(Array.replicate n x).push x)∧(∀ x:Value,Array.replicate 0 x=#[])∧(∀ (l:List Value) (x:Value),l.toArray.push x=(l ++ [x]).toArray)∧(∀ l k:List Value,l.toArray ++ k.toArray=(l ++ k).toArray)∧(∀ l:List Value,[] ++ l=l)∧(∀ (a:Value) (l k:List Value),(a :: l) ++ k=a :: (l ++ k)):=by
 simp [Array.replicate_succ]
theorem qLt {α:Type} {a:Array α} {i:Nat} {x:α} (h:a[i]? =some x):i < a.size:=(Array.getElem?_eq_some_iff.1 h).1
theorem qBr {w:World} (o:Obj):Go.RowKit.Below w.heap.size w (w.alloc o):=(Go.RowKit.Below.refl _ _).alloc (Nat.le_refl _) o
open Go.RowKit
theorem hid {p:Prop} (h:p):Hid p:=h
def zov (ops:Array Oper):Nat→List Oper→Bool
 |_,[]=>true
 |k,o :: rest=>o.after.all (fun e=>!Region.binds .any e || decide (e.on < k)) && rest.all (fun p=>p.after.any (fun e=>Region.binds .any e && e.on == k) || o.apart ops p) && zov ops (k+1) rest
def lexQ (l:List Oper):Bool:=Region.noSelect l.toArray && zov l.toArray 0 l
theorem zqt (ops:Array Oper):∀ (l:List Oper) (k:Nat) (listed:Array Bool),k+l.length=ops.size→(∀ j,l[j]? =ops[k+j]?)→listed.size=ops.size→
  (∀ j,j < ops.size→listed[j]? =some (decide (j < k)))→zov ops k l=true→Region.lexFrom .any ops l.length k listed=true
 | [],k,listed,hsz,_,_,hlist,_=>by
  simp only [List.length_nil,Region.lexFrom,List.isEmpty_iff];unfold Region.ready;rw [List.filter_eq_nil_iff];intro i hi;rw [List.mem_range] at hi;rw [Array.getD_eq_getD_getElem?,hlist i hi];simp only [List.length_nil] at hsz;simp [show i < k by omega]
 |o :: rest,k,listed,hsz,hl,hls,hlist,h=>by
  simp only [zov,Bool.and_eq_true] at h;obtain⟨⟨h1,h2⟩,h3⟩:=h;have hko:ops[k]? =some o:=by have:=hl 0;simpa using this.symm
  have hk:k < ops.size:=by simp only [List.length_cons] at hsz;omega
  have hget:∀ j b,j < ops.size→listed.getD j b=decide (j < k):=fun j b hj=>by rw [Array.getD_eq_getD_getElem?,hlist j hj];rfl
  have hout:∀ j b,ops.size≤j→listed.getD j b=b:=fun j b hj=>by rw [Array.getD_eq_getD_getElem?,Array.getElem?_eq_none (by omega)];rfl
  simp only [List.length_cons,Region.lexFrom,Bool.and_eq_true];refine⟨⟨?_,?_⟩,?_⟩
  ·rw [List.contains_iff_mem]
   unfold Region.ready;rw [List.mem_filter,List.mem_range];refine⟨hk,?_⟩;rw [hget k true hk,hko];simp only [Nat.lt_irrefl,decide_false,Bool.not_false,Bool.true_and,Option.map_some,Option.getD_some];rw [Array.all_eq_true_iff_forall_mem] at h1 ⊢;intro e he;have:=h1 e he;simp only [Bool.or_eq_true,decide_eq_true_iff] at this ⊢;rcases this with h|h
   ·exact .inl h
   ·right;rw [hget _ _ (by omega)];simp [h]
  ·unfold Region.free
   rw [hko];simp only [List.all_eq_true,List.mem_range];intro j hj;by_cases hjk:j < k
   ·rw [hget j true hj];simp [hjk]
   ·by_cases hje:j=k
    ·simp [hje]
    ·have hjr:rest[j - k - 1]? =ops[j]?:=by
      have:=hl (j - k);rw [show k+(j - k)=j by omega] at this;rw [←this,List.getElem?_cons,if_neg (by omega)]
     obtain⟨p,hp⟩:∃ p,ops[j]? =some p:=⟨_,Array.getElem?_eq_getElem hj⟩;rw [hp] at hjr ⊢;have:=List.all_eq_true.1 h2 p (List.mem_of_getElem? hjr);simp only [Bool.or_eq_true] at this ⊢;right;exact this
  ·refine zqt ops rest (k+1) _ (by simp only [List.length_cons] at hsz;omega) (fun j=>?_) (by simpa using hls) (fun j hj=>?_) h3
   ·have:=hl (j+1)
    rw [show k+(j+1)=k+1+j by omega] at this;simpa using this
   ·rw [Array.getElem?_setIfInBounds]
    by_cases hjk:k=j
    ·subst hjk;simp [hls,hk]
    ·rw [if_neg hjk,hlist j hj]
     congr 1
     rw [decide_eq_decide];omega
theorem zDo {l:List Oper} (h:lexQ l=true):Region.lexB .any l.toArray=true:=by
 unfold lexQ at h;simp only [Bool.and_eq_true] at h;unfold Region.lexB;rw [Bool.and_eq_true];refine⟨h.1,?_⟩;have:=zqt l.toArray l 0 (Array.replicate l.toArray.size false) (by simp) (by simp) (by simp) (fun j hj=>by simp at hj;simp [hj]) h.2;simpa using this
structure Cls (w:World) where
 wd:World
 below:Below w.heap.size w wd
instance (w:World):Nonempty (Cls w):=⟨⟨w,Below.refl _ _⟩⟩
theorem zag {P:Program} {id:Nat} {Q:Exit→Act→World→Prop} {a:Act} {w:World} {l:List Oper} (hm:P.follows .mixedOrders=true) (hB:lexQ l=true)
  (h:wpQuiet P l.toArray (fun w'=>∃ i:Cls w,w'=i.wd) (fun a'=>∀ w',(∃ i:Cls w,w'=i.wd)→Q .normal a' w') l a):(Code.region id l.toArray true).wp P Q a w:=
 wp_region_quiet (C:=fun w'=>∃ i:Cls w,w'=i.wd) hm (zDo hB) ⟨⟨w.drew,(Below.refl _ _).drew⟩,rfl⟩ (by simpa using h)
theorem Calls.cls {P:Program} {f:FuncId} {args:Array Value} {w:World} (i:Cls w) {v:Value}
  (h:Calls P f args i.wd fun e w'=>e=.returned v∧Below i.wd.heap.size i.wd w'):Calls P f args i.wd fun e w''=>e=.returned v∧∃ j:Cls w,w''=j.wd:=
 h.mono fun _ w' ⟨he,hb⟩=>⟨he,⟨w',i.below.trans (hb.mono i.below.size)⟩,rfl⟩
theorem Calls.below {P:Program} {f:FuncId} {args:Array Value} {w:World} {v:Value} (h:Calls P f args w fun e w'=>e=.returned v∧w=w'):
  Calls P f args w fun e w'=>e=.returned v∧Below w.heap.size w w':=
 h.mono fun _ _ ⟨he,hw⟩=>⟨he,hw▸Below.refl _ _⟩
theorem zcr {w:World} {a:Addr} {v:Value} (h:w.cell? a=some v):a.block < w.heap.size:=by
 unfold World.cell? at h;rcases Nat.lt_or_ge a.block w.heap.size with h1|h1
 ·exact h1
 ·rw [Array.getElem?_eq_none h1] at h;cases h
theorem Cls.cell {w:World} {a:Addr} {v:Value} (h:w.cell? a=some v) (i:Cls w):i.wd.cell? a=some v:=(i.below.cell (zcr h)).trans h
theorem qBa {W W':World} {b:Nat} {o:Obj} (hb:RowKit.Below W.heap.size W W') (h:W.heap[b]? =some o):W'.heap[b]? =some o:=(hb.block _ (Array.getElem?_eq_some_iff.1 h).1).trans h
end Go.Proofs.YtpbmmoneeoijaaaGreatDoor
namespace Go.Proofs.YtpbmmoneeoijaaaGreatDoor
open Go.ChangeShapes Go.WideShapes Go.ChangeAt Go.RowKit
theorem own:ownKnob Tryz.prog.godebug=none:=by kernel_rfl
theorem laid:laidOutB Tryz.prog=true:=by kernel_rfl
theorem boolType:Tryz.prog.underlying 4=some .bool:=Tryz.underlying4
section
variable {H:Type} {enc:TypeId×Value→H} {P:Program} {W W':World}
theorem zjn (hl:laidOutB P=true) (hb:Below W.heap.size W W'):∀ {ts:List TypeId} {vs:List Value} {ds:List (DataW H)} {ps:List MemPlace},(ts.all fun t=>P.readableRec t && decide (t < P.types.size))=true→
  DataW.TrodAll enc P W 0 (fun _=>true) true ts vs ds ps→(∀ x∈ps,x.block < W.heap.size)→DataW.TrodAll enc P W' 0 (fun b=>decide (b < W.heap.size)) true ts vs ds ps
 | [],[],[],_,_,h,_=>h
 |t :: ts,_ :: _,_ :: _,_,hr,⟨p,q,h1,h2,e⟩,hlt=>by
  simp only [List.all_cons,Bool.and_eq_true,decide_eq_true_iff] at hr;exact⟨p,q,Below.trod hl hr.1.1 hr.1.2 h1 hb fun x hx=>hlt x (by rw [e];exact List.mem_append_left _ hx),
   zjn hl hb hr.2 h2 fun x hx=>hlt x (by rw [e];exact List.mem_append_right _ hx),e⟩
theorem law_post {f:Func} {s:ChangeSpec} {args:Array Value} {ds:List (DataW H)} {before:List MemPlace} {t:TypeId} (hl:laidOutB P=true) (hvars:s.vars=[])
  (hread:(f.params.toList.all fun t=>P.readableRec t && decide (t < P.types.size))=true) (hres:f.resultTypes=#[t]) (ht:P.underlying t=some .bool)
  (hspec:s.fn H (ds ++ [])= { results:=[.lit (.bool true)],args:=ds }) (hW:DataW.Whole enc P f.params.toList s.vars false W args.toList ds [] before) (hb:Below W.heap.size W W'):
  s.post enc P f false true false false W args (.bool true) W':=by
 have hW':=hW;have hlt:∀ x∈before,x.block < W.heap.size:=fun x hx=>by simpa using hW'.lt x hx
 obtain⟨p,q,hA,hV,rfl,hfz,_⟩:=hW;have hq:q=[]:=by
  rw [hvars] at hV;exact (trodVars_none hV).2
 subst hq;refine⟨ds,[],p ++ [],[],p,[],hW',?_,?_,?_,hb.frame _,fun h=>by cases h⟩
 ·rw [hspec,hres]
  exact trodAll_mk1 (shut_bool ht _)
 ·rw [hspec]
  exact zjn hl hb hread hA fun x hx=>hlt x (List.mem_append_left _ hx)
 ·rw [hspec,hvars]
  rfl
end
end Go.Proofs.YtpbmmoneeoijaaaGreatDoor
namespace Go.Proofs.YtpbmmoneeoijaaaGreatDoor
open Go.RowKit Go.ChangeShapes Go.WideShapes Go.ChangeAt
def Row (w:World) (ao:Option Addr) (n:Nat) (f:Nat→Value):Prop:=∀ i,i < n→∃ b o,ao=some ⟨b,o,none⟩∧w.cell? ⟨b,o+i,none⟩=some (f i)
theorem zbn (b o j:Nat):(⟨b,o,none⟩:Addr).add j=⟨b,o+j,none⟩:=by
 unfold Addr.add
 split
 ·rename_i h;subst h;rfl
 ·rfl
theorem own_form {w:World} {base:Nat} {e:TypeId} {v:Value} {n:Nat} {xs:List Value} (h:w.ownsRow base e 1 v n xs) (hn:0 < n):
  ∃ g cap,v=.slice (some ⟨g,0,none⟩) n cap∧base≤g∧g < w.heap.size∧n≤cap∧(∀ j,j < n→w.cell? ⟨g,j,none⟩=xs[j]?)∧(∀ j,w.frozen? ⟨g,j,none⟩=false):=by
 rcases h.2 with ⟨_,h2⟩|⟨g,cap,cur,rfl,hb,hh,hc,_⟩
 ·omega
 ·exact⟨g,cap,rfl,hb,(h.lt g rfl).2,hc,fun j hj=>h.cellAt j (by omega),fun j=>h.frozenAt j⟩
end Go.Proofs.YtpbmmoneeoijaaaGreatDoor
namespace Go.Proofs.YtpbmmoneeoijaaaGreatDoor
open Go.RowKit Go.Shelf
theorem zu8 {F:Fence} (hd:F.depth=none) (k:Nat):F.room k:=fun d h=>by rw [hd] at h;cases h
theorem zak {F:Fence} (hd:F.depth=none) {m m':Nat} {P:Program} {l:Nat} {f:FuncId} {tmps:Array Value} {assign body:Code} {w:World} {R:Ending→World→Prop}
  (h:RoundIn F m P l f tmps assign body w R):RoundIn F m' P l f tmps assign body w R:=⟨h.1,fun c cs _=>h.2 c cs (zu8 hd _)⟩
theorem y_free {F:Fence} (hd:F.depth=none) {m:Nat} (m':Nat) {P:Program} {l:Nat} {args:Array Value} {W:World} {R:Ending→World→Prop} (h:YieldAt F m P l args W R):YieldAt F m' P l args W R:=by
 obtain⟨fn,tmps,assign,body,hy,hR⟩:=h;exact⟨fn,tmps,assign,body,hy,zak hd hR⟩
structure zcf (B:Nat) (W W':World):Prop where
 size:W.heap.size≤W'.heap.size
 same:∀ k,B≤k→k < W.heap.size→W'.heap[k]? =W.heap[k]?
theorem zcf.at_ {B:Nat} {X Y:World} (h:zcf B X Y) {k:Nat} {o:Obj} (hB:B≤k) (hk:X.heap[k]? =some o):Y.heap[k]? =some o:=(h.same k hB (qLt hk)).trans hk
theorem zcf.keeps {B:Nat} {X Y:World} (h:zcf B X Y):KeepsFrom B X Y:=⟨h.size,fun _k _o hB hk _=>h.at_ hB hk⟩
theorem zcf.of_below {B:Nat} {X Y:World} (h:Below X.heap.size X Y):zcf B X Y:=⟨h.size,fun _ _ hk=>h.block _ hk⟩
theorem za6 {β:Type} {B b:Nat} {o:Obj} {J:β→World→Prop} (hJ:OwnFrom B J) (hb:b < B):OwnFrom B (fun s W=>J s W∧W.heap[b]? =some o):=fun s X Y row hs hg hr=>
 ⟨hJ s X Y row hs.1 hg hr,(hg.block b (qLt hs.2) (fun e=>by have:=(hr b e.symm).1;omega)).trans hs.2⟩
attribute [local go_sem] Oper.semAt_some
def Tab (w:World):Prop:=TabAt 0 Lib.deBruijn32tab w
theorem Tab.below {n:Nat} {w w':World} (h:Tab w) (hb:Below n w w') (hn:0 < n):Tab w':=fun j hj=>(hb.cell (p:=⟨0,j,none⟩) hn).trans (h j hj)
theorem Tab.pos {w:World} (h:Tab w):0 < w.heap.size:=zcr (h 0 (by decide))
def zae (s:Nat):List Nat:=(List.range 32).filter fun i=>s.testBit i
theorem zpm:zae 0=[]:=by simp [zae]
theorem zbm (s:Nat):(zae s).length≤32:=by
 unfold zae;exact Nat.le_trans (List.length_filter_le _ _) (by simp)
theorem zuj (p:Nat→Bool) (k n:Nat) (hk:k < n) (hp:p k=true) (hl:∀ i,i < k→p i=false):(List.range n).filter p=k :: (List.range n).filter (fun i=>p i && decide (i≠k)):=by
 have e:List.range n=List.range k ++ (k :: List.range' (k+1) (n - k - 1)):=by
  have h1:=List.range'_append_1 (s:=0) (m:=k) (n:=n - k);rw [show k+(n - k)=n by omega,Nat.zero_add,show n - k=(n - k - 1)+1 by omega,List.range'_succ] at h1;rw [List.range_eq_range',List.range_eq_range',←h1]
 rw [e,List.filter_append,List.filter_append,List.filter_cons,List.filter_cons];have h1:(List.range k).filter p=[]:=by
  rw [List.filter_eq_nil_iff];intro i hi;rw [hl i (by simpa using hi)];simp
 have h2:(List.range k).filter (fun i=>p i && decide (i≠k))=[]:=by
  rw [List.filter_eq_nil_iff];intro i hi;rw [hl i (by simpa using hi)];simp
 rw [h1,h2,if_pos hp];simp only [List.nil_append,ne_eq,not_true_eq_false,decide_false,Bool.and_false,Bool.false_eq_true,if_false,List.cons.injEq,true_and];apply List.filter_congr;intro i hi;have:=List.mem_range'_1.1 hi;simp;intro _;omega
theorem zpn (k m j:Nat):(2 ^ k * (2 * m+1)).testBit j=if j < k+1 then decide (k=j) else m.testBit (j - (k+1)):=by
 have e:2 ^ k * (2 * m+1)=2 ^ (k+1) * m+2 ^ k:=by rw [Nat.pow_succ,Nat.mul_add];simp [Nat.mul_assoc]
 rw [e,Nat.testBit_two_pow_mul_add _ (Nat.pow_lt_pow_right (by decide) (by omega)),Nat.testBit_two_pow]
theorem zqd (k m j:Nat):(2 ^ k * (2 * m+1) - 1).testBit j=if j < k+1 then decide (j < k) else m.testBit (j - (k+1)):=by
 have hp:0 < 2 ^ k:=Nat.pow_pos (by decide);have e:2 ^ k * (2 * m+1) - 1=2 ^ (k+1) * m+(2 ^ k - 1):=by
  rw [Nat.pow_succ,Nat.mul_add];have:2 ^ k * (2 * m)=2 ^ k * 2 * m:=by rw [Nat.mul_assoc]
  omega
 rw [e,Nat.testBit_two_pow_mul_add _ (by have:=Nat.pow_lt_pow_right (a:=2) (by decide) (show k < k+1 by omega);omega),Nat.testBit_two_pow_sub_one]
theorem zjh {s:Nat} (h0:s≠0) (hs:s < 4294967296):zae s=Lib.ctz 32 s :: zae (s &&& (s - 1)):=by
 obtain⟨m,hm,hk⟩:=Lib.ctzFrom_spec 32 s (by omega) hs;have e:Lib.ctz 32 s=Lib.ctzFrom 32 s:=by simp [Lib.ctz,h0]
 rw [e];generalize Lib.ctzFrom 32 s=k at hm hk;subst hm;unfold zae;rw [zuj _ k 32 hk (by rw [zpn];simp) (fun i hi=>by rw [zpn,if_pos (by omega)];simp;omega)]
 congr 1
 apply List.filter_congr;intro i _;rw [Nat.testBit_and,zpn,zqd];by_cases h:i < k+1
 ·simp only [if_pos h]
  by_cases hi:k=i
  ·subst hi;simp
  ·simp [hi]
 ·simp only [if_neg h]
  have:i≠k:=by omega
  simp [this]
theorem zwi {s:Nat} (h0:s≠0):s &&& (s - 1) < s:=Nat.lt_of_le_of_lt Nat.and_le_right (by omega)
theorem zCs (x k idx:Nat) (w:World) (hx0:((x:Int) == 0)=false)
  (key:bits BinOp.and IntKind.u32 (x:Int) (-(x:Int) % 4294967296) * 125613361 % 4294967296 / 134217728=(idx:Int))
  (hi:idx < 32) (hk:k < 32) (hcell:w.cell? ⟨0,idx,none⟩=some (.int .u8 k)):
  Calls Tryz.prog 222 #[qU x] w fun e w'=>e=.returned (qI k)∧w'=w:=by
 go_enter Tryz.func222,Tryz.ntmps222
 go_wp2_with (simp only [key])
 go_ret;exact⟨rfl,rfl⟩
theorem zro (x:Nat) (hx:x < 4294967296) (hx0:x≠0) (w:World) (hT:Tab w):
  Calls Tryz.prog 222 #[qU x] w fun e w'=>e=.returned (qI (Lib.ctz 32 x))∧w'=w:=by
 obtain⟨hlow,hk⟩:=Lib.lowest_bit 32 x hx0 hx;obtain⟨hi,htab⟩:=Lib.deBruijn32_at _ hk;have hcell:=hT _ hi;rw [htab] at hcell;exact zCs x _ _ w (by simp;omega) (tz32_key x _ hx hx0 hlow) hi hk hcell
set_option maxRecDepth 100000 in
set_option maxHeartbeats 2000000 in
theorem zCj (n:Nat) (hn:1≤n) (Bn n₀:Nat) (s:Nat) (w:World) (hs:s < 4294967296) (hn0:0 < n₀) (hc:w.cell? ⟨Bn,0,none⟩=some (qU s)) (hT:Tab w):
  SeqStopsK Fence.wide n Tryz.prog 221 #[qP Bn] (fun x:Nat=>#[qI x]) (Below n₀) (fun ys=>ys=zae s) (fun pre=>pre <+:zae s) 32 w:=by
 intro l J Jx W hW hJ hJx hY h0;have hc1:W.cell? ⟨Bn,0,none⟩=some (qU s):=(hW.cell (p:=⟨Bn,0,none⟩) (zcr hc)).trans hc;have hT1:Tab W:=hT.below hW hT.pos;have hlen:=zbm s;refine callsIn_of_wp Tryz.func221 rfl trivial ?_ rfl;simp only [Tryz.ntmps221,qPr,Nat.reduceAdd,Nat.reduceSub]
 gi_wp2
 gi_loopw [3] (fun p wr=>∃ (pre:List Nat) (x:Nat),p=qU x∧x < 4294967296∧zae s=pre ++ zae x∧Tab wr∧J pre wr)
  (fun p _=>(intOf p).toNat)
 case atStart=>exact⟨[],s,rfl,hs,rfl,hT1,h0⟩
 case round=>
  obtain⟨pre,x,rfl,hx,hb,hTr,hJr⟩:=hrel;by_cases hx0:x=0
  ·subst hx0
   gi_wp2
   go_end0
   exact⟨⟨_,rfl⟩,.inl ⟨pre,by rw [hb,zpm];simp,hJr⟩⟩
  ·have hst:=zjh hx0 hx
   have hlt:=zwi hx0;have t1:((x:Int) != 0)=true:=by simp;omega
   have t2:((x:Int) == 0)=false:=by simp;omega
   obtain⟨fn,tmps,assign,body,hy,hR⟩:=hY pre (Lib.ctz 32 x) wr hJr (by rw [hst] at hb;have:=congrArg List.length hb;simp at this;omega);have e1:IntKind.u32.wrap ((x:Int) - 1)=((x - 1:Nat):Int):=by rw [IntKind.wrap_u32];omega
   have e2:bits BinOp.and IntKind.u32 (x:Int) ((x - 1:Nat):Int)=((x &&& (x - 1):Nat):Int):=bits_and_u32_nat x (x - 1) hx (by omega)
   gi_wp2_with (first
    |(refine⟨trivial,?_⟩;gi_at_call 222;refine (callsIn_wide.2 (zro x hx hx0 _ hTr)).mono ?_;rintro e w' ⟨rfl,rfl⟩)
    |(refine hR.mono ?_;clear hR;rintro e W3 (⟨rfl,hJ3,hk3⟩|⟨rfl,hJx3⟩)))
   ·go_roundw
    case rel=>exact⟨pre ++ [Lib.ctz 32 x],x &&& (x - 1),rfl,by omega,by rw [hb,hst];simp,hTr.below hk3 hn0,hJ3⟩
    case measure=>simp only [intOf];omega
   ·refine bodyPost_ret (results_none rfl _ _ _) rfl ?_
    exact⟨⟨_,rfl⟩,.inr ⟨pre ++ [Lib.ctz 32 x],⟨zae (x &&& (x - 1)),by rw [hb,hst];simp⟩,hJx3⟩⟩
end Go.Proofs.YtpbmmoneeoijaaaGreatDoor
namespace Go.Proofs.YtpbmmoneeoijaaaGreatDoor
open Go.ChangeShapes Go.WideShapes Go.ChangeAt Go.RowKit
set_option maxRecDepth 100000
def zwj:List (String×DataW Unit):=[("math/bits.deBruijn32tab",Rows.laid_math_bits_deBruijn32tab)]
theorem gTab:Tryz.prog.globalNamed "math/bits.deBruijn32tab" =some 0:=by kernel_rfl
theorem tTab:(Tryz.prog.globals[0]?).map (·.type)=some 403:=by kernel_rfl
def zrq:List Int:=Lib.deBruijn32tab.map fun n:Nat=>(n:Int)
theorem laid_eq:(Rows.laid_math_bits_deBruijn32tab:DataW Unit)=Lib.tabData .u8 zrq:=by kernel_rfl
theorem zvj {W:World} (h:laidMetH Tryz.prog zwj W):Tab W:=by
 rw [MakeChecks.laidMetH_plain _ _ _ (by kernel_rfl)] at h;have h':laidMet Tryz.prog (("math/bits.deBruijn32tab",Lib.tabData .u8 zrq) :: []) W:=by
  rw [←laid_eq];exact h
 have ht:=Lib.tabIs_of_head gTab tTab Tryz.underlying403 Tryz.underlying5 (by kernel_rfl) (by kernel_rfl) h';intro j hj;have:=ht.cell gTab j (by simpa [zrq] using hj);rw [this];simp only [zrq,List.getD_eq_getElem?_getD,List.getElem?_map,List.getElem?_eq_getElem hj,Option.map_some,Option.getD_some]
theorem door_met (os:Os) (args:Array Value):laidMetH Tryz.prog zwj ((World.doorLaid Tryz.prog 14 os).forCall (fun _ _=>0) ⟨#[],args,[]⟩).memory:=
 laidMetH_of_parts3 (fuel:=8) (laidMet_of_run' 8 (by kernel_rfl) (by kernel_rfl)) (by kernel_rfl) (by kernel_rfl)
section
variable {H:Type} {enc:TypeId×Value→H}
theorem law_laid {os:Os} (started:os.Started) {fid:FuncId} {f:Func} {s:ChangeSpec} {t:TypeId} (hvars:s.vars=[])
  (noInit:Tryz.prog.inits.idxOf? fid=none) (hf:Tryz.prog.funcs[fid]? =some f)
  (hread:(f.params.toList.all fun t=>Tryz.prog.readableRec t && decide (t < Tryz.prog.types.size))=true) (hres:f.resultTypes=#[t]) (ht:Tryz.prog.underlying t=some .bool)
  (witness:∃ (w:World) (tape:Tape) (i:Input),w.os=os∧(w.forCall tape i).Shaped Tryz.checked.prog∧i.vars=[]∧Input.okWide Tryz.checked.prog (w.forCall tape i) .any w.heap.size fid i∧
   ((s.pre enc Tryz.checked.prog f [] false (w.forCall tape i).memory i.args∧laidMetH Tryz.prog zwj (w.forCall tape i).memory)∧sizedMet enc Tryz.checked.prog f (OpenSpec.ofChange s) false (w.forCall tape i).memory i.args)∧({}:Assume).holds Tryz.checked.prog (lone (Frame.enter Tryz.checked.prog fid i.args .normal) [] (w.forCall tape i)))
  (hspec:∀ ds:List (DataW H),ds.length=f.params.toList.length→s.fn H (ds ++ [])= { results:=[.lit (.bool true)],args:=ds })
  (walk:∀ (W:World) (base:Nat) (args:Array Value) (ds:List (DataW H)) (p:List MemPlace),(∀ (j:Nat) t v,f.params[j]? =some t→args[j]? =some v→Value.okWide Tryz.prog W .any base t v)→
   DataW.TrodAll enc Tryz.prog W 0 (fun _=>true) true f.params.toList args.toList ds p→Tab W→
   Calls Tryz.prog fid args W fun e W'=>e=.returned (.bool true)∧Below W.heap.size W W'):
  ReturnsInHanded {} Tryz.checked os fid .any (fun w args=>(s.pre enc Tryz.prog f [] false w args∧laidMetH Tryz.prog zwj w)∧sizedMet enc Tryz.prog f (OpenSpec.ofChange s) false w args) (s.post enc Tryz.prog f false true false false):=by
 refine returnsInHanded_of_change_and (C:=Tryz.checked) (X:=fun w _=>laidMetH Tryz.prog zwj w) (fun _ _ _ hh h=>h.of_heap hh) own started noInit hf witness ?_;intro W base args ds gs before hval hW _ _ hL _;have hW':=hW;obtain⟨p,q,hA,hV,rfl,hfz,hnd⟩:=hW;have hg:gs=[]∧q=[]:=by rw [hvars] at hV;exact trodVars_none hV
 obtain⟨rfl,rfl⟩:=hg;have hlen:ds.length=f.params.toList.length:=by
  have:∀ {ts:List TypeId} {vs:List Value} {ds:List (DataW H)} {ps:List MemPlace},DataW.TrodAll enc Tryz.prog W 0 (fun _=>true) true ts vs ds ps→ds.length=ts.length:=fun {ts}=>by
   induction ts with
   |nil=>intro vs ds ps h;cases vs<;>cases ds<;>first|rfl|exact h.elim
   |cons t ts ih=>
    intro vs ds ps h
    cases vs<;>cases ds<;>first|exact h.elim|skip
    obtain⟨_,_,_,h2,_⟩:=h;simp [ih h2]
  exact this hA
 refine (walk W base args ds p hval hA (zvj hL)).mono ?_;rintro e W' ⟨rfl,hb⟩;exact⟨_,rfl,law_post laid hvars hread hres ht (hspec ds hlen) hW' hb⟩
end
end Go.Proofs.YtpbmmoneeoijaaaGreatDoor
namespace Go.Proofs.YtpbmmoneeoijaaaGreatDoor
open Go.RowKit
def inB (n:Int):Bool:=decide (0≤n∧n≤1099511627776)
theorem zgt {n:Int} (h:inB n=true):0≤n∧n≤1099511627776:=of_decide_eq_true h
theorem inB_no {n:Int} (h:inB n=false):n < 0∨1099511627776 < n:=by
 have:=of_decide_eq_false h;omega
@[go_sem] def rv (r:Int×Bool):Value:=.tuple #[qI r.1,.bool r.2]
def addR (a b:Int):Int×Bool:=if inB a && inB b && decide (a+b≤1099511627776) then (a+b,true) else (0,false)
def mulR (a b:Int):Int×Bool:=if inB a && inB b && decide (a * b≤1099511627776) then (a * b,true) else (0,false)
def upR (a b:Int):Int×Bool:=if inB a && inB b && !(b == 0) then ((a+b - 1) / b,true) else (0,false)
def zmx (a b:Int):Int×Bool:=if inB a && inB b then (max (a - b) 0,true) else (0,false)
theorem zdt (n:Int) (w:World):Calls Tryz.prog 314 #[qI n] w fun e w'=>e=.returned (.bool (inB n))∧w=w':=by
 cases h:inB n
 ·have H:=hid h
  have h':=inB_no h;clear h;rcases Int.lt_or_le n 0 with h1|h1
  ·go_enter Tryz.func314,Tryz.ntmps314
   go_wp2;go_ret;exact⟨by rfl,rfl⟩
  ·have h2:decide (n≤1099511627776)=false:=by simp;omega
   go_enter Tryz.func314,Tryz.ntmps314;go_wp2;go_ret;exact⟨by rfl,rfl⟩
 ·have H:=hid h
  have h':=zgt h;obtain⟨h1,h2⟩:=h';clear h;go_enter Tryz.func314,Tryz.ntmps314;go_wp2;go_ret;exact⟨by rfl,rfl⟩
theorem tdiv_le {a b c:Int} (hb:0 < b):a≤c / b↔a * b≤c:=Int.le_ediv_iff_mul_le hb
theorem zxk (a b:Int) (w:World):Calls Tryz.prog 306 #[qI a,qI b] w fun e w'=>e=.returned (rv (addR a b))∧w=w':=by
 cases ha:inB a
 ·have H:Hid (addR a b=(0,false)):=by show _=_;unfold addR;rw [ha];rfl
  go_enter Tryz.func306,Tryz.ntmps306
  go_wp2_with (go_at_call 314;refine (zdt _ _).mono ?_;rintro e w' ⟨rfl,rfl⟩)
  go_ret2;exact⟨by rw [H.out];rfl,rfl⟩
 ·cases hb:inB b
  ·have H:Hid (addR a b=(0,false)):=by show _=_;unfold addR;rw [ha,hb];rfl
   go_enter Tryz.func306,Tryz.ntmps306
   go_wp2_with (go_at_call 314;refine (zdt _ _).mono ?_;rintro e w' ⟨rfl,rfl⟩)
   go_ret2;exact⟨by rw [H.out];rfl,rfl⟩
  ·obtain⟨a1,a2⟩:=zgt ha
   obtain⟨b1,b2⟩:=zgt hb;rcases Int.lt_or_le 1099511627776 (a+b) with h|h
   ·have H:Hid (addR a b=(0,false)):=by show _=_;unfold addR;rw [if_neg (by simp;intros;omega)]
    have h':1099511627776 - a < b:=by omega
    go_enter Tryz.func306,Tryz.ntmps306
    go_wp2_with (go_at_call 314;refine (zdt _ _).mono ?_;rintro e w' ⟨rfl,rfl⟩)
    go_ret2;exact⟨by rw [H.out];rfl,rfl⟩
   ·have H:Hid (addR a b=(a+b,true)):=by show _=_;unfold addR;rw [ha,hb,decide_eq_true h];rfl
    have h':b≤1099511627776 - a:=by omega
    go_enter Tryz.func306,Tryz.ntmps306
    go_wp2_with (go_at_call 314;refine (zdt _ _).mono ?_;rintro e w' ⟨rfl,rfl⟩)
    go_ret2;exact⟨by rw [H.out];rfl,rfl⟩
theorem mul_any (a b:Int) (w:World):Calls Tryz.prog 319 #[qI a,qI b] w fun e w'=>e=.returned (rv (mulR a b))∧w=w':=by
 cases ha:inB a
 ·have H:Hid (mulR a b=(0,false)):=by show _=_;unfold mulR;rw [ha];rfl
  go_enter Tryz.func319,Tryz.ntmps319
  go_wp2_with (go_at_call 314;refine (zdt _ _).mono ?_;rintro e w' ⟨rfl,rfl⟩)
  go_ret2;exact⟨by rw [H.out];rfl,rfl⟩
 ·cases hb:inB b
  ·have H:Hid (mulR a b=(0,false)):=by show _=_;unfold mulR;rw [ha,hb];rfl
   go_enter Tryz.func319,Tryz.ntmps319
   go_wp2_with (go_at_call 314;refine (zdt _ _).mono ?_;rintro e w' ⟨rfl,rfl⟩)
   go_ret2;exact⟨by rw [H.out];rfl,rfl⟩
  ·obtain⟨a1,a2⟩:=zgt ha
   obtain⟨b1,b2⟩:=zgt hb;by_cases h0:b=0
   ·subst h0
    have H:Hid (mulR a 0=(0,true)):=by show _=_;unfold mulR;rw [ha,hb];simp
    go_enter Tryz.func319,Tryz.ntmps319
    go_wp2_with (go_at_call 314;refine (zdt _ _).mono ?_;rintro e w' ⟨rfl,rfl⟩)
    go_ret2;exact⟨by rw [H.out];rfl,rfl⟩
   ·have b3:1≤b:=by omega
    have b4:(b == 0)=false:=by simp [h0]
    have b5:(b != 0)=true:=by simp [h0]
    have hd:=tdiv_le (a:=a) (c:=1099511627776) (by omega:0 < b);clear h0;rcases Int.lt_or_le (1099511627776 / b) a with h|h
    ·have H:Hid (mulR a b=(0,false)):=by
      show _=_;unfold mulR;rw [if_neg (by simp;intros;omega)]
     clear hd;go_enter Tryz.func319,Tryz.ntmps319
     go_wp2_with (go_at_call 314;refine (zdt _ _).mono ?_;rintro e w' ⟨rfl,rfl⟩)
     go_ret2;exact⟨by rw [H.out];rfl,rfl⟩
    ·have hm:a * b≤1099511627776:=hd.1 h
     have hm0:0≤a * b:=Int.mul_nonneg a1 b1;have H:Hid (mulR a b=(a * b,true)):=by show _=_;unfold mulR;rw [ha,hb,decide_eq_true hm];rfl
     clear hd;go_enter Tryz.func319,Tryz.ntmps319
     go_wp2_with (go_at_call 314;refine (zdt _ _).mono ?_;rintro e w' ⟨rfl,rfl⟩)
     go_ret2;exact⟨by rw [H.out];rfl,rfl⟩
theorem up_eq {a b:Int} (hb:1≤b):(a - 1) / b+1=(a+b - 1) / b:=by
 rw [show a+b - 1=(a - 1)+1 * b by omega,Int.add_mul_ediv_right _ _ (by omega)]
theorem up_zero {b:Int} (hb:1≤b):(0+b - 1) / b=0:=Int.ediv_eq_zero_of_lt (by omega) (by omega)
theorem up_any (a b:Int) (w:World):Calls Tryz.prog 321 #[qI a,qI b] w fun e w'=>e=.returned (rv (upR a b))∧w=w':=by
 cases ha:inB a
 ·have H:Hid (upR a b=(0,false)):=by show _=_;unfold upR;rw [ha];rfl
  go_enter Tryz.func321,Tryz.ntmps321
  go_wp2_with (go_at_call 314;refine (zdt _ _).mono ?_;rintro e w' ⟨rfl,rfl⟩)
  go_ret2;exact⟨by rw [H.out];rfl,rfl⟩
 ·cases hb:inB b
  ·have H:Hid (upR a b=(0,false)):=by show _=_;unfold upR;rw [ha,hb];rfl
   go_enter Tryz.func321,Tryz.ntmps321
   go_wp2_with (go_at_call 314;refine (zdt _ _).mono ?_;rintro e w' ⟨rfl,rfl⟩)
   go_ret2;exact⟨by rw [H.out];rfl,rfl⟩
  ·obtain⟨a1,a2⟩:=zgt ha
   obtain⟨b1,b2⟩:=zgt hb;by_cases h0:b=0
   ·subst h0
    have H:Hid (upR a 0=(0,false)):=by show _=_;unfold upR;rw [ha,hb];rfl
    go_enter Tryz.func321,Tryz.ntmps321
    go_wp2_with (go_at_call 314;refine (zdt _ _).mono ?_;rintro e w' ⟨rfl,rfl⟩)
    go_ret2;exact⟨by rw [H.out];rfl,rfl⟩
   ·have b3:1≤b:=by omega
    have b4:(b == 0)=false:=by simp [h0]
    have b5:(b != 0)=true:=by simp [h0]
    have H:Hid (upR a b=((a+b - 1) / b,true)):=by show _=_;unfold upR;rw [ha,hb,b4];rfl
    clear h0;by_cases h1:a=0
    ·subst h1
     have H2:=hid (up_zero b3);go_enter Tryz.func321,Tryz.ntmps321
     go_wp2_with (go_at_call 314;refine (zdt _ _).mono ?_;rintro e w' ⟨rfl,rfl⟩)
     go_ret2;exact⟨by rw [H.out,H2.out];rfl,rfl⟩
    ·have a3:1≤a:=by omega
     have a4:(a == 0)=false:=by simp [h1]
     have H2:=hid (up_eq (a:=a) b3);have q0:0≤(a - 1) / b:=Int.ediv_nonneg (by omega) (by omega);have q1:(a - 1) / b≤a - 1:=Int.ediv_le_self _ (by omega);clear h1;go_enter Tryz.func321,Tryz.ntmps321
     go_wp2_with (go_at_call 314;refine (zdt _ _).mono ?_;rintro e w' ⟨rfl,rfl⟩)
     go_ret2;exact⟨by rw [H.out,←H2.out];rfl,rfl⟩
theorem less_any (a b:Int) (w:World):Calls Tryz.prog 320 #[qI a,qI b] w fun e w'=>e=.returned (rv (zmx a b))∧w=w':=by
 cases ha:inB a
 ·have H:Hid (zmx a b=(0,false)):=by show _=_;unfold zmx;rw [ha];rfl
  go_enter Tryz.func320,Tryz.ntmps320
  go_wp2_with (go_at_call 314;refine (zdt _ _).mono ?_;rintro e w' ⟨rfl,rfl⟩)
  go_ret2;exact⟨by rw [H.out];rfl,rfl⟩
 ·cases hb:inB b
  ·have H:Hid (zmx a b=(0,false)):=by show _=_;unfold zmx;rw [ha,hb];rfl
   go_enter Tryz.func320,Tryz.ntmps320
   go_wp2_with (go_at_call 314;refine (zdt _ _).mono ?_;rintro e w' ⟨rfl,rfl⟩)
   go_ret2;exact⟨by rw [H.out];rfl,rfl⟩
  ·obtain⟨a1,a2⟩:=zgt ha
   obtain⟨b1,b2⟩:=zgt hb;rcases Int.lt_or_le a b with h|h
   ·have H:Hid (zmx a b=(0,true)):=by show _=_;unfold zmx;rw [ha,hb];simp;omega
    have h':a - b < 0:=by omega
    go_enter Tryz.func320,Tryz.ntmps320
    go_wp2_with (go_at_call 314;refine (zdt _ _).mono ?_;rintro e w' ⟨rfl,rfl⟩)
    go_ret2;exact⟨by rw [H.out];rfl,rfl⟩
   ·have H:Hid (zmx a b=(a - b,true)):=by show _=_;unfold zmx;rw [ha,hb];simp;omega
    have h':0≤a - b:=by omega
    go_enter Tryz.func320,Tryz.ntmps320
    go_wp2_with (go_at_call 314;refine (zdt _ _).mono ?_;rintro e w' ⟨rfl,rfl⟩)
    go_ret2;exact⟨by rw [H.out];rfl,rfl⟩
end Go.Proofs.YtpbmmoneeoijaaaGreatDoor
namespace Go.Proofs.YtpbmmoneeoijaaaGreatDoor
open Go.RowKit Go.Shelf
attribute [local go_sem] Oper.semAt_some
theorem zba (W:World) (v:Value) (t:TypeId):(W.alloc (.cells #[v] t)).cell? ⟨W.heap.size,0,none⟩=some v∧(W.alloc (.cells #[v] t)).frozen? ⟨W.heap.size,0,none⟩=false:=
 ⟨World.cell?_alloc_at _ _ _ _ rfl,World.frozen?_alloc_at _ _ _ _ rfl⟩
theorem zcs {W:World} {a:Addr} {v:Value} (o:Obj) (h:W.cell? a=some v):(W.alloc o).cell? a=some v:=cell_kept h (World.grownBy_alloc W o none) (fun r e=>by cases e)
theorem zd8 {W:World} {a:Addr} {v:Value} (o:Obj) (h:W.cell? a=some v) (hf:W.frozen? a=false):(W.alloc o).frozen? a=false:=(frozen_kept h (World.grownBy_alloc W o none) (fun r e=>by cases e)).trans hf
def sumF (acc:Int):List Int→Option Int
 | []=>some acc
 |x :: l=>if (addR acc x).2 then sumF (addR acc x).1 l else none
def rSum (l:List Int):Int×Bool:=match sumF 0 l with|some n=>(n,true)|none=>(0,false)
theorem zn1 (l m:List Int) (acc:Int):sumF acc (l ++ m)=(sumF acc l).bind fun a=>sumF a m:=by
 induction l generalizing acc with
 |nil=>rfl
 |cons x l ih=>
  simp only [List.cons_append,sumF]
  split
  ·exact ih _
  ·rfl
theorem zvk {l m:List Int} (h:l <+:m) (hn:sumF 0 l=none):sumF 0 m=none:=by
 obtain⟨t,rfl⟩:=h;rw [zn1,hn];rfl
set_option maxRecDepth 100000 in
set_option maxHeartbeats 2000000 in
theorem sum_in (n:Nat) (hn:4≤n) (gf:Nat) (lb:Array Value) (xs:List Int) (N:Nat) (w:World)
  (eg:∀ args w,(callFunc gf args).run Tryz.prog w=.ok (.enter gf args) w)
  (hseq:SeqStopsK Fence.wide (n - 1) Tryz.prog gf lb (fun x:Int=>#[qI x]) (Below w.heap.size) (fun ys=>ys=xs) (fun pre=>pre <+:xs) N w):
  Calls Tryz.prog 312 #[.func (.func gf) #[] lb] w fun e W'=>e=.returned (rv (rSum xs))∧Below w.heap.size w W':=by
 refine (callsIn_wide (n:=n)).1 ?_;have h1:1≤n:=by omega
 refine callsIn_of_wp_marks Tryz.func312 rfl trivial ?_ rfl;simp only [Tryz.ntmps312,qPr,Nat.reduceAdd,Nat.reduceSub]
 gi_wp2
 have c0:=zba w (qI 0) 3;have c1:=zba (w.alloc (.cells #[qI 0] 3)) (.bool false) 4;have c2:=zba ((w.alloc (.cells #[qI 0] 3)).alloc (.cells #[.bool false] 4)) (qI 0) 3;simp only [World.size_alloc] at c1 c2;have hB0:Below w.heap.size w (((w.alloc (.cells #[qI 0] 3)).alloc (.cells #[.bool false] 4)).alloc (.cells #[qI 0] 3)):=((qBr (w:=w) _).alloc (by simp) _).alloc (by simp;omega) _;refine wpIn_rangeFunc_ownF rfl h1 (gf:=gf) (lb:=lb) rfl trivial eg hseq belowK_t (belowK_b (by simp;omega)) hB0 (fun _=>rfl)
  (fun pre W=>(∃ s,sumF 0 pre=some s∧W.cell? ⟨w.heap.size+1+1,0,none⟩=some (qI s)∧W.frozen? ⟨w.heap.size+1+1,0,none⟩=false∧W.cell? ⟨w.heap.size,0,none⟩=some (qI 0)∧W.frozen? ⟨w.heap.size,0,none⟩=false∧W.cell? ⟨w.heap.size+1,0,none⟩=some (.bool false)∧W.frozen? ⟨w.heap.size+1,0,none⟩=false)∧Below w.heap.size w W)
  (fun c pre W=>(c=.ret∧sumF 0 pre=none∧W.cell? ⟨w.heap.size,0,none⟩=some (qI 0)∧W.cell? ⟨w.heap.size+1,0,none⟩=some (.bool false))∧Below w.heap.size w W)
  (OwnFrom.and (Own.from (fun s A B row hs hg hr=>by
   obtain⟨s,h1,h2,h3,h4,h5,h6,h7⟩:=hs;exact⟨s,h1,cell_kept h2 hg hr,(frozen_kept h2 hg hr).trans h3,cell_kept h4 hg hr,(frozen_kept h4 hg hr).trans h5,cell_kept h6 hg hr,(frozen_kept h6 hg hr).trans h7⟩) _) (ownFrom_below (Nat.le_refl _) (by simp;omega)))
  (fun c=>OwnFrom.and (Own.from (fun s A B row hs hg hr=>⟨hs.1,hs.2.1,cell_kept hs.2.2.1 hg hr,cell_kept hs.2.2.2 hg hr⟩) _) (ownFrom_below (Nat.le_refl _) (by simp;omega)))
  ⟨⟨0,rfl,c2.1,c2.2,zcs _ (zcs _ c0.1),zd8 _ (zcs _ c0.1) (zd8 _ c0.1 c0.2),zcs _ c1.1,zd8 _ c1.1 c1.2⟩,hB0⟩
  (fun x=>{ tmps:=#[.func (.func gf) #[] lb,undef,qP w.heap.size,qP (w.heap.size+1),qP (w.heap.size+1+1),qI x,undef,undef,.func (.func gf) #[] lb,qI x,undef,undef,undef,undef,undef,undef,undef,undef,undef,undef],defers:=[] }) ?assign ?body ?done ?stop
 case assign=>
  intro l x W K hK
  gi_wp2
  exact hK
 case body=>
  rintro l pre x W ⟨⟨s,h1,h2,h3,h4,h5,h6,h7⟩,hB⟩ _;have h1':1≤n - 1 - 1:=by omega
  have hA:=hid (zxk s x);have hs:=hid (show sumF 0 (pre ++ [x])=if (addR s x).2 then some (addR s x).1 else none by rw [zn1,h1];rfl);obtain⟨⟨m,ok⟩,hx⟩:∃ y,addR s x=y:=⟨_,rfl⟩;rw [hx] at hA hs;cases ok
  ·gi_wp2_with (refine⟨trivial,?_⟩;gi_at_call 306;refine (CallsIn.inRound l (callsIn_wide.2 (hA.out _))).mono ?_;rintro e w' ⟨rfl,rfl⟩)
   exact⟨(KeepsOthers.setCell _ _ _).trans (KeepsOthers.setCell _ _ _),⟨rfl,by rw [hs.out];rfl,by simp [go_sem,h4],by simp [go_sem,h6]⟩,(hB.setCell (p:=⟨w.heap.size,0,none⟩) (Nat.le_refl _) _).setCell (p:=⟨w.heap.size+1,0,none⟩) (by simp) _⟩
  ·gi_wp2_with (refine⟨trivial,?_⟩;gi_at_call 306;refine (CallsIn.inRound l (callsIn_wide.2 (hA.out _))).mono ?_;rintro e w' ⟨rfl,rfl⟩)
   exact⟨KeepsOthers.setCell _ _ _,(Below.refl w.heap.size W).setCell (p:=⟨w.heap.size+1+1,0,none⟩) (by simp;omega) _,⟨m,by rw [hs.out];rfl,World.cell?_setCell_same' _ _ _ (by rw [h2];rfl),by rw [World.frozen?_setCell];exact h3,by simp [go_sem,h4],by simp [go_sem,h5],by simp [go_sem,h6],by simp [go_sem,h7]⟩,hB.setCell (p:=⟨w.heap.size+1+1,0,none⟩) (by simp;omega) _⟩
 case done=>
  rintro D ys W hD rfl ⟨⟨s,h1,h2,h3,h4,h5,h6,h7⟩,hB⟩ hK
  gi_wp2
  have hK':=((KeepsOthers.setCell W ⟨w.heap.size,0,none⟩ (qI s)).trans (KeepsOthers.setCell _ ⟨w.heap.size+1,0,none⟩ (.bool true))).same D _ hK rfl;refine⟨by simp,.inl ⟨_,_,rfl,run_takeDeferred hK',?_⟩⟩;have e0:((W.setCell ⟨w.heap.size,0,none⟩ (qI s)).setCell ⟨w.heap.size+1,0,none⟩ (.bool true)).cell? ⟨w.heap.size,0,none⟩=some (qI s):=by simp [go_sem,h4]
  have e1:((W.setCell ⟨w.heap.size,0,none⟩ (qI s)).setCell ⟨w.heap.size+1,0,none⟩ (.bool true)).cell? ⟨w.heap.size+1,0,none⟩=some (.bool true):=by simp [go_sem,h6]
  have g0:=cell_kept e0 (grownBy_putObj' _ D (.deferred none)) (fun r e=>by cases e;exact⟨_,hK',rfl⟩);have g1:=cell_kept e1 (grownBy_putObj' _ D (.deferred none)) (fun r e=>by cases e;exact⟨_,hK',rfl⟩);refine⟨rv (s,true),?_,by unfold rSum;rw [h1],((hB.setCell (p:=⟨w.heap.size,0,none⟩) (Nat.le_refl _) _).setCell (p:=⟨w.heap.size+1,0,none⟩) (by simp) _).trans (belowK_b (w:=w) (Nat.le_refl _) _ D _ _ (by simp at hD;omega) hK' rfl rfl)⟩;simp [results,Tryz.f312,go_sem,g0,g1]
 case stop=>
  rintro D c pre W hD hpre ⟨⟨rfl,hin,hc0,hc1⟩,hB⟩ hK
  gi_wp2
  refine⟨by simp,.inl ⟨_,_,rfl,run_takeDeferred hK,?_⟩⟩;have g0:=cell_kept hc0 (grownBy_putObj' _ D (.deferred none)) (fun r e=>by cases e;exact⟨_,hK,rfl⟩);have g1:=cell_kept hc1 (grownBy_putObj' _ D (.deferred none)) (fun r e=>by cases e;exact⟨_,hK,rfl⟩);refine⟨rv (0,false),?_,by unfold rSum;rw [zvk hpre hin],hB.trans (belowK_b (w:=w) (Nat.le_refl _) W D _ _ (by simp at hD;omega) hK rfl rfl)⟩;simp [results,Tryz.f312,go_sem,g0,g1]
end Go.Proofs.YtpbmmoneeoijaaaGreatDoor
namespace Go.Proofs.YtpbmmoneeoijaaaGreatDoor
open Go.RowKit
theorem zre {w w1:World} {u v x y:Value} {t:TypeId} (h:Below (w.alloc (qC #[u,v,x,y] t)).heap.size (w.alloc (qC #[u,v,x,y] t)) w1):
  w1.cell? ⟨w.heap.size,0,none⟩=some u∧w1.cell? ⟨w.heap.size,1,none⟩=some v∧w1.cell? ⟨w.heap.size,2,none⟩=some x∧w1.cell? ⟨w.heap.size,3,none⟩=some y:=
 ⟨(h.cell (p:=⟨w.heap.size,0,none⟩) (by simp)).trans (World.cell?_alloc_at _ _ _ _ rfl),(h.cell (p:=⟨w.heap.size,1,none⟩) (by simp)).trans (World.cell?_alloc_at _ _ _ _ rfl),(h.cell (p:=⟨w.heap.size,2,none⟩) (by simp)).trans (World.cell?_alloc_at _ _ _ _ rfl),(h.cell (p:=⟨w.heap.size,3,none⟩) (by simp)).trans (World.cell?_alloc_at _ _ _ _ rfl)⟩
theorem kept {w w1:World} {p:Addr} {v:Value} (c:w.cell? p=some v) (h:Below w.heap.size w w1):w1.cell? p=some v:=(h.cell (zcr c)).trans c
def zBz (p o t:Int):Int×Bool:=if (zmx t o).2 then upR (zmx t o).1 p else (0,false)
theorem jobs_any (p c o k t:Int) (w:World):Calls Tryz.prog 318 #[.agg #[qI p,qI c,qI o,qI k],qI t] w fun e w'=>e=.returned (rv (zBz p o t))∧Below w.heap.size w w':=by
 have HL:=hid (less_any t o);unfold zBz;obtain⟨⟨n,ok⟩,hx⟩:∃ x,zmx t o=x:=⟨_,rfl⟩;rw [hx] at HL ⊢;cases ok
 ·go_enter Tryz.func318,Tryz.ntmps318
  go_wp2_with (go_at_call 320;refine (HL.out _).mono ?_;rintro e w1 ⟨rfl,rfl⟩)
  go_ret2;exact⟨rfl,qBr _⟩
 ·have HU:=hid (up_any n p)
  simp only [if_true];obtain⟨⟨m,is⟩,hy⟩:∃ x,upR n p=x:=⟨_,rfl⟩;rw [hy] at HU ⊢;go_enter Tryz.func318,Tryz.ntmps318
  go_wp2_with (first|(go_at_call 320;refine (HL.out _).mono ?_;rintro e w1 ⟨rfl,rfl⟩)|(go_at_call 321;refine (HU.out _).mono ?_;rintro e w1 ⟨rfl,rfl⟩))
  go_ret2;exact⟨rfl,qBr _⟩
def zvc (p c o k t:Int):Int×Bool:=if (zBz p o t).2 then (if (mulR (zBz p o t).1 c).2 then addR (mulR (zBz p o t).1 c).1 k else (0,false)) else (0,false)
theorem work_any (p c o k t:Int) (w:World):Calls Tryz.prog 317 #[.agg #[qI p,qI c,qI o,qI k],qI t] w fun e w'=>e=.returned (rv (zvc p c o k t))∧Below w.heap.size w w':=by
 have HJ:=hid (jobs_any p c o k t);unfold zvc;obtain⟨⟨n,ok⟩,hx⟩:∃ x,zBz p o t=x:=⟨_,rfl⟩;rw [hx] at HJ ⊢;cases ok
 ·go_enter Tryz.func317,Tryz.ntmps317
  go_wp2_with (go_at_call 318;refine (HJ.out _).mono ?_;rintro e w1 ⟨rfl,hb1⟩;have c1:=(zre hb1).2.1;have c3:=(zre hb1).2.2.2)
  go_ret2;exact⟨rfl,(qBr _).trans (hb1.mono (by simp))⟩
 ·have HM:=hid (mul_any n c)
  simp only [if_true];obtain⟨⟨m,is⟩,hy⟩:∃ x,mulR n c=x:=⟨_,rfl⟩;rw [hy] at HM ⊢;cases is
  ·go_enter Tryz.func317,Tryz.ntmps317
   go_wp2_with (first|(go_at_call 318;refine (HJ.out _).mono ?_;rintro e w1 ⟨rfl,hb1⟩;have c1:=(zre hb1).2.1;have c3:=(zre hb1).2.2.2)|(go_at_call 319;refine (HM.out _).mono ?_;rintro e w2 ⟨rfl,rfl⟩))
   go_ret2;exact⟨rfl,(qBr _).trans (hb1.mono (by simp))⟩
  ·have HA:=hid (zxk m k)
   simp only [if_true];obtain⟨⟨l,fits⟩,hz⟩:∃ x,addR m k=x:=⟨_,rfl⟩;rw [hz] at HA ⊢;go_enter Tryz.func317,Tryz.ntmps317
   go_wp2_with (first|(go_at_call 318;refine (HJ.out _).mono ?_;rintro e w1 ⟨rfl,hb1⟩;have c1:=(zre hb1).2.1;have c3:=(zre hb1).2.2.2)|(go_at_call 319;refine (HM.out _).mono ?_;rintro e w2 ⟨rfl,rfl⟩)|(go_at_call 306;refine (HA.out _).mono ?_;rintro e w2 ⟨rfl,rfl⟩))
   go_ret2;exact⟨rfl,(qBr _).trans (hb1.mono (by simp))⟩
end Go.Proofs.YtpbmmoneeoijaaaGreatDoor
