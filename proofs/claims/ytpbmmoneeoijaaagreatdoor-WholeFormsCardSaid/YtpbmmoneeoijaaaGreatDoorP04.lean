/-
  A part of the proof: EvBase EvVal EvRel.
-/
import Derived.AtR
import Derived.RangeFuncIn
import Derived.RangeFuncLeaves
import Derived.Defers
import Derived.Orders
import Derived.Deep.MidRow
import Derived.Laws.CopyRow
import Derived.Laws.Append
import Derived.Laws.Entries
namespace Go.Proofs.YtpbmmoneeoijaaaGreatDoor.Ev
open Go
structure Fn1 (α β:Type) where
 f:α→β
structure Row (α:Type) where
 x0:α
 x1:α
 x2:α
 x3:α
 x4:α
 x5:α
 x6:α
 x7:α
 x8:α
 x9:α
 x10:α
 x11:α
 x12:α
 x13:α
 x14:α
 x15:α
def Row.fill {α:Type} (a:α):Row α:=⟨a,a,a,a,a,a,a,a,a,a,a,a,a,a,a,a⟩
def selB {α:Type}:Nat→Fn1 (Row α) α
 |0=>⟨fun r=>r.x0⟩
 |1=>⟨fun r=>r.x1⟩
 |2=>⟨fun r=>r.x2⟩
 |3=>⟨fun r=>r.x3⟩
 |4=>⟨fun r=>r.x4⟩
 |5=>⟨fun r=>r.x5⟩
 |6=>⟨fun r=>r.x6⟩
 |7=>⟨fun r=>r.x7⟩
 |8=>⟨fun r=>r.x8⟩
 |9=>⟨fun r=>r.x9⟩
 |10=>⟨fun r=>r.x10⟩
 |11=>⟨fun r=>r.x11⟩
 |12=>⟨fun r=>r.x12⟩
 |13=>⟨fun r=>r.x13⟩
 |14=>⟨fun r=>r.x14⟩
 |_=>⟨fun r=>r.x15⟩
def updB {α β:Type}:Nat→Fn1 (Row α) ((α→(α→Row α)→β)→β)
 |0=>⟨fun r=>Row.casesOn (motive:=fun _=>(α→(α→Row α)→β)→β) r fun x0 x1 x2 x3 x4 x5 x6 x7 x8 x9 x10 x11 x12 x13 x14 x15 h=>h x0 fun y=>⟨y,x1,x2,x3,x4,x5,x6,x7,x8,x9,x10,x11,x12,x13,x14,x15⟩⟩
 |1=>⟨fun r=>Row.casesOn (motive:=fun _=>(α→(α→Row α)→β)→β) r fun x0 x1 x2 x3 x4 x5 x6 x7 x8 x9 x10 x11 x12 x13 x14 x15 h=>h x1 fun y=>⟨x0,y,x2,x3,x4,x5,x6,x7,x8,x9,x10,x11,x12,x13,x14,x15⟩⟩
 |2=>⟨fun r=>Row.casesOn (motive:=fun _=>(α→(α→Row α)→β)→β) r fun x0 x1 x2 x3 x4 x5 x6 x7 x8 x9 x10 x11 x12 x13 x14 x15 h=>h x2 fun y=>⟨x0,x1,y,x3,x4,x5,x6,x7,x8,x9,x10,x11,x12,x13,x14,x15⟩⟩
 |3=>⟨fun r=>Row.casesOn (motive:=fun _=>(α→(α→Row α)→β)→β) r fun x0 x1 x2 x3 x4 x5 x6 x7 x8 x9 x10 x11 x12 x13 x14 x15 h=>h x3 fun y=>⟨x0,x1,x2,y,x4,x5,x6,x7,x8,x9,x10,x11,x12,x13,x14,x15⟩⟩
 |4=>⟨fun r=>Row.casesOn (motive:=fun _=>(α→(α→Row α)→β)→β) r fun x0 x1 x2 x3 x4 x5 x6 x7 x8 x9 x10 x11 x12 x13 x14 x15 h=>h x4 fun y=>⟨x0,x1,x2,x3,y,x5,x6,x7,x8,x9,x10,x11,x12,x13,x14,x15⟩⟩
 |5=>⟨fun r=>Row.casesOn (motive:=fun _=>(α→(α→Row α)→β)→β) r fun x0 x1 x2 x3 x4 x5 x6 x7 x8 x9 x10 x11 x12 x13 x14 x15 h=>h x5 fun y=>⟨x0,x1,x2,x3,x4,y,x6,x7,x8,x9,x10,x11,x12,x13,x14,x15⟩⟩
 |6=>⟨fun r=>Row.casesOn (motive:=fun _=>(α→(α→Row α)→β)→β) r fun x0 x1 x2 x3 x4 x5 x6 x7 x8 x9 x10 x11 x12 x13 x14 x15 h=>h x6 fun y=>⟨x0,x1,x2,x3,x4,x5,y,x7,x8,x9,x10,x11,x12,x13,x14,x15⟩⟩
 |7=>⟨fun r=>Row.casesOn (motive:=fun _=>(α→(α→Row α)→β)→β) r fun x0 x1 x2 x3 x4 x5 x6 x7 x8 x9 x10 x11 x12 x13 x14 x15 h=>h x7 fun y=>⟨x0,x1,x2,x3,x4,x5,x6,y,x8,x9,x10,x11,x12,x13,x14,x15⟩⟩
 |8=>⟨fun r=>Row.casesOn (motive:=fun _=>(α→(α→Row α)→β)→β) r fun x0 x1 x2 x3 x4 x5 x6 x7 x8 x9 x10 x11 x12 x13 x14 x15 h=>h x8 fun y=>⟨x0,x1,x2,x3,x4,x5,x6,x7,y,x9,x10,x11,x12,x13,x14,x15⟩⟩
 |9=>⟨fun r=>Row.casesOn (motive:=fun _=>(α→(α→Row α)→β)→β) r fun x0 x1 x2 x3 x4 x5 x6 x7 x8 x9 x10 x11 x12 x13 x14 x15 h=>h x9 fun y=>⟨x0,x1,x2,x3,x4,x5,x6,x7,x8,y,x10,x11,x12,x13,x14,x15⟩⟩
 |10=>⟨fun r=>Row.casesOn (motive:=fun _=>(α→(α→Row α)→β)→β) r fun x0 x1 x2 x3 x4 x5 x6 x7 x8 x9 x10 x11 x12 x13 x14 x15 h=>h x10 fun y=>⟨x0,x1,x2,x3,x4,x5,x6,x7,x8,x9,y,x11,x12,x13,x14,x15⟩⟩
 |11=>⟨fun r=>Row.casesOn (motive:=fun _=>(α→(α→Row α)→β)→β) r fun x0 x1 x2 x3 x4 x5 x6 x7 x8 x9 x10 x11 x12 x13 x14 x15 h=>h x11 fun y=>⟨x0,x1,x2,x3,x4,x5,x6,x7,x8,x9,x10,y,x12,x13,x14,x15⟩⟩
 |12=>⟨fun r=>Row.casesOn (motive:=fun _=>(α→(α→Row α)→β)→β) r fun x0 x1 x2 x3 x4 x5 x6 x7 x8 x9 x10 x11 x12 x13 x14 x15 h=>h x12 fun y=>⟨x0,x1,x2,x3,x4,x5,x6,x7,x8,x9,x10,x11,y,x13,x14,x15⟩⟩
 |13=>⟨fun r=>Row.casesOn (motive:=fun _=>(α→(α→Row α)→β)→β) r fun x0 x1 x2 x3 x4 x5 x6 x7 x8 x9 x10 x11 x12 x13 x14 x15 h=>h x13 fun y=>⟨x0,x1,x2,x3,x4,x5,x6,x7,x8,x9,x10,x11,x12,y,x14,x15⟩⟩
 |14=>⟨fun r=>Row.casesOn (motive:=fun _=>(α→(α→Row α)→β)→β) r fun x0 x1 x2 x3 x4 x5 x6 x7 x8 x9 x10 x11 x12 x13 x14 x15 h=>h x14 fun y=>⟨x0,x1,x2,x3,x4,x5,x6,x7,x8,x9,x10,x11,x12,x13,y,x15⟩⟩
 |_=>⟨fun r=>Row.casesOn (motive:=fun _=>(α→(α→Row α)→β)→β) r fun x0 x1 x2 x3 x4 x5 x6 x7 x8 x9 x10 x11 x12 x13 x14 x15 h=>h x15 fun y=>⟨x0,x1,x2,x3,x4,x5,x6,x7,x8,x9,x10,x11,x12,x13,x14,y⟩⟩
def Row.set {α:Type} (r:Row α) (j:Nat) (x:α):Row α:=(updB j).f r fun _ g=>g x
theorem zn5 {i:Nat} (h:i < 16):i=0∨i=1∨i=2∨i=3∨i=4∨i=5∨i=6∨i=7∨i=8∨i=9∨i=10∨i=11∨i=12∨i=13∨i=14∨i=15:=by omega
theorem updB_eq {α β:Type} {j:Nat} (hj:j < 16) (r:Row α) (h:α→(α→Row α)→β):(updB j).f r h=h ((selB j).f r) fun x=>r.set j x:=by
 cases r;rcases zn5 hj with rfl|rfl|rfl|rfl|rfl|rfl|rfl|rfl|rfl|rfl|rfl|rfl|rfl|rfl|rfl|rfl<;>rfl
theorem sel_set {α:Type} {i j:Nat} (hi:i < 16) (hj:j < 16) (r:Row α) (x:α):(selB i).f (r.set j x)=if i=j then x else (selB i).f r:=by
 cases r;rcases zn5 hj with rfl|rfl|rfl|rfl|rfl|rfl|rfl|rfl|rfl|rfl|rfl|rfl|rfl|rfl|rfl|rfl<;>rcases zn5 hi with rfl|rfl|rfl|rfl|rfl|rfl|rfl|rfl|rfl|rfl|rfl|rfl|rfl|rfl|rfl|rfl<;>rfl
theorem sel_fill {α:Type} {i:Nat} (hi:i < 16) (a:α):(selB i).f (Row.fill a)=a:=by
 rcases zn5 hi with rfl|rfl|rfl|rfl|rfl|rfl|rfl|rfl|rfl|rfl|rfl|rfl|rfl|rfl|rfl|rfl<;>rfl
def BT (α:Type):Nat→Type
 |0=>α
 |d+1=>Row (BT α d)
def BT.full {α:Type} (a:α):(d:Nat)→BT α d
 |0=>a
 |d+1=>Row.fill (BT.full a d)
def BT.getB {α:Type}:(d:Nat)→Nat→Fn1 (BT α d) α
 |0,_=>⟨fun t=>t⟩
 |d+1,n=>⟨fun t=>(BT.getB d (n / 16)).f ((selB (n % 16)).f t)⟩
def BT.get {α:Type} (d:Nat) (t:BT α d) (n:Nat):α:=(BT.getB d n).f t
def BT.putB {α β:Type}:(d:Nat)→Nat→Fn1 (BT α d) (α→(BT α d→β)→β)
 |0,_=>⟨fun _ v k=>k v⟩
 |d+1,n=>⟨fun t v k=>(updB (n % 16)).f t fun x g=>(BT.putB d (n / 16)).f x v fun x'=>k (g x')⟩
def BT.putK {α β:Type} (d:Nat) (t:BT α d) (n:Nat) (v:α) (k:BT α d→β):β:=(BT.putB d n).f t v k
def BT.put {α:Type} (d:Nat) (t:BT α d) (n:Nat) (v:α):BT α d:=BT.putK d t n v fun t=>t
theorem BT.putK_succ {α β:Type} (d:Nat) (t:BT α (d+1)) (n:Nat) (v:α) (k:BT α (d+1)→β):BT.putK (d+1) t n v k=BT.putK d ((selB (n % 16)).f t) (n / 16) v fun x=>k (Row.set t (n % 16) x):=
 updB_eq (α:=BT α d) (Nat.mod_lt _ (by decide)) t fun x g=>(BT.putB d (n / 16)).f x v fun x'=>k (g x')
theorem BT.putK_eq {α β:Type}:∀ (d:Nat) (t:BT α d) (n:Nat) (v:α) (k:BT α d→β),BT.putK d t n v k=k (BT.put d t n v)
 |0,_,_,_,_=>rfl
 |d+1,t,n,v,k=>by
  rw [BT.putK_succ,BT.putK_eq d];unfold BT.put;rw [BT.putK_succ];exact congrArg k (BT.putK_eq d _ _ _ _).symm
theorem BT.get_full {α:Type} (a:α):∀ (d n:Nat),BT.get d (BT.full a d) n=a
 |0,_=>rfl
 |d+1,n=>by
  show BT.get d ((selB (n % 16)).f (Row.fill (BT.full a d))) (n / 16)=a;rw [sel_fill (Nat.mod_lt _ (by decide))];exact BT.get_full a d _
theorem BT.get_put {α:Type}:∀ (d:Nat) (t:BT α d) (n m:Nat) (v:α),n < 16 ^ d→m < 16 ^ d→BT.get d (BT.put d t n v) m=if m=n then v else BT.get d t m
 |0,t,n,m,v,hn,hm=>by
  have h1:n=0:=by omega
  have h2:m=0:=by omega
  subst h1 h2;rw [if_pos rfl];rfl
 |d+1,t,n,m,v,hn,hm=>by
  have e:16 ^ (d+1)=16 * 16 ^ d:=by rw [Nat.pow_succ];omega
  have h1:BT.put (d+1) t n v=Row.set t (n % 16) (BT.put d ((selB (n % 16)).f t) (n / 16) v):=by
   unfold BT.put;rw [BT.putK_succ];exact BT.putK_eq d _ _ _ _
  show BT.get d ((selB (m % 16)).f (BT.put (d+1) t n v)) (m / 16)=if m=n then v else BT.get d ((selB (m % 16)).f t) (m / 16)
  rw [h1];have h2:=sel_set (Nat.mod_lt m (by decide:16 > 0)) (Nat.mod_lt n (by decide:16 > 0)) (α:=BT α d) t (BT.put d ((selB (n % 16)).f t) (n / 16) v);refine (congrArg (fun x=>BT.get d x (m / 16)) h2).trans ?_;by_cases hmn:m % 16=n % 16
  ·rw [if_pos hmn,BT.get_put d _ _ _ _ (by omega) (by omega),hmn]
   by_cases hq:m=n
   ·rw [if_pos hq,if_pos (by rw [hq])]
   ·rw [if_neg hq,if_neg (by omega)]
  ·rw [if_neg hmn,if_neg (fun h=>hmn (by rw [h]))]
abbrev lv:Nat:=4
abbrev depth:Nat:=16
theorem cap:2 ^ depth=16 ^ lv:=by decide
structure AH where
 next:Nat
 t:BT (Option Obj) lv
def AH.get (H:AH) (n:Nat):Option Obj:=bif n.blt H.next then BT.get lv H.t n else none
structure AH.Ok (H:AH):Prop where
 le:H.next≤2 ^ depth
 clean:∀ n,H.next≤n→n < 2 ^ depth→BT.get lv H.t n=none
def AH.putK {β:Type} (H:AH) (n:Nat) (o:Option Obj) (k:AH→β):β:=BT.putK lv H.t n o fun t=>k ⟨H.next,t⟩
def AH.put (H:AH) (n:Nat) (o:Option Obj):AH:=⟨H.next,BT.put lv H.t n o⟩
theorem AH.putK_eq {β:Type} (H:AH) (n:Nat) (o:Option Obj) (k:AH→β):H.putK n o k=k (H.put n o):=by
 unfold AH.putK AH.put;rw [BT.putK_eq]
def AH.new (H:AH) (o:Obj):AH:=⟨H.next+1,BT.put lv H.t H.next (some o)⟩
theorem blt_eq (a b:Nat):a.blt b=decide (a < b):=by
 cases h:a.blt b with
 |false=>exact (decide_eq_false (by rw [←Nat.not_le,Nat.not_le];intro h2;rw [←Nat.blt_eq] at h2;rw [h] at h2;cases h2)).symm
 |true=>exact (decide_eq_true (by rw [←Nat.blt_eq];exact h)).symm
theorem AH.get_lt {H:AH} {n:Nat} {o:Obj} (h:H.get n=some o):n < H.next:=by
 unfold AH.get at h;rw [blt_eq] at h;by_cases hn:n < H.next
 ·exact hn
 ·rw [decide_eq_false hn] at h;cases h
theorem AH.get_put {H:AH} (hH:H.Ok) {n:Nat} (hn:n < H.next) (o:Option Obj) (m:Nat):(H.put n o).get m=if m=n then o else H.get m:=by
 have hcap:=cap;have hle:=hH.le;unfold AH.get AH.put;simp only [blt_eq];by_cases hm:m < H.next
 ·rw [decide_eq_true hm]
  simp only [cond_true];exact BT.get_put lv _ _ _ _ (by omega) (by omega)
 ·rw [decide_eq_false hm]
  simp only [cond_false];rw [if_neg (by omega)]
theorem AH.get_new {H:AH} (hH:H.next < 2 ^ depth) (o:Obj) (m:Nat):(H.new o).get m=if m=H.next then some o else H.get m:=by
 have hcap:=cap;unfold AH.get AH.new;simp only [blt_eq];by_cases hm:m < H.next
 ·rw [decide_eq_true hm,decide_eq_true (by omega)]
  simp only [cond_true];exact BT.get_put lv _ _ _ _ (by omega) (by omega)
 ·by_cases h2:m=H.next
  ·subst h2
   rw [decide_eq_true (by omega)];simp only [cond_true,if_pos];rw [BT.get_put lv _ _ _ _ (by omega) (by omega),if_pos rfl]
  ·rw [decide_eq_false hm,decide_eq_false (by omega),if_neg h2]
   rfl
theorem AH.Ok.put {H:AH} (hH:H.Ok) {n:Nat} (hn:n < H.next) (o:Option Obj):(H.put n o).Ok:=by
 have hcap:=cap;have hle:=hH.le;refine⟨hH.le,fun m hm hd=>?_⟩;have hm':H.next≤m:=hm;have:=BT.get_put lv H.t n m o (by omega) (by omega);rw [if_neg (by omega)] at this;exact this.trans (hH.clean m hm' hd)
theorem AH.Ok.new {H:AH} (hH:H.Ok) (hn:H.next < 2 ^ depth) (o:Obj):(H.new o).Ok:=by
 have hcap:=cap;refine⟨by show H.next+1≤_;omega,fun m hm hd=>?_⟩;have hm':H.next+1≤m:=hm;have:=BT.get_put lv H.t H.next m (some o) (by omega) (by omega);rw [if_neg (by omega)] at this;exact this.trans (hH.clean m (by omega) hd)
structure Pos where
 block:Nat
 off:Nat
 size:Nat
structure Mu where
 pos:Nat→Option Pos
 dead:Nat→Prop
def All2 {α β:Type} (r:α→β→Prop):List α→List β→Prop
 | [],[]=>True
 |a :: as,b :: bs=>r a b∧All2 r as bs
 |_,_=>False
theorem All2.mono {α β:Type} {r s:α→β→Prop} (h:∀ a b,r a b→s a b):∀ {l:List α} {m:List β},All2 r l m→All2 s l m
 | [],[],_=>trivial
 |_ :: _,_ :: _,h2=>⟨h _ _ h2.1,All2.mono h h2.2⟩
theorem All2.length {α β:Type} {r:α→β→Prop}:∀ {l:List α} {m:List β},All2 r l m→l.length=m.length
 | [],[],_=>rfl
 |_ :: _,_ :: _,h=>by simp only [List.length_cons];rw [All2.length h.2]
theorem All2.get {α β:Type} {r:α→β→Prop}:∀ {l:List α} {m:List β},All2 r l m→∀ {i:Nat} {a:α},l[i]? =some a→∃ b,m[i]? =some b∧r a b
 | [],[],_,i,a,h=>by simp at h
 |x :: xs,y :: ys,h,0,a,ha=>by
  simp only [List.getElem?_cons_zero,Option.some.injEq] at ha;subst ha;exact⟨y,by simp,h.1⟩
 |x :: xs,y :: ys,h,i+1,a,ha=>by
  simp only [List.getElem?_cons_succ] at ha;obtain⟨b,hb,hr⟩:=All2.get h.2 ha;exact⟨b,by simpa using hb,hr⟩
theorem All2.of_get {α β:Type} {r:α→β→Prop}:∀ {l:List α} {m:List β},l.length=m.length→(∀ (i:Nat) (a:α) (b:β),l[i]? =some a→m[i]? =some b→r a b)→All2 r l m
 | [],[],_,_=>trivial
 | [],_ :: _,h,_=>by simp at h
 |_ :: _,[],h,_=>by simp at h
 |x :: xs,y :: ys,h,hg=>⟨hg 0 x y (by simp) (by simp),All2.of_get (by simpa using h) fun i a b ha hb=>hg (i+1) a b (by simpa using ha) (by simpa using hb)⟩
theorem All2.getD {α β:Type} {r:α→β→Prop} {l:List α} {m:List β} (h:All2 r l m) {a:α} {b:β} (hab:r a b) (i:Nat):r (l.getD i a) (m.getD i b):=by
 rw [List.getD_eq_getElem?_getD,List.getD_eq_getElem?_getD]
 cases hl:l[i]? with
 |none=>
  have:m[i]? =none:=by
   rw [List.getElem?_eq_none_iff] at hl ⊢;rw [←h.length];exact hl
  rw [this];exact hab
 |some x=>
  obtain⟨y,hy,hr⟩:=h.get hl;rw [hy];exact hr
theorem All2.append {α β:Type} {r:α→β→Prop}:∀ {l l':List α} {m m':List β},All2 r l m→All2 r l' m'→All2 r (l ++ l') (m ++ m')
 | [],_,[],_,_,h=>h
 |_ :: _,_,_ :: _,_,h1,h=>⟨h1.1,All2.append h1.2 h⟩
theorem All2.set {α β:Type} {r:α→β→Prop}:∀ {l:List α} {m:List β} (_:All2 r l m) (i:Nat) {a:α} {b:β},r a b→All2 r (l.set i a) (m.set i b)
 | [],[],_,_,_,_,_=>by simp [All2]
 |_ :: _,_ :: _,h,0,_,_,hr=>⟨hr,h.2⟩
 |_ :: _,_ :: _,h,i+1,_,_,hr=>⟨h.1,All2.set h.2 i hr⟩
theorem All2.replicate {α β:Type} {r:α→β→Prop} {a:α} {b:β} (h:r a b):∀ n,All2 r (List.replicate n a) (List.replicate n b)
 |0=>trivial
 |n+1=>⟨h,All2.replicate h n⟩
theorem All2.drop {α β:Type} {r:α→β→Prop}:∀ {l:List α} {m:List β} (_:All2 r l m) (i:Nat),All2 r (l.drop i) (m.drop i)
 |_,_,h,0=>by simpa using h
 | [],[],_,i+1=>by simp [All2]
 |_ :: _,_ :: _,h,i+1=>by simpa using All2.drop h.2 i
theorem All2.take {α β:Type} {r:α→β→Prop}:∀ {l:List α} {m:List β} (_:All2 r l m) (i:Nat),All2 r (l.take i) (m.take i)
 |_,_,_,0=>by simp [All2]
 | [],[],_,i+1=>by simp [All2]
 |_ :: _,_ :: _,h,i+1=>by simpa [All2] using ⟨h.1,All2.take h.2 i⟩
def At (μ:Mu) (x y:Addr):Prop:=x.spot=none∧(μ.dead x.block∨∃ p,μ.pos x.block=some p∧y=⟨p.block,p.off+x.off,none⟩)
def SAt (μ:Mu) (x y:Addr) (rc es:Nat):Prop:=x.spot=none∧(μ.dead x.block∨∃ p,μ.pos x.block=some p∧(rc=0∨(y=⟨p.block,p.off+x.off,none⟩∧p.off+x.off+rc * es≤p.size)))
def RVn (μ:Mu):Nat→Value→Value→Prop
 |0,_,_=>False
 |d+1,a,v=>match a with
  | .bool b=>v=.bool b
  | .int k n=>v=.int k n
  | .string s=>v=.string s
  | .pointer none=>v=.pointer none
  | .pointer (some x)=>∃ y,v=.pointer (some y)∧At μ x y
  | .slice none _ _=>a=.slice none 0 0∧v=.slice none 0 0
  | .slice (some x) len es=>∃ y rc,v=.slice (some y) len rc∧len≤rc∧SAt μ x y rc es
  | .map none=>v=.map none
  | .map (some _)=>∃ r,v=.map (some r)
  | .func (.yield l) f c=>f=#[]∧c=#[]∧∃ p,μ.pos l=some p∧v=.func (.yield p.block) #[] #[]
  | .func fn f c=>∃ f' c',v=.func fn f' c'∧All2 (RVn μ d) f.toList f'.toList∧All2 (RVn μ d) c.toList c'.toList
  | .nilFunc=>v=.nilFunc
  | .nilIface=>v=.nilIface
  | .agg cs=>∃ c',v=.agg c'∧All2 (RVn μ d) cs.toList c'.toList
  | .tuple cs=>∃ c',v=.tuple c'∧All2 (RVn μ d) cs.toList c'.toList
  |_=>False
def RV (μ:Mu) (a v:Value):Prop:=∃ d,RVn μ d a v
structure Mu.Le (μ μ':Mu):Prop where
 pos:∀ n p,μ.pos n=some p→μ'.pos n=some p
 dead:∀ n,μ.dead n→μ'.dead n
theorem At.ext {μ μ':Mu} (h:μ.Le μ') {x y:Addr} (ha:At μ x y):At μ' x y:=
 ⟨ha.1,ha.2.imp (h.dead _) fun ⟨p,hp,hy⟩=>⟨p,h.pos _ _ hp,hy⟩⟩
theorem SAt.ext {μ μ':Mu} (h:μ.Le μ') {x y:Addr} {rc es:Nat} (ha:SAt μ x y rc es):SAt μ' x y rc es:=
 ⟨ha.1,ha.2.imp (h.dead _) fun ⟨p,hp,hy⟩=>⟨p,h.pos _ _ hp,hy⟩⟩
variable {μ μ':Mu}
theorem RVn.succ:∀ (d:Nat) (a v:Value),RVn μ d a v→RVn μ (d+1) a v
 |0,_,_,h=>h.elim
 |d+1,a,v,h=>by
  have ih:=RVn.succ d
  cases a with
  |bool b=>exact h
  |int k n=>exact h
  |float k b=>exact h
  |complex k a b=>exact h
  |string s=>exact h
  |pointer x=>cases x<;>exact h
  |slice x l c=>cases x<;>exact h
  |map x=>cases x<;>exact h
  |chan r=>exact h
  |func fn f c=>
   cases fn with
   |yield l=>exact h
   |func g=>obtain⟨f',c',h1,h2,h3⟩:=h;exact⟨f',c',h1,h2.mono ih,h3.mono ih⟩
   |method n=>obtain⟨f',c',h1,h2,h3⟩:=h;exact⟨f',c',h1,h2.mono ih,h3.mono ih⟩
   |methodOf t n=>obtain⟨f',c',h1,h2,h3⟩:=h;exact⟨f',c',h1,h2.mono ih,h3.mono ih⟩
   |via t p g b=>obtain⟨f',c',h1,h2,h3⟩:=h;exact⟨f',c',h1,h2.mono ih,h3.mono ih⟩
  |nilFunc=>exact h
  |iface t v=>exact h
  |nilIface=>exact h
  |agg cs=>obtain⟨c',h1,h2⟩:=h;exact⟨c',h1,h2.mono ih⟩
  |tuple cs=>obtain⟨c',h1,h2⟩:=h;exact⟨c',h1,h2.mono ih⟩
theorem RVn.le {d e:Nat} {a v:Value} (h:RVn μ d a v) (hde:d≤e):RVn μ e a v:=by
 induction e with
 |zero=>
      obtain rfl:d=0:=by omega
      exact h
 |succ e ih=>
  by_cases hd:d=e+1
  ·subst hd;exact h
  ·exact RVn.succ _ _ _ (ih (by omega))
theorem All2.RV_n {l m:List Value} (h:All2 (RV μ) l m):∃ d,All2 (RVn μ d) l m:=by
 induction l generalizing m with
 |nil=>cases m with
  |nil=>exact⟨0,trivial⟩
  |cons b bs=>exact h.elim
 |cons a as ih=>cases m with
  |nil=>exact h.elim
  |cons b bs=>
   obtain⟨⟨d,hd⟩,h2⟩:=h;obtain⟨e,he⟩:=ih h2;exact⟨d+e,hd.le (by omega),he.mono fun _ _ h=>h.le (by omega)⟩
theorem zg7 {b:Bool} {v:Value}:RV μ (.bool b) v↔v=.bool b:=
 ⟨fun ⟨d,h⟩=>by cases d with|zero=>exact h.elim|succ d=>exact h,fun h=>⟨1,h⟩⟩
theorem zhz {k:IntKind} {n:Int} {v:Value}:RV μ (.int k n) v↔v=.int k n:=
 ⟨fun ⟨d,h⟩=>by cases d with|zero=>exact h.elim|succ d=>exact h,fun h=>⟨1,h⟩⟩
theorem zdp {s:ByteArray} {v:Value}:RV μ (.string s) v↔v=.string s:=
 ⟨fun ⟨d,h⟩=>by cases d with|zero=>exact h.elim|succ d=>exact h,fun h=>⟨1,h⟩⟩
theorem zs0 {v:Value}:RV μ (.pointer none) v↔v=.pointer none:=
 ⟨fun ⟨d,h⟩=>by cases d with|zero=>exact h.elim|succ d=>exact h,fun h=>⟨1,h⟩⟩
theorem zep {x:Addr} {v:Value}:RV μ (.pointer (some x)) v↔∃ y,v=.pointer (some y)∧At μ x y:=
 ⟨fun ⟨d,h⟩=>by cases d with|zero=>exact h.elim|succ d=>exact h,fun h=>⟨1,h⟩⟩
theorem zf3 {l c:Nat} {v:Value}:RV μ (.slice none l c) v↔(Value.slice none l c=.slice none 0 0∧v=.slice none 0 0):=
 ⟨fun ⟨d,h⟩=>by cases d with|zero=>exact h.elim|succ d=>exact h,fun h=>⟨1,h⟩⟩
theorem zb4 {x:Addr} {len es:Nat} {v:Value}:RV μ (.slice (some x) len es) v↔∃ y rc,v=.slice (some y) len rc∧len≤rc∧SAt μ x y rc es:=
 ⟨fun ⟨d,h⟩=>by cases d with|zero=>exact h.elim|succ d=>exact h,fun h=>⟨1,h⟩⟩
theorem zpv {v:Value}:RV μ (.map none) v↔v=.map none:=
 ⟨fun ⟨d,h⟩=>by cases d with|zero=>exact h.elim|succ d=>exact h,fun h=>⟨1,h⟩⟩
theorem zE0 {n:Nat} {v:Value}:RV μ (.map (some n)) v↔∃ r,v=.map (some r):=
 ⟨fun ⟨d,h⟩=>by cases d with|zero=>exact h.elim|succ d=>exact h,fun h=>⟨1,h⟩⟩
theorem zxm {v:Value}:RV μ .nilFunc v↔v=.nilFunc:=
 ⟨fun ⟨d,h⟩=>by cases d with|zero=>exact h.elim|succ d=>exact h,fun h=>⟨1,h⟩⟩
theorem zxl {v:Value}:RV μ .nilIface v↔v=.nilIface:=
 ⟨fun ⟨d,h⟩=>by cases d with|zero=>exact h.elim|succ d=>exact h,fun h=>⟨1,h⟩⟩
theorem zna {l:Nat} {f c:Array Value} {v:Value}:RV μ (.func (.yield l) f c) v↔f=#[]∧c=#[]∧∃ p,μ.pos l=some p∧v=.func (.yield p.block) #[] #[]:=
 ⟨fun ⟨d,h⟩=>by cases d with|zero=>exact h.elim|succ d=>exact h,fun h=>⟨1,h⟩⟩
theorem zh0 {g:FuncId} {f c:Array Value} {v:Value}:RV μ (.func (.func g) f c) v↔∃ f' c',v=.func (.func g) f' c'∧All2 (RV μ) f.toList f'.toList∧All2 (RV μ) c.toList c'.toList:=
 ⟨fun ⟨d,h⟩=>by
  cases d with
  |zero=>exact h.elim
  |succ d=>obtain⟨f',c',h1,h2,h3⟩:=h;exact⟨f',c',h1,h2.mono fun _ _ h=>⟨d,h⟩,h3.mono fun _ _ h=>⟨d,h⟩⟩,
 fun ⟨f',c',h1,h2,h3⟩=>by
  obtain⟨d,hd⟩:=h2.RV_n;obtain⟨e,he⟩:=h3.RV_n;exact⟨d+e+1,f',c',h1,hd.mono fun _ _ h=>h.le (by omega),he.mono fun _ _ h=>h.le (by omega)⟩⟩
theorem zri {cs:Array Value} {v:Value}:RV μ (.agg cs) v↔∃ c',v=.agg c'∧All2 (RV μ) cs.toList c'.toList:=
 ⟨fun ⟨d,h⟩=>by
  cases d with
  |zero=>exact h.elim
  |succ d=>obtain⟨c',h1,h2⟩:=h;exact⟨c',h1,h2.mono fun _ _ h=>⟨d,h⟩⟩,
 fun ⟨c',h1,h2⟩=>by
  obtain⟨d,hd⟩:=h2.RV_n;exact⟨d+1,c',h1,hd⟩⟩
theorem zij {cs:Array Value} {v:Value}:RV μ (.tuple cs) v↔∃ c',v=.tuple c'∧All2 (RV μ) cs.toList c'.toList:=
 ⟨fun ⟨d,h⟩=>by
  cases d with
  |zero=>exact h.elim
  |succ d=>obtain⟨c',h1,h2⟩:=h;exact⟨c',h1,h2.mono fun _ _ h=>⟨d,h⟩⟩,
 fun ⟨c',h1,h2⟩=>by
  obtain⟨d,hd⟩:=h2.RV_n;exact⟨d+1,c',h1,hd⟩⟩
theorem zii:RV μ undef undef:=zij.2 ⟨#[],rfl,trivial⟩
theorem RVn.ext (h:μ.Le μ'):∀ (d:Nat) (a v:Value),RVn μ d a v→RVn μ' d a v
 |0,_,_,h=>h.elim
 |d+1,a,v,hr=>by
  have ih:=RVn.ext h d
  cases a with
  |bool b=>exact hr
  |int k n=>exact hr
  |float k b=>exact hr
  |complex k a b=>exact hr
  |string s=>exact hr
  |pointer x=>cases x with
   |none=>exact hr
   |some x=>obtain⟨y,h1,h2⟩:=hr;exact⟨y,h1,h2.ext h⟩
  |slice x l c=>cases x with
   |none=>exact hr
   |some x=>
    obtain⟨y,rc,h1,h2,h3⟩:=hr;exact⟨y,rc,h1,h2,h3.ext h⟩
  |map x=>cases x<;>exact hr
  |chan r=>exact hr
  |func fn f c=>
   cases fn with
   |yield l=>obtain⟨h1,h2,p,h4,h5⟩:=hr;exact⟨h1,h2,p,h.pos _ _ h4,h5⟩
   |func g=>obtain⟨f',c',h1,h2,h3⟩:=hr;exact⟨f',c',h1,h2.mono ih,h3.mono ih⟩
   |method n=>obtain⟨f',c',h1,h2,h3⟩:=hr;exact⟨f',c',h1,h2.mono ih,h3.mono ih⟩
   |methodOf t n=>obtain⟨f',c',h1,h2,h3⟩:=hr;exact⟨f',c',h1,h2.mono ih,h3.mono ih⟩
   |via t p g b=>obtain⟨f',c',h1,h2,h3⟩:=hr;exact⟨f',c',h1,h2.mono ih,h3.mono ih⟩
  |nilFunc=>exact hr
  |iface t v=>exact hr
  |nilIface=>exact hr
  |agg cs=>obtain⟨c',h1,h2⟩:=hr;exact⟨c',h1,h2.mono ih⟩
  |tuple cs=>obtain⟨c',h1,h2⟩:=hr;exact⟨c',h1,h2.mono ih⟩
theorem RV.ext (h:μ.Le μ') {a v:Value} (hr:RV μ a v):RV μ' a v:=let ⟨d,hd⟩:=hr;⟨d,RVn.ext h d a v hd⟩
theorem RVs.ext (h:μ.Le μ') {l m:List Value} (hr:All2 (RV μ) l m):All2 (RV μ') l m:=hr.mono fun _ _=>RV.ext h
theorem Mu.Le.refl (μ:Mu):μ.Le μ:=⟨fun _ _ h=>h,fun _ h=>h⟩
theorem Mu.Le.trans {μ μ1 μ2:Mu} (h:μ.Le μ1) (h2:μ1.Le μ2):μ.Le μ2:=⟨fun n p hp=>h2.pos n p (h.pos n p hp),fun n hd=>h2.dead n (h.dead n hd)⟩
end Go.Proofs.YtpbmmoneeoijaaaGreatDoor.Ev
namespace Go.Proofs.YtpbmmoneeoijaaaGreatDoor.Ev
open Go
variable {μ μ':Mu}
def zek:Nat→Value→List Value
 |0,v=>[v]
 |d+1,v=>match v with
  | .tuple ⟨l⟩=>l.flatMap (zek d)
  |_=>[]
def okT:Nat→Value→Prop
 |0,_=>True
 |d+1,v=>∃ l:List Value,v=.tuple ⟨l⟩∧l.length=16∧∀ x∈l,okT d x
def getT:Nat→Value→Nat→Option Value
 |0,v,_=>some v
 |d+1,v,n=>match v with
  | .tuple ⟨l⟩=>match l[n / 16 ^ d]? with
   |some c=>getT d c (n % 16 ^ d)
   |none=>none
  |_=>none
def updK {α β:Type}:List α→Nat→(α→(α→β)→β)→(List α→β)→β
 | [],_,_,k=>k []
 |x :: l,0,f,k=>f x fun y=>k (y :: l)
 |x :: l,n+1,f,k=>updK l n f fun r=>k (x :: r)
def zA4 {β:Type}:Nat→Value→Nat→Value→(Value→β)→β
 |0,_,_,x,k=>k x
 |d+1,v,n,x,k=>match v with
  | .tuple ⟨l⟩=>updK l (n / 16 ^ d) (fun c kk=>zA4 d c (n % 16 ^ d) x kk) fun l'=>k (.tuple ⟨l'⟩)
  |v=>k v
def setT (d:Nat) (v:Value) (n:Nat) (x:Value):Value:=zA4 d v n x fun y=>y
def zca (z:Value):Nat→Value
 |0=>z
 |d+1=>.tuple ⟨[zca z d,zca z d,zca z d,zca z d,zca z d,zca z d,zca z d,zca z d,zca z d,zca z d,zca z d,zca z d,zca z d,zca z d,zca z d,zca z d]⟩
theorem zrn {α β:Type} (g:α→α) (f:α→(α→β)→β) (hf:∀ c kk,f c kk=kk (g c)):∀ (l:List α) (n:Nat) (k:List α→β),updK l n f k=k (l.modify n g)
 | [],_,_=>by simp [updK]
 |x :: l,0,k=>by simp only [updK,hf];rfl
 |x :: l,n+1,k=>by simp only [updK];rw [zrn g f hf l n];rfl
theorem zm2 {β:Type}:∀ (d:Nat) (v:Value) (n:Nat) (x:Value) (k:Value→β),zA4 d v n x k=k (setT d v n x)
 |0,_,_,_,_=>rfl
 |d+1,v,n,x,k=>by
  unfold setT
  cases v<;>simp only [zA4]
  rename_i l;obtain⟨l⟩:=l;simp only;rw [zrn (fun c=>setT d c (n % 16 ^ d) x) _ (fun c kk=>zm2 d c _ x kk),zrn (fun c=>setT d c (n % 16 ^ d) x) _ (fun c kk=>zm2 d c _ x kk)]
theorem zC0 (d:Nat) (l:List Value) (n:Nat) (x:Value):setT (d+1) (.tuple ⟨l⟩) n x=.tuple ⟨l.modify (n / 16 ^ d) fun c=>setT d c (n % 16 ^ d) x⟩:=by
 unfold setT;simp only [zA4];rw [zrn (fun c=>setT d c (n % 16 ^ d) x) _ (fun c kk=>zm2 d c _ x kk)];rfl
theorem zm5 {α β:Type} (f:α→List β) (k:Nat) (hk:0 < k):∀ (l:List α),(∀ x∈l,(f x).length=k)→(l.flatMap f).length=l.length * k∧∀ n,(l.flatMap f)[n]? =(l[n / k]?).bind fun c=>(f c)[n % k]?
 | [],_=>⟨by simp,fun n=>by simp⟩
 |x :: l,h=>by
  have hx:=h x List.mem_cons_self;obtain⟨h1,h2⟩:=zm5 f k hk l fun y hy=>h y (List.mem_cons_of_mem _ hy);refine⟨?_,fun n=>?_⟩
  ·rw [List.flatMap_cons,List.length_append,hx,h1,List.length_cons,Nat.add_mul];omega
  ·rw [List.flatMap_cons]
   by_cases hn:n < k
   ·rw [List.getElem?_append_left (by omega),Nat.div_eq_of_lt hn,Nat.mod_eq_of_lt hn];rfl
   ·have e1:n / k=(n - k) / k+1:=by
     rw [Nat.div_eq n k,if_pos ⟨hk,by omega⟩]
    have e2:n % k=(n - k) % k:=by
     rw [Nat.mod_eq n k,if_pos ⟨hk,by omega⟩]
    rw [List.getElem?_append_right (by omega),hx,h2,e1,e2,List.getElem?_cons_succ]
theorem zh9:∀ (d:Nat) (v:Value),okT d v→(zek d v).length=16 ^ d∧∀ n,n < 16 ^ d→getT d v n=(zek d v)[n]?
 |0,v,_=>⟨rfl,fun n hn=>by
                  obtain rfl:n=0:=by simpa using hn
                  rfl⟩
 |d+1,v,h=>by
  obtain⟨l,rfl,hl,hx⟩:=h;have hpos:0 < 16 ^ d:=Nat.pos_of_ne_zero (by simp);obtain⟨h1,h2⟩:=zm5 (zek d) (16 ^ d) hpos l fun x hm=>(zh9 d x (hx x hm)).1;refine⟨?_,fun n hn=>?_⟩
  ·show (l.flatMap (zek d)).length=_
   rw [h1,hl,Nat.pow_succ];omega
  ·show (match l[n / 16 ^ d]? with|some c=>getT d c (n % 16 ^ d)|none=>none)=(l.flatMap (zek d))[n]?
   rw [h2 n]
   cases hg:l[n / 16 ^ d]? with
   |none=>rfl
   |some c=>
    have hc:c∈l:=List.mem_of_getElem? hg;exact (zh9 d c (hx c hc)).2 _ (Nat.mod_lt _ hpos)
theorem ztn:∀ (d:Nat) (v:Value) (n:Nat) (x:Value),okT d v→n < 16 ^ d→okT d (setT d v n x)∧∀ i,(zek d (setT d v n x))[i]? =if i=n then some x else (zek d v)[i]?
 |0,v,n,x,_,hn=>by
  obtain rfl:n=0:=by simpa using hn
  refine⟨trivial,fun i=>?_⟩;show [x][i]? =if i=0 then some x else [v][i]?
  cases i<;>simp
 |d+1,v,n,x,h,hn=>by
  obtain⟨l,rfl,hl,hx⟩:=h;have hpos:0 < 16 ^ d:=Nat.pos_of_ne_zero (by simp);rw [zC0];have hdiv:n / 16 ^ d < 16:=by
   rw [Nat.div_lt_iff_lt_mul hpos,Nat.mul_comm];rw [Nat.pow_succ] at hn;exact hn
  have ih:∀ c∈l,okT d (setT d c (n % 16 ^ d) x)∧∀ i,(zek d (setT d c (n % 16 ^ d) x))[i]? =if i=n % 16 ^ d then some x else (zek d c)[i]?:=fun c hc=>ztn d c _ x (hx c hc) (Nat.mod_lt _ hpos)
  have hmem:∀ y∈l.modify (n / 16 ^ d) (fun c=>setT d c (n % 16 ^ d) x),okT d y:=fun y hy=>by
   obtain⟨i,hi⟩:=List.getElem?_of_mem hy;rw [List.getElem?_modify] at hi
   cases hg:l[i]? with
   |none=>rw [hg] at hi;cases hi
   |some c=>
    rw [hg] at hi;have hc:c∈l:=List.mem_of_getElem? hg;simp only [Option.map_eq_map,Option.map_some,Option.some.injEq] at hi;by_cases e:n / 16 ^ d=i
    ·rw [if_pos e] at hi;rw [←hi];exact (ih c hc).1
    ·rw [if_neg e] at hi;rw [←hi];exact hx c hc
  refine⟨⟨_,rfl,by simp [hl],hmem⟩,fun i=>?_⟩;show ((l.modify (n / 16 ^ d) fun c=>setT d c (n % 16 ^ d) x).flatMap (zek d))[i]? =if i=n then some x else (l.flatMap (zek d))[i]?
  rw [(zm5 (zek d) (16 ^ d) hpos _ fun y hy=>(zh9 d y (hmem y hy)).1).2 i,(zm5 (zek d) (16 ^ d) hpos l fun y hy=>(zh9 d y (hx y hy)).1).2 i,List.getElem?_modify]
  cases hg:l[i / 16 ^ d]? with
  |none=>
   have:i≠n:=fun e=>by
    subst e;rw [List.getElem?_eq_none_iff] at hg;omega
   rw [if_neg this];rfl
  |some c=>
   have hc:c∈l:=List.mem_of_getElem? hg;simp only [Option.map_eq_map,Option.map_some,Option.bind_some];by_cases e:n / 16 ^ d=i / 16 ^ d
   ·rw [if_pos e,(ih c hc).2]
    by_cases e2:i=n
    ·rw [if_pos e2,if_pos (by rw [e2])]
    ·rw [if_neg e2,if_neg (fun e3=>e2 (by
      rw [←Nat.div_add_mod i (16 ^ d),←Nat.div_add_mod n (16 ^ d),e,e3]))]
   ·rw [if_neg e,if_neg (fun e2=>e (by rw [e2]))]
theorem zqz (z:Value):∀ (d:Nat),okT d (zca z d)∧zek d (zca z d)=List.replicate (16 ^ d) z
 |0=>⟨trivial,rfl⟩
 |d+1=>by
  obtain⟨h1,h2⟩:=zqz z d;refine⟨⟨_,rfl,rfl,fun x hx=>?_⟩,?_⟩
  ·simp only [List.mem_cons,List.not_mem_nil,or_false,or_self] at hx
   rw [hx];exact h1
  ·show List.flatMap (zek d) [zca z d,zca z d,zca z d,zca z d,zca z d,zca z d,zca z d,zca z d,zca z d,zca z d,zca z d,zca z d,zca z d,zca z d,zca z d,zca z d]=_
   simp only [List.flatMap_cons,List.flatMap_nil,h2,List.append_nil,List.replicate_append_replicate]
   congr 1
   rw [Nat.pow_succ];omega
def RBL (μ:Mu) (l:List Value) (p:Pos) (r:Obj):Prop:=
 ∃ c' e,r=.cells c' e (0,0)∧p.size=c'.size∧p.off+l.length≤c'.size∧∀ (i:Nat) (a:Value),l[i]? =some a→∃ v,c'[p.off+i]? =some v∧RV μ a v
theorem RBL.ext (h:μ.Le μ') {l:List Value} {p:Pos} {r:Obj} (hr:RBL μ l p r):RBL μ' l p r:=by
 obtain⟨c',e',h1,h2,h3,h4⟩:=hr;exact⟨c',e',h1,h2,h3,fun i a ha=>let ⟨v,h5,h6⟩:=h4 i a ha;⟨v,h5,h6.ext h⟩⟩
def RB (μ:Mu) (o:Obj) (p:Pos) (r:Obj):Prop:=match o with
 | .pending c _=>∃ root,c=⟨[root]⟩∧okT 3 root∧RBL μ (zek 3 root) p r
 | .cells c _ _=>∃ c' e,r=.cells c' e (0,0)∧p.size=c'.size∧p.off+c.size≤c'.size∧∀ (i:Nat) (a:Value),c[i]? =some a→∃ v,c'[p.off+i]? =some v∧RV μ a v
 | .loop L=>∃ L':Loop,r=.loop L'∧L'.state=L.state∧L'.pending=L.pending∧L'.fn=L.fn∧All2 (RV μ) L.tmps.toList L'.tmps.toList∧L'.params=L.params∧L'.assign=L.assign∧L'.body=L.body∧∃ q,μ.pos L.defers=some q∧q.block=L'.defers
 | .deferred ds=>r=.deferred ds∧(ds=some []∨ds=none)
 | .map _ _=>True
 |_=>False
theorem RB.ext (h:μ.Le μ') {o r:Obj} {p:Pos} (hr:RB μ o p r):RB μ' o p r:=by
 cases o with
 |cells c e f=>
  obtain⟨c',e',h1,h2,h3,h4⟩:=hr;exact⟨c',e',h1,h2,h3,fun i a ha=>let ⟨v,h5,h6⟩:=h4 i a ha;⟨v,h5,h6.ext h⟩⟩
 |loop L=>
  obtain⟨L',h1,h2,h3,h4,h5,h6,h7,h8,q,h9,h10⟩:=hr;exact⟨L',h1,h2,h3,h4,RVs.ext h h5,h6,h7,h8,q,h.pos _ _ h9,h10⟩
 |deferred ds=>exact hr
 |map es c=>trivial
 |pending c e=>
  obtain⟨root,h1,h2,h3⟩:=hr;exact⟨root,h1,h2,h3.ext h⟩
 |view _ _=>exact hr
 |number _ _=>exact hr
 |chan _ _ _ _ _ _=>exact hr
 |stringIter _ _=>exact hr
 |mapIter _ _ _ _=>exact hr
 |coro _=>exact hr
 |finalizers _ _=>exact hr
structure Frm where
 base:World
 K:Nat→Prop
 lt:∀ b,K b→b < base.heap.size
def Frm.of (w:World):Frm:=⟨w,fun b=>b < w.heap.size,fun _ h=>h⟩
structure Same (a b:World):Prop where
 os:b.os=a.os
 tape:b.tape=a.tape
 output:b.output=a.output
theorem Same.refl (a:World):Same a a:=⟨rfl,rfl,rfl⟩
theorem Same.trans {a b c:World} (h:Same a b) (k:Same b c):Same a c:=⟨k.os.trans h.os,k.tape.trans h.tape,k.output.trans h.output⟩
structure R (w0:Frm) (μ:Mu) (H:AH) (w:World):Prop where
 ok:H.Ok
 fresh:∀ n,H.next≤n→μ.pos n=none∧¬ μ.dead n
 live:∀ n o,H.get n=some o→¬ μ.dead n
 blk:∀ n o p,H.get n=some o→μ.pos n=some p→∃ r,w.heap[p.block]? =some r∧RB μ o p r
 inj:∀ n m o o' p q,H.get n=some o→H.get m=some o'→μ.pos n=some p→μ.pos m=some q→p.block=q.block→n=m
 old:∀ n o p,H.get n=some o→μ.pos n=some p→¬ w0.K p.block
 kept:∀ b,w0.K b→w.heap[b]? =w0.base.heap[b]?
 size:w0.base.heap.size≤w.heap.size
 same:Same w0.base w
structure Post (μ:Mu) (H:AH) (μ':Mu) (H':AH):Prop where
 le:μ.Le μ'
 next:H.next≤H'.next
 pend:∀ n,n < H.next→μ.pos n=none→¬ μ.dead n→H'.get n=H.get n∧μ'.pos n=none∧¬ μ'.dead n
 gone:∀ n,n < H.next→H.get n=none→H'.get n=none∧(μ'.dead n→μ.dead n)
theorem Post.refl (μ:Mu) (H:AH):Post μ H μ H:=⟨.refl _,Nat.le_refl _,fun _ _ h1 h2=>⟨rfl,h1,h2⟩,fun _ _ h=>⟨h,id⟩⟩
theorem Post.trans {μ1 μ2 μ3:Mu} {H1 H2 H3:AH} (h:Post μ1 H1 μ2 H2) (h':Post μ2 H2 μ3 H3):Post μ1 H1 μ3 H3:=
 ⟨h.le.trans h'.le,Nat.le_trans h.next h'.next,fun n hn h1 h2=>by
  obtain⟨a1,a2,a3⟩:=h.pend n hn h1 h2;obtain⟨b1,b2,b3⟩:=h'.pend n (Nat.lt_of_lt_of_le hn h.next) a2 a3;exact⟨b1.trans a1,b2,b3⟩,fun n hn h1=>by
  obtain⟨a1,a2⟩:=h.gone n hn h1;obtain⟨b1,b2⟩:=h'.gone n (Nat.lt_of_lt_of_le hn h.next) a1;exact⟨b1,fun hd=>a2 (b2 hd)⟩⟩
variable {w0:Frm} {w:World} {H:AH}
theorem R.drew (h:R w0 μ H w) (k:Nat):R w0 μ H { w with drawn:=k }:=⟨h.ok,h.fresh,h.live,h.blk,h.inj,h.old,h.kept,h.size,h.same.trans ⟨rfl,rfl,rfl⟩⟩
theorem R.at (h:R w0 μ H w) {x y:Addr} {o:Obj} (hg:H.get x.block=some o) (ha:At μ x y):∃ p r,μ.pos x.block=some p∧y=⟨p.block,p.off+x.off,none⟩∧w.heap[p.block]? =some r∧RB μ o p r:=by
 obtain⟨_,hd|⟨p,hp,hy⟩⟩:=ha
 ·exact absurd hd (h.live _ _ hg)
 ·obtain⟨r,h1,h2⟩:=h.blk _ _ _ hg hp
  exact⟨p,r,hp,hy,h1,h2⟩
def Mu.add (μ:Mu) (n:Nat) (p:Pos):Mu:=⟨fun m=>if m=n then some p else μ.pos m,μ.dead⟩
theorem Mu.add_le {n:Nat} {p:Pos} (h:μ.pos n=none):μ.Le (μ.add n p):=
 ⟨fun m q hq=>by unfold Mu.add;simp only;rw [if_neg (fun e=>by subst e;rw [h] at hq;cases hq)];exact hq,fun _ h=>h⟩
theorem Mu.add_pos {n:Nat} {p:Pos}:(μ.add n p).pos n=some p:=by unfold Mu.add;simp
theorem R.lt (h:R w0 μ H w) {n:Nat} {p:Pos} (hp:μ.pos n=some p):n < H.next:=by
 rcases Nat.lt_or_ge n H.next with h1|h1
 ·exact h1
 ·rw [(h.fresh n h1).1] at hp;cases hp
theorem R.lay (h:R w0 μ H w) {n:Nat} {o:Obj} (hg:H.get n=some o) (hp:μ.pos n=none) {p:Pos} (hb:p.block=w.heap.size) {r:Obj} (hr:RB (μ.add n p) o p r):
  R w0 (μ.add n p) H (w.alloc r):=by
 have hle:=Mu.add_le (p:=p) hp;have lt:∀ m o' q,H.get m=some o'→μ.pos m=some q→q.block < w.heap.size:=fun m o' q hm hq=>by
  obtain⟨r',h1,_⟩:=h.blk m o' q hm hq;rcases Nat.lt_or_ge q.block w.heap.size with h2|h2
  ·exact h2
  ·rw [Array.getElem?_eq_none h2] at h1;cases h1
 have hh:∀ b,(w.alloc r).heap[b]? =if b=w.heap.size then some r else w.heap[b]?:=fun b=>by
  unfold World.alloc;simp only;rw [Array.getElem?_push]
 refine⟨h.ok,fun m hm=>?_,h.live,fun m o' q hm hq=>?_,fun m m' o1 o2 p1 p2 h1 h2 h3 h4 h5=>?_,fun m o' q hm hq hK=>?_,fun b hb2=>?_,?_,h.same.trans ⟨rfl,rfl,rfl⟩⟩
 ·have hne:m≠n:=fun e=>by subst e;exact absurd (AH.get_lt hg) (by omega)
  exact⟨by unfold Mu.add;simp only;rw [if_neg hne];exact (h.fresh m hm).1,(h.fresh m hm).2⟩
 ·unfold Mu.add at hq;simp only at hq
  by_cases e:m=n
  ·subst e
   rw [if_pos rfl] at hq;obtain rfl:=Option.some.inj hq;rw [hg] at hm;obtain rfl:=Option.some.inj hm;exact⟨r,by rw [hh,if_pos hb],hr⟩
  ·rw [if_neg e] at hq
   obtain⟨r',h1,h2⟩:=h.blk m o' q hm hq;exact⟨r',by rw [hh,if_neg (by have:=lt m o' q hm hq;omega)];exact h1,h2.ext hle⟩
 ·unfold Mu.add at h3 h4;simp only at h3 h4
  by_cases e1:m=n<;>by_cases e2:m'=n
  ·rw [e1,e2]
  ·rw [if_pos e1] at h3;rw [if_neg e2] at h4
   obtain rfl:=Option.some.inj h3;have:=lt m' o2 p2 h2 h4;omega
  ·rw [if_neg e1] at h3;rw [if_pos e2] at h4
   obtain rfl:=Option.some.inj h4;have:=lt m o1 p1 h1 h3;omega
  ·rw [if_neg e1] at h3;rw [if_neg e2] at h4
   exact h.inj m m' o1 o2 p1 p2 h1 h2 h3 h4 h5
 ·unfold Mu.add at hq;simp only at hq
  by_cases e:m=n
  ·rw [if_pos e] at hq
   obtain rfl:=Option.some.inj hq;have:=w0.lt _ hK;have:=h.size;omega
  ·rw [if_neg e] at hq;exact h.old m o' q hm hq hK
 ·rw [hh,if_neg (by have:=w0.lt _ hb2;have:=h.size;omega)];exact h.kept b hb2
 ·have:=h.size;unfold World.alloc;simp only [Array.size_push];omega
theorem R.pend (h:R w0 μ H w) (hn:H.next < 2 ^ depth) (o:Obj):R w0 μ (H.new o) w:=by
 have hg:=AH.get_new hn o;have hne:∀ m p,μ.pos m=some p→m≠H.next:=fun m p hp e=>by have:=h.lt hp;omega
 refine⟨h.ok.new hn o,fun m hm=>h.fresh m (by have:H.next+1≤m:=hm;omega),fun m o' hm=>?_,fun m o' p hm hp=>?_,fun m m' o1 o2 p q h1 h2 h3 h4 h5=>?_,fun m o' p hm hp=>?_,h.kept,h.size,h.same⟩
 ·rw [hg] at hm
  by_cases e:m=H.next
  ·exact (h.fresh m (by omega)).2
  ·rw [if_neg e] at hm;exact h.live m o' hm
 ·rw [hg,if_neg (hne m p hp)] at hm;exact h.blk m o' p hm hp
 ·rw [hg,if_neg (hne m p h3)] at h1
  rw [hg,if_neg (hne m' q h4)] at h2;exact h.inj m m' o1 o2 p q h1 h2 h3 h4 h5
 ·rw [hg,if_neg (hne m p hp)] at hm;exact h.old m o' p hm hp
theorem Post.of_pend (hn:H.next < 2 ^ depth) (o:Obj):Post μ H μ (H.new o):=
 ⟨.refl _,by show H.next≤H.next+1;omega,fun m hm h1 h2=>⟨by rw [AH.get_new hn,if_neg (by omega)],h1,h2⟩,fun m hm h1=>⟨by rw [AH.get_new hn,if_neg (by omega)];exact h1,id⟩⟩
theorem R.new (h:R w0 μ H w) (hn:H.next < 2 ^ depth) {o r:Obj} {p:Pos} (hb:p.block=w.heap.size) (hr:RB (μ.add H.next p) o p r):
  R w0 (μ.add H.next p) (H.new o) (w.alloc r):=
 (h.pend hn o).lay (by rw [AH.get_new hn,if_pos rfl]) (h.fresh _ (Nat.le_refl _)).1 hb hr
theorem R.new_post (h:R w0 μ H w) (hn:H.next < 2 ^ depth) {o:Obj} {p:Pos}:Post μ H (μ.add H.next p) (H.new o):=by
 refine⟨Mu.add_le (h.fresh _ (Nat.le_refl _)).1,by show H.next≤H.next+1;omega,fun m hm h1 h2=>⟨by rw [AH.get_new hn,if_neg (by omega)],?_,h2⟩,fun m hm h1=>⟨by rw [AH.get_new hn,if_neg (by omega)];exact h1,id⟩⟩;unfold Mu.add;simp only;rw [if_neg (by omega)];exact h1
theorem R.turn (h:R w0 μ H w) {n:Nat} {o o':Obj} {p:Pos} (hg:H.get n=some o) (hp:μ.pos n=some p) {w':World} {r:Obj} (hw:w'.heap[p.block]? =some r) (hoth:∀ b,b≠p.block→w'.heap[b]? =w.heap[b]?)
  (hs:w'.heap.size=w.heap.size) (hsm:Same w w') (hr:RB μ o' p r):R w0 μ (H.put n (some o')) w'∧Post μ H μ (H.put n (some o')):=by
 have hlt:=AH.get_lt hg;have hget:=AH.get_put h.ok hlt (some o');have back:∀ m o1,(H.put n (some o')).get m=some o1→∃ o2,H.get m=some o2:=fun m o1 hm=>by
  rw [hget] at hm;by_cases e:m=n
  ·subst e;exact⟨o,hg⟩
  ·rw [if_neg e] at hm;exact⟨o1,hm⟩
 refine⟨⟨h.ok.put hlt _,h.fresh,fun m o1 hm=>?_,fun m o1 q hm hq=>?_,fun m m' o1 o2 p1 q1 h1 h2 h3 h4 h5=>?_,fun m o1 q hm hq=>?_,fun b hb=>?_,by rw [hs];exact h.size,h.same.trans hsm⟩,.refl _,Nat.le_refl _,fun m hm h1 h2=>⟨?_,h1,h2⟩,fun m hm h1=>⟨?_,id⟩⟩
 ·obtain⟨o2,h2⟩:=back m o1 hm;exact h.live m o2 h2
 ·rw [hget] at hm
  by_cases e:m=n
  ·subst e
   rw [if_pos rfl] at hm;obtain rfl:=Option.some.inj hm;rw [hp] at hq;obtain rfl:=Option.some.inj hq;exact⟨r,hw,hr⟩
  ·rw [if_neg e] at hm
   obtain⟨r',h1,h2⟩:=h.blk m o1 q hm hq;refine⟨r',?_,h2⟩;rw [hoth _ fun e'=>e (h.inj m n o1 o q p hm hg hq hp e')];exact h1
 ·obtain⟨o3,h6⟩:=back m o1 h1
  obtain⟨o4,h7⟩:=back m' o2 h2;exact h.inj m m' o3 o4 p1 q1 h6 h7 h3 h4 h5
 ·obtain⟨o2,h2⟩:=back m o1 hm;exact h.old m o2 q h2 hq
 ·rw [hoth b (fun e=>h.old n o p hg hp (e▸hb))];exact h.kept b hb
 ·rw [hget,if_neg (fun e=>by subst e;rw [hp] at h1;cases h1)]
 ·rw [hget,if_neg (fun e=>by subst e;rw [hg] at h1;cases h1)];exact h1
def Mu.kill (μ:Mu) (n:Nat):Mu:=⟨μ.pos,fun m=>m=n∨μ.dead m⟩
theorem Mu.kill_le {n:Nat}:μ.Le (μ.kill n):=⟨fun _ _ h=>h,fun _ h=>.inr h⟩
theorem R.kill (h:R w0 μ H w) {n:Nat} (hn:n < H.next):R w0 (μ.kill n) (H.put n none) w:=by
 have hget:=AH.get_put h.ok hn none;have back:∀ m o1,(H.put n none).get m=some o1→m≠n∧H.get m=some o1:=fun m o1 hm=>by
  rw [hget] at hm;by_cases e:m=n
  ·rw [if_pos e] at hm;cases hm
  ·rw [if_neg e] at hm;exact⟨e,hm⟩
 refine⟨h.ok.put hn _,fun m hm=>⟨(h.fresh m hm).1,?_⟩,fun m o1 hm=>?_,fun m o1 q hm hq=>?_,fun m m' o1 o2 p1 q1 h1 h2 h3 h4 h5=>?_,fun m o1 q hm hq=>h.old m o1 q (back m o1 hm).2 hq,h.kept,h.size,h.same⟩
 ·have:H.next≤m:=hm
  rintro (e|e)
  ·omega
  ·exact (h.fresh m hm).2 e
 ·obtain⟨e,h2⟩:=back m o1 hm
  rintro (e'|e')
  ·exact e e'
  ·exact h.live m o1 h2 e'
 ·obtain⟨_,h2⟩:=back m o1 hm
  obtain⟨r,h3,h4⟩:=h.blk m o1 q h2 hq;exact⟨r,h3,h4.ext Mu.kill_le⟩
 ·exact h.inj m m' o1 o2 p1 q1 (back m o1 h1).2 (back m' o2 h2).2 h3 h4 h5
theorem R.kill_post (h:R w0 μ H w) {n:Nat} {o:Obj} {p:Pos} (hg:H.get n=some o) (hp:μ.pos n=some p):Post μ H (μ.kill n) (H.put n none):=by
 have hn:=h.lt hp;refine⟨Mu.kill_le,Nat.le_refl _,fun m hm h1 h2=>⟨?_,h1,?_⟩,fun m hm h1=>?_⟩
 ·rw [AH.get_put h.ok hn,if_neg (fun e=>by subst e;rw [hp] at h1;cases h1)]
 ·rintro (e|e)
  ·subst e;rw [hp] at h1;cases h1
  ·exact h2 e
 ·have hne:m≠n:=fun e=>by subst e;rw [hg] at h1;cases h1
  exact⟨by rw [AH.get_put h.ok hn,if_neg hne];exact h1,fun hd=>hd.resolve_left hne⟩
theorem R.take (h:R w0 μ H w) (hn:H.next < 2 ^ depth) {o:Obj} {p:Pos} (hold:¬ w0.K p.block) (hfree:∀ m o' q,H.get m=some o'→μ.pos m=some q→q.block≠p.block) {w':World} {r:Obj} (hw:w'.heap[p.block]? =some r)
  (hoth:∀ b,b≠p.block→w'.heap[b]? =w.heap[b]?) (hs:w'.heap.size=w.heap.size) (hsm:Same w w') (hr:RB (μ.add H.next p) o p r):R w0 (μ.add H.next p) (H.new o) w':=by
 have hget:=AH.get_new hn o;have hle:=Mu.add_le (p:=p) (h.fresh _ (Nat.le_refl _)).1;refine⟨h.ok.new hn o,fun m hm=>?_,fun m o1 hm=>?_,fun m o1 q hm hq=>?_,fun m m' o1 o2 p1 q1 h1 h2 h3 h4 h5=>?_,fun m o1 q hm hq=>?_,fun b hb=>?_,by rw [hs];exact h.size,h.same.trans hsm⟩
 ·have hm':H.next+1≤m:=hm
  exact⟨by unfold Mu.add;simp only;rw [if_neg (by omega)];exact (h.fresh m (by omega)).1,(h.fresh m (by omega)).2⟩
 ·rw [hget] at hm
  by_cases e:m=H.next
  ·exact (h.fresh m (by omega)).2
  ·rw [if_neg e] at hm;exact h.live m o1 hm
 ·rw [hget] at hm
  unfold Mu.add at hq;simp only at hq;by_cases e:m=H.next
  ·rw [if_pos e] at hm hq
   obtain rfl:=Option.some.inj hm;obtain rfl:=Option.some.inj hq;exact⟨r,hw,hr⟩
  ·rw [if_neg e] at hm hq
   obtain⟨r',h1,h2⟩:=h.blk m o1 q hm hq;exact⟨r',by rw [hoth _ (hfree m o1 q hm hq)];exact h1,h2.ext hle⟩
 ·rw [hget] at h1 h2
  unfold Mu.add at h3 h4;simp only at h3 h4;by_cases e1:m=H.next<;>by_cases e2:m'=H.next
  ·rw [e1,e2]
  ·rw [if_pos e1] at h3;rw [if_neg e2] at h4 h2
   obtain rfl:=Option.some.inj h3;exact absurd h5.symm (hfree m' o2 q1 h2 h4)
  ·rw [if_neg e1] at h3 h1;rw [if_pos e2] at h4
   obtain rfl:=Option.some.inj h4;exact absurd h5 (hfree m o1 p1 h1 h3)
  ·rw [if_neg e1] at h3 h1;rw [if_neg e2] at h4 h2
   exact h.inj m m' o1 o2 p1 q1 h1 h2 h3 h4 h5
 ·unfold Mu.add at hq;simp only at hq
  by_cases e:m=H.next
  ·rw [if_pos e] at hq
   obtain rfl:=Option.some.inj hq;exact hold
  ·rw [if_neg e] at hq
   rw [hget,if_neg e] at hm;exact h.old m o1 q hm hq
 ·rw [hoth b (fun e=>hold (e▸hb))];exact h.kept b hb
end Go.Proofs.YtpbmmoneeoijaaaGreatDoor.Ev
