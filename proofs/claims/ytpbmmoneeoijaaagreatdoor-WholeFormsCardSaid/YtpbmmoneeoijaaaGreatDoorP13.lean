/-
  A part of the proof: EvTz PairFn ImgFn Right Stage.
-/
import Derived.Test.YtpbmmoneeoijaaaGreatDoorP03
import Derived.Test.YtpbmmoneeoijaaaGreatDoorP12
import Derived.Lib.Bytealg
import Derived.StillTail
namespace Go.Proofs.YtpbmmoneeoijaaaGreatDoor
open Go.RowKit Go.Shelf
attribute [local go_sem] Oper.semAt_some
def TabZ (w:World):Prop:=TabAt 0 Lib.deBruijn32tab w
theorem tzz_core (x k idx:Nat) (w:World) (hx0:((x:Int) == 0)=false)
  (key:bits BinOp.and IntKind.u32 (x:Int) (-(x:Int) % 4294967296) * 125613361 % 4294967296 / 134217728=(idx:Int))
  (hi:idx < 32) (hk:k < 32) (hcell:w.cell? ⟨0,idx,none⟩=some (.int .u8 k)):
  Calls Tryz.prog 222 #[.int .u32 x] w fun e w'=>e=.returned (.int .i64 k)∧w'=w:=by
 go_enter Tryz.func222,Tryz.ntmps222
 go_wp2_with (simp only [key])
 go_ret;exact⟨rfl,rfl⟩
theorem tzz_any (x:Nat) (hx:x < 4294967296) (hx0:x≠0) (w:World) (hT:TabZ w):
  Calls Tryz.prog 222 #[.int .u32 x] w fun e w'=>e=.returned (.int .i64 (Lib.ctz 32 x))∧w'=w:=by
 obtain⟨hlow,hk⟩:=Lib.lowest_bit 32 x hx0 hx;obtain⟨hi,htab⟩:=Lib.deBruijn32_at _ hk;have hcell:=hT _ hi;rw [htab] at hcell;exact tzz_core x _ _ w (by simp;omega) (tz32_key x _ hx hx0 hlow) hi hk hcell
set_option maxHeartbeats 1000000 in
set_option maxRecDepth 100000 in
theorem idx_in (s:ByteArray) (c:Int) (w:World):
  Calls Tryz.prog 304 #[.string s,.int .u8 c] w fun e w'=>e=.returned (.int .i64 (Lib.indexByte s.data.toList c.toNat.toUInt8))∧w'=w:=by
 go_enter Tryz.func304,Tryz.ntmps304;go_wp2;rw [run_callFunc_extern (show Tryz.prog.funcs[311]? =some ((Tryz.prog.funcs[311]?).getD default) from by kernel_rfl) (by kernel_rfl) (by kernel_rfl) (by kernel_rfl) (e:=Extern.BytealgIndexByte.indexByte) (by kernel_rfl),Lib.run_indexByteString];simp only [Result.andThen];rw [Oper.upon_value];go_wp2;go_ret;exact⟨rfl,rfl⟩
end Go.Proofs.YtpbmmoneeoijaaaGreatDoor
namespace Go.Proofs.YtpbmmoneeoijaaaGreatDoor
open Go.RowKit Go.Deep Go.Shelf
set_option maxRecDepth 100000
set_option maxHeartbeats 8000000
theorem readI (x:Int) (w:World) (h0:0≤x) (h1:x < 2147483648):Calls Tryz.prog 270 #[.string (bs (tk x))] w fun e w'=>e=.returned (.tuple #[qI x,qI 0])∧w=w':=by
 obtain⟨n,rfl⟩:=Int.eq_ofNat_of_zero_le h0;exact read_val n w (by omega)
theorem idx_val (s:ByteArray) (c:Int) (w:World):Calls Tryz.prog 271 #[.string s,.int .u8 c] w fun e w'=>e=.returned (qI (Lib.indexByte s.data.toList c.toNat.toUInt8))∧w=w':=by
 have HI:=hid fun X=>idx_in s c X;generalize Lib.indexByte s.data.toList c.toNat.toUInt8=r at HI;go_enter Tryz.func271,Tryz.ntmps271
 go_wp2_with (go_at_call 304;refine (HI.out _).mono ?_;rintro e w2 ⟨rfl,rfl⟩)
 go_ret;exact⟨rfl,rfl⟩
theorem zex (b g i k cap:Nat) (x:Int) (w:World) (h0:0≤x) (h1:x < 2147483648) (hi:i < k) (_hk:k≤1000) (hb:w.cell? ⟨b,4,none⟩=some (.slice (some ⟨g,0,none⟩) k cap)) (hc:w.cell? ⟨g,i,none⟩=some (.string (bs (tk x)))):
  Calls Tryz.prog 215 #[qP b,qI i] w fun e w'=>e=.returned (.tuple #[qI x,.bool true])∧w=w':=by
 have t0:decide ((k:Int)≤(i:Int))=false:=by simp;omega
 have k0:(0:Int)≤(i:Int):=by omega
 have k1:(i:Int) < (k:Int):=by omega
 have HR:=hid fun X=>readI x X h0 h1;go_enter Tryz.func215,Tryz.ntmps215
 go_wp2_with (go_at_call 270;refine (HR.out _).mono ?_;rintro e w2 ⟨rfl,rfl⟩)
 go_ret2;exact⟨rfl,rfl⟩
theorem zyt:∀ {l:List UInt8} {c:UInt8},c ∉ l→Lib.indexByte l c= -1
 | [],_,_=>rfl
 |b :: l,c,h=>by
  have hb:(b == c)=false:=by simp;rintro rfl;exact h (by simp)
  rw [Lib.indexByte,hb,zyt fun hc=>h (by simp [hc])];rfl
theorem idx_at:∀ {l:List UInt8} {c:UInt8} (r:List UInt8),c ∉ l→Lib.indexByte (l ++ c :: r) c=(l.length:Int)
 | [],c,r,_=>by simp [Lib.indexByte]
 |b :: l,c,r,h=>by
  have hb:(b == c)=false:=by simp;rintro rfl;exact h (by simp)
  rw [List.cons_append,Lib.indexByte,hb,idx_at r fun hc=>h (by simp [hc])];have:((l.length:Int) == -1)=false:=by simp
  simp only [this];simp
theorem zCz {sg:UInt8} (h:57 < sg.toNat) (n:Nat):sg ∉ txt n:=fun hc=>by have:=zvh n sg hc;omega
theorem idxI (l:List UInt8) (sg:UInt8) (w:World):Calls Tryz.prog 271 #[.string (bs l),.int .u8 (sg.toNat:Int)] w fun e w'=>e=.returned (qI (Lib.indexByte l sg))∧w=w':=by
 have:=idx_val (bs l) (sg.toNat:Int) w
 rwa [Int.toNat_natCast,show sg.toNat.toUInt8=sg from UInt8.ofNat_toNat,show (bs l).data.toList=l from rfl] at this
theorem pair_no (l:List UInt8) (sg:UInt8) (v:Value) (w:World) (hn:sg ∉ l):Calls Tryz.prog 216 #[.string (bs l),.int .u8 (sg.toNat:Int),v] w fun e w'=>e=.returned (.bool false)∧w=w':=by
 have HI:=hid fun X=>idxI l sg X;rw [zyt hn] at HI;generalize bs l=S at HI ⊢;generalize (sg.toNat:Int)=c at HI ⊢;go_enter Tryz.func216,Tryz.ntmps216
 go_wp2_with (go_at_call 271;refine (HI.out _).mono ?_;rintro e w2 ⟨rfl,rfl⟩)
 go_ret;exact⟨rfl,rfl⟩
theorem zr7 (i b o k cap:Nat) (x:Int) (sg:UInt8) (w:World) (hi:i < k) (hk:k≤16) (h0:0 < x) (h1:x < 2147483648) (hsg:57 < sg.toNat) (hc:w.cell? ⟨b,o+i,none⟩=some (qI 0)) (hf:w.frozen? ⟨b,o+i,none⟩=false):
  Calls Tryz.prog 216 #[.string (bs (txt i ++ sg :: tk x)),.int .u8 (sg.toNat:Int),.slice (some ⟨b,o,none⟩) k cap] w fun e w'=>e=.returned (.bool true)∧w.setCell ⟨b,o+i,none⟩ (qI x)=w':=by
 have HI:=hid fun X=>idxI (txt i ++ sg :: tk x) sg X;rw [idx_at _ (zCz hsg i)] at HI;have HR1:=hid fun X=>readI (i:Int) X (by omega) (by omega);have HR2:=hid fun X=>readI x X (by omega) h1;have hsz:=zhw (txt i ++ sg :: tk x);rw [List.length_append,List.length_cons] at hsz;have hx1:(bs (txt i ++ sg :: tk x)).extract 0 (txt i).length=bs (tk (i:Int)):=by rw [zif];simp [tk]
 have hx2:(bs (txt i ++ sg :: tk x)).extract ((txt i).length+1) ((txt i).length+((tk x).length+1))=bs (tk x):=by
  rw [zif,List.drop_append,List.drop_eq_nil_of_le (by omega),show (txt i).length+1 - (txt i).length=1 by omega];simp;rw [List.take_of_length_le (by omega)]
 have l1:=zbx i;have l2:(tk x).length≤10:=zbx _;generalize bs (txt i ++ sg :: tk x)=S at HI hsz hx1 hx2 ⊢;generalize (sg.toNat:Int)=c at HI ⊢;generalize (txt i).length=L at HI hsz hx1 hx2 l1;generalize (tk x).length=K at hsz hx2 l2;generalize bs (tk (i:Int))=A at HR1 hx1;generalize bs (tk x)=B at HR2 hx2;have t1:decide ((k:Int)≤(i:Int))=false:=by simp;omega
 have t2:(x == 0)=false:=by simp;omega
 have k0:(0:Int)≤(i:Int):=by omega
 have k1:(i:Int) < (k:Int):=by omega
 clear hsg;go_enter Tryz.func216,Tryz.ntmps216
 go_wp2_with fail
 refine (HI.out _).mono ?_;rintro e w2 ⟨rfl,rfl⟩
 go_wp2_with fail
 refine (HR1.out _).mono ?_;rintro e w2 ⟨rfl,rfl⟩
 go_wp2_with fail
 refine (HR2.out _).mono ?_;rintro e w2 ⟨rfl,rfl⟩;go_wp2;go_ret;exact⟨rfl,rfl⟩
def zai (x:Img) (M:Nat→zas) (m:Int):Nat:=if 0≤m∧m < x.mn then (M m.toNat).t else 0
theorem zjo (x:Img) (M:Nat→zas) (m:Int) (w:World) (hM:zcu w x.mo x.mn M):Calls Tryz.prog 89 #[iv x,qI m] w fun e w'=>e=.returned (qU (zai x M m:Nat))∧Below w.heap.size w w':=by
 obtain⟨r,ao,n,cap,mo,mn,mc,eo,en,ec⟩:=x;unfold iv;dsimp only at hM ⊢;have hb:=qBr (w:=w) (qC #[qI r,.slice ao n cap,.slice mo mn mc,.slice eo en ec] 26);have hblk:(w.alloc (qC #[qI r,.slice ao n cap,.slice mo mn mc,.slice eo en ec] 26)).heap[w.heap.size]? =some (qC #[qI r,.slice ao n cap,.slice mo mn mc,.slice eo en ec] 26):=heap_alloc_new w _;have c2:=zaa hblk 2;by_cases h0:m < 0
 ·have t1:decide (m < 0)=true:=by simp;omega
  go_enter Tryz.func89,Tryz.ntmps89;go_wp2;go_ret;exact⟨by unfold zai;rw [if_neg (by simp only;omega)];rfl,hb⟩
 ·have t1:decide (m < 0)=false:=by simp;omega
  by_cases h1:(mn:Int)≤m
  ·have t2:decide ((mn:Int)≤m)=true:=by simp;omega
   go_enter Tryz.func89,Tryz.ntmps89;go_wp2;go_ret;exact⟨by unfold zai;rw [if_neg (by simp only;omega)];rfl,hb⟩
  ·have t2:decide ((mn:Int)≤m)=false:=by simp;omega
   obtain⟨k,rfl⟩:∃ k:Nat,m=k:=⟨m.toNat,by omega⟩;obtain⟨b,o,rfl,d1,d2⟩:=hM k (by omega);have d1:=kept d1 hb;have i0:(0:Int)≤(k:Int):=by omega
   have i1:(k:Int) < (mn:Int):=by omega
   go_enter Tryz.func89,Tryz.ntmps89;go_wp2;go_ret;exact⟨by unfold zai;rw [if_pos (by simp only;omega)];rfl,hb⟩
theorem bitN_nat {i:Nat} (h:i≤31):bitN (i:Int)=2 ^ i:=by
 unfold bitN;rw [if_pos (by omega)];rfl
theorem zCr {r i:Nat} (h:i≤16) (hr:r < 2 ^ i):r |||bitN (i:Int) < 2 ^ (i+1):=by
 rw [bitN_nat (by omega)];exact Nat.or_lt_two_pow (Nat.lt_of_lt_of_le hr (Nat.pow_le_pow_right (by decide) (by omega))) (Nat.pow_lt_pow_right (by decide) (by omega))
theorem zyc {i:Nat} (h:i≤17):2 ^ i < 4294967296:=Nat.lt_of_le_of_lt (Nat.pow_le_pow_right (by decide) h) (by decide)
def allF:Nat→Nat
 |0=>0
 |i+1=>allF i |||bitN (i:Int)
theorem zxj:∀ {i:Nat},i≤16→allF i < 2 ^ i
 |0,_=>by decide
 |i+1,h=>zCr (by omega) (zxj (by omega))
theorem all_any (x:Img) (w:World) (hn:x.n≤16):Calls Tryz.prog 152 #[iv x] w fun e w'=>e=.returned (qU (allF x.n:Nat))∧Below w.heap.size w w':=by
 obtain⟨r,ao,n,cap,mo,mn,mc,eo,en,ec⟩:=x;unfold iv;dsimp only at hn ⊢;have HL:=hid fun (i:Nat) (hi:i≤16)=>zxj hi;have HS:=hid fun (i:Nat)=>show allF (i+1)=allF i |||bitN (i:Int) from rfl
 have H0:=hid (show allF 0=0 from rfl);obtain⟨F,hF⟩:∃ F,F=allF:=⟨_,rfl⟩;rw [←hF] at HL HS H0 ⊢;clear hF;have hb:=qBr (w:=w) (qC #[qI r,.slice ao n cap,.slice mo mn mc,.slice eo en ec] 26);have hblk:(w.alloc (qC #[qI r,.slice ao n cap,.slice mo mn mc,.slice eo en ec] 26)).heap[w.heap.size]? =some (qC #[qI r,.slice ao n cap,.slice mo mn mc,.slice eo en ec] 26):=heap_alloc_new w _;have c1:=zaa hblk 1;have HB:=hid hb;clear hb hblk;go_enter Tryz.func152,Tryz.ntmps152;go_wp2;obtain⟨W0,hW0⟩:∃ W,W=(w.alloc (qC #[qI r,.slice ao n cap,.slice mo mn mc,.slice eo en ec] 26)):=⟨_,rfl⟩;rw [←hW0] at HB ⊢;clear hW0 c1
 go_loopw [3,8] (fun s_ i_ wr=>∃ i s:Nat,i≤n∧s_=qU s∧i_=qI i∧Hid (F i=s)∧W0=wr) (fun _ i_ _=>n - (intOf i_).toNat)
 case atStart=>exact⟨0,0,by omega,rfl,rfl,H0,rfl⟩
 case round=>
  clear H0;obtain⟨i,s,hi,rfl,rfl,HSi,rfl⟩:=hrel;by_cases hlt:i < n
  ·have t0:decide ((i:Int) < (n:Int))=true:=by simp;omega
   have hs32:s < 4294967296:=by
    rw [←HSi.out];exact Nat.lt_trans (HL.out i (by omega)) (zyc (by omega))
   have HS2:=hid (show F (i+1)=s |||bitN (i:Int) by rw [HS.out,HSi.out])
   go_wp2_with (go_at_call 138;refine (zjl s hs32 i _).mono ?_;rintro e w2 ⟨rfl,rfl⟩)
   go_roundw
   case rel=>exact⟨i+1,_,by omega,rfl,by go_num,HS2,trivial⟩
   case measure=>simp [intOf];omega
  ·obtain rfl:i=n:=by omega
   have t0:decide ((i:Int) < (i:Int))=false:=by simp
   go_wp2;go_ret;exact⟨by rw [HSi.out];rfl,HB.out⟩
def inR (n a b:Int):Bool:=decide (a≤n) && decide (n≤b)
theorem zal (n a b:Int) (w:World):Calls Tryz.prog 140 #[qI n,qI a,qI b] w fun e w'=>e=.returned (.bool (inR n a b))∧w=w':=by
 by_cases h:a≤n
 ·have t1:decide (a≤n)=true:=by simp [h]
  go_enter Tryz.func140,Tryz.ntmps140;go_wp2;go_ret;exact⟨by simp [inR,h],rfl⟩
 ·have t1:decide (a≤n)=false:=by simp;omega
  go_enter Tryz.func140,Tryz.ntmps140;go_wp2;go_ret;exact⟨by simp only [inR];rw [t1];rfl,rfl⟩
theorem zb7 {n a b:Int} (h:inR n a b=true):a≤n∧n≤b:=by simpa [inR] using h
def zaj (x:Nat→Int):Obj:=.cells #[qI (x 0),qI (x 1),qI (x 2),qI (x 3),qI (x 4),qI (x 5),qI (x 6),qI (x 7),qI (x 8),qI (x 9),qI (x 10)] 165
structure zE1 (x:Nat→Int) (res:Int):Prop where
 p1:1≤x 0
 p2:x 0≤4096
 d1:1≤x 1
 d2:x 1≤x 0
 c1:1≤x 2
 c2:x 2≤x 1
 l:∀ j,j < 8→0≤x (3+j)∧x (3+j)≤x 2
end Go.Proofs.YtpbmmoneeoijaaaGreatDoor
namespace Go.Proofs.YtpbmmoneeoijaaaGreatDoor
open Go.RowKit
section
variable {P:Program} {ops:Array Oper}
def zfc (ops:Array Oper) (j:Nat):Option Tmp:=(ops[j]?).bind (·.dst)
def FF (ops:Array Oper) (V:Nat→Value) (c:Nat→Bool) (a0:Act):Nat→Act
 |0=>a0
 |m+1=>if c m then (FF ops V c a0 m).put (zfc ops m) (V m) else FF ops V c a0 m
def LK (ops:Array Oper) (V:Nat→Value) (c:Nat→Bool) (a0:Act) (t:Nat):Nat→Option Value
 |0=>a0.tmps[t]?
 |m+1=>if c m=true∧zfc ops m=some t then (a0.tmps[t]?).map fun _=>V m else LK ops V c a0 t m
theorem zC9 (a:Act) (d:Option Tmp) (v:Value) (t:Nat):(a.put d v).tmps[t]? =if d=some t then (a.tmps[t]?).map fun _=>v else a.tmps[t]?:=by
 cases d with
 |none=>simp [Act.put]
 |some d=>
  simp only [Act.put,Array.getElem?_setIfInBounds];by_cases h:d=t
  ·subst h
   by_cases hs:d < a.tmps.size
   ·simp [hs]
   ·simp [hs]
  ·simp [h]
theorem zdx (a:Act) (d:Option Tmp) (v:Value):(a.put d v).defers=a.defers:=by cases d<;>rfl
theorem zdq (V:Nat→Value) (c:Nat→Bool) (a0:Act) (m:Nat):(FF ops V c a0 m).defers=a0.defers:=by
 induction m with
 |zero=>rfl
 |succ m ih=>simp only [FF];split<;>simp [zdx,ih]
theorem zE2 (V:Nat→Value) (c:Nat→Bool) (a0:Act) (t m:Nat):(LK ops V c a0 t m).isSome=(a0.tmps[t]?).isSome:=by
 induction m with
 |zero=>rfl
 |succ m ih=>simp only [LK];split<;>simp [ih]
theorem zdi (V:Nat→Value) (c:Nat→Bool) (a0:Act) (t m:Nat):(FF ops V c a0 m).tmps[t]? =LK ops V c a0 t m:=by
 induction m with
 |zero=>rfl
 |succ m ih=>
  simp only [FF,LK];by_cases hc:c m=true
  ·simp only [hc,if_true,true_and]
   rw [zC9,ih];by_cases hd:zfc ops m=some t
   ·simp only [hd,if_true]
    have:=zE2 (ops:=ops) V c a0 t m
    cases h1:LK ops V c a0 t m<;>cases h2:a0.tmps[t]?<;>simp [h1,h2] at this ⊢
   ·simp only [hd,if_false]
  ·simp only [hc,Bool.false_eq_true,if_false,false_and]
   exact ih
theorem zfw (V:Nat→Value) {c c':Nat→Bool} (a0:Act) (t m:Nat) (h:∀ j,j < m→zfc ops j=some t→c j=c' j):LK ops V c a0 t m=LK ops V c' a0 t m:=by
 induction m with
 |zero=>rfl
 |succ m ih=>
  simp only [LK];rw [ih fun j hj=>h j (by omega)];by_cases hd:zfc ops m=some t
  ·rw [h m (by omega) hd]
  ·simp [hd]
theorem zs4 {a b:Act} (h1:∀ t:Nat,a.tmps[t]? =b.tmps[t]?) (h2:a.defers=b.defers):a=b:=by
 obtain⟨x,y⟩:=a;obtain⟨x',y'⟩:=b;simp only at h1 h2;rw [h2,Array.ext_getElem? h1]
theorem zcz (V:Nat→Value) {c c':Nat→Bool} (a0:Act) (m:Nat) (h:∀ j,j < m→c j=c' j):FF ops V c a0 m=FF ops V c' a0 m:=
 zs4 (fun t=>by rw [zdi,zdi];exact zfw V a0 t m fun j hj _=>h j hj) (by rw [zdq,zdq])
theorem zFo (V:Nat→Value) (a0:Act) (k m:Nat) (hk:k≤m):FF ops V (fun j=>decide (j < k)) a0 m=FF ops V (fun _=>true) a0 k:=by
 induction m with
 |zero=>
      obtain rfl:k=0:=by omega
      rfl
 |succ m ih=>
  by_cases h:k=m+1
  ·subst h;exact zcz V a0 _ fun j hj=>by simp [hj]
  ·simp only [FF]
   rw [if_neg (by simp;omega)];exact ih (by omega)
def wf (ops:Array Oper) (j i:Nat):Prop:=∃ oj,ops[j]? =some oj∧∃ e∈oj.after,Region.binds .any e=true∧e.on=i
structure zqf (ops:Array Oper) (N:Nat):Prop where
 le:N≤ops.size
 sel:Region.noSelect ops=true
 back:∀ k ok,k < N→ops[k]? =some ok→∀ e∈ok.after,Region.binds .any e=true→e.on < k
 pair:∀ k j ok oj,k < j→j < N→ops[k]? =some ok→ops[j]? =some oj→wf ops j k∨ok.apart ops oj=true
theorem agree {N:Nat} (lx:zqf ops N) {listed:Array Bool} (inv:HeadInv .any ops N listed) (V:Nat→Value) (a0:Act) {k:Nat} {ok:Oper} (hk:k < N) (hok:ops[k]? =some ok)
  (hr:k∈Region.ready .any ops listed) {t:Nat} (ht:t∈ok.looksAt ops):
  LK ops V (fun j=>listed.getD j false) a0 t N=LK ops V (fun j=>decide (j < k)) a0 t N:=by
 obtain⟨hun,ok',hok',hall⟩:=mem_ready.1 hr;obtain rfl:ok'=ok:=Option.some.inj (hok'.symm.trans hok);refine zfw V a0 t N fun j hj hd=>?_;obtain⟨oj,hoj,hdj⟩:∃ oj,ops[j]? =some oj∧oj.dst=some t:=by
  unfold zfc at hd
  cases h:ops[j]? with
  |none=>rw [h] at hd;cases hd
  |some oj=>rw [h] at hd;exact⟨oj,rfl,hd⟩
 rcases Nat.lt_trichotomy j k with h|h|h
 ·rw [decide_eq_true h]
  rcases lx.pair j k oj ok' h hk hoj hok with ⟨o',ho',e,he,hb,hon⟩|hap
  ·obtain rfl:o'=ok':=Option.some.inj (ho'.symm.trans hok)
   rw [←hon];exact hall e he hb
  ·exact absurd ht ((Oper.apart_spec hap).1 t hdj)
 ·subst h;rw [getD_both hun];simp
 ·rw [decide_eq_false (by omega)]
  cases hl:listed.getD j false with
  |false=>rfl
  |true=>
   rcases lx.pair k j ok' oj h hj hok hoj with ⟨o',ho',e,he,hb,hon⟩|hap
   ·have h1:=inv.closed j o' ho' hl e he hb
    rw [hon,getD_both hun] at h1;exact h1.symm
   ·exact absurd ht ((Oper.apart_spec hap).2.2 t hdj)
theorem zlo {N:Nat} (lx:zqf ops N) {listed:Array Bool} (inv:HeadInv .any ops N listed) (V:Nat→Value) (a0:Act) {k:Nat} {ok:Oper} (hk:k < N) (hok:ops[k]? =some ok)
  (hr:k∈Region.ready .any ops listed):
  (FF ops V (fun j=>listed.getD j false) a0 N).put ok.dst (V k)=FF ops V (fun j=>(listed.setIfInBounds k true).getD j false) a0 N:=by
 obtain⟨hun,ok',hok',hall⟩:=mem_ready.1 hr;obtain rfl:ok'=ok:=Option.some.inj (hok'.symm.trans hok);have hks:k < listed.size:=by rw [inv.size];have:=lx.le;omega
 have hset:∀ j,(listed.setIfInBounds k true).getD j false=(decide (j=k) || listed.getD j false):=fun j=>by
  by_cases h:j=k
  ·subst h;simp [hks]
  ·rw [getD_set_ne false (by omega)];simp [h]
 refine zs4 (fun t=>?_) (by rw [zdx,zdq,zdq]);rw [zC9,zdi,zdi];by_cases hd:ok'.dst=some t
 ·rw [if_pos hd]
  have hno:∀ j,k < j→j < N→zfc ops j=some t→listed.getD j false=false:=fun j hkj hj hdj=>by
   obtain⟨oj,hoj,hdj'⟩:∃ oj,ops[j]? =some oj∧oj.dst=some t:=by
    unfold zfc at hdj
    cases h:ops[j]? with
    |none=>rw [h] at hdj;cases hdj
    |some oj=>rw [h] at hdj;exact⟨oj,rfl,hdj⟩
   cases hl:listed.getD j false with
   |false=>rfl
   |true=>
    rcases lx.pair k j ok' oj hkj hj hok hoj with ⟨o',ho',e,he,hb,hon⟩|hap
    ·have h1:=inv.closed j o' ho' hl e he hb
     rw [hon,getD_both hun] at h1;cases h1
    ·exact absurd hdj' ((Oper.apart_spec hap).2.1 t hd)
  have key:∀ m,k < m→m≤N→LK ops V (fun j=>(listed.setIfInBounds k true).getD j false) a0 t m=(a0.tmps[t]?).map fun _=>V k:=fun m=>by
   induction m with
   |zero=>intro h;omega
   |succ m ih=>
    intro hkm hm;simp only [LK];by_cases hmk:m=k
    ·subst hmk
     rw [if_pos ⟨by rw [hset];simp,by unfold zfc;rw [hok];exact hd⟩]
    ·by_cases hdm:zfc ops m=some t
     ·rw [if_neg (by rw [hset,hno m (by omega) (by omega) hdm];simp [hmk])]
      exact ih (by omega) (by omega)
     ·rw [if_neg (by simp [hdm])]
      exact ih (by omega) (by omega)
  rw [key N hk (Nat.le_refl _)];have:=zE2 (ops:=ops) V (fun j=>listed.getD j false) a0 t N;generalize LK ops V (fun j=>listed.getD j false) a0 t N=x at this ⊢
  cases x<;>cases h2:a0.tmps[t]?<;>simp [h2] at this ⊢
 ·rw [if_neg hd]
  refine zfw V a0 t N fun j hj hdj=>?_;rw [hset];have:j≠k:=fun e=>by
   subst e;unfold zfc at hdj;rw [hok] at hdj;exact hd hdj
  simp [this]
theorem zsg {a b:Act} {x:Operand} (h:∀ t,x=.tmp t→a.tmps[t]? =b.tmps[t]?):a.eval x=b.eval x:=by
 cases x with
 |tmp t=>
  simp only [Act.eval];rw [Array.getD_eq_getD_getElem?,Array.getD_eq_getD_getElem?,h t rfl]
 |const v=>rfl
 |global g=>rfl
 |func f=>rfl
theorem zbz {a b:Act} {o:Oper} (hs:∀ cs b,o.op≠.select cs b) (h:∀ t,t∈o.looksAt ops→a.tmps[t]? =b.tmps[t]?):execOp a.eval o=execOp b.eval o:=
 execOp_congr o hs fun x hx=>zsg fun t ht=>h t (by
  subst ht;exact List.mem_append_left _ (List.mem_filterMap.2 ⟨.tmp t,by simpa using hx,rfl⟩))
theorem zbg {a b:Act} {o:Oper} (h:∀ t,t∈o.looksAt ops→a.tmps[t]? =b.tmps[t]?):Region.wanted o (yielded ops a.tmps)=Region.wanted o (yielded ops b.tmps):=by
 unfold Region.wanted
 cases hg:o.guard with
 |none=>rfl
 |some gw=>
  obtain⟨g,want⟩:=gw;have hy:yielded ops a.tmps g=yielded ops b.tmps g:=by
   unfold yielded
   cases ht:(ops[g]?).bind (·.dst) with
   |none=>rfl
   |some t=>
    simp only [Option.bind_some];rw [h t (List.mem_append_right _ (by rw [hg];simp [ht]))]
  simp only [hy]
def ze7 (o:Oper):Bool:=
 match o.op with
 | .alloc _| .buildSlice .. | .box ..=>true
 |_=>false
def zda (ops:Array Oper) (j:Nat):Bool:=(ops[j]?).any ze7
def cnt (c:Nat→Bool):Nat→Nat
 |0=>0
 |m+1=>cnt c m+if c m then 1 else 0
theorem zgl {c c':Nat→Bool} (m:Nat) (h:∀ j,j < m→c j=c' j):cnt c m=cnt c' m:=by
 induction m with
 |zero=>rfl
 |succ m ih=>simp only [cnt];rw [ih fun j hj=>h j (by omega),h m (by omega)]
theorem zEd (c:Nat→Bool) (k m:Nat) (hk:k≤m):cnt (fun j=>c j && decide (j < k)) m=cnt c k:=by
 induction m with
 |zero=>
      obtain rfl:k=0:=by omega
      rfl
 |succ m ih=>
  by_cases h:k=m+1
  ·subst h;exact zgl _ fun j hj=>by simp [hj]
  ·simp only [cnt]
   rw [ih (by omega)];simp only [show ¬ m < k by omega,decide_false,Bool.and_false,Bool.false_eq_true,if_false,Nat.add_zero]
theorem zpd (c d:Nat→Bool) (k m:Nat) (hk:k < m) (hc:c k=false) (hd:d k=true) (h:∀ j,j≠k→d j=c j):cnt d m=cnt c m+1:=by
 induction m with
 |zero=>omega
 |succ m ih=>
  simp only [cnt];by_cases hkm:k=m
  ·subst hkm
   rw [zgl (c:=d) (c':=c) k fun j hj=>h j (by omega),hc,hd];simp
  ·rw [ih (by omega),h m (by omega)];omega
def zjd (C:World→Prop) (v:Value):Result Next→Prop
 | .ok (.value u) w'=>u=v∧C w'
 |_=>False
def Oper.quietS (P:Program) (o:Oper) (a:Act) (C:Nat→World→Prop) (next:Act→Prop):Prop:=∃ v,(∀ s w,C s w→o.quietAt P a (C s) w v)∧next (a.put o.dst v)
def Oper.effS (P:Program) (o:Oper) (a:Act) (C:Nat→World→Prop) (s:Nat) (next:Act→Prop):Prop:=∃ v,(∀ w,C s w→zjd (C (s+1)) v ((execOp a.eval o).run P w))∧next (a.put o.dst v)
def zl4 (P:Program) (ops:Array Oper) (C:Nat→World→Prop) (Q:Nat→Act→Prop):Nat→List Oper→Act→Prop
 |s,[],a=>Q s a
 |s,o :: rest,a=>if Region.wanted o (yielded ops a.tmps) then (if ze7 o then Oper.effS P o a C s (zl4 P ops C Q (s+1) rest) else Oper.quietS P o a C (zl4 P ops C Q s rest)) else (ze7 o=false∧zl4 P ops C Q s rest (a.put o.dst undef))
def zu5 (P:Program) (ops:Array Oper) (C:Nat→World→Prop) (a0:Act) (V:Nat→Value) (k:Nat) (o:Oper):Prop:=
 (Region.wanted o (yielded ops (FF ops V (fun _=>true) a0 k).tmps)=true∧ze7 o=true∧∀ w,C (cnt (zda ops) k) w→zjd (C (cnt (zda ops) k+1)) (V k) ((execOp (FF ops V (fun _=>true) a0 k).eval o).run P w))∨
 (Region.wanted o (yielded ops (FF ops V (fun _=>true) a0 k).tmps)=true∧ze7 o=false∧∀ s w,C s w→o.quietAt P (FF ops V (fun _=>true) a0 k) (C s) w (V k))∨
 (Region.wanted o (yielded ops (FF ops V (fun _=>true) a0 k).tmps)=false∧ze7 o=false∧V k=undef)
theorem FF_V {V V':Nat→Value} (c:Nat→Bool) (a0:Act) (m:Nat) (h:∀ j,j < m→V j=V' j):FF ops V c a0 m=FF ops V' c a0 m:=by
 induction m with
 |zero=>rfl
 |succ m ih=>simp only [FF];rw [ih fun j hj=>h j (by omega),h m (by omega)]
theorem zn2 {C:Nat→World→Prop} {Q:Nat→Act→Prop} (a0:Act):∀ (l:List Oper) (k s:Nat) (a:Act) (V0:Nat→Value),(∀ j,j < l.length→ops[k+j]? =l[j]?)→a=FF ops V0 (fun _=>true) a0 k→s=cnt (zda ops) k→
  zl4 P ops C Q s l a→∃ V,(∀ j,j < k→V j=V0 j)∧(∀ j o,k≤j→j < k+l.length→ops[j]? =some o→zu5 P ops C a0 V j o)∧Q (cnt (zda ops) (k+l.length)) (FF ops V (fun _=>true) a0 (k+l.length))
 | [],k,s,a,V0,_,ha,hs,h=>⟨V0,fun _ _=>rfl,fun j o h1 h2 _=>by simp at h2;omega,by subst ha hs;exact h⟩
 |o :: rest,k,s,a,V0,hl,ha,hs,h=>by
  have hok:ops[k]? =some o:=by have:=hl 0 (by simp);simpa using this
  have heff:zda ops k=ze7 o:=by unfold zda;rw [hok];rfl
  have go:∀ (v:Value) (s':Nat),s'=cnt (zda ops) (k+1)→(∀ V:Nat→Value,(∀ j,j < k→V j=V0 j)→V k=v→zu5 P ops C a0 V k o)→zl4 P ops C Q s' rest (a.put o.dst v)→
    ∃ V,(∀ j,j < k→V j=V0 j)∧(∀ j o',k≤j→j < k+(o :: rest).length→ops[j]? =some o'→zu5 P ops C a0 V j o')∧Q (cnt (zda ops) (k+(o :: rest).length)) (FF ops V (fun _=>true) a0 (k+(o :: rest).length)):=fun v s' hs' hstep hrest=>by
   obtain⟨V,h1,h2,h3⟩:=zn2 a0 rest (k+1) s' (a.put o.dst v) (fun j=>if j=k then v else V0 j) (fun j hj=>by
     have:=hl (j+1) (by simp;omega);rw [show k+1+j=k+(j+1) by omega,this];simp) (by
     subst ha;simp only [FF,if_true];have e1:zfc ops k=o.dst:=by unfold zfc;rw [hok];rfl
     rw [e1]
     congr 1
     exact FF_V _ _ _ fun j hj=>by rw [if_neg (by omega)]) hs' hrest
   have hv:V k=v:=by rw [h1 k (by omega)];simp
   have hlt:∀ j,j < k→V j=V0 j:=fun j hj=>by rw [h1 j (by omega),if_neg (by omega)]
   refine⟨V,hlt,fun j o' hj1 hj2 ho'=>?_,?_⟩
   ·by_cases hjk:j=k
    ·subst hjk
     obtain rfl:o'=o:=Option.some.inj (ho'.symm.trans hok);exact hstep V hlt hv
    ·exact h2 j o' (by omega) (by simp at hj2;omega) ho'
   ·rw [show k+(o :: rest).length=k+1+rest.length by simp;omega];exact h3
  have hfr:∀ V:Nat→Value,(∀ j,j < k→V j=V0 j)→FF ops V (fun _=>true) a0 k=a:=fun V hV=>by rw [ha];exact FF_V _ _ _ hV
  unfold zl4 at h;by_cases hw:Region.wanted o (yielded ops a.tmps)=true
  ·rw [if_pos hw] at h
   by_cases he:ze7 o=true
   ·rw [if_pos he] at h
    obtain⟨v,hv,hK⟩:=h;refine go v (s+1) (by simp only [cnt];rw [heff,he,←hs];rfl) (fun V hV hVk=>.inl ?_) hK;rw [hfr V hV,←hs,hVk];exact⟨hw,he,hv⟩
   ·rw [if_neg he] at h
    obtain⟨v,hv,hK⟩:=h;have he':ze7 o=false:=by simpa using he
    refine go v s (by simp only [cnt];rw [heff,he',←hs];rfl) (fun V hV hVk=>.inr (.inl ?_)) hK;rw [hfr V hV,hVk];exact⟨hw,he',hv⟩
  ·rw [if_neg hw] at h
   refine go undef s (by simp only [cnt];rw [heff,h.1,←hs];rfl) (fun V hV hVk=>.inr (.inr ?_)) h.2;rw [hfr V hV];exact⟨by simpa using hw,h.1,hVk⟩
def zFp (ops:Array Oper) (N:Nat):Prop:=∀ i j,i < j→j < N→zda ops i=true→zda ops j=true→wf ops j i∨∃ x,wf ops j x∧wf ops x i
theorem ze5 {N:Nat} {listed:Array Bool} (inv:HeadInv .any ops N listed) {j i:Nat} (hj:listed.getD j false=true) (h:wf ops j i):listed.getD i false=true:=by
 obtain⟨oj,hoj,e,he,hb,hon⟩:=h;rw [←hon];exact inv.closed j oj hoj hj e he hb
theorem zfo {listed:Array Bool} {j i:Nat} (hr:j∈Region.ready .any ops listed) (h:wf ops j i):listed.getD i false=true:=by
 obtain⟨_,oj,hoj,hall⟩:=mem_ready.1 hr;obtain⟨oj',hoj',e,he,hb,hon⟩:=h;obtain rfl:oj'=oj:=Option.some.inj (hoj'.symm.trans hoj);rw [←hon];exact hall e he hb
def stg (ops:Array Oper) (N:Nat) (listed:Array Bool):Nat:=cnt (fun j=>zda ops j && listed.getD j false) N
theorem zxy {N:Nat} (ef:zFp ops N) {listed:Array Bool} (inv:HeadInv .any ops N listed) {k:Nat} (hk:k < N) (hr:k∈Region.ready .any ops listed) (he:zda ops k=true):stg ops N listed=cnt (zda ops) k:=by
 have hun:=(mem_ready.1 hr).1;rw [←zEd (zda ops) k N (by omega)];refine zgl N fun j hj=>?_
 cases hej:zda ops j with
 |false=>rfl
 |true=>
  simp only [Bool.true_and];rcases Nat.lt_trichotomy j k with h|h|h
  ·rw [decide_eq_true h]
   rcases ef j k h hk hej he with h1|⟨x,h1,h2⟩
   ·exact zfo hr h1
   ·exact ze5 inv (zfo hr h1) h2
  ·subst h;rw [getD_both hun];simp
  ·rw [decide_eq_false (by omega)]
   cases hl:listed.getD j false with
   |false=>rfl
   |true=>
    exfalso;have:listed.getD k false=true:=by
     rcases ef k j h hj he hej with h1|⟨x,h1,h2⟩
     ·exact ze5 inv hl h1
     ·exact ze5 inv (ze5 inv hl h1) h2
    rw [getD_both hun] at this;cases this
theorem za0 {listed:Array Bool} {k:Nat} (hks:k < listed.size) (j:Nat):(listed.setIfInBounds k true).getD j false=(decide (j=k) || listed.getD j false):=by
 by_cases h:j=k
 ·subst h;simp [hks]
 ·rw [getD_set_ne false (by omega)];simp [h]
theorem zn3 {N:Nat} {listed:Array Bool} {k:Nat} (hks:k < listed.size) (hk:k < N) (hun:listed.getD k true=false) (he:zda ops k=true):stg ops N (listed.setIfInBounds k true)=stg ops N listed+1:=by
 refine zpd _ _ k N hk ?_ ?_ fun j hj=>?_
 ·simp only [getD_both hun,Bool.and_false]
 ·simp only [he,za0 hks,decide_true,Bool.true_or,Bool.and_self]
 ·simp only [za0 hks,hj,decide_false,Bool.false_or]
theorem zgp {N:Nat} {listed:Array Bool} {k:Nat} (hks:k < listed.size) (he:zda ops k=false):stg ops N (listed.setIfInBounds k true)=stg ops N listed:=by
 refine zgl N fun j hj=>?_;by_cases h:j=k
 ·subst h;simp only [he,Bool.false_and]
 ·simp only [za0 hks,h,decide_false,Bool.false_or]
def ze3 (n N:Nat):Array Bool:=((List.range n).map fun j=>decide (j < N)).toArray
def left (listed:Array Bool):Nat→Nat:=cnt (fun j=>!listed.getD j false)
theorem zhl {listed:Array Bool} {m:Nat} (h:left listed m=0):∀ j,j < m→listed.getD j false=true:=by
 induction m with
 |zero=>intro j hj;omega
 |succ m ih=>
  unfold left at h ih;simp only [cnt] at h;intro j hj;by_cases hjm:j=m
  ·subst hjm
   cases hl:listed.getD j false with
   |true=>rfl
   |false=>simp [hl] at h
  ·exact ih (by omega) j (by omega)
theorem zj7 {listed:Array Bool} {m:Nat} (h:left listed m≠0):∃ j,j < m∧listed.getD j false=false∧∀ i,i < j→listed.getD i false=true:=by
 induction m with
 |zero=>exact absurd rfl h
 |succ m ih=>
  by_cases h0:left listed m=0
  ·refine⟨m,by omega,?_,zhl h0⟩
   unfold left at h h0;simp only [cnt] at h
   cases hl:listed.getD m false with
   |false=>rfl
   |true=>exact absurd (show cnt (fun j=>!listed.getD j false) m+(if (!listed.getD m false)=true then 1 else 0)=0 by simp only [h0,hl,Bool.not_true,Bool.false_eq_true,if_false]) h
  ·obtain⟨j,hj,h1,h2⟩:=ih h0
   exact⟨j,by omega,h1,h2⟩
theorem zne {N:Nat} (lx:zqf ops N) (ef:zFp ops N) (hs:N=ops.size∨Region.sinkB .any ops N=true∧Region.chainB .any ops N=true) (hq:Region.seqB .any ops (ops.size - N) N (ze3 ops.size N)=true)
  {C:Nat→World→Prop} {Q':Exit→Act→World→Prop} {a0:Act} {V:Nat→Value} (hstep:∀ j o,j < N→ops[j]? =some o→zu5 P ops C a0 V j o)
  (hfin:∀ w,C (cnt (zda ops) N) w→wpList P ops Q' (ops.toList.drop N) (FF ops V (fun _=>true) a0 N) w):
  ∀ (u:Nat) (listed:Array Bool) (w:World),left listed N=u→HeadInv .any ops N listed→C (stg ops N listed) w→wpAny P .any ops Q' (u+(ops.size - N)) listed (FF ops V (fun j=>listed.getD j false) a0 N) w
 |0,listed,w,hu,inv,hC=>by
  have hall:=zhl hu;have hle:=lx.le;have hpref:listed=ze3 ops.size N:=by
   apply Array.ext (by simp [ze3,inv.size]);intro j h1 h2;have hj:j < ops.size:=by rw [←inv.size];exact h1
   have e2:(ze3 ops.size N)[j]=decide (j < N):=by simp [ze3]
   rw [e2];by_cases hjN:j < N
   ·have:=hall j hjN
    simp [h1] at this;rw [this];simp [hjN]
   ·have:=inv.tail j (by omega) hj
    simp [h1] at this;rw [this];simp [hjN]
  have hst:stg ops N listed=cnt (zda ops) N:=zgl N fun j hj=>by simp only [hall j hj,Bool.and_true]
  have hf:FF ops V (fun j=>listed.getD j false) a0 N=FF ops V (fun _=>true) a0 N:=zcz V a0 N fun j hj=>hall j hj;rw [hf,Nat.zero_add];have hlen:(ops.toList.drop N).length=ops.size - N:=by simp
  have:=wpAny_of_seq (P:=P) (md:=.any) (ops:=ops) (Q':=Q') (ops.toList.drop N) N listed (FF ops V (fun _=>true) a0 N) w (fun j=>by simp) (by rw [hlen,hpref];exact hq) (hfin w (hst▸hC));rw [hlen] at this;exact this
 |u+1,listed,w,hu,inv,hC=>by
  have hle:=lx.le;have hsel:∀ (j:Nat) (o:Oper) (cs:Array SelectCase) (b:Bool),ops[j]? =some o→o.op≠.select cs b:=fun j o cs b h=>Region.noSelect_spec lx.sel j o cs b h;obtain⟨r,hrN,hrl,hrb⟩:=zj7 (listed:=listed) (m:=N) (by omega);have hrr:r∈Region.ready .any ops listed:=by
   have hro:ops[r]? =some ops[r]:=Array.getElem?_eq_getElem (by omega);refine mem_ready.2 ⟨getD_in (by rw [inv.size];omega) hrl,_,hro,fun e he hb=>hrb _ (lx.back r _ hrN hro e he hb)⟩
  rw [show u+1+(ops.size - N)=(u+(ops.size - N))+1 by omega];refine⟨fun h0=>(by rw [h0] at hrr;cases hrr),fun i hi=>?_⟩;have hiN:i < N:=by
   rcases hs with hs|⟨hs,hc⟩
   ·obtain⟨_,o,ho,_⟩:=mem_ready.1 hi
    have:=(qLt ho);omega
   ·rcases Nat.lt_or_ge i N with h|h
    ·exact h
    ·by_cases hNs:N < ops.size
     ·exact absurd hi (tail_waits hs hc hNs inv _ r rfl hrN (getD_in (by rw [inv.size];omega) hrl) i h)
     ·obtain⟨_,o,ho,_⟩:=mem_ready.1 hi
      have:=(qLt ho);omega
  obtain⟨hun,o,ho,_⟩:=mem_ready.1 hi;have his:i < listed.size:=by rw [inv.size];omega
  have hleft:left (listed.setIfInBounds i true) N=u:=by
   have:left listed N=left (listed.setIfInBounds i true) N+1:=by
    refine zpd _ _ i N hiN ?_ ?_ fun j hj=>?_
    ·simp only [za0 his,decide_true,Bool.true_or,Bool.not_true]
    ·simp only [getD_both hun,Bool.not_false]
    ·simp only [za0 his,hj,decide_false,Bool.false_or]
   omega
  have hinv':=inv.set hi hiN;have hagree:∀ t,t∈o.looksAt ops→(FF ops V (fun j=>listed.getD j false) a0 N).tmps[t]? =(FF ops V (fun _=>true) a0 i).tmps[t]?:=fun t ht=>by
   rw [←zFo V a0 i N (by omega),zdi,zdi];exact agree lx inv V a0 hiN ho hi ht
  have hwant:=zbg (ops:=ops) hagree;have hexec:=zbz (ops:=ops) (hsel i o · · ho) hagree;have hput:=zlo lx inv V a0 hiN ho hi;have heff:zda ops i=ze7 o:=by unfold zda;rw [ho];rfl
  have next:∀ w',C (stg ops N (listed.setIfInBounds i true)) w'→wpAny P .any ops Q' (u+(ops.size - N)) (listed.setIfInBounds i true) ((FF ops V (fun j=>listed.getD j false) a0 N).put o.dst (V i)) w':=fun w' hw'=>by
   rw [hput];exact zne lx ef hs hq hstep hfin u _ w' hleft hinv' hw'
  unfold wpOp;simp only [ho];rw [hwant];rcases hstep i o hiN ho with ⟨hw,he,hyes⟩|⟨hw,he,hyes⟩|⟨hw,he,hyes⟩
  ·rw [if_pos hw]
   left;have h3:=hyes w (by rw [←zxy ef inv hiN hi (heff.trans he)];exact hC);unfold Oper.wp;rw [hexec];generalize (execOp (FF ops V (fun _=>true) a0 i).eval o).run P w=r at h3 ⊢
   cases r with
   |ok n w'=>
    cases n<;>simp only [zjd] at h3<;>simp only [Oper.upon]
    obtain⟨rfl,h4⟩:=h3;refine next _ ?_;rw [zn3 his hiN hun (heff.trans he),zxy ef inv hiN hi (heff.trans he)];exact h4
   |halt x w'=>simp only [zjd] at h3
  ·rw [if_pos hw]
   left;have hsame:stg ops N (listed.setIfInBounds i true)=stg ops N listed:=zgp his (heff.trans he);have h3:=hyes (stg ops N listed) w hC;unfold Oper.quietAt at h3;unfold Oper.wp;rw [hexec];generalize (execOp (FF ops V (fun _=>true) a0 i).eval o).run P w=r at h3 ⊢
   cases r with
   |ok n w'=>
    cases n<;>simp only [Oper.quietUpon] at h3<;>simp only [Oper.upon]
    case value x=>
     obtain⟨rfl,rfl⟩:=h3;exact next _ (hsame.symm▸hC)
    case skip=>
     obtain⟨rfl,h4⟩:=h3;rw [←h4];exact next _ (hsame.symm▸hC)
    case enter f args=>
     obtain⟨rfl,hc⟩:=h3;refine hc.mono ?_;rintro e w'' ⟨rfl,hw''⟩;exact next _ (hsame.symm▸hw'')
   |halt x w'=>simp only [Oper.quietUpon] at h3
  ·rw [if_neg (by rw [hw];simp)]
   rw [←hyes];exact next w ((zgp his (heff.trans he)).symm▸hC)
end
def zg8 (k:Nat) (p:Oper):Bool:=p.after.any fun e=>Region.binds .any e && e.on == k
def effGo (ops:Array Oper):Nat→List Oper→Bool
 |_,[]=>true
 |k,o :: rest=>(!ze7 o || rest.all fun p=>!ze7 p || zg8 k p || p.after.any fun e=>Region.binds .any e && (ops[e.on]?).any (zg8 k)) && effGo ops (k+1) rest
def stgB (l:List Oper) (N:Nat):Bool:=
 Region.noSelect l.toArray && decide (N≤l.length) && zov l.toArray 0 (l.take N) && effGo l.toArray 0 (l.take N) &&
  (decide (N=l.length) || (Region.sinkB .any l.toArray N && Region.chainB .any l.toArray N)) && Region.seqB .any l.toArray (l.length - N) N (ze3 l.length N)
theorem zbs {ops:Array Oper} {j k:Nat} {p:Oper} (hp:ops[j]? =some p) (h:zg8 k p=true):wf ops j k:=by
 obtain⟨e,he,hb⟩:=Array.any_eq_true'.1 h;simp only [Bool.and_eq_true,beq_iff_eq] at hb;exact⟨p,hp,e,he,hb.1,hb.2⟩
theorem zgf {ops:Array Oper}:∀ (l:List Oper) (k:Nat),zov ops k l=true→∀ j o,l[j]? =some o→∀ e∈o.after,Region.binds .any e=true→e.on < k+j
 | [],_,_,j,o,ho,_,_,_=>by simp at ho
 |x :: rest,k,h,j,o,ho,e,he,hb=>by
  simp only [zov,Bool.and_eq_true] at h
  cases j with
  |zero=>
   simp at ho;subst ho;have:=Array.all_eq_true_iff_forall_mem.1 h.1.1 e he;simpa [hb] using this
  |succ j=>
   have:=zgf rest (k+1) h.2 j o (by simpa using ho) e he hb;omega
theorem zge {ops:Array Oper}:∀ (l:List Oper) (k:Nat),zov ops k l=true→∀ i j x y,i < j→l[i]? =some x→l[j]? =some y→zg8 (k+i) y=true∨x.apart ops y=true
 | [],_,_,i,j,x,y,_,hx,_=>by simp at hx
 |o :: rest,k,h,i,j,x,y,hij,hx,hy=>by
  simp only [zov,Bool.and_eq_true] at h;obtain⟨j',rfl⟩:∃ j',j=j'+1:=⟨j - 1,by omega⟩
  cases i with
  |zero=>
   simp at hx;subst hx;have:=List.all_eq_true.1 h.1.2 y (List.mem_of_getElem? (by simpa using hy));simpa [zg8] using this
  |succ i=>
   have:=zge rest (k+1) h.2 i j' x y (by omega) (by simpa using hx) (by simpa using hy)
   rwa [show k+1+i=k+(i+1) by omega] at this
theorem zlc {ops:Array Oper}:∀ (l:List Oper) (k:Nat),effGo ops k l=true→(∀ j,j < l.length→ops[k+j]? =l[j]?)→∀ i j x y,i < j→l[i]? =some x→l[j]? =some y→ze7 x=true→ze7 y=true→
  wf ops (k+j) (k+i)∨∃ z,wf ops (k+j) z∧wf ops z (k+i)
 | [],_,_,_,i,j,x,y,_,hx,_,_,_=>by simp at hx
 |o :: rest,k,h,hl,i,j,x,y,hij,hx,hy,ex,ey=>by
  simp only [effGo,Bool.and_eq_true] at h;obtain⟨j',rfl⟩:∃ j',j=j'+1:=⟨j - 1,by omega⟩;have hyl:j'+1 < (o :: rest).length:=(List.getElem?_eq_some_iff.1 hy).1;have hyo:ops[k+(j'+1)]? =some y:=(hl _ hyl).trans hy
  cases i with
  |zero=>
   simp at hx;subst hx;have h1:=h.1;simp only [ex,Bool.not_true,Bool.false_or] at h1;have:=List.all_eq_true.1 h1 y (List.mem_of_getElem? (by simpa using hy));simp only [ey,Bool.not_true,Bool.false_or,Bool.or_eq_true] at this;rcases this with h2|h2
   ·exact .inl (zbs hyo h2)
   ·obtain⟨e,he,hb⟩:=Array.any_eq_true'.1 h2
    simp only [Bool.and_eq_true] at hb
    cases hz:ops[e.on]? with
    |none=>rw [hz] at hb;simp at hb
    |some z=>
     rw [hz] at hb;exact .inr ⟨e.on,⟨y,hyo,e,he,hb.1,rfl⟩,zbs hz hb.2⟩
  |succ i=>
   have:=zlc rest (k+1) h.2 (fun m hm=>by
    have:=hl (m+1) (by simp;omega);rw [show k+1+m=k+(m+1) by omega,this];simp) i j' x y (by omega) (by simpa using hx) (by simpa using hy) ex ey
   rwa [show k+1+i=k+(i+1) by omega,show k+1+j'=k+(j'+1) by omega] at this
theorem zfm {P:Program} {Q:Exit→Act→World→Prop} {a:Act} {w:World} {l:List Oper} (N:Nat) (C:Nat→World→Prop) (hB:stgB l N=true) (h0:C 0 w.drew)
  (h:zl4 P l.toArray C (fun s a'=>∀ w',C s w'→wpList P l.toArray Q (l.drop N) a' w') 0 (l.take N) a):wpAny P .any l.toArray Q l.toArray.size (Array.replicate l.toArray.size false) a w.drew:=by
 simp only [stgB,Bool.and_eq_true,decide_eq_true_iff] at hB;obtain⟨⟨⟨⟨⟨hsel,hN⟩,hlex⟩,heff⟩,htail⟩,hseq⟩:=hB;have htk:∀ j,j < N→(l.take N)[j]? =l.toArray[j]?:=fun j hj=>by simp [hj]
 have htl:(l.take N).length=N:=by simp;omega
 have lx:zqf l.toArray N:=by
  refine⟨by simpa using hN,hsel,fun k ok hk hok e he hb=>?_,fun k j ok oj hkj hj hok hoj=>?_⟩
  ·have:=zgf (l.take N) 0 hlex k ok ((htk k hk).trans hok) e he hb
   omega
  ·rcases zge (l.take N) 0 hlex k j ok oj hkj ((htk k (by omega)).trans hok) ((htk j hj).trans hoj) with h1|h1
   ·left;rw [Nat.zero_add] at h1;exact zbs hoj h1
   ·exact .inr h1
 have ef:zFp l.toArray N:=fun i j hij hj hi1 hj1=>by
  have hio:∃ x,l.toArray[i]? =some x∧ze7 x=true:=by
   unfold zda at hi1
   cases hx:l.toArray[i]? with
   |none=>rw [hx] at hi1;cases hi1
   |some x=>rw [hx] at hi1;exact⟨x,rfl,hi1⟩
  have hjo:∃ x,l.toArray[j]? =some x∧ze7 x=true:=by
   unfold zda at hj1
   cases hx:l.toArray[j]? with
   |none=>rw [hx] at hj1;cases hj1
   |some x=>rw [hx] at hj1;exact⟨x,rfl,hj1⟩
  obtain⟨x,hx,ex⟩:=hio;obtain⟨y,hy,ey⟩:=hjo;have:=zlc (ops:=l.toArray) (l.take N) 0 heff (fun m hm=>by rw [Nat.zero_add];exact (htk m (by omega)).symm) i j x y hij ((htk i (by omega)).trans hx) ((htk j hj).trans hy) ex ey;simpa only [Nat.zero_add] using this
 obtain⟨V,_,hstep,hfin⟩:=zn2 (P:=P) (ops:=l.toArray) (C:=C) a (l.take N) 0 0 a (fun _=>undef) (fun j hj=>by rw [Nat.zero_add];exact (htk j (by omega)).symm) rfl rfl h;rw [htl,Nat.zero_add] at hfin;have hls:l.toArray.size=l.length:=by simp
 have inv0:HeadInv .any l.toArray N (Array.replicate l.toArray.size false):=
  ⟨by simp,fun j oj _ hl=>(by rw [getD_replicate_false] at hl;cases hl),fun t _ ht=>getD_in (by simpa using ht) (getD_replicate_false _ _)⟩
 have hleft:left (Array.replicate l.toArray.size false) N=N:=by
  have:∀ m,left (Array.replicate l.toArray.size false) m=m:=fun m=>by
   induction m with
   |zero=>rfl
   |succ m ih=>unfold left at ih ⊢;simp only [cnt];rw [ih];simp only [getD_replicate_false,Bool.not_false,if_true]
  exact this N
 have hstg:stg l.toArray N (Array.replicate l.toArray.size false)=0:=by
  have:∀ m,cnt (fun j=>zda l.toArray j && (Array.replicate l.toArray.size false).getD j false) m=0:=fun m=>by
   induction m with
   |zero=>rfl
   |succ m ih=>simp only [cnt];rw [ih];simp only [getD_replicate_false,Bool.and_false,Bool.false_eq_true,if_false]
  exact this N
 have hff:FF l.toArray V (fun j=>(Array.replicate l.toArray.size false).getD j false) a N=a:=by
  have:∀ m,FF l.toArray V (fun j=>(Array.replicate l.toArray.size false).getD j false) a m=a:=fun m=>by
   induction m with
   |zero=>rfl
   |succ m ih=>simp only [FF,getD_replicate_false,Bool.false_eq_true,if_false];simpa only [getD_replicate_false] using ih
  exact this N
 have:=zne (P:=P) (Q':=Q) (a0:=a) (V:=V) (C:=C) lx ef (by
   simp only [Bool.or_eq_true,decide_eq_true_iff,Bool.and_eq_true] at htail;rw [hls];exact htail) (by rw [hls];exact hseq) (fun j o hj ho=>hstep j o (by omega) (by rw [htl];omega) ho) (by simpa using hfin) N _ w.drew hleft inv0 (by rw [hstg];exact h0)
 rw [hff] at this;rw [show N+(l.toArray.size - N)=l.toArray.size by rw [hls];omega] at this;exact this
theorem znc {P:Program} {id:Nat} {Q:Exit→Act→World→Prop} {a:Act} {w:World} {l:List Oper} (N:Nat) (C:Nat→World→Prop) (hm:P.follows .mixedOrders=true) (hB:stgB l N=true) (h0:C 0 w.drew)
  (h:zl4 P l.toArray C (fun s a'=>∀ w',C s w'→wpList P l.toArray Q (l.drop N) a' w') 0 (l.take N) a):(Code.region id l.toArray true).wp P Q a w:=
 wp_region_any hm (zfm N C hB h0 h)
theorem zqb {w:World} {a p:Addr} {v:Value} (h:w.cell? a=some v) (u:Value) (hne:p.block≠a.block):(w.setCell p u).cell? a=some v:=
 (World.cell?_of_block (w:=w) (Below.heap_setCell w p u a.block (fun e=>hne e.symm))).trans h
end Go.Proofs.YtpbmmoneeoijaaaGreatDoor
