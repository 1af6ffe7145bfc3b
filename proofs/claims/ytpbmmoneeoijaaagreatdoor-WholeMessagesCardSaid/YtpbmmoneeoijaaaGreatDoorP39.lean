/-
  A part of the proof: OpsIn RefNew RefTab RefTb RefNw.
-/
import Derived.Test.YtpbmmoneeoijaaaGreatDoorP38
namespace Go.Proofs.YtpbmmoneeoijaaaGreatDoor
open Go.RowKit Go.ChangeShapes Go.WideShapes Go.ChangeAt Go.Deep Go.Joins
section
variable {H:Type} {enc:TypeId×Value→H} {P:Program} {w:World}
theorem zqs {t e t0 te ti:TypeId} {f0 f1 f2 f3:Field} {ao:Option Addr} {n cap:Nat} {d:DataW H} {p:List MemPlace} (ht:P.underlying t=some (.slice e)) (he:P.underlying e=some (.struct #[f0,f1,f2,f3]))
  (hone:oneCellFields P #[f0,f1,f2,f3]=true) (hC:P.cellsOf e=4) (e0:f0.type=t0) (e1:f1.type=t0) (e2:f2.type=t0) (h0:P.underlying t0=some (.int .i64)) (e3:f3.type=te) (hte:P.underlying te=some (.slice ti))
  (h:DataW.Trod enc P w 0 (fun _=>true) true t (.slice ao n cap) d p):(∃ f,zua w ao n f)∧n≤maxLen:=by
 obtain⟨fuel,hf⟩:=h;rcases open_slice ht hf with ⟨hcs,_⟩|⟨a,len,cap',m,kk,D,Pl,hcs,_,hl,hm,hmm,_,hi⟩
 ·simp [Value.cells] at hcs
  obtain⟨rfl,rfl,rfl⟩:=hcs;exact⟨⟨fun _=>⟨0,0,0,none,0,0⟩,fun i hi=>by omega⟩,by unfold maxLen;omega⟩
 ·simp [Value.cells] at hcs
  obtain⟨rfl,rfl,rfl⟩:=hcs;simp only [if_true] at hmm;refine⟨?_,by omega⟩;have key:∀ i,∃ x:OpR,i < n→∃ b o,some a=some ⟨b,o,none⟩∧w.cell? ⟨b,o+i * 4,none⟩=some (.int .i64 x.k)∧w.cell? ⟨b,o+i * 4+1,none⟩=some (.int .i64 x.t)∧w.cell? ⟨b,o+i * 4+2,none⟩=some (.int .i64 x.n)∧w.cell? ⟨b,o+i * 4+3,none⟩=some (.slice x.so x.sn x.sc):=fun i=>by
   by_cases him:i < n
   ·obtain⟨cs',hc,ht'⟩:=hi i (by omega)
    rw [hC] at hc;obtain⟨ys,n',_,_,hlen,hyl,hg⟩:=DataW.trod_struct he ht';obtain⟨_,hcl,hat⟩:=World.cells?_some hc;obtain⟨o0,k0⟩:=hone_of hone 0 f0 rfl;obtain⟨o1,k1⟩:=hone_of hone 1 f1 rfl;obtain⟨o2,k2⟩:=hone_of hone 2 f2 rfl;obtain⟨o3,k3⟩:=hone_of hone 3 f3 rfl;have g0:=hg 0 f0 rfl;have g1:=hg 1 f1 rfl;have g2:=hg 2 f2 rfl;have g3:=hg 3 f3 rfl;rw [o0,k0,e0] at g0;rw [o1,k1,e1] at g1;rw [o2,k2,e2] at g2;rw [o3,k3,e3] at g3;have w0:(cs'.drop 0).take 1=[cs'[0]'(by omega)]:=by rw [List.drop_eq_getElem_cons (by omega)];rfl
    have w1:(cs'.drop 1).take 1=[cs'[1]'(by omega)]:=by rw [List.drop_eq_getElem_cons (by omega)];rfl
    have w2:(cs'.drop 2).take 1=[cs'[2]'(by omega)]:=by rw [List.drop_eq_getElem_cons (by omega)];rfl
    have w3:(cs'.drop 3).take 1=[cs'[3]'(by omega)]:=by rw [List.drop_eq_getElem_cons (by omega)];rfl
    rw [w0,List.getElem?_eq_getElem (by simp at hyl;omega)] at g0;rw [w1,List.getElem?_eq_getElem (by simp at hyl;omega)] at g1;rw [w2,List.getElem?_eq_getElem (by simp at hyl;omega)] at g2;rw [w3,List.getElem?_eq_getElem (by simp at hyl;omega)] at g3;obtain⟨z0,hz0,_,_⟩:=DataW.trod_int h0 g0;obtain⟨z1,hz1,_,_⟩:=DataW.trod_int h0 g1;obtain⟨z2,hz2,_,_⟩:=DataW.trod_int h0 g2;obtain⟨qo,qn,qc,hq,_⟩:=zfb hte g3;simp only [List.cons.injEq,and_true] at hz0 hz1 hz2;have c0:=hat 0 (by omega);have c1:=hat 1 (by omega);have c2:=hat 2 (by omega);have c3:=hat 3 (by omega);rw [List.getElem?_eq_getElem (by omega),hz0,Addr.add_zero'] at c0;rw [List.getElem?_eq_getElem (by omega),hz1] at c1;rw [List.getElem?_eq_getElem (by omega),hz2] at c2;rw [List.getElem?_eq_getElem (by omega),hq] at c3;have hp:a=⟨a.block,a.off,none⟩:=by
     obtain⟨cs0,hc0,_⟩:=hi 0 (by omega);rw [hC] at hc0;obtain⟨_,hcl0,hat0⟩:=World.cells?_some hc0;have:=hat0 0 (by omega);rw [Nat.zero_mul,Addr.add_zero',Addr.add_zero',List.getElem?_eq_getElem (by omega)] at this;exact zj0 this
    rw [hp,za8] at c0;rw [hp,za8,za8] at c1;rw [hp,za8,za8] at c2;rw [hp,za8,za8] at c3;exact⟨⟨z0,z1,z2,qo,qn,qc⟩,fun _=>⟨a.block,a.off,by rw [←hp],c0,c1,c2,c3⟩⟩
   ·exact⟨⟨0,0,0,none,0,0⟩,fun h=>absurd h him⟩
  exact⟨fun i=>(key i).choose,fun i hi=>(key i).choose_spec hi⟩
end
set_option maxRecDepth 100000 in
theorem zsm {H:Type} {enc:TypeId×Value→H} {w:World} {b0:Nat} {v:Value} {d:DataW H} {p:List MemPlace} (hv:Value.okWide Tryz.prog w .any b0 51 v)
  (h:DataW.Trod enc Tryz.prog w 0 (fun _=>true) true 51 v d p):∃ ao n cap f,v=.slice ao n cap∧n≤maxLen∧zua w ao n f:=by
 obtain⟨ao,n,cap,rfl⟩:=okWide_slice Tryz.underlying51 hv;obtain⟨⟨f,hf⟩,hn⟩:=zqs Tryz.underlying51 Tryz.underlying76 (by kernel_rfl) (by kernel_rfl) rfl rfl rfl Tryz.underlying3 rfl Tryz.underlying41 h;exact⟨ao,n,cap,f,rfl,hn,hf⟩
end Go.Proofs.YtpbmmoneeoijaaaGreatDoor
namespace Go.Proofs.YtpbmmoneeoijaaaGreatDoor
open Go.RowKit Go.Deep Go.Shelf
set_option maxRecDepth 100000
def refSL:List Value:=[.bool false,.int .i64 0,.int .i64 0,.int .i64 0,.int .i64 0,.slice none 0 0,.bool false,.int .i64 0,.int .i64 0,.int .i64 0,.int .i64 0,.slice none 0 0,.bool false,.int .i64 0,.int .i64 0,.int .i64 0,.int .i64 0,.slice none 0 0,.bool false,.int .i64 0,.int .i64 0,.int .i64 0,.int .i64 0,.slice none 0 0,.bool false,.int .i64 0,.int .i64 0,.int .i64 0,.int .i64 0,.slice none 0 0,.bool false,.int .i64 0,.int .i64 0,.int .i64 0,.int .i64 0,.slice none 0 0,.bool false,.int .i64 0,.int .i64 0,.int .i64 0,.int .i64 0,.slice none 0 0,.bool false,.int .i64 0,.int .i64 0,.int .i64 0,.int .i64 0,.slice none 0 0,.bool false,.int .i64 0,.int .i64 0,.int .i64 0,.int .i64 0,.slice none 0 0,.bool false,.int .i64 0,.int .i64 0,.int .i64 0,.int .i64 0,.slice none 0 0,.bool false,.int .i64 0,.int .i64 0,.int .i64 0,.int .i64 0,.slice none 0 0,.bool false,.int .i64 0,.int .i64 0,.int .i64 0,.int .i64 0,.slice none 0 0,.bool false,.int .i64 0,.int .i64 0,.int .i64 0,.int .i64 0,.slice none 0 0,.bool false,.int .i64 0,.int .i64 0,.int .i64 0,.int .i64 0,.slice none 0 0,.bool false,.int .i64 0,.int .i64 0,.int .i64 0,.int .i64 0,.slice none 0 0,.bool false,.int .i64 0,.int .i64 0,.int .i64 0,.int .i64 0,.slice none 0 0,.int .i64 16,.int .i64 16,.int .i64 16,.int .i64 16,.int .i64 16,.int .i64 16,.int .i64 16,.int .i64 16,.int .i64 0]
def refSV:Value:=.agg ⟨refSL⟩
set_option maxHeartbeats 2000000 in
theorem zqn (w:World):Calls Tryz.prog 119 #[] w fun e w'=>e=.returned refSV∧Below w.heap.size w w':=
 Ev.closed_calls (kn:=fun _ _ _=>none) (fuel:=1000) (n:=5) (args:=[]) rfl (by kernel_rfl) (by kernel_rfl) (by kernel_rfl) w Ev.none_known
def zx2 (x:Img) (l s:Value):Value:=.agg #[.int .i64 x.r,.slice x.ao x.n x.cap,.slice x.mo x.mn x.mc,.slice x.eo x.en x.ec,l,s,.int .i64 0,.int .i64 (-1),.int .i64 0,.int .i64 0,.int .i64 0,.int .i64 0,.int .i64 (-1)]
set_option maxHeartbeats 2000000 in
theorem zqm (x:Img) (lo so:Option Addr) (ln lc sn sc:Nat) (w:World):Calls Tryz.prog 120 #[iv x,.slice lo ln lc,.slice so sn sc] w fun e w'=>e=.returned (zx2 x (.slice lo ln lc) (.slice so sn sc))∧Below w.heap.size w w':=by
 obtain⟨r,ao,n,cap,mo,mn,mc,eo,en,ec⟩:=x;unfold iv zx2;dsimp only;have b1:Below w.heap.size w (w.alloc (Obj.cells #[.int .i64 r,.slice ao n cap,.slice mo mn mc,.slice eo en ec] 26)):=(Below.refl _ _).alloc (Nat.le_refl _) _;go_enter Tryz.func120,Tryz.ntmps120;go_wp2;have hX:=heap_alloc_new (w.alloc (Obj.cells #[.int .i64 r,.slice ao n cap,.slice mo mn mc,.slice eo en ec] 26)) (Obj.cells #[.int .i64 r,.slice ao n cap,.slice mo mn mc,.slice eo en ec,.slice lo ln lc,.slice so sn sc,.int .i64 0,.int .i64 (-1),.int .i64 0,.int .i64 0,.int .i64 0,.int .i64 0,.int .i64 (-1)] 61);rw [World.size_alloc] at hX;refine bodyPost_ret (v:=.agg #[.int .i64 r,.slice ao n cap,.slice mo mn mc,.slice eo en ec,.slice lo ln lc,.slice so sn sc,.int .i64 0,.int .i64 (-1),.int .i64 0,.int .i64 0,.int .i64 0,.int .i64 0,.int .i64 (-1)]) (results_cell_row (p:=6) (ty:=61) rfl _ _ (w.heap.size+1) _ _ _ _ (by rfl) hX Tryz.underlying61 rfl (by kernel_rfl)) rfl ?_;exact⟨rfl,b1.alloc b1.size _⟩
theorem ref_bit (s i:Nat) (hi:i < 32) (X:World):Calls Tryz.prog 85 #[.int .u32 s,.int .i64 i] X fun e w'=>e=.returned (.bool (s.testBit i))∧w'=X:=by
 have t32:decide (i < 32)=true:=by simp;omega
 have:=zAk s i (by unfold maxLen;omega) X;rw [t32,Bool.true_and] at this;exact this
set_option maxHeartbeats 1000000 in
theorem zsj (x:Img) (g:Nat→Nat→Int) (u r:Nat) (w:World) (hr:r < 8) (hn:x.n≤16) (hT:zck w x.ao x.n g):
  Calls Tryz.prog 200 #[iv x,.int .u32 u,.int .i64 r] w fun e W'=>∃ c:Int,e=.returned (.int .i64 c)∧Below w.heap.size w W':=by
 obtain⟨rr,ao,n,cap,mo,mn,mc,eo,en,ec⟩:=x;unfold iv;dsimp only at hT hn ⊢;have hb1:Below w.heap.size w (w.alloc (Obj.cells #[.int .i64 rr,.slice ao n cap,.slice mo mn mc,.slice eo en ec] 26)):=(Below.refl _ _).alloc (Nat.le_refl _) _;have HI:=hid (heap_alloc_new w (Obj.cells #[.int .i64 rr,.slice ao n cap,.slice mo mn mc,.slice eo en ec] 26));have HTW:=hid (hT.below hb1);have HB:=hid hb1;clear hT hb1;go_enter Tryz.func200,Tryz.ntmps200;go_wp2;obtain⟨W1,hW1⟩:∃ X,X=w.alloc (Obj.cells #[.int .i64 rr,.slice ao n cap,.slice mo mn mc,.slice eo en ec] 26):=⟨_,rfl⟩;rw [←hW1] at HTW HI HB ⊢;clear hW1
 go_loopw [7] (fun i_ wr=>∃ i:Nat,i≤n∧i_=.int .i64 i∧W1=wr) (fun i_ _=>n - (intOf i_).toNat)
 case atStart=>exact⟨0,by omega,rfl,rfl⟩
 case round=>
  obtain⟨i,hi,rfl,rfl⟩:=hrel;have c1:=zaa HI.out 1;by_cases hlt:i < n
  ·have t0:decide ((i:Int) < (n:Int))=true:=by simp;omega
   have HH:=hid fun X=>ref_bit u i (by omega) X;obtain⟨b,o,rfl,hck⟩:=HTW.out i hlt;have p0:=hck (3+r) (by omega);rw [←Nat.add_assoc] at p0;clear hck;have i0':(0:Int)≤(i:Int):=by omega
   have i1:(i:Int) < (n:Int):=by omega
   have r0':(0:Int)≤(r:Int):=by omega
   have r1:(r:Int) < 8:=by omega
   generalize u.testBit i=bt at HH;generalize g i (3+r)=z at p0;cases bt
   ·go_wp2_with (go_at_call 85;refine (HH.out _).mono ?_;rintro e w' ⟨rfl,rfl⟩)
    go_roundw
    case rel=>exact⟨i+1,by omega,by go_num,trivial⟩
    case measure=>simp [intOf];omega
   ·by_cases h0:0 < z
    ·have t1:decide (0 < z)=true:=by simp [h0]
     go_wp2_with (go_at_call 85;refine (HH.out _).mono ?_;rintro e w' ⟨rfl,rfl⟩)
     go_ret;exact⟨_,rfl,HB.out⟩
    ·have t1:decide (0 < z)=false:=by simp;omega
     go_wp2_with (go_at_call 85;refine (HH.out _).mono ?_;rintro e w' ⟨rfl,rfl⟩)
     go_roundw
     case rel=>exact⟨i+1,by omega,by go_num,trivial⟩
     case measure=>simp [intOf];omega
  ·obtain rfl:i=n:=by omega
   have t0:decide ((i:Int) < (i:Int))=false:=by simp
   go_wp2;go_ret;exact⟨_,rfl,HB.out⟩
set_option maxRecDepth 100000 in
set_option maxHeartbeats 1000000 in
theorem zoq (x:Img) (M:Nat→za9) (lo so:Option Addr) (ln lc sn sc:Nat) (w:World) (hM:zbh w x.mo x.mn M) (hm:1≤x.mn):
  Calls Tryz.prog 201 #[zx2 x (.slice lo ln lc) (.slice so sn sc)] w fun e w'=>e=.returned (.int .u32 (M 0).t)∧Below w.heap.size w w':=by
 obtain⟨mb,mo,hme,k0,_⟩:=hM 0 (by omega);have k0':w.cell? ⟨mb,mo,none⟩=some (.int .u32 (M 0).t):=by simpa using k0
 obtain⟨r,ao,n,cap,mo2,mn,mc,eo,en,ec⟩:=x;unfold zx2;dsimp only at hme hm ⊢;subst hme;have hm':(0:Int) < (mn:Int):=by omega
 have b1:Below w.heap.size w (w.alloc (.cells #[.int .i64 r,.slice ao n cap,.slice (some ⟨mb,mo,none⟩) mn mc,.slice eo en ec,.slice lo ln lc,.slice so sn sc,.int .i64 0,.int .i64 (-1),.int .i64 0,.int .i64 0,.int .i64 0,.int .i64 0,.int .i64 (-1)] 61)):=(Below.refl _ _).alloc (Nat.le_refl _) _;have k1:=kept k0' b1;go_enter Tryz.func201,Tryz.ntmps201;go_wp2;go_ret;exact⟨rfl,b1⟩
structure KR where
 x:Img
 lo:Option Addr
 ln:Nat
 lc:Nat
 so:Option Addr
 sn:Nat
 sc:Nat
 qo:Option Addr
 qn:Nat
 qc:Nat
def KL (z:KR) (C:Nat→Int):List Value:=[.int .i64 z.x.r,.slice z.x.ao z.x.n z.x.cap,.slice z.x.mo z.x.mn z.x.mc,.slice z.x.eo z.x.en z.x.ec,.bool false,.int .i64 0,.int .i64 0,.int .i64 0,.int .i64 0,.slice none 0 0,.bool false,.int .i64 0,.int .i64 0,.int .i64 0,.int .i64 0,.slice none 0 0,.bool false,.int .i64 0,.int .i64 0,.int .i64 0,.int .i64 0,.slice none 0 0,.bool false,.int .i64 0,.int .i64 0,.int .i64 0,.int .i64 0,.slice none 0 0,.bool false,.int .i64 0,.int .i64 0,.int .i64 0,.int .i64 0,.slice none 0 0,.bool false,.int .i64 0,.int .i64 0,.int .i64 0,.int .i64 0,.slice none 0 0,.bool false,.int .i64 0,.int .i64 0,.int .i64 0,.int .i64 0,.slice none 0 0,.bool false,.int .i64 0,.int .i64 0,.int .i64 0,.int .i64 0,.slice none 0 0,.bool false,.int .i64 0,.int .i64 0,.int .i64 0,.int .i64 0,.slice none 0 0,.bool false,.int .i64 0,.int .i64 0,.int .i64 0,.int .i64 0,.slice none 0 0,.bool false,.int .i64 0,.int .i64 0,.int .i64 0,.int .i64 0,.slice none 0 0,.bool false,.int .i64 0,.int .i64 0,.int .i64 0,.int .i64 0,.slice none 0 0,.bool false,.int .i64 0,.int .i64 0,.int .i64 0,.int .i64 0,.slice none 0 0,.bool false,.int .i64 0,.int .i64 0,.int .i64 0,.int .i64 0,.slice none 0 0,.bool false,.int .i64 0,.int .i64 0,.int .i64 0,.int .i64 0,.slice none 0 0,.bool false,.int .i64 0,.int .i64 0,.int .i64 0,.int .i64 0,.slice none 0 0,.int .i64 (C 0),.int .i64 (C 1),.int .i64 (C 2),.int .i64 (C 3),.int .i64 (C 4),.int .i64 (C 5),.int .i64 (C 6),.int .i64 (C 7),.int .i64 0,.int .i64 z.x.r,.slice z.x.ao z.x.n z.x.cap,.slice z.x.mo z.x.mn z.x.mc,.slice z.x.eo z.x.en z.x.ec,.slice z.lo z.ln z.lc,.slice z.so z.sn z.sc,.int .i64 0,.int .i64 (-1),.int .i64 0,.int .i64 0,.int .i64 0,.int .i64 0,.int .i64 (-1),.int .i64 0,.int .i64 0,.int .i64 0,.int .i64 0,.int .i64 0,.int .i64 0,.int .i64 0,.int .i64 0,.int .i64 0,.int .i64 0,.int .i64 0,.int .i64 0,.int .i64 0,.int .i64 0,.int .i64 0,.int .i64 0,.slice z.qo z.qn z.qc,.int .i64 0,.slice none 0 0]
theorem zbi (z:KR) (C:Nat→Int):(KL z C).length=141:=rfl
theorem zc6 (z:KR) (C:Nat→Int):(Tryz.prog.info? 66).map (·.size)=some (KL z C).length:=by rw [zbi];kernel_rfl
theorem zhu (z:KR) (C:Nat→Int):∀ v∈KL z C,v.oneCell'=true:=by
 unfold KL;intro v hv;simp only [List.mem_cons,List.not_mem_nil,or_false] at hv;rcases hv with rfl|rfl|rfl|rfl|rfl|rfl|rfl|rfl|rfl|rfl|rfl|rfl|rfl|rfl|rfl|rfl|rfl|rfl|rfl|rfl|rfl|rfl|rfl|rfl|rfl|rfl|rfl|rfl|rfl|rfl|rfl|rfl|rfl|rfl|rfl|rfl|rfl|rfl|rfl|rfl|rfl|rfl|rfl|rfl|rfl|rfl|rfl|rfl|rfl|rfl|rfl|rfl|rfl|rfl|rfl|rfl|rfl|rfl|rfl|rfl|rfl|rfl|rfl|rfl|rfl|rfl|rfl|rfl|rfl|rfl|rfl|rfl|rfl|rfl|rfl|rfl|rfl|rfl|rfl|rfl|rfl|rfl|rfl|rfl|rfl|rfl|rfl|rfl|rfl|rfl|rfl|rfl|rfl|rfl|rfl|rfl|rfl|rfl|rfl|rfl|rfl|rfl|rfl|rfl|rfl|rfl|rfl|rfl|rfl|rfl|rfl|rfl|rfl|rfl|rfl|rfl|rfl|rfl|rfl|rfl|rfl|rfl|rfl|rfl|rfl|rfl|rfl|rfl|rfl|rfl|rfl|rfl|rfl|rfl|rfl|rfl|rfl|rfl|rfl|rfl|rfl<;>rfl
theorem KL_img (z:KR) (C:Nat→Int):(KL z C)[0]? =some (.int .i64 z.x.r)∧(KL z C)[1]? =some (.slice z.x.ao z.x.n z.x.cap)∧(KL z C)[2]? =some (.slice z.x.mo z.x.mn z.x.mc)∧(KL z C)[3]? =some (.slice z.x.eo z.x.en z.x.ec):=⟨rfl,rfl,rfl,rfl⟩
theorem KL_eng (z:KR) (C:Nat→Int):(KL z C)[109]? =some (.int .i64 z.x.r)∧(KL z C)[110]? =some (.slice z.x.ao z.x.n z.x.cap)∧(KL z C)[111]? =some (.slice z.x.mo z.x.mn z.x.mc)∧(KL z C)[112]? =some (.slice z.x.eo z.x.en z.x.ec)∧(KL z C)[113]? =some (.slice z.lo z.ln z.lc)∧(KL z C)[114]? =some (.slice z.so z.sn z.sc)∧(KL z C)[115]? =some (.int .i64 0)∧(KL z C)[116]? =some (.int .i64 (-1))∧(KL z C)[117]? =some (.int .i64 0)∧(KL z C)[118]? =some (.int .i64 0)∧(KL z C)[119]? =some (.int .i64 0)∧(KL z C)[120]? =some (.int .i64 0)∧(KL z C)[121]? =some (.int .i64 (-1)):=⟨rfl,rfl,rfl,rfl,rfl,rfl,rfl,rfl,rfl,rfl,rfl,rfl,rfl⟩
theorem KL_ceil (z:KR) (C:Nat→Int) (r:Nat) (hr:r < 8):(KL z C)[100+r]? =some (.int .i64 (C r)):=by
 rcases r with _|_|_|_|_|_|_|_|r
 all_goals first|rfl|(exfalso;omega)
theorem KL_set (z:KR) (C:Nat→Int) (r:Nat) (hr:r < 8) (v:Int):(KL z C).set (100+r) (.int .i64 v)=KL z (fun j=>if j=r then v else C j):=by
 rcases r with _|_|_|_|_|_|_|_|r
 all_goals first|rfl|(exfalso;omega)
attribute [local irreducible] KL
theorem ze3 {W:World} {b:Nat} {z:KR} {C:Nat→Int} (h:W.heap[b]? =some (.cells ⟨KL z C⟩ 66 (0,0))) (j:Nat):W.cell? ⟨b,j,none⟩=(KL z C)[j]?:=by
 rw [zaa h];simp
set_option maxHeartbeats 4000000 in
theorem zx1 (z:KR) (C:Nat→Int) (g:Nat→Nat→Int) (M:Nat→za9) (w:World) (hM:zbh w z.x.mo z.x.mn M) (hm:1≤z.x.mn) (hn:z.x.n≤16) (hT:zck w z.x.ao z.x.n g):
  Calls Tryz.prog 121 #[.agg ⟨KL z C⟩] w fun e w'=>(∃ C',e=.returned (.agg ⟨KL z C'⟩))∧Below w.heap.size w w':=by
 have HAC:=hid fun X (hX:Below w.heap.size w X)=>zoq z.x M z.lo z.so z.ln z.lc z.sn z.sc X (hM.below hX) hm;have HCE:=hid fun (r:Nat) (hr:r < 8) X (hX:Below w.heap.size w X)=>zsj z.x g (M 0).t r X hr hn (hT.below hX);unfold zx2 at HAC;unfold iv at HCE;have b1:Below w.heap.size w (w.alloc (.cells ⟨KL z C⟩ 66)):=(Below.refl _ _).alloc (Nat.le_refl _) _;have bX:=heap_alloc_new w (.cells ⟨KL z C⟩ 66);go_enter Tryz.func121,Tryz.ntmps121;have bA2:=b1.alloc b1.size (.cells Tryz.zeroCells66 66);have bK:=zac bX (.cells Tryz.zeroCells66 66);have bR:=heap_alloc_new (w.alloc (.cells ⟨KL z C⟩ 66)) (.cells Tryz.zeroCells66 66);rw [World.size_alloc] at bR
 go_upto_region 1 with fail
 obtain⟨W0,hW0⟩:∃ X,X=(w.alloc (.cells ⟨KL z C⟩ 66)).alloc (.cells Tryz.zeroCells66 66):=⟨_,rfl⟩;rw [←hW0] at bA2 bK bR ⊢;obtain⟨kb,hkb⟩:∃ p,w.heap.size=p:=⟨_,rfl⟩;rw [hkb] at bK bR ⊢;have HW:=hid hkb;have HBA:=hid bA2;have HBK:=hid bK;have HBR:=hid bR;clear hW0 hkb b1 bX bA2 bK bR;go_wp2
 go_loopw [3] (fun i_ wr=>∃ (r:Nat) (C':Nat→Int),i_=.int .i64 r∧r≤8∧Hid (wr.heap[kb]? =some (.cells ⟨KL z C'⟩ 66 (0,0)))∧Hid (wr.heap[kb+1]? =some (.cells Tryz.zeroCells66 66 (0,0)))∧Hid (Below w.heap.size w wr)) (fun i_ _=>8 - (intOf i_).toNat)
 case atStart=>exact⟨0,C,rfl,by omega,HBK,HBR,HBA⟩
 case round=>
  clear HBK HBR HBA;obtain⟨r,C',rfl,hr,HK,HR,HB⟩:=hrel;by_cases hlt:r < 8
  ·have t0:decide ((r:Int) < 8)=true:=by simp;omega
   have HIM:=hid (KL_img z C');have HEN:=hid (KL_eng z C');have r0:(0:Int)≤(r:Int):=by omega
   have r1:(r:Int) < 8:=by omega
   go_upto_region 4 with fail
   refine zah [5,7,10,11] (fun X=>∀ j,j < 100∨108≤j→X.cell? ⟨kb,j,none⟩=(KL z C')[j]?) (by kernel_rfl) (by kernel_rfl) (fun j _=>ze3 (W:=wr.drew) HK.out j) ?_;refine qFs fun K hK=>?_;go_simp;refine⟨_,fun _ _=>rfl,hK _ ?_⟩;clear hK K;refine qFs fun K hK=>?_;go_simp;refine⟨_,fun _ _=>rfl,hK _ ?_⟩;clear hK K;refine qFs fun K hK=>?_;go_simp;refine⟨.agg #[.int .i64 z.x.r,.slice z.x.ao z.x.n z.x.cap,.slice z.x.mo z.x.mn z.x.mc,.slice z.x.eo z.x.en z.x.ec],fun X hX=>?_,hK _ ?_⟩
   ·have z0:=(hX 0 (by decide)).trans HIM.out.1
    have z1:=(hX 1 (by decide)).trans HIM.out.2.1;have z2:=(hX 2 (by decide)).trans HIM.out.2.2.1;have z3:=(hX 3 (by decide)).trans HIM.out.2.2.2;clear hX;go_simp
   clear hK K;refine qFs fun K hK=>?_;go_simp;refine⟨_,fun _ _=>rfl,hK _ ?_⟩;clear hK K;refine qFs fun K hK=>?_;go_simp;refine⟨.agg #[.int .i64 z.x.r,.slice z.x.ao z.x.n z.x.cap,.slice z.x.mo z.x.mn z.x.mc,.slice z.x.eo z.x.en z.x.ec,.slice z.lo z.ln z.lc,.slice z.so z.sn z.sc,.int .i64 0,.int .i64 (-1),.int .i64 0,.int .i64 0,.int .i64 0,.int .i64 0,.int .i64 (-1)],fun X hX=>?_,hK _ ?_⟩
   ·have z0:=(hX 109 (by decide)).trans HEN.out.1
    have z1:=(hX 110 (by decide)).trans HEN.out.2.1;have z2:=(hX 111 (by decide)).trans HEN.out.2.2.1;have z3:=(hX 112 (by decide)).trans HEN.out.2.2.2.1;have z4:=(hX 113 (by decide)).trans HEN.out.2.2.2.2.1;have z5:=(hX 114 (by decide)).trans HEN.out.2.2.2.2.2.1;have z6:=(hX 115 (by decide)).trans HEN.out.2.2.2.2.2.2.1;have z7:=(hX 116 (by decide)).trans HEN.out.2.2.2.2.2.2.2.1;have z8:=(hX 117 (by decide)).trans HEN.out.2.2.2.2.2.2.2.2.1;have z9:=(hX 118 (by decide)).trans HEN.out.2.2.2.2.2.2.2.2.2.1;have z10:=(hX 119 (by decide)).trans HEN.out.2.2.2.2.2.2.2.2.2.2.1;have z11:=(hX 120 (by decide)).trans HEN.out.2.2.2.2.2.2.2.2.2.2.2.1;have z12:=(hX 121 (by decide)).trans HEN.out.2.2.2.2.2.2.2.2.2.2.2.2;clear hX;go_simp
   clear hK K;refine qFc ?_;refine qFs fun K hK=>?_;go_simp;refine⟨_,fun _ _=>rfl,hK _ ?_⟩;clear hK K;refine qFc ?_;refine qFs fun K hK=>?_;go_simp;refine⟨_,fun _ _=>rfl,hK _ ?_⟩;clear hK K;refine qFs fun K hK=>?_;go_simp;refine⟨_,fun _ _=>rfl,hK _ ?_⟩;clear hK K;refine qFc ?_;refine qFc ?_;refine zau ?_;have B0:Below wr.heap.size wr wr.drew:=⟨rfl,rfl,rfl,Nat.le_refl _,fun _ _=>rfl⟩;refine qT1 5 [7,10,11] fun K hK=>?_;dsimp only [List.getElem_toArray,List.getElem_cons_succ,List.getElem_cons_zero]
   go_wp2_with fail
   refine (HAC.out _ (HB.out.trans (B0.mono HB.out.size))).mono ?_;rintro e W5 ⟨rfl,b5⟩;have b6:=B0.trans (b5.mono B0.size);have bK6:=qBa b6 HK.out
   go_wp2_with fail
   refine hK _ _ (fun j _=>ze3 bK6 j) ?_;clear hK K;refine qT1 7 [10,11] fun K hK=>?_;dsimp only [List.getElem_toArray,List.getElem_cons_succ,List.getElem_cons_zero]
   go_wp2_with fail
   refine (HCE.out r hlt _ (HB.out.trans (b6.mono HB.out.size))).mono ?_;rintro e W7 ⟨cv,rfl,b7⟩;have b8:=b6.trans (b7.mono b6.size);have bK8:=qBa b8 HK.out
   go_wp2_with fail
   refine hK _ _ (fun j _=>ze3 bK8 j) ?_;clear hK K;refine qT1 10 [11] fun K hK=>?_;dsimp only [List.getElem_toArray,List.getElem_cons_succ,List.getElem_cons_zero]
   go_wp2_with fail
   refine hK _ _ (fun j _=>ze3 bK8 j) ?_;clear hK K;have bR8:=qBa b8 HR.out;have cc:=(ze3 bK8 (100+r)).trans (KL_ceil z C' r hlt);have cf:=zab bK8 (100+r);have bK9:(W7.setCell ⟨kb,100+r,none⟩ (.int .i64 cv)).heap[kb]? =some (.cells ⟨KL z (fun j=>if j=r then cv else C' j)⟩ 66 (0,0)):=(Dl.blk_put0 (i:=100+r) (u:=.int .i64 cv) bK8).trans (by rw [←KL_set z C' r hlt cv];simp);have same:∀ j,j < 100∨108≤j→(KL z (fun j=>if j=r then cv else C' j))[j]? =(KL z C')[j]?:=fun j hj=>by rw [←KL_set z C' r hlt cv,List.getElem?_set_ne (by omega)]
   refine qT1 11 [] fun K hK=>?_;dsimp only [List.getElem_toArray,List.getElem_cons_succ,List.getElem_cons_zero]
   go_wp2_with fail
   refine hK _ _ (fun j hj=>(ze3 bK9 j).trans (same j hj)) ?_;clear hK K;refine zan ?_;have bR9:=(heap_setCell_other W7 ⟨kb,100+r,none⟩ (kb+1) (.int .i64 cv) (by show kb+1≠kb;omega)).trans bR8;have hkw:=HW.out;have b9:Below w.heap.size w (W7.setCell ⟨kb,100+r,none⟩ (.int .i64 cv)):=(HB.out.trans (b8.mono HB.out.size)).setCell (p:=⟨kb,100+r,none⟩) (by show w.heap.size≤kb;omega) _;clear hkw;have H1:=hid bK9;have H2:=hid bR9;have H3:=hid b9;clear bK9 bR9 b9 bK8 bR8 cc cf same bK6;go_wp2;go_roundw
   case rel=>exact⟨r+1,_,by go_num,by omega,H1,H2,H3⟩
   case measure=>simp [intOf];omega
  ·obtain rfl:r=8:=by omega
   go_upto_region 5 with fail
   have hrK:wr.rangeAt kb 0 (KL z C'):=fun j v hv=>by rw [Nat.zero_add,ze3 HK.out];exact hv
   have hth:wr.there (kb+1) 0 (KL z C').toArray.size:=fun j hj=>by
    have hj:j < 141:=by rw [←zbi z C'];simpa using hj
    refine⟨?_,zab HR.out _⟩;rw [zaa HR.out,Nat.zero_add,Array.getElem?_eq_getElem (by exact hj)];rfl
   refine wp_region_lit ?_;refine wpList_load_mid rfl 66 _ rfl kb 0 rfl (KL z C') _ hrK Tryz.underlying66 rfl (zc6 z C') ?_;refine wpList_store_mid rfl 66 _ _ rfl (kb+1) 0 (KL z C').toArray rfl rfl hth (by simpa using zc6 z C') (all_oneCell_toArray (zhu z C')) ?_;have hrg:=World.rangeAt_setCells_same wr (kb+1) 0 (KL z C') (by simpa using hth);have hkb1:=HW.out;have hb8:Below w.heap.size w (wr.setCells (kb+1) 0 (KL z C').toArray.toList):=zak (by omega) _ 0 _ HB.out;clear hkb1 hth hrK;show Exit.then _ _ _ _ _
   have hrg':(wr.setCells (kb+1) 0 (KL z C').toArray.toList).rangeAt (kb+1) 0 (KL z C'):=hrg;clear hrg;generalize wr.setCells (kb+1) 0 (KL z C').toArray.toList=W8 at hrg' hb8 ⊢;go_simp;rename_i KK hKK;refine hKK _ _ ?_;go_wp2;refine bodyPost_ret (v:=.agg ⟨KL z C'⟩) ?_ rfl ⟨⟨C',rfl⟩,hb8⟩;simp [results,Tryz.results121,asAddr,run_loadVar_mid W8 (kb+1) 0 66 _ _ hrg' Tryz.underlying66 rfl (zc6 z C')]
end Go.Proofs.YtpbmmoneeoijaaaGreatDoor
namespace Go.Proofs.YtpbmmoneeoijaaaGreatDoor
open Go.RowKit Go.Deep Go.Shelf
set_option maxRecDepth 100000
theorem KL_queue (z:KR) (C:Nat→Int) (qo:Option Addr) (qn qc:Nat):(KL z C).set 138 (.slice qo qn qc)=KL { z with qo:=qo,qn:=qn,qc:=qc } C:=rfl
theorem infoSl32:(Tryz.prog.info? 59).map (fun i=>(i.zero,i.size,i.bytes))=some (some (.slice none 0 0),1,24):=by kernel_rfl
theorem zdu {b:Nat} {t:TypeId}:∀ (vs A R:List Value) (o:Nat) (W:World),A.length=o→R.length=vs.length→W.heap[b]? =some (.cells ⟨A ++ R⟩ t (0,0))→(W.setCells b o vs).heap[b]? =some (.cells ⟨A ++ vs⟩ t (0,0))
 | [],A,R,o,W,ha,hr,h=>by
  have:R=[]:=List.eq_nil_of_length_eq_zero hr;subst this;exact h
 |v :: vs,A,R,o,W,ha,hr,h=>by
  cases R with
  |nil=>simp at hr
  |cons r R=>
   have h2:(W.setCell ⟨b,o,none⟩ v).heap[b]? =some (.cells ⟨(A ++ [v]) ++ R⟩ t (0,0)):=(Dl.blk_put0 (i:=o) (u:=v) h).trans (by subst ha;simp);have:=zdu vs (A ++ [v]) R (o+1) _ (by simp [ha]) (by simpa using hr) h2;rw [List.append_assoc] at this;exact this
def KBox (W2:World) (z:KR) (C:Nat→Int) (p_:Value) (W:World):Prop:=∃ p,p_=.pointer (some ⟨p,0,none⟩)∧W2.heap.size≤p∧W.heap[p]? =some (.cells ⟨KL z C⟩ 66 (0,0))∧Below W2.heap.size W2 W
theorem KL_138 (z:KR) (C:Nat→Int):(⟨KL z C⟩:Array Value)[138]? =some (.slice z.qo z.qn z.qc):=rfl
theorem zj1:Tryz.zeroCells66.toList.length=141:=by kernel_rfl
attribute [local irreducible] KL refSL
set_option maxHeartbeats 4000000 in
theorem zql (x:Img) (g:Nat→Nat→Int) (M:Nat→za9) (lo so:Option Addr) (ln lc sn sc:Nat) (w:World) (hM:zbh w x.mo x.mn M) (hm:1≤x.mn) (hn:x.n≤16) (hT:zck w x.ao x.n g) (hq:(M 0).qn≤4):
  Calls Tryz.prog 59 #[iv x,.slice lo ln lc,.slice so sn sc] w fun e w'=>(∃ z C,e=.returned (.agg ⟨KL z C⟩))∧Below w.heap.size w w':=by
 have HSN:=hid fun X=>zqn X;have HEN:=hid fun X=>zqm x lo so ln lc sn sc X;have HTB:=hid fun (z:KR) C (hz:z.x=x) X (hX:Below w.heap.size w X)=>zx1 z C g M X (by rw [hz];exact hM.below hX) (by rw [hz];exact hm) (by rw [hz];exact hn) (by rw [hz];exact hT.below hX);obtain⟨mb,mo,hme,_,hk1⟩:=hM 0 (by omega);have HK1:=hid (show w.cell? ⟨mb,mo+1,none⟩=some (.slice (M 0).qo (M 0).qn (M 0).qc) by simpa using hk1);have HME:=hid hme;clear hM hT hk1 hme;unfold iv zx2 at HEN;unfold iv;have b1:Below w.heap.size w (w.alloc (Obj.cells #[.int .i64 x.r,.slice x.ao x.n x.cap,.slice x.mo x.mn x.mc,.slice x.eo x.en x.ec] 26)):=(Below.refl _ _).alloc (Nat.le_refl _) _;have bI1:=heap_alloc_new w (Obj.cells #[.int .i64 x.r,.slice x.ao x.n x.cap,.slice x.mo x.mn x.mc,.slice x.eo x.en x.ec] 26);go_enter Tryz.func59,Tryz.ntmps59;have b2:=b1.alloc b1.size (.cells Tryz.zeroCells66 66);have bI2:=zac bI1 (.cells Tryz.zeroCells66 66);have bR2:=heap_alloc_new (w.alloc (Obj.cells #[.int .i64 x.r,.slice x.ao x.n x.cap,.slice x.mo x.mn x.mc,.slice x.eo x.en x.ec] 26)) (.cells Tryz.zeroCells66 66);rw [World.size_alloc] at bR2
 go_upto_region 1 with fail
 have sz2:((w.alloc (Obj.cells #[.int .i64 x.r,.slice x.ao x.n x.cap,.slice x.mo x.mn x.mc,.slice x.eo x.en x.ec] 26)).alloc (.cells Tryz.zeroCells66 66)).heap.size=w.heap.size+2:=by simp
 obtain⟨W2,hW2⟩:∃ X,X=(w.alloc (Obj.cells #[.int .i64 x.r,.slice x.ao x.n x.cap,.slice x.mo x.mn x.mc,.slice x.eo x.en x.ec] 26)).alloc (.cells Tryz.zeroCells66 66):=⟨_,rfl⟩;rw [←hW2] at b2 bI2 bR2 sz2 ⊢;obtain⟨kb,hkb⟩:∃ p,w.heap.size=p:=⟨_,rfl⟩;rw [hkb] at bI2 bR2 sz2 ⊢;have HW:=hid hkb;have HS2:=hid sz2;have i0:=zaa bI2 0;have i1:=zaa bI2 1;have i2:=zaa bI2 2;have i3:=zaa bI2 3;have HI2:=hid bI2;have HR2:=hid bR2;have HB2:=hid b2;clear hW2 hkb b1 bI1 sz2 bI2 bR2 b2
 go_cut [7] from 8 to 14 (fun p_ wc=>KBox W2 ⟨x,lo,ln,lc,so,sn,sc,none,0,0⟩ (fun _=>16) p_ wc)
 case first=>
  refine zah [1,5,6,7,8] (fun X=>Below W2.heap.size W2 X) (by kernel_rfl) (by kernel_rfl) (⟨rfl,rfl,rfl,Nat.le_refl _,fun _ _=>rfl⟩:Below W2.heap.size W2 W2.drew) ?_;refine qFs fun K hK=>?_;go_simp;refine⟨.agg #[.int .i64 x.r,.slice x.ao x.n x.cap,.slice x.mo x.mn x.mc,.slice x.eo x.en x.ec],fun X hX=>?_,hK _ ?_⟩
  ·have z0:=kept i0 hX
   have z1:=kept i1 hX;have z2:=kept i2 hX;have z3:=kept i3 hX;clear hX;go_simp
  clear hK K;refine qFc ?_;refine qFs fun K hK=>?_;go_simp;refine⟨.agg #[.int .i64 x.r,.slice x.ao x.n x.cap,.slice x.mo x.mn x.mc,.slice x.eo x.en x.ec],fun X hX=>?_,hK _ ?_⟩
  ·have z0:=kept i0 hX
   have z1:=kept i1 hX;have z2:=kept i2 hX;have z3:=kept i3 hX;clear hX;go_simp
  clear hK K;refine qFs fun K hK=>?_;go_simp;refine⟨_,fun _ _=>rfl,hK _ ?_⟩;clear hK K;refine qFs fun K hK=>?_;go_simp;refine⟨_,fun _ _=>rfl,hK _ ?_⟩;clear hK K;refine qFc ?_;refine qFc ?_;refine qFc ?_;refine qFc ?_;refine zau ?_;have B0:Below W2.heap.size W2 W2.drew:=⟨rfl,rfl,rfl,Nat.le_refl _,fun _ _=>rfl⟩;obtain⟨Wd,hWd⟩:∃ X,X=W2.drew:=⟨_,rfl⟩;rw [←hWd] at B0 ⊢;clear hWd;refine zb0 (m:=4) (i:=1) (j:=7) (rem1:=[5,6,7,8]) (rem2:=[1,5,6,8]) (by kernel_rfl) (by rfl) (by rfl) (by rfl) (by rfl) (fun K hK=>?_) (fun K hK=>?_)
  ·dsimp only [List.getElem_toArray,List.getElem_cons_succ,List.getElem_cons_zero]
   go_wp2_with fail
   refine (HSN.out _).mono ?_;rintro e X1 ⟨rfl,b1⟩;have B1:=B0.trans (b1.mono B0.size)
   go_wp2_with fail
   refine hK _ _ B1 ?_;clear hK K;refine zb0 (m:=3) (i:=5) (j:=7) (rem1:=[6,7,8]) (rem2:=[5,6,8]) (by kernel_rfl) (by rfl) (by rfl) (by rfl) (by rfl) (fun K hK=>?_) (fun K hK=>?_)
   ·dsimp only [List.getElem_toArray,List.getElem_cons_succ,List.getElem_cons_zero]
    go_wp2_with fail
    refine (HEN.out _).mono ?_;rintro e X2 ⟨rfl,b2⟩;have B2:=B1.trans (b2.mono B1.size)
    go_wp2_with fail
    refine hK _ _ B2 ?_;clear hK K;refine zb0 (m:=2) (i:=6) (j:=7) (rem1:=[7,8]) (rem2:=[6,8]) (by kernel_rfl) (by rfl) (by rfl) (by rfl) (by rfl) (fun K hK=>?_) (fun K hK=>?_)
    ·dsimp only [List.getElem_toArray,List.getElem_cons_succ,List.getElem_cons_zero]
     refine zbv rfl (v:=.agg ⟨KL ⟨x,lo,ln,lc,so,sn,sc,none,0,0⟩ (fun _=>16)⟩) (by kernel_rfl) ?_;refine hK _ _ B2 ?_;clear hK K;refine qT1 7 [8] fun K hK=>?_;dsimp only [List.getElem_toArray,List.getElem_cons_succ,List.getElem_cons_zero]
     go_wp2_with fail
     have B4:=B2.alloc B2.size (.cells Tryz.zeroCells66 66);have K4:=heap_alloc_new X2 (.cells Tryz.zeroCells66 66);have pl:W2.heap.size≤X2.heap.size:=B2.size;refine hK _ _ B4 ?_;clear hK K;obtain⟨p,hp⟩:∃ p,X2.heap.size=p:=⟨_,rfl⟩;obtain⟨Y4,hY⟩:∃ X,X=X2.alloc (.cells Tryz.zeroCells66 66):=⟨_,rfl⟩;rw [←hY] at B4 K4 ⊢;rw [hp] at K4 pl ⊢;clear hY hp;refine qT1 8 [] fun K hK=>?_;dsimp only [List.getElem_toArray,List.getElem_cons_succ,List.getElem_cons_zero];have hth:Y4.there p 0 (KL ⟨x,lo,ln,lc,so,sn,sc,none,0,0⟩ (fun _=>16)).toArray.size:=fun j hj=>by
      have hj:j < 141:=by rw [←zbi ⟨x,lo,ln,lc,so,sn,sc,none,0,0⟩ (fun _=>16)];simpa using hj
      refine⟨?_,zab K4 _⟩;rw [zaa K4,Nat.zero_add,Array.getElem?_eq_getElem (by exact hj)];rfl
     have bK9:(Y4.setCells p 0 (KL ⟨x,lo,ln,lc,so,sn,sc,none,0,0⟩ (fun _=>16)).toArray.toList).heap[p]? =some (.cells ⟨KL ⟨x,lo,ln,lc,so,sn,sc,none,0,0⟩ (fun _=>16)⟩ 66 (0,0)):=zdu (KL ⟨x,lo,ln,lc,so,sn,sc,none,0,0⟩ (fun _=>16)) [] Tryz.zeroCells66.toList 0 Y4 rfl (by rw [zj1,zbi]) (by simpa using K4);have b9:Below W2.heap.size W2 (Y4.setCells p 0 (KL ⟨x,lo,ln,lc,so,sn,sc,none,0,0⟩ (fun _=>16)).toArray.toList):=zak pl _ 0 _ B4;refine wpList_store_mid rfl 66 _ _ rfl p 0 (KL ⟨x,lo,ln,lc,so,sn,sc,none,0,0⟩ (fun _=>16)).toArray rfl rfl hth (by simpa using zc6 ⟨x,lo,ln,lc,so,sn,sc,none,0,0⟩ (fun _=>16)) (all_oneCell_toArray (zhu ⟨x,lo,ln,lc,so,sn,sc,none,0,0⟩ (fun _=>16))) ?_;refine hK _ _ b9 ?_;clear hK K;refine zan ?_;go_wp2;go_meet
     case rel=>exact⟨p,rfl,pl,bK9,b9⟩
    ·dsimp only [List.getElem_toArray,List.getElem_cons_succ,List.getElem_cons_zero]
     go_wp2_with fail
     have B6:=B2.alloc B2.size (.cells Tryz.zeroCells66 66);have K6:=heap_alloc_new X2 (.cells Tryz.zeroCells66 66);have pl:W2.heap.size≤X2.heap.size:=B2.size;refine hK _ _ B6 ?_;clear hK K;obtain⟨p,hp⟩:∃ p,X2.heap.size=p:=⟨_,rfl⟩;obtain⟨Y6,hY⟩:∃ X,X=X2.alloc (.cells Tryz.zeroCells66 66):=⟨_,rfl⟩;rw [←hY] at B6 K6 ⊢;rw [hp] at K6 pl ⊢;clear hY hp;refine qT1 6 [8] fun K hK=>?_;dsimp only [List.getElem_toArray,List.getElem_cons_succ,List.getElem_cons_zero];refine zbv rfl (v:=.agg ⟨KL ⟨x,lo,ln,lc,so,sn,sc,none,0,0⟩ (fun _=>16)⟩) (by kernel_rfl) ?_;refine hK _ _ B6 ?_;clear hK K;refine qT1 8 [] fun K hK=>?_;dsimp only [List.getElem_toArray,List.getElem_cons_succ,List.getElem_cons_zero];have hth:Y6.there p 0 (KL ⟨x,lo,ln,lc,so,sn,sc,none,0,0⟩ (fun _=>16)).toArray.size:=fun j hj=>by
      have hj:j < 141:=by rw [←zbi ⟨x,lo,ln,lc,so,sn,sc,none,0,0⟩ (fun _=>16)];simpa using hj
      refine⟨?_,zab K6 _⟩;rw [zaa K6,Nat.zero_add,Array.getElem?_eq_getElem (by exact hj)];rfl
     have bK9:(Y6.setCells p 0 (KL ⟨x,lo,ln,lc,so,sn,sc,none,0,0⟩ (fun _=>16)).toArray.toList).heap[p]? =some (.cells ⟨KL ⟨x,lo,ln,lc,so,sn,sc,none,0,0⟩ (fun _=>16)⟩ 66 (0,0)):=zdu (KL ⟨x,lo,ln,lc,so,sn,sc,none,0,0⟩ (fun _=>16)) [] Tryz.zeroCells66.toList 0 Y6 rfl (by rw [zj1,zbi]) (by simpa using K6);have b9:Below W2.heap.size W2 (Y6.setCells p 0 (KL ⟨x,lo,ln,lc,so,sn,sc,none,0,0⟩ (fun _=>16)).toArray.toList):=zak pl _ 0 _ B6;refine wpList_store_mid rfl 66 _ _ rfl p 0 (KL ⟨x,lo,ln,lc,so,sn,sc,none,0,0⟩ (fun _=>16)).toArray rfl rfl hth (by simpa using zc6 ⟨x,lo,ln,lc,so,sn,sc,none,0,0⟩ (fun _=>16)) (all_oneCell_toArray (zhu ⟨x,lo,ln,lc,so,sn,sc,none,0,0⟩ (fun _=>16))) ?_;refine hK _ _ b9 ?_;clear hK K;refine zan ?_;go_wp2;go_meet
     case rel=>exact⟨p,rfl,pl,bK9,b9⟩
   ·dsimp only [List.getElem_toArray,List.getElem_cons_succ,List.getElem_cons_zero]
    go_wp2_with fail
    have B9:=B1.alloc B1.size (.cells Tryz.zeroCells66 66);have K9:=heap_alloc_new X1 (.cells Tryz.zeroCells66 66);have pl:W2.heap.size≤X1.heap.size:=B1.size;refine hK _ _ B9 ?_;clear hK K;obtain⟨p,hp⟩:∃ p,X1.heap.size=p:=⟨_,rfl⟩;obtain⟨Y9,hY⟩:∃ X,X=X1.alloc (.cells Tryz.zeroCells66 66):=⟨_,rfl⟩;rw [←hY] at B9 K9 ⊢;rw [hp] at K9 pl ⊢;clear hY hp;refine qT1 5 [6,8] fun K hK=>?_;dsimp only [List.getElem_toArray,List.getElem_cons_succ,List.getElem_cons_zero]
    go_wp2_with fail
    refine (HEN.out _).mono ?_;rintro e X10 ⟨rfl,b10⟩;have B10:=B9.trans (b10.mono B9.size);have K10:=qBa b10 K9
    go_wp2_with fail
    refine hK _ _ B10 ?_;clear hK K;refine qT1 6 [8] fun K hK=>?_;dsimp only [List.getElem_toArray,List.getElem_cons_succ,List.getElem_cons_zero];refine zbv rfl (v:=.agg ⟨KL ⟨x,lo,ln,lc,so,sn,sc,none,0,0⟩ (fun _=>16)⟩) (by kernel_rfl) ?_;refine hK _ _ B10 ?_;clear hK K;refine qT1 8 [] fun K hK=>?_;dsimp only [List.getElem_toArray,List.getElem_cons_succ,List.getElem_cons_zero];have hth:X10.there p 0 (KL ⟨x,lo,ln,lc,so,sn,sc,none,0,0⟩ (fun _=>16)).toArray.size:=fun j hj=>by
     have hj:j < 141:=by rw [←zbi ⟨x,lo,ln,lc,so,sn,sc,none,0,0⟩ (fun _=>16)];simpa using hj
     refine⟨?_,zab K10 _⟩;rw [zaa K10,Nat.zero_add,Array.getElem?_eq_getElem (by exact hj)];rfl
    have bK9:(X10.setCells p 0 (KL ⟨x,lo,ln,lc,so,sn,sc,none,0,0⟩ (fun _=>16)).toArray.toList).heap[p]? =some (.cells ⟨KL ⟨x,lo,ln,lc,so,sn,sc,none,0,0⟩ (fun _=>16)⟩ 66 (0,0)):=zdu (KL ⟨x,lo,ln,lc,so,sn,sc,none,0,0⟩ (fun _=>16)) [] Tryz.zeroCells66.toList 0 X10 rfl (by rw [zj1,zbi]) (by simpa using K10);have b9:Below W2.heap.size W2 (X10.setCells p 0 (KL ⟨x,lo,ln,lc,so,sn,sc,none,0,0⟩ (fun _=>16)).toArray.toList):=zak pl _ 0 _ B10;refine wpList_store_mid rfl 66 _ _ rfl p 0 (KL ⟨x,lo,ln,lc,so,sn,sc,none,0,0⟩ (fun _=>16)).toArray rfl rfl hth (by simpa using zc6 ⟨x,lo,ln,lc,so,sn,sc,none,0,0⟩ (fun _=>16)) (all_oneCell_toArray (zhu ⟨x,lo,ln,lc,so,sn,sc,none,0,0⟩ (fun _=>16))) ?_;refine hK _ _ b9 ?_;clear hK K;refine zan ?_;go_wp2;go_meet
    case rel=>exact⟨p,rfl,pl,bK9,b9⟩
  ·dsimp only [List.getElem_toArray,List.getElem_cons_succ,List.getElem_cons_zero]
   go_wp2_with fail
   have B13:=B0.alloc B0.size (.cells Tryz.zeroCells66 66);have K13:=heap_alloc_new Wd (.cells Tryz.zeroCells66 66);have pl:W2.heap.size≤Wd.heap.size:=B0.size;refine hK _ _ B13 ?_;clear hK K;obtain⟨p,hp⟩:∃ p,Wd.heap.size=p:=⟨_,rfl⟩;obtain⟨Y13,hY⟩:∃ X,X=Wd.alloc (.cells Tryz.zeroCells66 66):=⟨_,rfl⟩;rw [←hY] at B13 K13 ⊢;rw [hp] at K13 pl ⊢;clear hY hp;refine qT1 1 [5,6,8] fun K hK=>?_;dsimp only [List.getElem_toArray,List.getElem_cons_succ,List.getElem_cons_zero]
   go_wp2_with fail
   refine (HSN.out _).mono ?_;rintro e X14 ⟨rfl,b14⟩;have B14:=B13.trans (b14.mono B13.size);have K14:=qBa b14 K13
   go_wp2_with fail
   refine hK _ _ B14 ?_;clear hK K;refine qT1 5 [6,8] fun K hK=>?_;dsimp only [List.getElem_toArray,List.getElem_cons_succ,List.getElem_cons_zero]
   go_wp2_with fail
   refine (HEN.out _).mono ?_;rintro e X15 ⟨rfl,b15⟩;have B15:=B14.trans (b15.mono B14.size);have K15:=qBa b15 K14
   go_wp2_with fail
   refine hK _ _ B15 ?_;clear hK K;refine qT1 6 [8] fun K hK=>?_;dsimp only [List.getElem_toArray,List.getElem_cons_succ,List.getElem_cons_zero];refine zbv rfl (v:=.agg ⟨KL ⟨x,lo,ln,lc,so,sn,sc,none,0,0⟩ (fun _=>16)⟩) (by kernel_rfl) ?_;refine hK _ _ B15 ?_;clear hK K;refine qT1 8 [] fun K hK=>?_;dsimp only [List.getElem_toArray,List.getElem_cons_succ,List.getElem_cons_zero];have hth:X15.there p 0 (KL ⟨x,lo,ln,lc,so,sn,sc,none,0,0⟩ (fun _=>16)).toArray.size:=fun j hj=>by
    have hj:j < 141:=by rw [←zbi ⟨x,lo,ln,lc,so,sn,sc,none,0,0⟩ (fun _=>16)];simpa using hj
    refine⟨?_,zab K15 _⟩;rw [zaa K15,Nat.zero_add,Array.getElem?_eq_getElem (by exact hj)];rfl
   have bK9:(X15.setCells p 0 (KL ⟨x,lo,ln,lc,so,sn,sc,none,0,0⟩ (fun _=>16)).toArray.toList).heap[p]? =some (.cells ⟨KL ⟨x,lo,ln,lc,so,sn,sc,none,0,0⟩ (fun _=>16)⟩ 66 (0,0)):=zdu (KL ⟨x,lo,ln,lc,so,sn,sc,none,0,0⟩ (fun _=>16)) [] Tryz.zeroCells66.toList 0 X15 rfl (by rw [zj1,zbi]) (by simpa using K15);have b9:Below W2.heap.size W2 (X15.setCells p 0 (KL ⟨x,lo,ln,lc,so,sn,sc,none,0,0⟩ (fun _=>16)).toArray.toList):=zak pl _ 0 _ B15;refine wpList_store_mid rfl 66 _ _ rfl p 0 (KL ⟨x,lo,ln,lc,so,sn,sc,none,0,0⟩ (fun _=>16)).toArray rfl rfl hth (by simpa using zc6 ⟨x,lo,ln,lc,so,sn,sc,none,0,0⟩ (fun _=>16)) (all_oneCell_toArray (zhu ⟨x,lo,ln,lc,so,sn,sc,none,0,0⟩ (fun _=>16))) ?_;refine hK _ _ b9 ?_;clear hK K;refine zan ?_;go_wp2;go_meet
   case rel=>exact⟨p,rfl,pl,bK9,b9⟩
 obtain⟨p,rfl,hpl,bK9,b9⟩:=hcut;have HP:=hid hpl;clear hpl;obtain⟨z,hz⟩:∃ z:KR,z=⟨x,lo,ln,lc,so,sn,sc,none,0,0⟩:=⟨_,rfl⟩;obtain⟨C,hC⟩:∃ C:Nat→Int,C=fun _=>16:=⟨_,rfl⟩;rw [←hz,←hC] at bK9;have HZ:=hid (show z.x=x by rw [hz]);clear hz hC;obtain⟨W9,hW9⟩:∃ X,X=wc:=⟨_,rfl⟩;rw [←hW9] at bK9 b9 ⊢;clear hW9;have HB9:=hid (HB2.out.trans (b9.mono HB2.out.size));have bI9:=qBa b9 HI2.out;have HR9:=hid (qBa b9 HR2.out);have j2:=zaa bI9 2;have k9:=kept HK1.out HB9.out;have HM:=hid hm;have t0:(0:Int) < (x.mn:Int):=by omega
 clear i0 i1 i2 i3 hm HSN HEN b9;obtain⟨hi0,hi,hz0,hz1,hz2⟩:=info_parts infoSl32;obtain⟨QN,hQN⟩:∃ n,(M 0).qn=n:=⟨_,rfl⟩;rw [hQN] at k9 hq;obtain⟨W10,hmk,hown,hgr⟩:=run_make_full (P:=Tryz.prog) W9 W9.heap.size 63 59 hi0 (.slice none 0 0) 1 Tryz.underlying63 hi hz0 hz1 .i64 .i64 QN (by rw [hz2];omega) (by unfold maxLen;omega) (Nat.le_refl _);have bg:=(Below.refl W9.heap.size W9).grown hgr (Nat.le_refl _) (by simp);have bK10:=qBa bg bK9;have HR10:=hid (qBa bg HR9.out);have HB10:=hid (HB9.out.trans (bg.mono HB9.out.size));have c138:=(zaa bK10 138).trans (KL_138 z C);have f138:=zab bK10 138;have me:=HME.out;have bK11:(W10.setCell ⟨p,138,none⟩ (.slice (some ⟨W9.heap.size,0,none⟩) QN QN)).heap[p]? =some (.cells ⟨KL { z with qo:=some ⟨W9.heap.size,0,none⟩,qn:=QN,qc:=QN } C⟩ 66 (0,0)):=(Dl.blk_put0 (i:=138) (u:=.slice (some ⟨W9.heap.size,0,none⟩) QN QN) bK10).trans (by rw [←KL_queue z C (some ⟨W9.heap.size,0,none⟩) QN QN];simp only [List.setIfInBounds_toArray]);have HZ2:=hid (show ({ z with qo:=some ⟨W9.heap.size,0,none⟩,qn:=QN,qc:=QN }:KR).x=x from HZ.out);have hk2:w.heap.size≤p:=Nat.le_trans HB2.out.size HP.out;have HB11:=hid (HB10.out.setCell (p:=⟨p,138,none⟩) hk2 (.slice (some ⟨W9.heap.size,0,none⟩) QN QN));have HR11:=hid ((heap_setCell_other W10 ⟨p,138,none⟩ (kb+1) (.slice (some ⟨W9.heap.size,0,none⟩) QN QN) (by show kb+1≠p;have:=HP.out;have:=HS2.out;omega)).trans HR10.out);have HK11:=hid bK11;clear hQN bK11 bK10 bK9 hk2 hown hgr bg hi hz0 hz1 hz2 HB9 HR9;rw [me] at j2;clear me
 go_upto_region 3 with fail
 generalize W10.setCell ⟨p,138,none⟩ (.slice (some ⟨W9.heap.size,0,none⟩) QN QN)=W11 at HB11 HK11 HR11 ⊢;generalize ({ z with qo:=some ⟨W9.heap.size,0,none⟩,qn:=QN,qc:=QN }:KR)=y at HZ2 HK11;clear c138 f138 k9 j2 hmk bI9 t0 HB10 HR10;have HT:=hid (HTB.out y C HZ2.out W11 HB11.out);have hrK:W11.rangeAt p 0 (KL y C):=fun j v hv=>by rw [Nat.zero_add,ze3 HK11.out];exact hv
 refine wp_region_lit ?_;refine wpList_load_mid rfl 66 _ rfl p 0 rfl (KL y C) _ hrK Tryz.underlying66 rfl (zc6 y C) ?_;clear hrK
 go_wp2_with fail
 refine HT.out.mono ?_;rintro e W12 ⟨⟨C',rfl⟩,b12⟩;rename_i KK hKK;refine hKK _ _ ?_;clear hKK KK;have hR12:=qBa b12 HR11.out;have hB12:=HB11.out.trans (b12.mono HB11.out.size);have hth:W12.there (kb+1) 0 (KL y C').toArray.size:=fun j hj=>by
  have hj:j < 141:=by rw [←zbi y C'];simpa using hj
  refine⟨?_,zab hR12 _⟩;rw [zaa hR12,Nat.zero_add,Array.getElem?_eq_getElem (by exact hj)];rfl
 refine wpList_store_mid rfl 66 _ _ rfl (kb+1) 0 (KL y C').toArray rfl rfl hth (by simpa using zc6 y C') (all_oneCell_toArray (zhu y C')) ?_;have hrg:=World.rangeAt_setCells_same W12 (kb+1) 0 (KL y C') (by simpa using hth);have hb8:Below w.heap.size w (W12.setCells (kb+1) 0 (KL y C').toArray.toList):=zak (by have:=HW.out;omega) _ 0 _ hB12;clear hth;show Exit.then _ _ _ _ _
 have hrg':(W12.setCells (kb+1) 0 (KL y C').toArray.toList).rangeAt (kb+1) 0 (KL y C'):=hrg;clear hrg;generalize W12.setCells (kb+1) 0 (KL y C').toArray.toList=W13 at hrg' hb8 ⊢;go_simp;rename_i KK hKK;refine hKK _ _ ?_;go_wp2;refine bodyPost_ret (v:=.agg ⟨KL y C'⟩) ?_ rfl ⟨⟨y,C',rfl⟩,hb8⟩;simp [results,Tryz.results59,asAddr,run_loadVar_mid W13 (kb+1) 0 66 _ _ hrg' Tryz.underlying66 rfl (zc6 y C')]
end Go.Proofs.YtpbmmoneeoijaaaGreatDoor
