/-
  A part of the proof: CopyFn ImgCheck.
-/
import Derived.Test.YtpbmmoneeoijaaaGreatDoorP09
namespace Go.Proofs.YtpbmmoneeoijaaaGreatDoor
open Go.RowKit Go.Deep
set_option maxRecDepth 100000
structure zg6 (W:World) (y:Img) (R:Nat→za9) (g:Nat→Nat→Int) (q:Nat→Nat→Nat→Int) (h:Nat→Nat→Int):Prop where
 tasks:zck W y.ao y.n g
 ta:TyAt W y.ao 165
 modes:zbh W y.mo y.mn R
 tm:TyAt W y.mo 71
 queues:∀ i,i < y.mn→zbj W (R i).qo (R i).qn 2 (q i)
 tq:∀ i,i < y.mn→TyAt W (R i).qo 74
 edges:zbj W y.eo y.en 23 h
 te:TyAt W y.eo 176
theorem zg6.keep {M:TypeId→Prop} {base:Nat} {W W':World} {y:Img} {R:Nat→za9} {g:Nat→Nat→Int} {q:Nat→Nat→Nat→Int} {h:Nat→Nat→Int} (o:zg6 W y R g q h) (s:zpu M) (k:FT M base W W'):zg6 W' y R g q h:=
 ⟨o.tasks.keep o.ta s.1 k,o.ta.keep s.1 k,o.modes.keep o.tm s.2.1 k,o.tm.keep s.2.1 k,fun i hi=>(o.queues i hi).keep (o.tq i hi) s.2.2.1 k,fun i hi=>(o.tq i hi).keep s.2.2.1 k,o.edges.keep o.te s.2.2.2.1 k,o.te.keep s.2.2.2.1 k⟩
theorem zb6:zpu fun _=>False:=⟨id,id,id,id,id⟩
theorem zg6.below {W W':World} {y:Img} {R:Nat→za9} {g:Nat→Nat→Int} {q:Nat→Nat→Nat→Int} {h:Nat→Nat→Int} (o:zg6 W y R g q h) (k:Below W.heap.size W W'):zg6 W' y R g q h:=
 o.keep zb6 (FT.of_below (base:=0) k)
theorem TyAt.below {W W':World} {ao:Option Addr} {t:TypeId} (h:TyAt W ao t) (k:Below W.heap.size W W'):TyAt W' ao t:=h.keep (M:=fun _=>False) (base:=0) id (FT.of_below k)
theorem zpa {W:World} {ao:Option Addr} {n K:Nat} {g:Nat→Nat→Int} (h:zbj W ao n K g):0 < n→∃ b o,ao=some ⟨b,o,none⟩∧∀ (j:Nat) (u:Value),(zgp g n K)[j]? =some u→W.cell? ((⟨b,o,none⟩:Addr).add j)=some u:=fun hn=>by
 obtain⟨b,o,rfl,_⟩:=h 0 hn;exact⟨b,o,rfl,zAq h⟩
def zei (R:Nat→za9) (n:Nat):List Value:=(List.range (n * 2)).map fun k=>if k % 2=0 then .int .u32 (R (k / 2)).t else .slice (R (k / 2)).qo (R (k / 2)).qn (R (k / 2)).qc
theorem zc1 (R:Nat→za9) (n:Nat):(zei R n).length=n * 2:=by simp [zei]
theorem zff (R:Nat→za9) {n k:Nat} (h:k < n * 2):(zei R n)[k]? =some (if k % 2=0 then .int .u32 (R (k / 2)).t else .slice (R (k / 2)).qo (R (k / 2)).qn (R (k / 2)).qc):=by simp [zei,h]
theorem modesL_t (R:Nat→za9) {n i:Nat} (h:i < n):(zei R n)[i * 2]? =some (.int .u32 (R i).t):=by
 rw [zff R (by omega),show i * 2 / 2=i by omega,if_pos (by omega)]
theorem zo0 (R:Nat→za9) {n i:Nat} (h:i < n):(zei R n)[i * 2+1]? =some (.slice (R i).qo (R i).qn (R i).qc):=by
 rw [zff R (by omega),show (i * 2+1) / 2=i by omega,if_neg (by omega)]
theorem zx9 (R:Nat→za9) (n:Nat):∀ u∈zei R n,u.oneCell'=true:=fun u hu=>by
 obtain⟨k,_,rfl⟩:=List.mem_map.1 hu
 split<;>rfl
def atQ (R:Nat→za9) (i:Nat) (o:Option Addr) (c:Nat):Nat→za9:=fun j=>if j=i then ⟨(R i).t,o,(R i).qn,c⟩ else R j
theorem zx8 (R:Nat→za9) {n i:Nat} (h:i < n) (o:Option Addr) (c:Nat):(zei R n).set (i * 2+1) (.slice o (R i).qn c)=zei (atQ R i o c) n:=by
 apply List.ext_getElem?;intro k;rw [List.getElem?_set];by_cases e:i * 2+1=k
 ·subst e
  rw [if_pos rfl,if_pos (by rw [zc1];omega),zo0 _ h];simp [atQ]
 ·rw [if_neg e]
  by_cases hk:k < n * 2
  ·rw [zff _ hk,zff _ hk]
   unfold atQ;by_cases e2:k / 2=i
   ·have:k % 2=0:=by omega
    rw [if_pos this,if_pos this,e2,if_pos rfl]
   ·rw [if_neg e2]
  ·rw [List.getElem?_eq_none (by rw [zc1];omega),List.getElem?_eq_none (by rw [zc1];omega)]
theorem zz4 {W:World} {mo:Option Addr} {n:Nat} {R:Nat→za9} (h:zbh W mo n R):0 < n→∃ b o,mo=some ⟨b,o,none⟩∧∀ (j:Nat) (u:Value),(zei R n)[j]? =some u→W.cell? ((⟨b,o,none⟩:Addr).add j)=some u:=fun hn=>by
 obtain⟨b,o,rfl,_⟩:=h 0 hn;refine⟨b,o,rfl,fun j u hj=>?_⟩;have hjn:j < n * 2:=by
  rcases Nat.lt_or_ge j (n * 2) with h|h
  ·exact h
  ·rw [List.getElem?_eq_none (by rw [zc1];exact h)] at hj;cases hj
 rw [zff R hjn] at hj;cases hj;obtain⟨b',o',e,c0,c1⟩:=h (j / 2) (by omega);cases e;rw [za8]
 split
 ·rw [show o+j=o+j / 2 * 2 by omega];exact c0
 ·rw [show o+j=o+j / 2 * 2+1 by omega];exact c1
theorem zqy {W:World} {B n:Nat} {e:TypeId} {v:Value} {R:Nat→za9} (h:W.ownsRow B e 2 v n (zei R n)):∃ ao c,v=.slice ao n c∧zbh W ao n R∧TyAt W ao e:=by
 obtain⟨ao,c,e1,h1,h2⟩:=zar h;refine⟨ao,c,e1,fun i hi=>?_,h1⟩;obtain⟨b,rfl,_,h3,_⟩:=h2 (by omega);refine⟨b,0,rfl,?_,?_⟩
 ·rw [Nat.zero_add,h3 _ (by omega),modesL_t R hi]
 ·rw [Nat.zero_add,h3 _ (by omega),zo0 R hi]
theorem infoTk:(Tryz.prog.info? 165).map (fun i=>(i.zero,i.size,i.bytes))=some (some (.agg #[.int .i64 0,.int .i64 0,.int .i64 0,.int .i64 0,.int .i64 0,.int .i64 0,.int .i64 0,.int .i64 0,.int .i64 0,.int .i64 0,.int .i64 0]),11,88):=by kernel_rfl
theorem infoEg:(Tryz.prog.info? 176).map (fun i=>(i.zero,i.size,i.bytes))=some (some (.agg #[.int .i64 0,.int .i64 0,.int .i64 0,.int .i64 0,.int .i64 0,.int .i64 0,.int .i64 0,.int .i64 0,.int .i64 0,.int .i64 0,.int .i64 0,.int .i64 0,.int .i64 0,.int .i64 0,.int .i64 0,.int .i64 0,.int .i64 0,.int .i64 0,.int .i64 0,.int .i64 0,.int .i64 0,.int .i64 0,.int .i64 0]),23,184):=by kernel_rfl
theorem infoMd:(Tryz.prog.info? 71).map (fun i=>(i.zero,i.size,i.bytes))=some (some (.agg #[.int .u32 0,.slice none 0 0]),2,32):=by kernel_rfl
theorem infoQu:(Tryz.prog.info? 74).map (fun i=>(i.zero,i.size,i.bytes))=some (some (.agg #[.int .i64 0,.int .i64 0]),2,16):=by kernel_rfl
theorem zdd {W W':World} {b n s:Nat} {e:TypeId} {u:Value} {ys:List Value} (h:W.ownsRow b e s u n ys) (k:Below W.heap.size W W'):W'.ownsRow b e s u n ys:=FT.own (M:=fun _=>False) (base:=0) (FT.of_below k) h id
def CopyA (x:Img) (M:Nat→za9) (g:Nat→Nat→Int) (q:Nat→Nat→Nat→Int) (h:Nat→Nat→Int) (w:World) (e:Ending) (w':World):Prop:=
 ∃ y R,e=.returned (iv y)∧(y.r=x.r∧y.n=x.n∧y.mn=x.mn∧y.en=x.en)∧(∀ i,i < x.mn→(R i).t=(M i).t∧(R i).qn=(M i).qn)∧zg6 w' y R g q h∧Below w.heap.size w w'
set_option maxHeartbeats 4000000 in
theorem zvl (x:Img) (M:Nat→za9) (g:Nat→Nat→Int) (q:Nat→Nat→Nat→Int) (h:Nat→Nat→Int) (w:World) (hT:zck w x.ao x.n g) (hM:zbh w x.mo x.mn M) (hQ:∀ i,i < x.mn→zbj w (M i).qo (M i).qn 2 (q i)) (hE:zbj w x.eo x.en 23 h)
  (hn:x.n≤100) (hm1:1≤x.mn) (hmn:x.mn≤100) (hen:x.en≤100) (hqn:∀ i,i < x.mn→(M i).qn≤100):Calls Tryz.prog 105 #[iv x] w (CopyA x M g q h w):=by
 obtain⟨r,ao,n,cap,mo,mn,mc,eo,en,ec⟩:=x;unfold iv;dsimp only at hT hM hQ hE hn hm1 hmn hen hqn ⊢;obtain⟨i0,hi,hz0,hz1,hz2⟩:=info_parts infoTk;obtain⟨j0,hj,hj0,hj1,hj2⟩:=info_parts infoEg;obtain⟨k0,hk,hk0,hk1,hk2⟩:=info_parts infoMd;obtain⟨l0,hl,hl0,hl1,hl2⟩:=info_parts infoQu;have hb0:Below w.heap.size w ((w.alloc (Obj.cells #[.int .i64 r,.slice ao n cap,.slice mo mn mc,.slice eo en ec] 26)).alloc (Obj.cells #[.int .i64 0,.slice none 0 0,.slice none 0 0,.slice none 0 0] 26)):=((Below.refl _ _).alloc (Nat.le_refl _) _).alloc (by simp) _;have bI0:=zac (heap_alloc_new w (Obj.cells #[.int .i64 r,.slice ao n cap,.slice mo mn mc,.slice eo en ec] 26)) (Obj.cells #[.int .i64 0,.slice none 0 0,.slice none 0 0,.slice none 0 0] 26);have bR0:=heap_alloc_new (w.alloc (Obj.cells #[.int .i64 r,.slice ao n cap,.slice mo mn mc,.slice eo en ec] 26)) (Obj.cells #[.int .i64 0,.slice none 0 0,.slice none 0 0,.slice none 0 0] 26);rw [World.size_alloc] at bR0;have HT:=hid hT;have HM:=hid hM;have HQ:=hid hQ;have HE:=hid hE;have HQN:=hid hqn;clear hT hM hQ hE hqn;go_enter Tryz.func105,Tryz.ntmps105
 go_upto_region 1 with fail
 obtain⟨W0,hW0⟩:∃ X,X=(w.alloc (Obj.cells #[.int .i64 r,.slice ao n cap,.slice mo mn mc,.slice eo en ec] 26)).alloc (Obj.cells #[.int .i64 0,.slice none 0 0,.slice none 0 0,.slice none 0 0] 26):=⟨_,rfl⟩;rw [←hW0] at hb0 bI0 bR0 ⊢;clear hW0;have c0:=zaa bI0 1
 go_upto_region 2 with (at_builtin;refine zcc rfl _ _ 22 rfl 165 i0 _ 11 88 Tryz.underlying22 hi hz0 hz1 hz2 rfl (by decide) rfl ao n cap (zgp g n 11) rfl (zb1 _ _ _) (zpa (HT.out.below hb0)) (zl1 _ _ _) (by omega) (by decide) ?_;intro v1 w1 o1 b1;obtain⟨ao1,ca1,rfl,hF1,hY1⟩:=zfz o1;have bI1:=qBa b1 bI0;have bR1:=qBa b1 bR0;have c1:=zaa bI1 1;have f1:=zab bI1 1)
 have hb1:=hb0.trans (b1.mono hb0.size);have bI2:=Dl.blk_put0 (i:=1) (u:=.slice ao1 n ca1) bI1;have bR2:=(heap_setCell_other w1 ⟨w.heap.size,1,none⟩ (w.heap.size+1) (.slice ao1 n ca1) (by simp)).trans bR1;have hb2:=hb1.setCell (p:=⟨w.heap.size,1,none⟩) (Nat.le_refl _) (.slice ao1 n ca1);have k1:FT (fun t=>t=26) w.heap.size w1 (w1.setCell ⟨w.heap.size,1,none⟩ (.slice ao1 n ca1)):=FT.set (M:=fun t=>t=26) bI1 rfl (Nat.le_refl _) _;have hF2:=hF1.keep hY1 (by decide) k1;have hY2:=hY1.keep (by decide) k1;have HFY:=hid (And.intro hF2 hY2);obtain⟨W2,hW2⟩:∃ X,X=w1.setCell ⟨w.heap.size,1,none⟩ (.slice ao1 n ca1):=⟨_,rfl⟩;rw [←hW2] at bI2 bR2 hb2 HFY ⊢;clear hW2 c0 c1 f1 bI1 bR1 bI0 bR0 hb1 hb0 k1 hF1 hY1 hF2 hY2 o1 b1 hz0 hz1 hz2 hi;have d3:=zaa bI2 3
 go_upto_region 3 with (at_builtin;refine zcc rfl _ _ 24 rfl 176 j0 _ 23 184 Tryz.underlying24 hj hj0 hj1 hj2 rfl (by decide) rfl eo en ec (zgp h en 23) rfl (zb1 _ _ _) (zpa (HE.out.below hb2)) (zl1 _ _ _) (by omega) (by decide) ?_;intro v1 w3 o3 b3;obtain⟨eo1,ec1,rfl,hF3,hY3⟩:=zfz o3;have bI3:=qBa b3 bI2;have bR3:=qBa b3 bR2;have c1:=zaa bI3 3;have f1:=zab bI3 3)
 have hb3:=hb2.trans (b3.mono hb2.size);have bI4:=Dl.blk_put0 (i:=3) (u:=.slice eo1 en ec1) bI3;have bR4:=(heap_setCell_other w3 ⟨w.heap.size,3,none⟩ (w.heap.size+1) (.slice eo1 en ec1) (by simp)).trans bR3;have hb4:=hb3.setCell (p:=⟨w.heap.size,3,none⟩) (Nat.le_refl _) (.slice eo1 en ec1);have k3:FT (fun t=>t=26) w.heap.size w3 (w3.setCell ⟨w.heap.size,3,none⟩ (.slice eo1 en ec1)):=FT.set (M:=fun t=>t=26) bI3 rfl (Nat.le_refl _) _;have hF4:=(HFY.out.1.below b3).keep (HFY.out.2.below b3) (by decide) k3;have hY4:=(HFY.out.2.below b3).keep (by decide) k3;have hF5:=hF3.keep hY3 (by decide) k3;have hY5:=hY3.keep (by decide) k3;have HF4:=hid (And.intro hF4 hY4);have HF5:=hid (And.intro hF5 hY5);obtain⟨W4,hW4⟩:∃ X,X=w3.setCell ⟨w.heap.size,3,none⟩ (.slice eo1 en ec1):=⟨_,rfl⟩;rw [←hW4] at bI4 bR4 hb4 HF4 HF5 ⊢;clear hW4 d3 c1 f1 bI3 bR3 bI2 bR2 hb3 hb2 k3 hF3 hY3 hF4 hY4 hF5 hY5 o3 b3 hj0 hj1 hj2 hj HFY;have d2:=zaa bI4 2
 go_upto_region 4 with (at_builtin;refine zcc rfl _ _ 23 rfl 71 k0 _ 2 32 Tryz.underlying23 hk hk0 hk1 hk2 rfl (by decide) rfl mo mn mc (zei M mn) rfl (zc1 _ _) (zz4 (HM.out.below hb4)) (zx9 _ _) (by omega) (by decide) ?_;intro v1 w5 o5 b5;obtain⟨mo1,mc1,rfl,hY5,hs5⟩:=zar o5;obtain⟨mb,rfl,hmb,hcell,_⟩:=hs5 (by omega))
 have hbs4:=hb4.size;have bI5:=qBa b5 bI4;have bR5:=qBa b5 bR4;have hB5:=hb4.trans (b5.mono hb4.size);have HF6:=hid (And.intro (HF4.out.1.below b5) (HF4.out.2.below b5));have HF7:=hid (And.intro (HF5.out.1.below b5) (HF5.out.2.below b5));have hR4:w.heap.size+1 < W4.heap.size:=(Array.getElem?_eq_some_iff.1 bR4).1;have HO5:=hid o5;clear HF4 HF5 b5 bI4 bR4 hb4 d2 o5 hcell hs5 hY5;go_wp2
 go_loopw [18] (fun i_ wr=>∃ (i:Nat) (R:Nat→za9),i_=.int .i64 i∧i≤mn∧Hid (wr.ownsRow W4.heap.size 71 2 (.slice (some ⟨mb,0,none⟩) mn mc1) mn (zei R mn))∧Hid (∀ j,(R j).t=(M j).t∧(R j).qn=(M j).qn)∧Hid (∀ j,i≤j→R j=M j)∧
  Hid (∀ j,j < i→zbj wr (R j).qo (R j).qn 2 (q j)∧TyAt wr (R j).qo 74)∧Hid (zck wr ao1 n g∧TyAt wr ao1 165)∧Hid (zbj wr eo1 en 23 h∧TyAt wr eo1 176)∧
  Hid (wr.heap[w.heap.size]? =some (Obj.cells #[.int .i64 r,.slice ao1 n ca1,.slice mo mn mc,.slice eo1 en ec1] 26))∧Hid (wr.heap[w.heap.size+1]? =some (Obj.cells #[.int .i64 0,.slice none 0 0,.slice none 0 0,.slice none 0 0] 26))∧Hid (Below w.heap.size w wr)) (fun i_ _=>mn - (intOf i_).toNat)
 case atStart=>exact⟨0,M,rfl,Nat.zero_le _,HO5,fun _=>⟨rfl,rfl⟩,fun _ _=>rfl,fun j hj=>by omega,HF6,HF7,bI5,bR5,hB5⟩
 case round=>
  clear HO5 HF6 HF7 bI5 bR5 hB5;obtain⟨i,R,rfl,hi,HO,HR,HM2,HQ2,HT2,HE2,HI,HRR,HB⟩:=hrel;by_cases hlt:i < mn
  ·have t0:decide ((i:Int) < (mn:Int))=true:=by simp;omega
   have i0':(0:Int)≤(i:Int):=by omega
   have i1:(i:Int) < (mn:Int):=by omega
   have cq:wr.cell? ⟨mb,i * 2+1,none⟩=some (.slice (M i).qo (M i).qn (M i).qc):=by
    rw [HO.out.cellAt _ (by omega),zo0 R hlt,HM2.out i (Nat.le_refl _)]
   have hqn:=HQN.out i hlt;have hfq:=(HQ.out i hlt).below HB.out
   go_wp2_with (at_builtin;refine zcc rfl _ _ 69 rfl 74 l0 _ 2 16 Tryz.underlying69 hl hl0 hl1 hl2 rfl (by decide) rfl (M i).qo (M i).qn (M i).qc (zgp (q i) (M i).qn 2) rfl (zb1 _ _ _) (zpa hfq) (zl1 _ _ _) (by omega) (by decide) ?_;intro v1 w6 o6 b6;obtain⟨qo1,qc1,rfl,hF8,hY8⟩:=zfz o6;have HO6:=zdd HO.out b6;have c6:w6.cell? ⟨mb,i * 2+1,none⟩=some (.slice (M i).qo (M i).qn (M i).qc):=kept cq b6;have f6:=HO6.frozenAt (i * 2+1))
   go_roundw
   case rel=>
    have hS:=HO6.stored (i * 2+1) (.slice qo1 (M i).qn qc1);have hRn:(R i).qn=(M i).qn:=(HR.out i).2;have hset:(zei R mn).set (i * 2+1) (.slice qo1 (M i).qn qc1)=zei (atQ R i qo1 qc1) mn:=by rw [←hRn];exact zx8 R hlt qo1 qc1
    obtain⟨cur,hcur⟩:=(zar HO6).elim fun ao h=>h.elim fun c h=>(by
     obtain⟨e1,h1,_⟩:=h;cases e1;exact h1 _ _ rfl)
    have kk:FT (fun t=>t=71) w.heap.size w6 (w6.setCell ⟨mb,i * 2+1,none⟩ (.slice qo1 (M i).qn qc1)):=FT.set (M:=fun t=>t=71) hcur rfl (by omega) _;have hne:w.heap.size≠mb∧w.heap.size+1≠mb:=⟨by omega,by omega⟩;refine⟨i+1,atQ R i qo1 qc1,by go_num,by omega,(by rw [←hset];exact hS.1),fun j=>?_,fun j hj=>?_,fun j hj=>?_,⟨(HT2.out.1.below b6).keep (HT2.out.2.below b6) (by decide) kk,(HT2.out.2.below b6).keep (by decide) kk⟩,⟨(HE2.out.1.below b6).keep (HE2.out.2.below b6) (by decide) kk,(HE2.out.2.below b6).keep (by decide) kk⟩,
     kk.blk (qBa b6 HI.out) (by decide),kk.blk (qBa b6 HRR.out) (by decide),(HB.out.trans (b6.mono HB.out.size)).setCell (by show _≤mb;omega) _⟩
    ·unfold atQ
     split
     ·rename_i e;subst e;exact⟨(HR.out j).1,(HR.out j).2⟩
     ·exact HR.out j
    ·unfold atQ
     rw [if_neg (by omega)];exact HM2.out j (by omega)
    ·unfold atQ
     by_cases e:j=i
     ·subst e
      rw [if_pos rfl];dsimp only;rw [hRn];exact⟨hF8.keep hY8 (by decide) kk,hY8.keep (by decide) kk⟩
     ·rw [if_neg e]
      obtain⟨p1,p2⟩:=HQ2.out j (by omega);exact⟨(p1.below b6).keep (p2.below b6) (by decide) kk,(p2.below b6).keep (by decide) kk⟩
   case measure=>simp [intOf];omega
  ·obtain rfl:i=mn:=by omega
   have t0:decide ((i:Int) < (i:Int))=false:=by simp
   have hI:=HI.out;have hRb:=HRR.out;have hneq:w.heap.size+1≠w.heap.size:=by omega
   have z0:=zaa hI 0;have z1:=zaa hI 1;have z2:=zaa hI 2;have z3:=zaa hI 3;have g2:=zab hI 2;have y0:=zaa hRb 0;have y1:=zaa hRb 1;have y2:=zaa hRb 2;have y3:=zaa hRb 3;have x0:=zab hRb 0;have x1:=zab hRb 1;have x2:=zab hRb 2;have x3:=zab hRb 3;go_wp2;clear z0 z1 z2 z3 g2 y0 y1 y2 y3 x0 x1 x2 x3;have k1:FT (fun t=>t=26) w.heap.size wr _:=FT.set (M:=fun t=>t=26) (i:=2) hI rfl (Nat.le_refl _) (.slice (some ⟨mb,0,none⟩) i mc1);have h1:=(heap_setCell_other wr ⟨w.heap.size,2,none⟩ (w.heap.size+1) (.slice (some ⟨mb,0,none⟩) i mc1) (by simp)).trans hRb;have k2:=k1.trans (FT.set (M:=fun t=>t=26) (i:=0) h1 rfl (by omega) (.int .i64 r));have h2:=Dl.blk_put0 (i:=0) (u:=.int .i64 r) h1;have k3:=k2.trans (FT.set (M:=fun t=>t=26) (i:=1) h2 rfl (by omega) (.slice ao1 n ca1));have h3:=Dl.blk_put0 (i:=1) (u:=.slice ao1 n ca1) h2;have k4:=k3.trans (FT.set (M:=fun t=>t=26) (i:=2) h3 rfl (by omega) (.slice (some ⟨mb,0,none⟩) i mc1));have h4:=Dl.blk_put0 (i:=2) (u:=.slice (some ⟨mb,0,none⟩) i mc1) h3;have k5:=k4.trans (FT.set (M:=fun t=>t=26) (i:=3) h4 rfl (by omega) (.slice eo1 en ec1));have h5:=Dl.blk_put0 (i:=3) (u:=.slice eo1 en ec1) h4;have hB5:=HB.out.trans (k5.below HB.out.size);obtain⟨Y,hY⟩:∃ Y,Y=(((((wr.setCell ⟨w.heap.size,2,none⟩ (.slice (some ⟨mb,0,none⟩) i mc1)).setCell ⟨w.heap.size+1,0,none⟩ (.int .i64 r)).setCell ⟨w.heap.size+1,1,none⟩ (.slice ao1 n ca1)).setCell ⟨w.heap.size+1,2,none⟩ (.slice (some ⟨mb,0,none⟩) i mc1)).setCell ⟨w.heap.size+1,3,none⟩ (.slice eo1 en ec1)):=⟨_,rfl⟩;rw [←hY] at k5 h5 hB5 ⊢;clear hY k1 k2 k3 k4 h1 h2 h3 h4 hI hRb;have h5':Y.heap[w.heap.size+1]? =some (Obj.cells #[.int .i64 r,.slice ao1 n ca1,.slice (some ⟨mb,0,none⟩) i mc1,.slice eo1 en ec1] 26):=h5;obtain⟨mo2,mc2,e2,hM2,hMY2⟩:=zqy HO.out;cases e2;refine bodyPost_ret (v:=iv ⟨r,ao1,n,ca1,some ⟨mb,0,none⟩,i,mc1,eo1,en,ec1⟩) (results_cell_row (p:=2) (ty:=26) rfl _ Y (w.heap.size+1) _ _ _ _ (by rfl) h5' Tryz.underlying26 rfl (by kernel_rfl)) rfl ?_;exact⟨_,R,rfl,⟨rfl,rfl,rfl,rfl⟩,fun j _=>HR.out j,⟨HT2.out.1.keep HT2.out.2 (by decide) k5,HT2.out.2.keep (by decide) k5,hM2.keep hMY2 (by decide) k5,hMY2.keep (by decide) k5,
    fun j hj=>(HQ2.out j hj).1.keep (HQ2.out j hj).2 (by decide) k5,fun j hj=>(HQ2.out j hj).2.keep (by decide) k5,HE2.out.1.keep HE2.out.2 (by decide) k5,HE2.out.2.keep (by decide) k5⟩,hB5⟩
structure OkX (x:Img) (g:Nat→Nat→Int) (M:Nat→za9) (q:Nat→Nat→Nat→Int) (h:Nat→Nat→Int):Prop where
 r1:0≤x.r
 r2:x.r≤8
 n1:1≤x.n
 n2:x.n≤16
 tasks:∀ i,i < x.n→zkk (g i) x.r
 m1:1≤x.mn
 m2:x.mn≤8
 mt:∀ i,i < x.mn→(M i).t < 2 ^ x.n
 mq:∀ i,i < x.mn→(M i).qn≤4∧∀ j,j < (M i).qn→OkQ (q i j)
 e:x.en≤24
 edges:∀ i,i < x.en→OkE x (h i)
def AnsC (T:Prop) (w:World) (e:Ending) (w':World):Prop:=∃ at_ er:Int,e=.returned (.tuple #[.int .i64 at_,.int .i64 er])∧(er=0→T)∧Below w.heap.size w w'
theorem AnsC.no {T:Prop} {w w':World} {at_ er:Int} (h:Below w.heap.size w w') (he:er≠0):AnsC T w (.returned (.tuple #[.int .i64 at_,.int .i64 er])) w':=⟨at_,er,rfl,fun h=>absurd h he,h⟩
theorem AnsC.yes {T:Prop} {w w':World} (h:Below w.heap.size w w') (ht:T):AnsC T w (.returned (.tuple #[.int .i64 0,.int .i64 0])) w':=⟨0,0,rfl,fun _=>ht,h⟩
set_option maxHeartbeats 8000000 in
theorem zq3 (x:Img) (g:Nat→Nat→Int) (M:Nat→za9) (q:Nat→Nat→Nat→Int) (h:Nat→Nat→Int) (w:World) (hx:znd w x g M q h):
  Calls Tryz.prog 77 #[iv x] w (AnsC (OkX x g M q h) w):=by
 have HT:=hid hx.tasks;have HM:=hid hx.modes;have HTB:=hid hx.tb;have HQ:=hid fun (i:Nat) (hi:i < x.mn) X (hX:Below w.heap.size w X)=>zo7 (M i).qo (M i).qn (M i).qc (q i) X ((hx.queues i hi).below hX);have HALL:=hid fun (hn:x.n≤16) X=>all_any x X hn;have HE:=hid fun (i:Nat) (hi:i < x.en) X (hX:Below w.heap.size w X)=>ztb x g M q h i X (hx.below hX) hi;have HOK:=hid fun (r1:0≤x.r) (r2:x.r≤8) (n1:1≤x.n) (n2:x.n≤16) (tk:∀ i,i < x.n→zkk (g i) x.r) (m1:1≤x.mn) (m2:x.mn≤8) (mm:∀ i,i < x.mn→(M i).t < 2 ^ x.n∧(M i).qn≤4∧∀ j,j < (M i).qn→OkQ (q i j)) (e:x.en≤24) (ee:∀ i,i < x.en→OkE x (h i))=>
  (⟨r1,r2,n1,n2,tk,m1,m2,fun i hi=>(mm i hi).1,fun i hi=>(mm i hi).2,e,ee⟩:OkX x g M q h)
 clear hx;obtain⟨r,ao,n,cap,mo,mn,mc,eo,en,ec⟩:=x;unfold iv at HALL HE ⊢;dsimp only at HT HM HTB HQ HALL HE HOK ⊢;have hb1:Below w.heap.size w (w.alloc (Obj.cells #[.int .i64 r,.slice ao n cap,.slice mo mn mc,.slice eo en ec] 26)):=(Below.refl _ _).alloc (Nat.le_refl _) _;have bI:=heap_alloc_new w (Obj.cells #[.int .i64 r,.slice ao n cap,.slice mo mn mc,.slice eo en ec] 26);have c0:=zaa bI 0;have c1:=zaa bI 1;have c2:=zaa bI 2;have c3:=zaa bI 3;have HB:=hid hb1;clear hb1;by_cases k1:r < 0
 ·have u1:decide (r < 0)=true:=by simp [k1]
  go_enter Tryz.func77,Tryz.ntmps77;go_wp2;go_ret2;exact .no HB.out (by decide)
 have u1:decide (r < 0)=false:=by simp [k1]
 by_cases k2:8 < r
 ·have u2:decide (8 < r)=true:=by simp [k2]
  go_enter Tryz.func77,Tryz.ntmps77;go_wp2;go_ret2;exact .no HB.out (by decide)
 have u2:decide (8 < r)=false:=by simp [k2]
 by_cases k3:n < 1
 ·have u3:decide ((n:Int) < 1)=true:=by simp;omega
  go_enter Tryz.func77,Tryz.ntmps77;go_wp2;go_ret2;exact .no HB.out (by decide)
 have u3:decide ((n:Int) < 1)=false:=by simp;omega
 by_cases k4:16 < n
 ·have u4:decide ((16:Int) < (n:Int))=true:=by simp;omega
  go_enter Tryz.func77,Tryz.ntmps77;go_wp2;go_ret2;exact .no HB.out (by decide)
 have u4:decide ((16:Int) < (n:Int))=false:=by simp;omega
 go_enter Tryz.func77,Tryz.ntmps77
 go_upto_region 6 with fail
 obtain⟨W0,hW0⟩:∃ W,W=w.alloc (Obj.cells #[.int .i64 r,.slice ao n cap,.slice mo mn mc,.slice eo en ec] 26):=⟨_,rfl⟩;rw [←hW0] at bI c0 c1 c2 c3 HB ⊢;have HBI:=hid bI;have HS0:=hid (show w.heap.size < W0.heap.size by rw [hW0];simp);have HA0:Hid (∀ j,j < 0→zkk (g j) r):=fun j hj=>by omega
 have HALL2:=hid (HALL.out (by omega));have HL:=hid (zt4 (i:=n) (by omega));have hl32:allF n < 4294967296:=Nat.lt_trans HL.out (zzt (by omega));have HLZ:=hid fun (t:Nat) (ht:t < 4294967296) (hz:zdq t (allF n)=0)=>zz9 ht HL.out (by omega) hz;have HAN:=hid fun (t:Nat) (ht:t < 4294967296)=>zfo ht hl32;have HOK2:=hid (HOK.out (by omega) (by omega) (by omega) (by omega));generalize allF n=al at HALL2 HLZ HAN;clear hW0 bI c0 c1 c2 c3 HALL HOK HL hl32 k1 k2 u1 u2 u3 u4
 go_loopw [33] (fun i_ wr=>∃ i:Nat,i≤n∧i_=.int .i64 i∧Hid (∀ j,j < i→zkk (g j) r)∧Hid (Below W0.heap.size W0 wr)) (fun i_ _=>n - (intOf i_).toNat)
 case atStart=>exact⟨0,by omega,rfl,HA0,hid (.refl _ _)⟩
 case round=>
  clear HA0;obtain⟨i,hi,rfl,HA,HBr⟩:=hrel;have hbI:=(HBr.out.block _ HS0.out).trans HBI.out;have c0:=zaa hbI 0;have c1:=zaa hbI 1;have c2:=zaa hbI 2;have c3:=zaa hbI 3;by_cases hlt:i < n
  ·have t0:decide ((i:Int) < (n:Int))=true:=by simp;omega
   obtain⟨bb,oo,rfl,_⟩:=HT.out.form hlt;obtain⟨⟨d0,d1,d2,d3⟩,⟨d4,d5,d6,d7⟩,d8,d9,d10⟩:=(HT.out.below (HB.out.trans (HBr.out.mono HB.out.size))).at_ hlt;have j0:(0:Int)≤(i:Int):=by omega
   have j1:(i:Int) < (n:Int):=by omega
   have HB4:=hid (HBr.out.alloc HBr.out.size (Obj.cells #[Value.int .i64 (g i 0),Value.int .i64 (g i 1),Value.int .i64 (g i 2),Value.int .i64 (g i 3),Value.int .i64 (g i 4),Value.int .i64 (g i 5),Value.int .i64 (g i 6),Value.int .i64 (g i 7),Value.int .i64 (g i 8),Value.int .i64 (g i 9),Value.int .i64 (g i 10)] 165));have c0a:=kept c0 ((Below.refl wr.heap.size wr).alloc (Nat.le_refl _) (Obj.cells #[Value.int .i64 (g i 0),Value.int .i64 (g i 1),Value.int .i64 (g i 2),Value.int .i64 (g i 3),Value.int .i64 (g i 4),Value.int .i64 (g i 5),Value.int .i64 (g i 6),Value.int .i64 (g i 7),Value.int .i64 (g i 8),Value.int .i64 (g i 9),Value.int .i64 (g i 10)] 165))
   go_upto_if 42 with (go_at_call 151;refine (zs9 (g i) r _).mono ?_;rintro e W3 ⟨rb,rfl,hT1,hb3⟩)
   have HB5:=hid (HB4.out.trans (hb3.mono HB4.out.size));cases rb
   ·have HB6:=hid (HB.out.trans (HB5.out.mono HB.out.size))
    clear HB4 HBr hb3;go_wp2;go_ret2;exact .no HB6.out (by decide)
   ·have HA3:Hid (∀ j,j < i+1→zkk (g j) r):=fun j hj=>by
     rcases (show j < i∨j=i by omega) with h1|rfl
     ·exact HA.out j h1
     ·exact hT1 rfl
    clear HB4 HBr hb3;go_wp2;go_roundw
    case rel=>exact⟨i+1,by omega,by go_num,HA3,HB5⟩
    case measure=>simp [intOf];omega
  ·obtain rfl:i=n:=by omega
   have t0:decide ((i:Int) < (i:Int))=false:=by simp
   by_cases k5:mn < 1
   ·have u5:decide ((mn:Int) < 1)=true:=by simp;omega
    have HB6:=hid (HB.out.trans (HBr.out.mono HB.out.size));go_wp2;go_ret2;exact .no HB6.out (by decide)
   have u5:decide ((mn:Int) < 1)=false:=by simp;omega
   by_cases k6:8 < mn
   ·have u6:decide ((8:Int) < (mn:Int))=true:=by simp;omega
    have HB6:=hid (HB.out.trans (HBr.out.mono HB.out.size));go_wp2;go_ret2;exact .no HB6.out (by decide)
   have u6:decide ((8:Int) < (mn:Int))=false:=by simp;omega
   have HOK3:=hid (HOK2.out HA.out (by omega) (by omega))
   go_upto_region 14 with fail
   have HA0:Hid (∀ j,j < 0→(M j).t < 2 ^ i∧(M j).qn≤4∧∀ k,k < (M j).qn→OkQ (q j k)):=fun j hj=>by omega
   have hm8:mn≤8:=by omega
   clear HOK2 HA k5 k6 u5 u6 c0 c1 c2 c3 hbI t0
   go_loopw [61] (fun i_ X=>∃ k:Nat,k≤mn∧i_=.int .i64 k∧Hid (∀ j,j < k→(M j).t < 2 ^ i∧(M j).qn≤4∧∀ k,k < (M j).qn→OkQ (q j k))∧Hid (Below W0.heap.size W0 X)) (fun i_ _=>mn - (intOf i_).toNat)
   case atStart=>exact⟨0,by omega,rfl,HA0,HBr⟩
   case round=>
    clear HA0 HBr;obtain⟨k,hk,rfl,HA,HBr⟩:=hrel;have hbI:=(HBr.out.block _ HS0.out).trans HBI.out;have c0:=zaa hbI 0;have c1:=zaa hbI 1;have c2:=zaa hbI 2;have c3:=zaa hbI 3;have HBw:=hid (HB.out.trans (HBr.out.mono HB.out.size));by_cases hlt:k < mn
    ·have t0:decide ((k:Int) < (mn:Int))=true:=by simp;omega
     obtain⟨mb,mf,rfl,f1,f2⟩:=HM.out k hlt;have f1:=kept f1 HBw.out;have f2:=kept f2 HBw.out;have j0:(0:Int)≤(k:Int):=by omega
     have j1:(k:Int) < (mn:Int):=by omega
     have htb:=HTB.out k hlt;have HK:=hid hlt;have HQk:=hid (HQ.out k hlt);have HAk:Hid ((M k).t < 2 ^ i→((M k).qn≤4∧∀ j,j < (M k).qn→OkQ (q k j))→∀ j,j < k+1→(M j).t < 2 ^ i∧(M j).qn≤4∧∀ k,k < (M j).qn→OkQ (q j k)):=fun e1 e2 j hj=>by
      rcases (show j < k∨j=k by omega) with h1|rfl
      ·exact HA.out j h1
      ·exact⟨e1,e2⟩
     have hAN:=HAN.out _ htb;have HZ:=hid (HLZ.out _ htb);generalize (M k).t=tt at f1 htb HAk hAN HZ;generalize (M k).qo=qo at f2 HQk;generalize (M k).qc=qc at f2 HQk;obtain⟨qn,hqn⟩:∃ qn,(M k).qn=qn:=⟨_,rfl⟩;rw [hqn] at f2 HQk HAk;clear hqn;generalize zdq tt al=s at hAN HZ;have hb4:=(Below.refl wr.heap.size wr).alloc (Nat.le_refl _) (Obj.cells #[.int .u32 tt,.slice qo qn qc] 71);have n0:=heap_alloc_new wr (Obj.cells #[.int .u32 tt,.slice qo qn qc] 71);have c0:=kept c0 hb4;have c1:=kept c1 hb4;have c2:=kept c2 hb4;have c3:=kept c3 hb4
     go_upto_region 16 with fail
     obtain⟨W5,hW5⟩:∃ X,X=wr.alloc (Obj.cells #[.int .u32 tt,.slice qo qn qc] 71):=⟨_,rfl⟩;rw [←hW5] at hb4 n0 c0 c1 c2 c3 ⊢;clear hW5;have HB5:=hid (HBr.out.trans (hb4.mono HBr.out.size));have n1:=zaa n0 1;have E0:=Cls.cell (zaa n0 0);have C0:=Cls.cell c0;have C1:=Cls.cell c1;have C2:=Cls.cell c2;have C3:=Cls.cell c3;have HAL:=hid fun (j:Cls W5)=>HALL2.out j.wd;have HN1:=hid n1;clear f1 f2 htb hb4 n0 n1 c0 c1 c2 c3 hbI HA HBr HBw;refine zcw (by kernel_rfl) (by kernel_rfl) ?_
     repeat (go_big_quiet_step ((first|(go_at_call 152;exact Calls.cls _ (HAL.out _)))))
     refine wpQuiet_nil ?_;intro _ hw';obtain⟨nq,rfl⟩:=hw';have HB6:=hid (HB5.out.trans (nq.below.mono HB5.out.size));by_cases k9:s=0
     case neg=>
      have u9:((s:Int) == 0)=false:=by simp;omega
      have HB7:=hid (HB.out.trans (HB6.out.mono HB.out.size));go_wp2;go_ret2;exact .no HB7.out (by decide)
     have u9:((s:Int) == 0)=true:=by simp;omega
     have n1:=Cls.cell HN1.out nq;have HB7:=hid (HB.out.trans (HB6.out.mono HB.out.size))
     go_upto_if 76 with (go_at_call 153;refine (HQk.out _ HB7.out).mono ?_;rintro e W8 ⟨rb,rfl,hQ1,hb8⟩)
     have HB9:=hid (HB6.out.trans (hb8.mono HB6.out.size));cases rb
     ·have HB10:=hid (HB.out.trans (HB9.out.mono HB.out.size))
      go_wp2;go_ret2;exact .no HB10.out (by decide)
     ·have HA4:=hid (HAk.out (HZ.out k9) (hQ1 rfl))
      clear HAk HZ hQ1 hb8;go_wp2;go_roundw
      case rel=>exact⟨k+1,by have:=HK.out;omega,by go_num,HA4,HB9⟩
      case measure=>have:=HK.out;simp [intOf];omega
    ·obtain rfl:k=mn:=by omega
     have t0:decide ((k:Int) < (k:Int))=false:=by simp
     by_cases k5:24 < en
     ·have u5:decide ((24:Int) < (en:Int))=true:=by simp;omega
      go_wp2;go_ret2;exact .no HBw.out (by decide)
     have u5:decide ((24:Int) < (en:Int))=false:=by simp;omega
     have HOK4:=hid (HOK3.out HA.out (by omega))
     go_upto_region 24 with fail
     have HA0:Hid (∀ j,j < 0→OkE { r:=r,ao:=ao,n:=i,cap:=cap,mo:=mo,mn:=k,mc:=mc,eo:=eo,en:=en,ec:=ec } (h j)):=fun j hj=>by omega
     have he24:en≤24:=by omega
     clear HOK3 HA k5 u5 c0 c1 c2 c3 hbI t0 HBw
     go_loopw [89] (fun i_ X=>∃ l:Nat,l≤en∧i_=.int .i64 l∧Hid (∀ j,j < l→OkE { r:=r,ao:=ao,n:=i,cap:=cap,mo:=mo,mn:=k,mc:=mc,eo:=eo,en:=en,ec:=ec } (h j))∧Hid (Below W0.heap.size W0 X)) (fun i_ _=>en - (intOf i_).toNat)
     case atStart=>exact⟨0,by omega,rfl,HA0,HBr⟩
     case round=>
      clear HA0 HBr;obtain⟨l,hl,rfl,HA,HBr⟩:=hrel;have hbI:=(HBr.out.block _ HS0.out).trans HBI.out;have c0:=zaa hbI 0;have c1:=zaa hbI 1;have c2:=zaa hbI 2;have c3:=zaa hbI 3;have HBw:=hid (HB.out.trans (HBr.out.mono HB.out.size));by_cases hlt:l < en
      ·have t0:decide ((l:Int) < (en:Int))=true:=by simp;omega
       go_upto_if 95 with (go_at_call 154;refine (HE.out l hlt _ HBw.out).mono ?_;rintro e W8 ⟨rb,rfl,hQ1,hb8⟩)
       have HB9:=hid (HBr.out.trans (hb8.mono HBr.out.size));cases rb
       ·have HB10:=hid (HB.out.trans (HB9.out.mono HB.out.size))
        go_wp2;go_ret2;exact .no HB10.out (by decide)
       ·have HA4:Hid (∀ j,j < l+1→OkE { r:=r,ao:=ao,n:=i,cap:=cap,mo:=mo,mn:=k,mc:=mc,eo:=eo,en:=en,ec:=ec } (h j)):=fun j hj=>by
         rcases (show j < l∨j=l by omega) with h1|rfl
         ·exact HA.out j h1
         ·exact hQ1 rfl
        clear hQ1 hb8 HA;go_wp2;go_roundw
        case rel=>exact⟨l+1,by omega,by go_num,HA4,HB9⟩
        case measure=>simp [intOf];omega
      ·obtain rfl:l=en:=by omega
       have t0:decide ((l:Int) < (l:Int))=false:=by simp
       have HOK5:=hid (HOK4.out HA.out);clear HOK4 HA;go_wp2;go_ret2;exact .yes HBw.out HOK5.out
end Go.Proofs.YtpbmmoneeoijaaaGreatDoor
