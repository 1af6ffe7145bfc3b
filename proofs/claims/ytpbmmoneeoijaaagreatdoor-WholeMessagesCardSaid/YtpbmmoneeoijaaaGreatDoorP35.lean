/-
  A part of the proof: BehindFn.
-/
import Derived.Test.YtpbmmoneeoijaaaGreatDoorP34
namespace Go.Proofs.YtpbmmoneeoijaaaGreatDoor
open Go.RowKit Go.Deep Go.Shelf
attribute [local go_sem] zch
set_option maxRecDepth 100000
theorem wpTs_3 {P:Program} {ops:Array Oper} {C:World→Prop} {Q:Act→World→Prop} {m:Nat} {rem rem1 rem2 rem3:List Nat} {i j k:Nat} {o o2 o3:Oper} {a:Act} {w:World}
  (hr:rem.filter (rdyB ops rem)=[i,j,k]) (he:rem.erase i=rem1) (he2:rem.erase j=rem2) (he3:rem.erase k=rem3) (ho:ops[i]? =some o) (ho2:ops[j]? =some o2) (ho3:ops[k]? =some o3) (h:∀ K:Exit→Act→World→Prop,(∀ a' w',C w'→wpTs P ops C Q m rem1 a' w'→K .normal a' w')→wpList P ops K [o] a w)
  (h2:∀ K:Exit→Act→World→Prop,(∀ a' w',C w'→wpTs P ops C Q m rem2 a' w'→K .normal a' w')→wpList P ops K [o2] a w)
  (h3:∀ K:Exit→Act→World→Prop,(∀ a' w',C w'→wpTs P ops C Q m rem3 a' w'→K .normal a' w')→wpList P ops K [o3] a w):wpTs P ops C Q (m+1) rem a w:=fun n hk hb=>by
 have:n∈rem.filter (rdyB ops rem):=List.mem_filter.2 ⟨hk,hb⟩;rw [hr] at this;subst he he2 he3;rcases (by simpa using this:n=i∨n=j∨n=k) with rfl|rfl|rfl
 ·exact⟨o,ho,h _ fun _ _ h1 h2=>⟨rfl,.inr h1,h2⟩⟩
 ·exact⟨o2,ho2,h2 _ fun _ _ h1 h2=>⟨rfl,.inr h1,h2⟩⟩
 ·exact⟨o3,ho3,h3 _ fun _ _ h1 h2=>⟨rfl,.inr h1,h2⟩⟩
set_option maxHeartbeats 4000000 in
theorem zy0 (z:ShR) (g:Nat→Nat→Int) (t:Nat) (w:World) (ho:z.o < 4294967296) (hnn:z.n < 4294967296) (hs:z.s < 4294967296)
  (hT:zck w z.x.ao z.x.n g) (hO:zd2 z.x.n g) (h16:z.x.n≤16) (hTab:Tab w):
  Calls Tryz.prog 279 #[shV z,.int .i64 (t:Nat)] w (NumA w):=by
 have HBO:=hid fun X=>zbo z.o z.n z.s ho hnn hs X;have HTO:=hid fun X=>zmh z.o z.n z.s hnn hs X;have hor:z.o |||z.n |||z.s < 4294967296:=Nat.or_lt_two_pow (n:=32) (Nat.or_lt_two_pow (n:=32) ho hnn) hs
 have hto:z.n |||z.s < 4294967296:=Nat.or_lt_two_pow (n:=32) hnn hs
 obtain⟨bo,hbo⟩:∃ q,q=z.o |||z.n |||z.s:=⟨_,rfl⟩
 obtain⟨tu,hte⟩:∃ q,q=z.n |||z.s:=⟨_,rfl⟩
 rw [←hbo] at HBO hor;rw [←hte] at HTO hto;clear hbo hte;unfold cv at HBO HTO;have HH:=hid fun X=>zfx tu hto (t:Nat) X;obtain⟨hb,hhb⟩:∃ b,hasN tu (t:Nat)=b:=⟨_,rfl⟩;rw [hhb] at HH;clear hhb;have hB0:Below w.heap.size w (w.alloc (shB z)):=(Below.refl _ w).alloc (Nat.le_refl _) _;have hZ0:(w.alloc (shB z)).heap[w.heap.size]? =some (shB z):=heap_alloc_new w _;have c4:=zaa (show _=some (Obj.cells (shL z).toArray 296 (0,0)) from hZ0) 4;have c5:=zaa (show _=some (Obj.cells (shL z).toArray 296 (0,0)) from hZ0) 5;have c6:=zaa (show _=some (Obj.cells (shL z).toArray 296 (0,0)) from hZ0) 6;cases hb
 ·unfold shV
  unfold shB shL at *;go_enter Tryz.func279,Tryz.ntmps279
  go_wp2_with (first|(go_at_call 278;refine (HTO.out _).mono ?_;rintro e w2 ⟨rfl,hb2⟩)|(go_at_call 189;refine (HH.out _).mono ?_;rintro e w3 ⟨rfl,hw3⟩;obtain rfl:=hw3.symm))
  go_ret2;exact⟨⟨_,_,rfl⟩,hB0.trans (hb2.mono hB0.size)⟩
 unfold shV;unfold shB shL at *;go_enter Tryz.func279,Tryz.ntmps279
 go_upto_region 3 with (first|(go_at_call 278;refine (HTO.out _).mono ?_;rintro e w2 ⟨rfl,hb2⟩)|(go_at_call 189;refine (HH.out _).mono ?_;rintro e w3 ⟨rfl,hw3⟩;obtain rfl:=hw3.symm))
 have hz2:=(hb2.block _ (by simp)).trans hZ0;have hb02:=hB0.trans (hb2.mono hB0.size);clear c4 c5 c6 hB0 hZ0 hb2;have d0:=zaa hz2 0;have d1:=zaa hz2 1;have d2:=zaa hz2 2;have d3:=zaa hz2 3;have d4:=zaa hz2 4;have d5:=zaa hz2 5;have d6:=zaa hz2 6;have d7:=zaa hz2 7;have d8:=zaa hz2 8;have d9:=zaa hz2 9;have d10:=zaa hz2 10;have d11:=zaa hz2 11;have d12:=zaa hz2 12;have d13:=zaa hz2 13;have d14:=zaa hz2 14;have HRS:=hid fun X (hX:Below w2.heap.size w2 X)=>show Calls Tryz.prog 162 #[.agg #[.int .i64 z.x.r,.slice z.x.ao z.x.n z.x.cap,.slice z.x.mo z.x.mn z.x.mc,.slice z.x.eo z.x.en z.x.ec],.int .u32 (tu:Nat),.int .u32 (bo:Nat),.agg #[.int .i64 (z.T 0),.int .i64 (z.T 1),.int .i64 (z.T 2),.int .i64 (z.T 3),.int .i64 (z.T 4),.int .i64 (z.T 5),.int .i64 (z.T 6),.int .i64 (z.T 7)],.int .i64 (t:Nat)] X (RowA X) from
  zqj z.x g tu bo z.T t X hto hor (by unfold maxLen;omega) (hT.below (hb02.trans (hX.mono hb02.size))) hO (hTab.below (hb02.trans (hX.mono hb02.size)) hTab.pos)
 obtain⟨SV,hSV⟩:∃ q,q=Value.agg #[.int .i64 z.x.r,.slice z.x.ao z.x.n z.x.cap,.slice z.x.mo z.x.mn z.x.mc,.slice z.x.eo z.x.en z.x.ec,.int .u32 (z.o:Nat),.int .u32 (z.n:Nat),.int .u32 (z.s:Nat),.int .i64 (z.T 0),.int .i64 (z.T 1),.int .i64 (z.T 2),.int .i64 (z.T 3),.int .i64 (z.T 4),.int .i64 (z.T 5),.int .i64 (z.T 6),.int .i64 (z.T 7),.int .i64 (z.O 0),.int .i64 (z.O 1),.int .i64 (z.O 2),.int .i64 (z.O 3),.int .i64 (z.O 4),.int .i64 (z.O 5),.int .i64 (z.O 6),.int .i64 (z.O 7),.int .i64 (z.O 8),.int .i64 (z.O 9),.int .i64 (z.O 10),.int .i64 (z.O 11),.int .i64 (z.O 12),.int .i64 (z.O 13),.int .i64 (z.O 14),.int .i64 (z.O 15)]:=⟨_,rfl⟩;rw [←hSV];clear hSV hz2 hT hO hTab HH;refine zah [4,7,11,12,13,14,15,16,17] (fun X=>Below w2.heap.size w2 X) (by kernel_rfl) (by kernel_rfl) (by exact⟨rfl,rfl,rfl,Nat.le_refl _,fun _ _=>rfl⟩) ?_;refine qFs fun K hK=>?_;go_simp;refine⟨_,fun _ _=>rfl,hK _ ?_⟩;clear hK K;refine qFs fun K hK=>?_;go_simp;refine⟨.agg #[.int .i64 z.x.r,.slice z.x.ao z.x.n z.x.cap,.slice z.x.mo z.x.mn z.x.mc,.slice z.x.eo z.x.en z.x.ec],fun X hX=>?_,hK _ ?_⟩
 ·have z0:=kept d0 hX
  have z1:=kept d1 hX;have z2:=kept d2 hX;have z3:=kept d3 hX;go_simp
 clear hK K;refine qFs fun K hK=>?_;go_simp;refine⟨_,fun _ _=>rfl,hK _ ?_⟩;clear hK K;refine qFs fun K hK=>?_;go_simp;refine⟨.agg #[.int .u32 (z.o:Nat),.int .u32 (z.n:Nat),.int .u32 (z.s:Nat)],fun X hX=>?_,hK _ ?_⟩
 ·have z0:=kept d4 hX
  have z1:=kept d5 hX;have z2:=kept d6 hX;go_simp
 clear hK K;refine qFc ?_;refine qFs fun K hK=>?_;go_simp;refine⟨_,fun _ _=>rfl,hK _ ?_⟩;clear hK K;refine qFs fun K hK=>?_;go_simp;refine⟨.agg #[.int .u32 (z.o:Nat),.int .u32 (z.n:Nat),.int .u32 (z.s:Nat)],fun X hX=>?_,hK _ ?_⟩
 ·have z0:=kept d4 hX
  have z1:=kept d5 hX;have z2:=kept d6 hX;go_simp
 clear hK K;refine qFc ?_;refine qFs fun K hK=>?_;go_simp;refine⟨_,fun _ _=>rfl,hK _ ?_⟩;clear hK K;refine qFs fun K hK=>?_;go_simp;refine⟨.agg #[.int .i64 (z.T 0),.int .i64 (z.T 1),.int .i64 (z.T 2),.int .i64 (z.T 3),.int .i64 (z.T 4),.int .i64 (z.T 5),.int .i64 (z.T 6),.int .i64 (z.T 7)],fun X hX=>?_,hK _ ?_⟩
 ·have z0:=kept d7 hX
  have z1:=kept d8 hX;have z2:=kept d9 hX;have z3:=kept d10 hX;have z4:=kept d11 hX;have z5:=kept d12 hX;have z6:=kept d13 hX;have z7:=kept d14 hX;go_simp
 clear hK K;refine qFs fun K hK=>?_;go_simp;refine⟨_,fun _ _=>rfl,hK _ ?_⟩;clear hK K;refine qFc ?_;refine qFc ?_;refine qFc ?_;refine qFc ?_;refine qFc ?_;refine qFc ?_;refine qFc ?_;refine zau ?_;clear d0 d1 d2 d3 d4 d5 d6 d7 d8 d9 d10 d11 d12 d13 d14;have B0:Below w2.heap.size w2 w2.drew:=⟨rfl,rfl,rfl,Nat.le_refl _,fun _ _=>rfl⟩;obtain⟨X0,hX0⟩:∃ X,X=w2.drew:=⟨_,rfl⟩;rw [←hX0] at B0 ⊢;clear hX0;refine zb0 (i:=4) (j:=15) (rem1:=[7,11,12,13,14,15,16,17]) (rem2:=[4,7,11,12,13,14,16,17]) (by kernel_rfl) (by rfl) (by rfl) (by rfl) (by rfl) (fun K hK=>?_) (fun K hK=>?_)
 ·go_wp2_with fail
  refine (HTO.out _).mono ?_;rintro e X1 ⟨rfl,hb1⟩;have B1:=B0.trans (hb1.mono B0.size)
  go_wp2_with fail
  refine hK _ _ B1 ?_;clear hK K;refine zb0 (i:=7) (j:=15) (rem1:=[11,12,13,14,15,16,17]) (rem2:=[7,11,12,13,14,16,17]) (by kernel_rfl) (by rfl) (by rfl) (by rfl) (by rfl) (fun K hK=>?_) (fun K hK=>?_)
  ·go_wp2_with fail
   refine (HBO.out _).mono ?_;rintro e X2 ⟨rfl,hb2⟩;have B2:=B1.trans (hb2.mono B1.size)
   go_wp2_with fail
   refine hK _ _ B2 ?_;clear hK K;refine zb0 (i:=11) (j:=15) (rem1:=[12,13,14,15,16,17]) (rem2:=[11,12,13,14,16,17]) (by kernel_rfl) (by rfl) (by rfl) (by rfl) (by rfl) (fun K hK=>?_) (fun K hK=>?_)
   ·go_wp2_with fail
    refine (HRS.out _ B2).mono ?_;rintro e X3 ⟨⟨a,b,c,ok,rfl⟩,hb3⟩;have B3:=B2.trans (hb3.mono B2.size)
    go_wp2_with fail
    refine hK _ _ B3 ?_;clear hK K;refine zb0 (i:=12) (j:=15) (rem1:=[13,14,15,16,17]) (rem2:=[12,13,14,16,17]) (by kernel_rfl) (by rfl) (by rfl) (by rfl) (by rfl) (fun K hK=>?_) (fun K hK=>?_)
    ·go_wp2_with fail
     refine hK _ _ B3 ?_;clear hK K;refine wpTs_3 (i:=13) (j:=14) (k:=15) (rem1:=[14,15,16,17]) (rem2:=[13,15,16,17]) (rem3:=[13,14,16,17]) (by kernel_rfl) (by rfl) (by rfl) (by rfl) (by rfl) (by rfl) (by rfl) (fun K hK=>?_) (fun K hK=>?_) (fun K hK=>?_)
     ·go_wp2_with fail
      refine hK _ _ B3 ?_;clear hK K;refine zb0 (i:=14) (j:=15) (rem1:=[15,16,17]) (rem2:=[14,16,17]) (by kernel_rfl) (by rfl) (by rfl) (by rfl) (by rfl) (fun K hK=>?_) (fun K hK=>?_)
      ·go_wp2_with fail
       refine hK _ _ B3 ?_;clear hK K;refine qT1 15 [16,17] fun K hK=>?_
       go_wp2_with fail
       refine hK _ _ (B3.alloc B3.size _) ?_;clear hK K;have B7:=B3.alloc B3.size (Obj.cells #[.int .i64 0,.int .i64 0,.int .i64 0] 287);have hA7:=heap_alloc_new X3 (Obj.cells #[.int .i64 0,.int .i64 0,.int .i64 0] 287);obtain⟨X7,hX7⟩:∃ X,X=X3.alloc (Obj.cells #[.int .i64 0,.int .i64 0,.int .i64 0] 287):=⟨_,rfl⟩;rw [←hX7] at B7 hA7 ⊢;clear hX7;refine qT1 16 [17] fun K hK=>?_;have z0:=zaa hA7 0;have z1:=zaa hA7 1;have z2:=zaa hA7 2;have f0:=zab hA7 0;have f1:=zab hA7 1;have f2:=zab hA7 2;have hAge:w2.heap.size≤X3.heap.size:=B3.size;have B8:Below w2.heap.size w2 (((X7.setCell ⟨X3.heap.size,0,none⟩ (.int .i64 a)).setCell ⟨X3.heap.size,1,none⟩ (.int .i64 b)).setCell ⟨X3.heap.size,2,none⟩ (.int .i64 c)):=((B7.setCell (p:=⟨X3.heap.size,0,none⟩) hAge _).setCell (p:=⟨X3.heap.size,1,none⟩) hAge _).setCell (p:=⟨X3.heap.size,2,none⟩) hAge _;have hk8:(((X7.setCell ⟨X3.heap.size,0,none⟩ (.int .i64 a)).setCell ⟨X3.heap.size,1,none⟩ (.int .i64 b)).setCell ⟨X3.heap.size,2,none⟩ (.int .i64 c)).heap[X3.heap.size]? =some (Obj.cells #[.int .i64 a,.int .i64 b,.int .i64 c] 287 (0,0)):=(zad (zad (zad hA7))).trans (by simp)
       go_wp2_with fail
       refine hK _ _ B8 ?_;clear hK K;obtain⟨X8,hX8⟩:∃ X,X=(((X7.setCell ⟨X3.heap.size,0,none⟩ (.int .i64 a)).setCell ⟨X3.heap.size,1,none⟩ (.int .i64 b)).setCell ⟨X3.heap.size,2,none⟩ (.int .i64 c)):=⟨_,rfl⟩;rw [←hX8] at B8 hk8 ⊢;clear hX8 z0 z1 z2 f0 f1 f2;refine qT1 17 [] fun K hK=>?_
       go_wp2_with fail
       refine hK _ _ B8 ?_;clear hK K;refine zan ?_;have q2:=zaa hk8 2;have BF:=hb02.trans (B8.mono hb02.size);go_wp2;go_ret2;exact⟨⟨_,_,rfl⟩,BF⟩
      ·go_wp2_with fail
       refine hK _ _ (B3.alloc B3.size _) ?_;clear hK K;have B6:=B3.alloc B3.size (Obj.cells #[.int .i64 0,.int .i64 0,.int .i64 0] 287);have hA6:=heap_alloc_new X3 (Obj.cells #[.int .i64 0,.int .i64 0,.int .i64 0] 287);obtain⟨X6,hX6⟩:∃ X,X=X3.alloc (Obj.cells #[.int .i64 0,.int .i64 0,.int .i64 0] 287):=⟨_,rfl⟩;rw [←hX6] at B6 hA6 ⊢;clear hX6;refine zb0 (i:=14) (j:=16) (rem1:=[16,17]) (rem2:=[14,17]) (by kernel_rfl) (by rfl) (by rfl) (by rfl) (by rfl) (fun K hK=>?_) (fun K hK=>?_)
       ·go_wp2_with fail
        refine hK _ _ B6 ?_;clear hK K;refine qT1 16 [17] fun K hK=>?_;have z0:=zaa hA6 0;have z1:=zaa hA6 1;have z2:=zaa hA6 2;have f0:=zab hA6 0;have f1:=zab hA6 1;have f2:=zab hA6 2;have hAge:w2.heap.size≤X3.heap.size:=B3.size;have B8:Below w2.heap.size w2 (((X6.setCell ⟨X3.heap.size,0,none⟩ (.int .i64 a)).setCell ⟨X3.heap.size,1,none⟩ (.int .i64 b)).setCell ⟨X3.heap.size,2,none⟩ (.int .i64 c)):=((B6.setCell (p:=⟨X3.heap.size,0,none⟩) hAge _).setCell (p:=⟨X3.heap.size,1,none⟩) hAge _).setCell (p:=⟨X3.heap.size,2,none⟩) hAge _;have hk8:(((X6.setCell ⟨X3.heap.size,0,none⟩ (.int .i64 a)).setCell ⟨X3.heap.size,1,none⟩ (.int .i64 b)).setCell ⟨X3.heap.size,2,none⟩ (.int .i64 c)).heap[X3.heap.size]? =some (Obj.cells #[.int .i64 a,.int .i64 b,.int .i64 c] 287 (0,0)):=(zad (zad (zad hA6))).trans (by simp)
        go_wp2_with fail
        refine hK _ _ B8 ?_;clear hK K;obtain⟨X8,hX8⟩:∃ X,X=(((X6.setCell ⟨X3.heap.size,0,none⟩ (.int .i64 a)).setCell ⟨X3.heap.size,1,none⟩ (.int .i64 b)).setCell ⟨X3.heap.size,2,none⟩ (.int .i64 c)):=⟨_,rfl⟩;rw [←hX8] at B8 hk8 ⊢;clear hX8 z0 z1 z2 f0 f1 f2;refine qT1 17 [] fun K hK=>?_
        go_wp2_with fail
        refine hK _ _ B8 ?_;clear hK K;refine zan ?_;have q2:=zaa hk8 2;have BF:=hb02.trans (B8.mono hb02.size);go_wp2;go_ret2;exact⟨⟨_,_,rfl⟩,BF⟩
       ·have z0:=zaa hA6 0
        have z1:=zaa hA6 1;have z2:=zaa hA6 2;have f0:=zab hA6 0;have f1:=zab hA6 1;have f2:=zab hA6 2;have hAge:w2.heap.size≤X3.heap.size:=B3.size;have B7:Below w2.heap.size w2 (((X6.setCell ⟨X3.heap.size,0,none⟩ (.int .i64 a)).setCell ⟨X3.heap.size,1,none⟩ (.int .i64 b)).setCell ⟨X3.heap.size,2,none⟩ (.int .i64 c)):=((B6.setCell (p:=⟨X3.heap.size,0,none⟩) hAge _).setCell (p:=⟨X3.heap.size,1,none⟩) hAge _).setCell (p:=⟨X3.heap.size,2,none⟩) hAge _;have hk7:(((X6.setCell ⟨X3.heap.size,0,none⟩ (.int .i64 a)).setCell ⟨X3.heap.size,1,none⟩ (.int .i64 b)).setCell ⟨X3.heap.size,2,none⟩ (.int .i64 c)).heap[X3.heap.size]? =some (Obj.cells #[.int .i64 a,.int .i64 b,.int .i64 c] 287 (0,0)):=(zad (zad (zad hA6))).trans (by simp)
        go_wp2_with fail
        refine hK _ _ B7 ?_;clear hK K;obtain⟨X7,hX7⟩:∃ X,X=(((X6.setCell ⟨X3.heap.size,0,none⟩ (.int .i64 a)).setCell ⟨X3.heap.size,1,none⟩ (.int .i64 b)).setCell ⟨X3.heap.size,2,none⟩ (.int .i64 c)):=⟨_,rfl⟩;rw [←hX7] at B7 hk7 ⊢;clear hX7 z0 z1 z2 f0 f1 f2;refine qT1 14 [17] fun K hK=>?_
        go_wp2_with fail
        refine hK _ _ B7 ?_;clear hK K;refine qT1 17 [] fun K hK=>?_
        go_wp2_with fail
        refine hK _ _ B7 ?_;clear hK K;refine zan ?_;have q2:=zaa hk7 2;have BF:=hb02.trans (B7.mono hb02.size);go_wp2;go_ret2;exact⟨⟨_,_,rfl⟩,BF⟩
     ·go_wp2_with fail
      refine hK _ _ B3 ?_;clear hK K;refine zb0 (i:=13) (j:=15) (rem1:=[15,16,17]) (rem2:=[13,16,17]) (by kernel_rfl) (by rfl) (by rfl) (by rfl) (by rfl) (fun K hK=>?_) (fun K hK=>?_)
      ·go_wp2_with fail
       refine hK _ _ B3 ?_;clear hK K;refine qT1 15 [16,17] fun K hK=>?_
       go_wp2_with fail
       refine hK _ _ (B3.alloc B3.size _) ?_;clear hK K;have B7:=B3.alloc B3.size (Obj.cells #[.int .i64 0,.int .i64 0,.int .i64 0] 287);have hA7:=heap_alloc_new X3 (Obj.cells #[.int .i64 0,.int .i64 0,.int .i64 0] 287);obtain⟨X7,hX7⟩:∃ X,X=X3.alloc (Obj.cells #[.int .i64 0,.int .i64 0,.int .i64 0] 287):=⟨_,rfl⟩;rw [←hX7] at B7 hA7 ⊢;clear hX7;refine qT1 16 [17] fun K hK=>?_;have z0:=zaa hA7 0;have z1:=zaa hA7 1;have z2:=zaa hA7 2;have f0:=zab hA7 0;have f1:=zab hA7 1;have f2:=zab hA7 2;have hAge:w2.heap.size≤X3.heap.size:=B3.size;have B8:Below w2.heap.size w2 (((X7.setCell ⟨X3.heap.size,0,none⟩ (.int .i64 a)).setCell ⟨X3.heap.size,1,none⟩ (.int .i64 b)).setCell ⟨X3.heap.size,2,none⟩ (.int .i64 c)):=((B7.setCell (p:=⟨X3.heap.size,0,none⟩) hAge _).setCell (p:=⟨X3.heap.size,1,none⟩) hAge _).setCell (p:=⟨X3.heap.size,2,none⟩) hAge _;have hk8:(((X7.setCell ⟨X3.heap.size,0,none⟩ (.int .i64 a)).setCell ⟨X3.heap.size,1,none⟩ (.int .i64 b)).setCell ⟨X3.heap.size,2,none⟩ (.int .i64 c)).heap[X3.heap.size]? =some (Obj.cells #[.int .i64 a,.int .i64 b,.int .i64 c] 287 (0,0)):=(zad (zad (zad hA7))).trans (by simp)
       go_wp2_with fail
       refine hK _ _ B8 ?_;clear hK K;obtain⟨X8,hX8⟩:∃ X,X=(((X7.setCell ⟨X3.heap.size,0,none⟩ (.int .i64 a)).setCell ⟨X3.heap.size,1,none⟩ (.int .i64 b)).setCell ⟨X3.heap.size,2,none⟩ (.int .i64 c)):=⟨_,rfl⟩;rw [←hX8] at B8 hk8 ⊢;clear hX8 z0 z1 z2 f0 f1 f2;refine qT1 17 [] fun K hK=>?_
       go_wp2_with fail
       refine hK _ _ B8 ?_;clear hK K;refine zan ?_;have q2:=zaa hk8 2;have BF:=hb02.trans (B8.mono hb02.size);go_wp2;go_ret2;exact⟨⟨_,_,rfl⟩,BF⟩
      ·go_wp2_with fail
       refine hK _ _ (B3.alloc B3.size _) ?_;clear hK K;have B6:=B3.alloc B3.size (Obj.cells #[.int .i64 0,.int .i64 0,.int .i64 0] 287);have hA6:=heap_alloc_new X3 (Obj.cells #[.int .i64 0,.int .i64 0,.int .i64 0] 287);obtain⟨X6,hX6⟩:∃ X,X=X3.alloc (Obj.cells #[.int .i64 0,.int .i64 0,.int .i64 0] 287):=⟨_,rfl⟩;rw [←hX6] at B6 hA6 ⊢;clear hX6;refine qT1 13 [16,17] fun K hK=>?_
       go_wp2_with fail
       refine hK _ _ B6 ?_;clear hK K;refine qT1 16 [17] fun K hK=>?_;have z0:=zaa hA6 0;have z1:=zaa hA6 1;have z2:=zaa hA6 2;have f0:=zab hA6 0;have f1:=zab hA6 1;have f2:=zab hA6 2;have hAge:w2.heap.size≤X3.heap.size:=B3.size;have B8:Below w2.heap.size w2 (((X6.setCell ⟨X3.heap.size,0,none⟩ (.int .i64 a)).setCell ⟨X3.heap.size,1,none⟩ (.int .i64 b)).setCell ⟨X3.heap.size,2,none⟩ (.int .i64 c)):=((B6.setCell (p:=⟨X3.heap.size,0,none⟩) hAge _).setCell (p:=⟨X3.heap.size,1,none⟩) hAge _).setCell (p:=⟨X3.heap.size,2,none⟩) hAge _;have hk8:(((X6.setCell ⟨X3.heap.size,0,none⟩ (.int .i64 a)).setCell ⟨X3.heap.size,1,none⟩ (.int .i64 b)).setCell ⟨X3.heap.size,2,none⟩ (.int .i64 c)).heap[X3.heap.size]? =some (Obj.cells #[.int .i64 a,.int .i64 b,.int .i64 c] 287 (0,0)):=(zad (zad (zad hA6))).trans (by simp)
       go_wp2_with fail
       refine hK _ _ B8 ?_;clear hK K;obtain⟨X8,hX8⟩:∃ X,X=(((X6.setCell ⟨X3.heap.size,0,none⟩ (.int .i64 a)).setCell ⟨X3.heap.size,1,none⟩ (.int .i64 b)).setCell ⟨X3.heap.size,2,none⟩ (.int .i64 c)):=⟨_,rfl⟩;rw [←hX8] at B8 hk8 ⊢;clear hX8 z0 z1 z2 f0 f1 f2;refine qT1 17 [] fun K hK=>?_
       go_wp2_with fail
       refine hK _ _ B8 ?_;clear hK K;refine zan ?_;have q2:=zaa hk8 2;have BF:=hb02.trans (B8.mono hb02.size);go_wp2;go_ret2;exact⟨⟨_,_,rfl⟩,BF⟩
     ·go_wp2_with fail
      refine hK _ _ (B3.alloc B3.size _) ?_;clear hK K;have B5:=B3.alloc B3.size (Obj.cells #[.int .i64 0,.int .i64 0,.int .i64 0] 287);have hA5:=heap_alloc_new X3 (Obj.cells #[.int .i64 0,.int .i64 0,.int .i64 0] 287);obtain⟨X5,hX5⟩:∃ X,X=X3.alloc (Obj.cells #[.int .i64 0,.int .i64 0,.int .i64 0] 287):=⟨_,rfl⟩;rw [←hX5] at B5 hA5 ⊢;clear hX5;refine zb0 (i:=13) (j:=14) (rem1:=[14,16,17]) (rem2:=[13,16,17]) (by kernel_rfl) (by rfl) (by rfl) (by rfl) (by rfl) (fun K hK=>?_) (fun K hK=>?_)
      ·go_wp2_with fail
       refine hK _ _ B5 ?_;clear hK K;refine zb0 (i:=14) (j:=16) (rem1:=[16,17]) (rem2:=[14,17]) (by kernel_rfl) (by rfl) (by rfl) (by rfl) (by rfl) (fun K hK=>?_) (fun K hK=>?_)
       ·go_wp2_with fail
        refine hK _ _ B5 ?_;clear hK K;refine qT1 16 [17] fun K hK=>?_;have z0:=zaa hA5 0;have z1:=zaa hA5 1;have z2:=zaa hA5 2;have f0:=zab hA5 0;have f1:=zab hA5 1;have f2:=zab hA5 2;have hAge:w2.heap.size≤X3.heap.size:=B3.size;have B8:Below w2.heap.size w2 (((X5.setCell ⟨X3.heap.size,0,none⟩ (.int .i64 a)).setCell ⟨X3.heap.size,1,none⟩ (.int .i64 b)).setCell ⟨X3.heap.size,2,none⟩ (.int .i64 c)):=((B5.setCell (p:=⟨X3.heap.size,0,none⟩) hAge _).setCell (p:=⟨X3.heap.size,1,none⟩) hAge _).setCell (p:=⟨X3.heap.size,2,none⟩) hAge _;have hk8:(((X5.setCell ⟨X3.heap.size,0,none⟩ (.int .i64 a)).setCell ⟨X3.heap.size,1,none⟩ (.int .i64 b)).setCell ⟨X3.heap.size,2,none⟩ (.int .i64 c)).heap[X3.heap.size]? =some (Obj.cells #[.int .i64 a,.int .i64 b,.int .i64 c] 287 (0,0)):=(zad (zad (zad hA5))).trans (by simp)
        go_wp2_with fail
        refine hK _ _ B8 ?_;clear hK K;obtain⟨X8,hX8⟩:∃ X,X=(((X5.setCell ⟨X3.heap.size,0,none⟩ (.int .i64 a)).setCell ⟨X3.heap.size,1,none⟩ (.int .i64 b)).setCell ⟨X3.heap.size,2,none⟩ (.int .i64 c)):=⟨_,rfl⟩;rw [←hX8] at B8 hk8 ⊢;clear hX8 z0 z1 z2 f0 f1 f2;refine qT1 17 [] fun K hK=>?_
        go_wp2_with fail
        refine hK _ _ B8 ?_;clear hK K;refine zan ?_;have q2:=zaa hk8 2;have BF:=hb02.trans (B8.mono hb02.size);go_wp2;go_ret2;exact⟨⟨_,_,rfl⟩,BF⟩
       ·have z0:=zaa hA5 0
        have z1:=zaa hA5 1;have z2:=zaa hA5 2;have f0:=zab hA5 0;have f1:=zab hA5 1;have f2:=zab hA5 2;have hAge:w2.heap.size≤X3.heap.size:=B3.size;have B7:Below w2.heap.size w2 (((X5.setCell ⟨X3.heap.size,0,none⟩ (.int .i64 a)).setCell ⟨X3.heap.size,1,none⟩ (.int .i64 b)).setCell ⟨X3.heap.size,2,none⟩ (.int .i64 c)):=((B5.setCell (p:=⟨X3.heap.size,0,none⟩) hAge _).setCell (p:=⟨X3.heap.size,1,none⟩) hAge _).setCell (p:=⟨X3.heap.size,2,none⟩) hAge _;have hk7:(((X5.setCell ⟨X3.heap.size,0,none⟩ (.int .i64 a)).setCell ⟨X3.heap.size,1,none⟩ (.int .i64 b)).setCell ⟨X3.heap.size,2,none⟩ (.int .i64 c)).heap[X3.heap.size]? =some (Obj.cells #[.int .i64 a,.int .i64 b,.int .i64 c] 287 (0,0)):=(zad (zad (zad hA5))).trans (by simp)
        go_wp2_with fail
        refine hK _ _ B7 ?_;clear hK K;obtain⟨X7,hX7⟩:∃ X,X=(((X5.setCell ⟨X3.heap.size,0,none⟩ (.int .i64 a)).setCell ⟨X3.heap.size,1,none⟩ (.int .i64 b)).setCell ⟨X3.heap.size,2,none⟩ (.int .i64 c)):=⟨_,rfl⟩;rw [←hX7] at B7 hk7 ⊢;clear hX7 z0 z1 z2 f0 f1 f2;refine qT1 14 [17] fun K hK=>?_
        go_wp2_with fail
        refine hK _ _ B7 ?_;clear hK K;refine qT1 17 [] fun K hK=>?_
        go_wp2_with fail
        refine hK _ _ B7 ?_;clear hK K;refine zan ?_;have q2:=zaa hk7 2;have BF:=hb02.trans (B7.mono hb02.size);go_wp2;go_ret2;exact⟨⟨_,_,rfl⟩,BF⟩
      ·go_wp2_with fail
       refine hK _ _ B5 ?_;clear hK K;refine qT1 13 [16,17] fun K hK=>?_
       go_wp2_with fail
       refine hK _ _ B5 ?_;clear hK K;refine qT1 16 [17] fun K hK=>?_;have z0:=zaa hA5 0;have z1:=zaa hA5 1;have z2:=zaa hA5 2;have f0:=zab hA5 0;have f1:=zab hA5 1;have f2:=zab hA5 2;have hAge:w2.heap.size≤X3.heap.size:=B3.size;have B8:Below w2.heap.size w2 (((X5.setCell ⟨X3.heap.size,0,none⟩ (.int .i64 a)).setCell ⟨X3.heap.size,1,none⟩ (.int .i64 b)).setCell ⟨X3.heap.size,2,none⟩ (.int .i64 c)):=((B5.setCell (p:=⟨X3.heap.size,0,none⟩) hAge _).setCell (p:=⟨X3.heap.size,1,none⟩) hAge _).setCell (p:=⟨X3.heap.size,2,none⟩) hAge _;have hk8:(((X5.setCell ⟨X3.heap.size,0,none⟩ (.int .i64 a)).setCell ⟨X3.heap.size,1,none⟩ (.int .i64 b)).setCell ⟨X3.heap.size,2,none⟩ (.int .i64 c)).heap[X3.heap.size]? =some (Obj.cells #[.int .i64 a,.int .i64 b,.int .i64 c] 287 (0,0)):=(zad (zad (zad hA5))).trans (by simp)
       go_wp2_with fail
       refine hK _ _ B8 ?_;clear hK K;obtain⟨X8,hX8⟩:∃ X,X=(((X5.setCell ⟨X3.heap.size,0,none⟩ (.int .i64 a)).setCell ⟨X3.heap.size,1,none⟩ (.int .i64 b)).setCell ⟨X3.heap.size,2,none⟩ (.int .i64 c)):=⟨_,rfl⟩;rw [←hX8] at B8 hk8 ⊢;clear hX8 z0 z1 z2 f0 f1 f2;refine qT1 17 [] fun K hK=>?_
       go_wp2_with fail
       refine hK _ _ B8 ?_;clear hK K;refine zan ?_;have q2:=zaa hk8 2;have BF:=hb02.trans (B8.mono hb02.size);go_wp2;go_ret2;exact⟨⟨_,_,rfl⟩,BF⟩
    ·go_wp2_with fail
     refine hK _ _ (B3.alloc B3.size _) ?_;clear hK K;have B4:=B3.alloc B3.size (Obj.cells #[.int .i64 0,.int .i64 0,.int .i64 0] 287);have hA4:=heap_alloc_new X3 (Obj.cells #[.int .i64 0,.int .i64 0,.int .i64 0] 287);obtain⟨X4,hX4⟩:∃ X,X=X3.alloc (Obj.cells #[.int .i64 0,.int .i64 0,.int .i64 0] 287):=⟨_,rfl⟩;rw [←hX4] at B4 hA4 ⊢;clear hX4;refine qT1 12 [13,14,16,17] fun K hK=>?_
     go_wp2_with fail
     refine hK _ _ B4 ?_;clear hK K;refine zb0 (i:=13) (j:=14) (rem1:=[14,16,17]) (rem2:=[13,16,17]) (by kernel_rfl) (by rfl) (by rfl) (by rfl) (by rfl) (fun K hK=>?_) (fun K hK=>?_)
     ·go_wp2_with fail
      refine hK _ _ B4 ?_;clear hK K;refine zb0 (i:=14) (j:=16) (rem1:=[16,17]) (rem2:=[14,17]) (by kernel_rfl) (by rfl) (by rfl) (by rfl) (by rfl) (fun K hK=>?_) (fun K hK=>?_)
      ·go_wp2_with fail
       refine hK _ _ B4 ?_;clear hK K;refine qT1 16 [17] fun K hK=>?_;have z0:=zaa hA4 0;have z1:=zaa hA4 1;have z2:=zaa hA4 2;have f0:=zab hA4 0;have f1:=zab hA4 1;have f2:=zab hA4 2;have hAge:w2.heap.size≤X3.heap.size:=B3.size;have B8:Below w2.heap.size w2 (((X4.setCell ⟨X3.heap.size,0,none⟩ (.int .i64 a)).setCell ⟨X3.heap.size,1,none⟩ (.int .i64 b)).setCell ⟨X3.heap.size,2,none⟩ (.int .i64 c)):=((B4.setCell (p:=⟨X3.heap.size,0,none⟩) hAge _).setCell (p:=⟨X3.heap.size,1,none⟩) hAge _).setCell (p:=⟨X3.heap.size,2,none⟩) hAge _;have hk8:(((X4.setCell ⟨X3.heap.size,0,none⟩ (.int .i64 a)).setCell ⟨X3.heap.size,1,none⟩ (.int .i64 b)).setCell ⟨X3.heap.size,2,none⟩ (.int .i64 c)).heap[X3.heap.size]? =some (Obj.cells #[.int .i64 a,.int .i64 b,.int .i64 c] 287 (0,0)):=(zad (zad (zad hA4))).trans (by simp)
       go_wp2_with fail
       refine hK _ _ B8 ?_;clear hK K;obtain⟨X8,hX8⟩:∃ X,X=(((X4.setCell ⟨X3.heap.size,0,none⟩ (.int .i64 a)).setCell ⟨X3.heap.size,1,none⟩ (.int .i64 b)).setCell ⟨X3.heap.size,2,none⟩ (.int .i64 c)):=⟨_,rfl⟩;rw [←hX8] at B8 hk8 ⊢;clear hX8 z0 z1 z2 f0 f1 f2;refine qT1 17 [] fun K hK=>?_
       go_wp2_with fail
       refine hK _ _ B8 ?_;clear hK K;refine zan ?_;have q2:=zaa hk8 2;have BF:=hb02.trans (B8.mono hb02.size);go_wp2;go_ret2;exact⟨⟨_,_,rfl⟩,BF⟩
      ·have z0:=zaa hA4 0
       have z1:=zaa hA4 1;have z2:=zaa hA4 2;have f0:=zab hA4 0;have f1:=zab hA4 1;have f2:=zab hA4 2;have hAge:w2.heap.size≤X3.heap.size:=B3.size;have B7:Below w2.heap.size w2 (((X4.setCell ⟨X3.heap.size,0,none⟩ (.int .i64 a)).setCell ⟨X3.heap.size,1,none⟩ (.int .i64 b)).setCell ⟨X3.heap.size,2,none⟩ (.int .i64 c)):=((B4.setCell (p:=⟨X3.heap.size,0,none⟩) hAge _).setCell (p:=⟨X3.heap.size,1,none⟩) hAge _).setCell (p:=⟨X3.heap.size,2,none⟩) hAge _;have hk7:(((X4.setCell ⟨X3.heap.size,0,none⟩ (.int .i64 a)).setCell ⟨X3.heap.size,1,none⟩ (.int .i64 b)).setCell ⟨X3.heap.size,2,none⟩ (.int .i64 c)).heap[X3.heap.size]? =some (Obj.cells #[.int .i64 a,.int .i64 b,.int .i64 c] 287 (0,0)):=(zad (zad (zad hA4))).trans (by simp)
       go_wp2_with fail
       refine hK _ _ B7 ?_;clear hK K;obtain⟨X7,hX7⟩:∃ X,X=(((X4.setCell ⟨X3.heap.size,0,none⟩ (.int .i64 a)).setCell ⟨X3.heap.size,1,none⟩ (.int .i64 b)).setCell ⟨X3.heap.size,2,none⟩ (.int .i64 c)):=⟨_,rfl⟩;rw [←hX7] at B7 hk7 ⊢;clear hX7 z0 z1 z2 f0 f1 f2;refine qT1 14 [17] fun K hK=>?_
       go_wp2_with fail
       refine hK _ _ B7 ?_;clear hK K;refine qT1 17 [] fun K hK=>?_
       go_wp2_with fail
       refine hK _ _ B7 ?_;clear hK K;refine zan ?_;have q2:=zaa hk7 2;have BF:=hb02.trans (B7.mono hb02.size);go_wp2;go_ret2;exact⟨⟨_,_,rfl⟩,BF⟩
     ·go_wp2_with fail
      refine hK _ _ B4 ?_;clear hK K;refine qT1 13 [16,17] fun K hK=>?_
      go_wp2_with fail
      refine hK _ _ B4 ?_;clear hK K;refine qT1 16 [17] fun K hK=>?_;have z0:=zaa hA4 0;have z1:=zaa hA4 1;have z2:=zaa hA4 2;have f0:=zab hA4 0;have f1:=zab hA4 1;have f2:=zab hA4 2;have hAge:w2.heap.size≤X3.heap.size:=B3.size;have B8:Below w2.heap.size w2 (((X4.setCell ⟨X3.heap.size,0,none⟩ (.int .i64 a)).setCell ⟨X3.heap.size,1,none⟩ (.int .i64 b)).setCell ⟨X3.heap.size,2,none⟩ (.int .i64 c)):=((B4.setCell (p:=⟨X3.heap.size,0,none⟩) hAge _).setCell (p:=⟨X3.heap.size,1,none⟩) hAge _).setCell (p:=⟨X3.heap.size,2,none⟩) hAge _;have hk8:(((X4.setCell ⟨X3.heap.size,0,none⟩ (.int .i64 a)).setCell ⟨X3.heap.size,1,none⟩ (.int .i64 b)).setCell ⟨X3.heap.size,2,none⟩ (.int .i64 c)).heap[X3.heap.size]? =some (Obj.cells #[.int .i64 a,.int .i64 b,.int .i64 c] 287 (0,0)):=(zad (zad (zad hA4))).trans (by simp)
      go_wp2_with fail
      refine hK _ _ B8 ?_;clear hK K;obtain⟨X8,hX8⟩:∃ X,X=(((X4.setCell ⟨X3.heap.size,0,none⟩ (.int .i64 a)).setCell ⟨X3.heap.size,1,none⟩ (.int .i64 b)).setCell ⟨X3.heap.size,2,none⟩ (.int .i64 c)):=⟨_,rfl⟩;rw [←hX8] at B8 hk8 ⊢;clear hX8 z0 z1 z2 f0 f1 f2;refine qT1 17 [] fun K hK=>?_
      go_wp2_with fail
      refine hK _ _ B8 ?_;clear hK K;refine zan ?_;have q2:=zaa hk8 2;have BF:=hb02.trans (B8.mono hb02.size);go_wp2;go_ret2;exact⟨⟨_,_,rfl⟩,BF⟩
   ·go_wp2_with fail
    refine hK _ _ (B2.alloc B2.size _) ?_;clear hK K;have B3:=B2.alloc B2.size (Obj.cells #[.int .i64 0,.int .i64 0,.int .i64 0] 287);have hA3:=heap_alloc_new X2 (Obj.cells #[.int .i64 0,.int .i64 0,.int .i64 0] 287);obtain⟨X3,hX3⟩:∃ X,X=X2.alloc (Obj.cells #[.int .i64 0,.int .i64 0,.int .i64 0] 287):=⟨_,rfl⟩;rw [←hX3] at B3 hA3 ⊢;clear hX3;refine qT1 11 [12,13,14,16,17] fun K hK=>?_
    go_wp2_with fail
    refine (HRS.out _ B3).mono ?_;rintro e X4 ⟨⟨a,b,c,ok,rfl⟩,hb4⟩;have B4:=B3.trans (hb4.mono B3.size);have hA4:=qBa hb4 hA3
    go_wp2_with fail
    refine hK _ _ B4 ?_;clear hK K;refine qT1 12 [13,14,16,17] fun K hK=>?_
    go_wp2_with fail
    refine hK _ _ B4 ?_;clear hK K;refine zb0 (i:=13) (j:=14) (rem1:=[14,16,17]) (rem2:=[13,16,17]) (by kernel_rfl) (by rfl) (by rfl) (by rfl) (by rfl) (fun K hK=>?_) (fun K hK=>?_)
    ·go_wp2_with fail
     refine hK _ _ B4 ?_;clear hK K;refine zb0 (i:=14) (j:=16) (rem1:=[16,17]) (rem2:=[14,17]) (by kernel_rfl) (by rfl) (by rfl) (by rfl) (by rfl) (fun K hK=>?_) (fun K hK=>?_)
     ·go_wp2_with fail
      refine hK _ _ B4 ?_;clear hK K;refine qT1 16 [17] fun K hK=>?_;have z0:=zaa hA4 0;have z1:=zaa hA4 1;have z2:=zaa hA4 2;have f0:=zab hA4 0;have f1:=zab hA4 1;have f2:=zab hA4 2;have hAge:w2.heap.size≤X2.heap.size:=B2.size;have B8:Below w2.heap.size w2 (((X4.setCell ⟨X2.heap.size,0,none⟩ (.int .i64 a)).setCell ⟨X2.heap.size,1,none⟩ (.int .i64 b)).setCell ⟨X2.heap.size,2,none⟩ (.int .i64 c)):=((B4.setCell (p:=⟨X2.heap.size,0,none⟩) hAge _).setCell (p:=⟨X2.heap.size,1,none⟩) hAge _).setCell (p:=⟨X2.heap.size,2,none⟩) hAge _;have hk8:(((X4.setCell ⟨X2.heap.size,0,none⟩ (.int .i64 a)).setCell ⟨X2.heap.size,1,none⟩ (.int .i64 b)).setCell ⟨X2.heap.size,2,none⟩ (.int .i64 c)).heap[X2.heap.size]? =some (Obj.cells #[.int .i64 a,.int .i64 b,.int .i64 c] 287 (0,0)):=(zad (zad (zad hA4))).trans (by simp)
      go_wp2_with fail
      refine hK _ _ B8 ?_;clear hK K;obtain⟨X8,hX8⟩:∃ X,X=(((X4.setCell ⟨X2.heap.size,0,none⟩ (.int .i64 a)).setCell ⟨X2.heap.size,1,none⟩ (.int .i64 b)).setCell ⟨X2.heap.size,2,none⟩ (.int .i64 c)):=⟨_,rfl⟩;rw [←hX8] at B8 hk8 ⊢;clear hX8 z0 z1 z2 f0 f1 f2;refine qT1 17 [] fun K hK=>?_
      go_wp2_with fail
      refine hK _ _ B8 ?_;clear hK K;refine zan ?_;have q2:=zaa hk8 2;have BF:=hb02.trans (B8.mono hb02.size);go_wp2;go_ret2;exact⟨⟨_,_,rfl⟩,BF⟩
     ·have z0:=zaa hA4 0
      have z1:=zaa hA4 1;have z2:=zaa hA4 2;have f0:=zab hA4 0;have f1:=zab hA4 1;have f2:=zab hA4 2;have hAge:w2.heap.size≤X2.heap.size:=B2.size;have B7:Below w2.heap.size w2 (((X4.setCell ⟨X2.heap.size,0,none⟩ (.int .i64 a)).setCell ⟨X2.heap.size,1,none⟩ (.int .i64 b)).setCell ⟨X2.heap.size,2,none⟩ (.int .i64 c)):=((B4.setCell (p:=⟨X2.heap.size,0,none⟩) hAge _).setCell (p:=⟨X2.heap.size,1,none⟩) hAge _).setCell (p:=⟨X2.heap.size,2,none⟩) hAge _;have hk7:(((X4.setCell ⟨X2.heap.size,0,none⟩ (.int .i64 a)).setCell ⟨X2.heap.size,1,none⟩ (.int .i64 b)).setCell ⟨X2.heap.size,2,none⟩ (.int .i64 c)).heap[X2.heap.size]? =some (Obj.cells #[.int .i64 a,.int .i64 b,.int .i64 c] 287 (0,0)):=(zad (zad (zad hA4))).trans (by simp)
      go_wp2_with fail
      refine hK _ _ B7 ?_;clear hK K;obtain⟨X7,hX7⟩:∃ X,X=(((X4.setCell ⟨X2.heap.size,0,none⟩ (.int .i64 a)).setCell ⟨X2.heap.size,1,none⟩ (.int .i64 b)).setCell ⟨X2.heap.size,2,none⟩ (.int .i64 c)):=⟨_,rfl⟩;rw [←hX7] at B7 hk7 ⊢;clear hX7 z0 z1 z2 f0 f1 f2;refine qT1 14 [17] fun K hK=>?_
      go_wp2_with fail
      refine hK _ _ B7 ?_;clear hK K;refine qT1 17 [] fun K hK=>?_
      go_wp2_with fail
      refine hK _ _ B7 ?_;clear hK K;refine zan ?_;have q2:=zaa hk7 2;have BF:=hb02.trans (B7.mono hb02.size);go_wp2;go_ret2;exact⟨⟨_,_,rfl⟩,BF⟩
    ·go_wp2_with fail
     refine hK _ _ B4 ?_;clear hK K;refine qT1 13 [16,17] fun K hK=>?_
     go_wp2_with fail
     refine hK _ _ B4 ?_;clear hK K;refine qT1 16 [17] fun K hK=>?_;have z0:=zaa hA4 0;have z1:=zaa hA4 1;have z2:=zaa hA4 2;have f0:=zab hA4 0;have f1:=zab hA4 1;have f2:=zab hA4 2;have hAge:w2.heap.size≤X2.heap.size:=B2.size;have B8:Below w2.heap.size w2 (((X4.setCell ⟨X2.heap.size,0,none⟩ (.int .i64 a)).setCell ⟨X2.heap.size,1,none⟩ (.int .i64 b)).setCell ⟨X2.heap.size,2,none⟩ (.int .i64 c)):=((B4.setCell (p:=⟨X2.heap.size,0,none⟩) hAge _).setCell (p:=⟨X2.heap.size,1,none⟩) hAge _).setCell (p:=⟨X2.heap.size,2,none⟩) hAge _;have hk8:(((X4.setCell ⟨X2.heap.size,0,none⟩ (.int .i64 a)).setCell ⟨X2.heap.size,1,none⟩ (.int .i64 b)).setCell ⟨X2.heap.size,2,none⟩ (.int .i64 c)).heap[X2.heap.size]? =some (Obj.cells #[.int .i64 a,.int .i64 b,.int .i64 c] 287 (0,0)):=(zad (zad (zad hA4))).trans (by simp)
     go_wp2_with fail
     refine hK _ _ B8 ?_;clear hK K;obtain⟨X8,hX8⟩:∃ X,X=(((X4.setCell ⟨X2.heap.size,0,none⟩ (.int .i64 a)).setCell ⟨X2.heap.size,1,none⟩ (.int .i64 b)).setCell ⟨X2.heap.size,2,none⟩ (.int .i64 c)):=⟨_,rfl⟩;rw [←hX8] at B8 hk8 ⊢;clear hX8 z0 z1 z2 f0 f1 f2;refine qT1 17 [] fun K hK=>?_
     go_wp2_with fail
     refine hK _ _ B8 ?_;clear hK K;refine zan ?_;have q2:=zaa hk8 2;have BF:=hb02.trans (B8.mono hb02.size);go_wp2;go_ret2;exact⟨⟨_,_,rfl⟩,BF⟩
  ·go_wp2_with fail
   refine hK _ _ (B1.alloc B1.size _) ?_;clear hK K;have B2:=B1.alloc B1.size (Obj.cells #[.int .i64 0,.int .i64 0,.int .i64 0] 287);have hA2:=heap_alloc_new X1 (Obj.cells #[.int .i64 0,.int .i64 0,.int .i64 0] 287);obtain⟨X2,hX2⟩:∃ X,X=X1.alloc (Obj.cells #[.int .i64 0,.int .i64 0,.int .i64 0] 287):=⟨_,rfl⟩;rw [←hX2] at B2 hA2 ⊢;clear hX2;refine qT1 7 [11,12,13,14,16,17] fun K hK=>?_
   go_wp2_with fail
   refine (HBO.out _).mono ?_;rintro e X3 ⟨rfl,hb3⟩;have B3:=B2.trans (hb3.mono B2.size);have hA3:=qBa hb3 hA2
   go_wp2_with fail
   refine hK _ _ B3 ?_;clear hK K;refine qT1 11 [12,13,14,16,17] fun K hK=>?_
   go_wp2_with fail
   refine (HRS.out _ B3).mono ?_;rintro e X4 ⟨⟨a,b,c,ok,rfl⟩,hb4⟩;have B4:=B3.trans (hb4.mono B3.size);have hA4:=qBa hb4 hA3
   go_wp2_with fail
   refine hK _ _ B4 ?_;clear hK K;refine qT1 12 [13,14,16,17] fun K hK=>?_
   go_wp2_with fail
   refine hK _ _ B4 ?_;clear hK K;refine zb0 (i:=13) (j:=14) (rem1:=[14,16,17]) (rem2:=[13,16,17]) (by kernel_rfl) (by rfl) (by rfl) (by rfl) (by rfl) (fun K hK=>?_) (fun K hK=>?_)
   ·go_wp2_with fail
    refine hK _ _ B4 ?_;clear hK K;refine zb0 (i:=14) (j:=16) (rem1:=[16,17]) (rem2:=[14,17]) (by kernel_rfl) (by rfl) (by rfl) (by rfl) (by rfl) (fun K hK=>?_) (fun K hK=>?_)
    ·go_wp2_with fail
     refine hK _ _ B4 ?_;clear hK K;refine qT1 16 [17] fun K hK=>?_;have z0:=zaa hA4 0;have z1:=zaa hA4 1;have z2:=zaa hA4 2;have f0:=zab hA4 0;have f1:=zab hA4 1;have f2:=zab hA4 2;have hAge:w2.heap.size≤X1.heap.size:=B1.size;have B8:Below w2.heap.size w2 (((X4.setCell ⟨X1.heap.size,0,none⟩ (.int .i64 a)).setCell ⟨X1.heap.size,1,none⟩ (.int .i64 b)).setCell ⟨X1.heap.size,2,none⟩ (.int .i64 c)):=((B4.setCell (p:=⟨X1.heap.size,0,none⟩) hAge _).setCell (p:=⟨X1.heap.size,1,none⟩) hAge _).setCell (p:=⟨X1.heap.size,2,none⟩) hAge _;have hk8:(((X4.setCell ⟨X1.heap.size,0,none⟩ (.int .i64 a)).setCell ⟨X1.heap.size,1,none⟩ (.int .i64 b)).setCell ⟨X1.heap.size,2,none⟩ (.int .i64 c)).heap[X1.heap.size]? =some (Obj.cells #[.int .i64 a,.int .i64 b,.int .i64 c] 287 (0,0)):=(zad (zad (zad hA4))).trans (by simp)
     go_wp2_with fail
     refine hK _ _ B8 ?_;clear hK K;obtain⟨X8,hX8⟩:∃ X,X=(((X4.setCell ⟨X1.heap.size,0,none⟩ (.int .i64 a)).setCell ⟨X1.heap.size,1,none⟩ (.int .i64 b)).setCell ⟨X1.heap.size,2,none⟩ (.int .i64 c)):=⟨_,rfl⟩;rw [←hX8] at B8 hk8 ⊢;clear hX8 z0 z1 z2 f0 f1 f2;refine qT1 17 [] fun K hK=>?_
     go_wp2_with fail
     refine hK _ _ B8 ?_;clear hK K;refine zan ?_;have q2:=zaa hk8 2;have BF:=hb02.trans (B8.mono hb02.size);go_wp2;go_ret2;exact⟨⟨_,_,rfl⟩,BF⟩
    ·have z0:=zaa hA4 0
     have z1:=zaa hA4 1;have z2:=zaa hA4 2;have f0:=zab hA4 0;have f1:=zab hA4 1;have f2:=zab hA4 2;have hAge:w2.heap.size≤X1.heap.size:=B1.size;have B7:Below w2.heap.size w2 (((X4.setCell ⟨X1.heap.size,0,none⟩ (.int .i64 a)).setCell ⟨X1.heap.size,1,none⟩ (.int .i64 b)).setCell ⟨X1.heap.size,2,none⟩ (.int .i64 c)):=((B4.setCell (p:=⟨X1.heap.size,0,none⟩) hAge _).setCell (p:=⟨X1.heap.size,1,none⟩) hAge _).setCell (p:=⟨X1.heap.size,2,none⟩) hAge _;have hk7:(((X4.setCell ⟨X1.heap.size,0,none⟩ (.int .i64 a)).setCell ⟨X1.heap.size,1,none⟩ (.int .i64 b)).setCell ⟨X1.heap.size,2,none⟩ (.int .i64 c)).heap[X1.heap.size]? =some (Obj.cells #[.int .i64 a,.int .i64 b,.int .i64 c] 287 (0,0)):=(zad (zad (zad hA4))).trans (by simp)
     go_wp2_with fail
     refine hK _ _ B7 ?_;clear hK K;obtain⟨X7,hX7⟩:∃ X,X=(((X4.setCell ⟨X1.heap.size,0,none⟩ (.int .i64 a)).setCell ⟨X1.heap.size,1,none⟩ (.int .i64 b)).setCell ⟨X1.heap.size,2,none⟩ (.int .i64 c)):=⟨_,rfl⟩;rw [←hX7] at B7 hk7 ⊢;clear hX7 z0 z1 z2 f0 f1 f2;refine qT1 14 [17] fun K hK=>?_
     go_wp2_with fail
     refine hK _ _ B7 ?_;clear hK K;refine qT1 17 [] fun K hK=>?_
     go_wp2_with fail
     refine hK _ _ B7 ?_;clear hK K;refine zan ?_;have q2:=zaa hk7 2;have BF:=hb02.trans (B7.mono hb02.size);go_wp2;go_ret2;exact⟨⟨_,_,rfl⟩,BF⟩
   ·go_wp2_with fail
    refine hK _ _ B4 ?_;clear hK K;refine qT1 13 [16,17] fun K hK=>?_
    go_wp2_with fail
    refine hK _ _ B4 ?_;clear hK K;refine qT1 16 [17] fun K hK=>?_;have z0:=zaa hA4 0;have z1:=zaa hA4 1;have z2:=zaa hA4 2;have f0:=zab hA4 0;have f1:=zab hA4 1;have f2:=zab hA4 2;have hAge:w2.heap.size≤X1.heap.size:=B1.size;have B8:Below w2.heap.size w2 (((X4.setCell ⟨X1.heap.size,0,none⟩ (.int .i64 a)).setCell ⟨X1.heap.size,1,none⟩ (.int .i64 b)).setCell ⟨X1.heap.size,2,none⟩ (.int .i64 c)):=((B4.setCell (p:=⟨X1.heap.size,0,none⟩) hAge _).setCell (p:=⟨X1.heap.size,1,none⟩) hAge _).setCell (p:=⟨X1.heap.size,2,none⟩) hAge _;have hk8:(((X4.setCell ⟨X1.heap.size,0,none⟩ (.int .i64 a)).setCell ⟨X1.heap.size,1,none⟩ (.int .i64 b)).setCell ⟨X1.heap.size,2,none⟩ (.int .i64 c)).heap[X1.heap.size]? =some (Obj.cells #[.int .i64 a,.int .i64 b,.int .i64 c] 287 (0,0)):=(zad (zad (zad hA4))).trans (by simp)
    go_wp2_with fail
    refine hK _ _ B8 ?_;clear hK K;obtain⟨X8,hX8⟩:∃ X,X=(((X4.setCell ⟨X1.heap.size,0,none⟩ (.int .i64 a)).setCell ⟨X1.heap.size,1,none⟩ (.int .i64 b)).setCell ⟨X1.heap.size,2,none⟩ (.int .i64 c)):=⟨_,rfl⟩;rw [←hX8] at B8 hk8 ⊢;clear hX8 z0 z1 z2 f0 f1 f2;refine qT1 17 [] fun K hK=>?_
    go_wp2_with fail
    refine hK _ _ B8 ?_;clear hK K;refine zan ?_;have q2:=zaa hk8 2;have BF:=hb02.trans (B8.mono hb02.size);go_wp2;go_ret2;exact⟨⟨_,_,rfl⟩,BF⟩
 ·go_wp2_with fail
  refine hK _ _ (B0.alloc B0.size _) ?_;clear hK K;have B1:=B0.alloc B0.size (Obj.cells #[.int .i64 0,.int .i64 0,.int .i64 0] 287);have hA1:=heap_alloc_new X0 (Obj.cells #[.int .i64 0,.int .i64 0,.int .i64 0] 287);obtain⟨X1,hX1⟩:∃ X,X=X0.alloc (Obj.cells #[.int .i64 0,.int .i64 0,.int .i64 0] 287):=⟨_,rfl⟩;rw [←hX1] at B1 hA1 ⊢;clear hX1;refine qT1 4 [7,11,12,13,14,16,17] fun K hK=>?_
  go_wp2_with fail
  refine (HTO.out _).mono ?_;rintro e X2 ⟨rfl,hb2⟩;have B2:=B1.trans (hb2.mono B1.size);have hA2:=qBa hb2 hA1
  go_wp2_with fail
  refine hK _ _ B2 ?_;clear hK K;refine qT1 7 [11,12,13,14,16,17] fun K hK=>?_
  go_wp2_with fail
  refine (HBO.out _).mono ?_;rintro e X3 ⟨rfl,hb3⟩;have B3:=B2.trans (hb3.mono B2.size);have hA3:=qBa hb3 hA2
  go_wp2_with fail
  refine hK _ _ B3 ?_;clear hK K;refine qT1 11 [12,13,14,16,17] fun K hK=>?_
  go_wp2_with fail
  refine (HRS.out _ B3).mono ?_;rintro e X4 ⟨⟨a,b,c,ok,rfl⟩,hb4⟩;have B4:=B3.trans (hb4.mono B3.size);have hA4:=qBa hb4 hA3
  go_wp2_with fail
  refine hK _ _ B4 ?_;clear hK K;refine qT1 12 [13,14,16,17] fun K hK=>?_
  go_wp2_with fail
  refine hK _ _ B4 ?_;clear hK K;refine zb0 (i:=13) (j:=14) (rem1:=[14,16,17]) (rem2:=[13,16,17]) (by kernel_rfl) (by rfl) (by rfl) (by rfl) (by rfl) (fun K hK=>?_) (fun K hK=>?_)
  ·go_wp2_with fail
   refine hK _ _ B4 ?_;clear hK K;refine zb0 (i:=14) (j:=16) (rem1:=[16,17]) (rem2:=[14,17]) (by kernel_rfl) (by rfl) (by rfl) (by rfl) (by rfl) (fun K hK=>?_) (fun K hK=>?_)
   ·go_wp2_with fail
    refine hK _ _ B4 ?_;clear hK K;refine qT1 16 [17] fun K hK=>?_;have z0:=zaa hA4 0;have z1:=zaa hA4 1;have z2:=zaa hA4 2;have f0:=zab hA4 0;have f1:=zab hA4 1;have f2:=zab hA4 2;have hAge:w2.heap.size≤X0.heap.size:=B0.size;have B8:Below w2.heap.size w2 (((X4.setCell ⟨X0.heap.size,0,none⟩ (.int .i64 a)).setCell ⟨X0.heap.size,1,none⟩ (.int .i64 b)).setCell ⟨X0.heap.size,2,none⟩ (.int .i64 c)):=((B4.setCell (p:=⟨X0.heap.size,0,none⟩) hAge _).setCell (p:=⟨X0.heap.size,1,none⟩) hAge _).setCell (p:=⟨X0.heap.size,2,none⟩) hAge _;have hk8:(((X4.setCell ⟨X0.heap.size,0,none⟩ (.int .i64 a)).setCell ⟨X0.heap.size,1,none⟩ (.int .i64 b)).setCell ⟨X0.heap.size,2,none⟩ (.int .i64 c)).heap[X0.heap.size]? =some (Obj.cells #[.int .i64 a,.int .i64 b,.int .i64 c] 287 (0,0)):=(zad (zad (zad hA4))).trans (by simp)
    go_wp2_with fail
    refine hK _ _ B8 ?_;clear hK K;obtain⟨X8,hX8⟩:∃ X,X=(((X4.setCell ⟨X0.heap.size,0,none⟩ (.int .i64 a)).setCell ⟨X0.heap.size,1,none⟩ (.int .i64 b)).setCell ⟨X0.heap.size,2,none⟩ (.int .i64 c)):=⟨_,rfl⟩;rw [←hX8] at B8 hk8 ⊢;clear hX8 z0 z1 z2 f0 f1 f2;refine qT1 17 [] fun K hK=>?_
    go_wp2_with fail
    refine hK _ _ B8 ?_;clear hK K;refine zan ?_;have q2:=zaa hk8 2;have BF:=hb02.trans (B8.mono hb02.size);go_wp2;go_ret2;exact⟨⟨_,_,rfl⟩,BF⟩
   ·have z0:=zaa hA4 0
    have z1:=zaa hA4 1;have z2:=zaa hA4 2;have f0:=zab hA4 0;have f1:=zab hA4 1;have f2:=zab hA4 2;have hAge:w2.heap.size≤X0.heap.size:=B0.size;have B7:Below w2.heap.size w2 (((X4.setCell ⟨X0.heap.size,0,none⟩ (.int .i64 a)).setCell ⟨X0.heap.size,1,none⟩ (.int .i64 b)).setCell ⟨X0.heap.size,2,none⟩ (.int .i64 c)):=((B4.setCell (p:=⟨X0.heap.size,0,none⟩) hAge _).setCell (p:=⟨X0.heap.size,1,none⟩) hAge _).setCell (p:=⟨X0.heap.size,2,none⟩) hAge _;have hk7:(((X4.setCell ⟨X0.heap.size,0,none⟩ (.int .i64 a)).setCell ⟨X0.heap.size,1,none⟩ (.int .i64 b)).setCell ⟨X0.heap.size,2,none⟩ (.int .i64 c)).heap[X0.heap.size]? =some (Obj.cells #[.int .i64 a,.int .i64 b,.int .i64 c] 287 (0,0)):=(zad (zad (zad hA4))).trans (by simp)
    go_wp2_with fail
    refine hK _ _ B7 ?_;clear hK K;obtain⟨X7,hX7⟩:∃ X,X=(((X4.setCell ⟨X0.heap.size,0,none⟩ (.int .i64 a)).setCell ⟨X0.heap.size,1,none⟩ (.int .i64 b)).setCell ⟨X0.heap.size,2,none⟩ (.int .i64 c)):=⟨_,rfl⟩;rw [←hX7] at B7 hk7 ⊢;clear hX7 z0 z1 z2 f0 f1 f2;refine qT1 14 [17] fun K hK=>?_
    go_wp2_with fail
    refine hK _ _ B7 ?_;clear hK K;refine qT1 17 [] fun K hK=>?_
    go_wp2_with fail
    refine hK _ _ B7 ?_;clear hK K;refine zan ?_;have q2:=zaa hk7 2;have BF:=hb02.trans (B7.mono hb02.size);go_wp2;go_ret2;exact⟨⟨_,_,rfl⟩,BF⟩
  ·go_wp2_with fail
   refine hK _ _ B4 ?_;clear hK K;refine qT1 13 [16,17] fun K hK=>?_
   go_wp2_with fail
   refine hK _ _ B4 ?_;clear hK K;refine qT1 16 [17] fun K hK=>?_;have z0:=zaa hA4 0;have z1:=zaa hA4 1;have z2:=zaa hA4 2;have f0:=zab hA4 0;have f1:=zab hA4 1;have f2:=zab hA4 2;have hAge:w2.heap.size≤X0.heap.size:=B0.size;have B8:Below w2.heap.size w2 (((X4.setCell ⟨X0.heap.size,0,none⟩ (.int .i64 a)).setCell ⟨X0.heap.size,1,none⟩ (.int .i64 b)).setCell ⟨X0.heap.size,2,none⟩ (.int .i64 c)):=((B4.setCell (p:=⟨X0.heap.size,0,none⟩) hAge _).setCell (p:=⟨X0.heap.size,1,none⟩) hAge _).setCell (p:=⟨X0.heap.size,2,none⟩) hAge _;have hk8:(((X4.setCell ⟨X0.heap.size,0,none⟩ (.int .i64 a)).setCell ⟨X0.heap.size,1,none⟩ (.int .i64 b)).setCell ⟨X0.heap.size,2,none⟩ (.int .i64 c)).heap[X0.heap.size]? =some (Obj.cells #[.int .i64 a,.int .i64 b,.int .i64 c] 287 (0,0)):=(zad (zad (zad hA4))).trans (by simp)
   go_wp2_with fail
   refine hK _ _ B8 ?_;clear hK K;obtain⟨X8,hX8⟩:∃ X,X=(((X4.setCell ⟨X0.heap.size,0,none⟩ (.int .i64 a)).setCell ⟨X0.heap.size,1,none⟩ (.int .i64 b)).setCell ⟨X0.heap.size,2,none⟩ (.int .i64 c)):=⟨_,rfl⟩;rw [←hX8] at B8 hk8 ⊢;clear hX8 z0 z1 z2 f0 f1 f2;refine qT1 17 [] fun K hK=>?_
   go_wp2_with fail
   refine hK _ _ B8 ?_;clear hK K;refine zan ?_;have q2:=zaa hk8 2;have BF:=hb02.trans (B8.mono hb02.size);go_wp2;go_ret2;exact⟨⟨_,_,rfl⟩,BF⟩
end Go.Proofs.YtpbmmoneeoijaaaGreatDoor
