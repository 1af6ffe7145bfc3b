/-
  A part of the proof: BehindV.
-/
import Derived.Test.YtpbmmoneeoijaaaGreatDoorP28
namespace Go.Proofs.YtpbmmoneeoijaaaGreatDoor
open Go.RowKit Go.Deep Go.Shelf
set_option maxRecDepth 100000
set_option maxHeartbeats 8000000
attribute [local go_sem] zaq
set_option maxRecDepth 100000
def zji (z:ShR) (g:Nat→Nat→Int) (t:Nat):Int×Bool:=if hasN (z.n |||z.s) (t:Nat)=true then (ztt z.x.n g (z.n |||z.s) (orN z) z.T t).2 else (0,false)
theorem zCi (z:ShR) (g:Nat→Nat→Int) (t:Nat) (w:World) (ho:z.o < 4294967296) (hnn:z.n < 4294967296) (hs:z.s < 4294967296) (hm:orN z < 2 ^ z.x.n) (htn:t < z.x.n)
  (hT:zev w z.x.ao z.x.n g) (hO:zf2 z.x.n g) (h16:z.x.n≤16) (hTab:Tab w):
  Calls Tryz.prog 279 #[shV z,qI (t:Nat)] w fun e w'=>e=.returned (rv (zji z g t))∧Below w.heap.size w w':=by
 have HBV:=hid (show zji z g t=if hasN (z.n |||z.s) (t:Nat)=true then (ztt z.x.n g (z.n |||z.s) (orN z) z.T t).2 else (0,false) from rfl);have HBO:=hid fun X=>zcx z.o z.n z.s ho hnn hs X;have HTO:=hid fun X=>zpf z.o z.n z.s hnn hs X;have hor:z.o |||z.n |||z.s < 4294967296:=Nat.or_lt_two_pow (n:=32) (Nat.or_lt_two_pow (n:=32) ho hnn) hs
 have hto:z.n |||z.s < 4294967296:=Nat.or_lt_two_pow (n:=32) hnn hs
 obtain⟨bo,hbo⟩:∃ q,q=z.o |||z.n |||z.s:=⟨_,rfl⟩
 obtain⟨tu,hte⟩:∃ q,q=z.n |||z.s:=⟨_,rfl⟩
 unfold orN at HBV hm;rw [←hbo] at HBO hor HBV hm;rw [←hte] at HTO hto HBV;clear hbo hte;unfold cv at HBO HTO;have HH:=hid fun X=>zhm tu hto (t:Nat) X;obtain⟨hb,hhb⟩:∃ b,hasN tu (t:Nat)=b:=⟨_,rfl⟩;rw [hhb] at HH HBV;clear hhb;obtain⟨⟨b,c,ok⟩,hy⟩:∃ y,ztt z.x.n g tu bo z.T t=y:=⟨_,rfl⟩;rw [hy] at HBV;have hB0:Below w.heap.size w (w.alloc (shB z)):=qBr (w:=w) _;have hZ0:(w.alloc (shB z)).heap[w.heap.size]? =some (shB z):=heap_alloc_new w _;have c4:=zaa (show _=some (Obj.cells (shL z).toArray 296 (0,0)) from hZ0) 4;have c5:=zaa (show _=some (Obj.cells (shL z).toArray 296 (0,0)) from hZ0) 5;have c6:=zaa (show _=some (Obj.cells (shL z).toArray 296 (0,0)) from hZ0) 6;cases hb
 ·have HB:=hid (HBV.out.trans (if_neg (by decide)))
  clear HBV;unfold shV;unfold shB shL at *;go_enter Tryz.func279,Tryz.ntmps279
  go_wp2_with (first|(go_at_call 278;refine (HTO.out _).mono ?_;rintro e w2 ⟨rfl,hb2⟩)|(go_at_call 189;refine (HH.out _).mono ?_;rintro e w3 ⟨rfl,hw3⟩;obtain rfl:=hw3.symm))
  go_ret2;exact⟨by rw [HB.out];rfl,hB0.trans (hb2.mono hB0.size)⟩
 have HB:=hid (HBV.out.trans (if_pos rfl));clear HBV;unfold shV;unfold shB shL at *;go_enter Tryz.func279,Tryz.ntmps279
 go_upto_region 3 with (first|(go_at_call 278;refine (HTO.out _).mono ?_;rintro e w2 ⟨rfl,hb2⟩)|(go_at_call 189;refine (HH.out _).mono ?_;rintro e w3 ⟨rfl,hw3⟩;obtain rfl:=hw3.symm))
 have hz2:=(hb2.block _ (by simp)).trans hZ0;have hb02:=hB0.trans (hb2.mono hB0.size);clear c4 c5 c6 hB0 hZ0 hb2;have d0:=zaa hz2 0;have d1:=zaa hz2 1;have d2:=zaa hz2 2;have d3:=zaa hz2 3;have d4:=zaa hz2 4;have d5:=zaa hz2 5;have d6:=zaa hz2 6;have d7:=zaa hz2 7;have d8:=zaa hz2 8;have d9:=zaa hz2 9;have d10:=zaa hz2 10;have d11:=zaa hz2 11;have d12:=zaa hz2 12;have d13:=zaa hz2 13;have d14:=zaa hz2 14;have HRS:=hid fun X (hX:Below w2.heap.size w2 X)=>show Calls Tryz.prog 162 #[.agg #[qI z.x.r,.slice z.x.ao z.x.n z.x.cap,.slice z.x.mo z.x.mn z.x.mc,.slice z.x.eo z.x.en z.x.ec],qU (tu:Nat),qU (bo:Nat),.agg (qF8 z.T),qI (t:Nat)] X (fun e w'=>e=.returned (.tuple #[.agg #[qI (t:Nat),qI b,qI c],.bool ok])∧Below X.heap.size X w') from by
  have:=zx6 z.x g tu bo z.T t X hto hor hm htn (by unfold maxLen;omega) (hT.below (hb02.trans (hX.mono hb02.size))) hO (hTab.below (hb02.trans (hX.mono hb02.size)) hTab.pos);rw [hy] at this;exact this
 obtain⟨SV,hSV⟩:∃ q,q=Value.agg #[qI z.x.r,.slice z.x.ao z.x.n z.x.cap,.slice z.x.mo z.x.mn z.x.mc,.slice z.x.eo z.x.en z.x.ec,qU (z.o:Nat),qU (z.n:Nat),qU (z.s:Nat),qI (z.T 0),qI (z.T 1),qI (z.T 2),qI (z.T 3),qI (z.T 4),qI (z.T 5),qI (z.T 6),qI (z.T 7),qI (z.O 0),qI (z.O 1),qI (z.O 2),qI (z.O 3),qI (z.O 4),qI (z.O 5),qI (z.O 6),qI (z.O 7),qI (z.O 8),qI (z.O 9),qI (z.O 10),qI (z.O 11),qI (z.O 12),qI (z.O 13),qI (z.O 14),qI (z.O 15)]:=⟨_,rfl⟩;rw [←hSV];clear hSV hz2 hT hO hTab HH;refine zan [4,7,11,12,13,14,15,16,17] (fun X=>Below w2.heap.size w2 X) (by kernel_rfl) (by kernel_rfl) (by exact⟨rfl,rfl,rfl,Nat.le_refl _,fun _ _=>rfl⟩) ?_;refine qFs fun K hK=>?_;go_simp;refine⟨_,fun _ _=>rfl,hK _ ?_⟩;clear hK K;refine qFs fun K hK=>?_;go_simp;refine⟨.agg #[qI z.x.r,.slice z.x.ao z.x.n z.x.cap,.slice z.x.mo z.x.mn z.x.mc,.slice z.x.eo z.x.en z.x.ec],fun X hX=>?_,hK _ ?_⟩
 ·have z0:=kept d0 hX
  have z1:=kept d1 hX;have z2:=kept d2 hX;have z3:=kept d3 hX;go_simp
 clear hK K;refine qFs fun K hK=>?_;go_simp;refine⟨_,fun _ _=>rfl,hK _ ?_⟩;clear hK K;refine qFs fun K hK=>?_;go_simp;refine⟨.agg #[qU (z.o:Nat),qU (z.n:Nat),qU (z.s:Nat)],fun X hX=>?_,hK _ ?_⟩
 ·have z0:=kept d4 hX
  have z1:=kept d5 hX;have z2:=kept d6 hX;go_simp
 clear hK K;refine qFc ?_;refine qFs fun K hK=>?_;go_simp;refine⟨_,fun _ _=>rfl,hK _ ?_⟩;clear hK K;refine qFs fun K hK=>?_;go_simp;refine⟨.agg #[qU (z.o:Nat),qU (z.n:Nat),qU (z.s:Nat)],fun X hX=>?_,hK _ ?_⟩
 ·have z0:=kept d4 hX
  have z1:=kept d5 hX;have z2:=kept d6 hX;go_simp
 clear hK K;refine qFc ?_;refine qFs fun K hK=>?_;go_simp;refine⟨_,fun _ _=>rfl,hK _ ?_⟩;clear hK K;refine qFs fun K hK=>?_;go_simp;refine⟨.agg (qF8 z.T),fun X hX=>?_,hK _ ?_⟩
 ·have z0:=kept d7 hX
  have z1:=kept d8 hX;have z2:=kept d9 hX;have z3:=kept d10 hX;have z4:=kept d11 hX;have z5:=kept d12 hX;have z6:=kept d13 hX;have z7:=kept d14 hX;go_simp
 clear hK K;refine qFs fun K hK=>?_;go_simp;refine⟨_,fun _ _=>rfl,hK _ ?_⟩;clear hK K;refine qFc ?_;refine qFc ?_;refine qFc ?_;refine qFc ?_;refine qFc ?_;refine qFc ?_;refine qFc ?_;refine za9 ?_;clear d0 d1 d2 d3 d4 d5 d6 d7 d8 d9 d10 d11 d12 d13 d14;have B0:Below w2.heap.size w2 w2.drew:=⟨rfl,rfl,rfl,Nat.le_refl _,fun _ _=>rfl⟩;obtain⟨X0,hX0⟩:∃ X,X=w2.drew:=⟨_,rfl⟩;rw [←hX0] at B0 ⊢;clear hX0;refine qT2 4 15 [7,11,12,13,14,15,16,17] [4,7,11,12,13,14,16,17] (fun K hK=>?_) fun K hK=>?_
 ·go_wp2_with fail
  refine (HTO.out _).mono ?_;rintro e X1 ⟨rfl,hb1⟩;have B1:=B0.trans (hb1.mono B0.size)
  go_wp2_with fail
  refine hK _ _ B1 ?_;clear hK K;refine qT2 7 15 [11,12,13,14,15,16,17] [7,11,12,13,14,16,17] (fun K hK=>?_) fun K hK=>?_
  ·go_wp2_with fail
   refine (HBO.out _).mono ?_;rintro e X2 ⟨rfl,hb2⟩;have B2:=B1.trans (hb2.mono B1.size)
   go_wp2_with fail
   refine hK _ _ B2 ?_;clear hK K;refine qT2 11 15 [12,13,14,15,16,17] [11,12,13,14,16,17] (fun K hK=>?_) fun K hK=>?_
   ·go_wp2_with fail
    refine (HRS.out _ B2).mono ?_;rintro e X3 ⟨rfl,hb3⟩;have B3:=B2.trans (hb3.mono B2.size)
    go_wp2_with fail
    refine hK _ _ B3 ?_;clear hK K;refine qT2 12 15 [13,14,15,16,17] [12,13,14,16,17] (fun K hK=>?_) fun K hK=>?_
    ·go_wp2_with fail
     refine hK _ _ B3 ?_;clear hK K;refine wpTs_3 (i:=13) (j:=14) (k:=15) (rem1:=[14,15,16,17]) (rem2:=[13,15,16,17]) (rem3:=[13,14,16,17]) (by kernel_rfl) (by rfl) (by rfl) (by rfl) (by rfl) (by rfl) (by rfl) (fun K hK=>?_) (fun K hK=>?_) (fun K hK=>?_)
     ·go_wp2_with fail
      refine hK _ _ B3 ?_;clear hK K;refine qT2 14 15 [15,16,17] [14,16,17] (fun K hK=>?_) fun K hK=>?_
      ·go_wp2_with fail
       refine hK _ _ B3 ?_;clear hK K;refine qT1 15 [16,17] fun K hK=>?_
       go_wp2_with fail
       refine hK _ _ (B3.alloc B3.size _) ?_;clear hK K;have B7:=B3.alloc B3.size (qC #[qI 0,qI 0,qI 0] 287);have hA7:=heap_alloc_new X3 (qC #[qI 0,qI 0,qI 0] 287);obtain⟨X7,hX7⟩:∃ X,X=X3.alloc (qC #[qI 0,qI 0,qI 0] 287):=⟨_,rfl⟩;rw [←hX7] at B7 hA7 ⊢;clear hX7;refine qT1 16 [17] fun K hK=>?_;have z0:=zaa hA7 0;have z1:=zaa hA7 1;have z2:=zaa hA7 2;have f0:=zab hA7 0;have f1:=zab hA7 1;have f2:=zab hA7 2;have hAge:w2.heap.size≤X3.heap.size:=B3.size;have B8:Below w2.heap.size w2 (((X7.setCell ⟨X3.heap.size,0,none⟩ (qI (t:Nat))).setCell ⟨X3.heap.size,1,none⟩ (qI b)).setCell ⟨X3.heap.size,2,none⟩ (qI c)):=((B7.setCell (p:=⟨X3.heap.size,0,none⟩) hAge _).setCell (p:=⟨X3.heap.size,1,none⟩) hAge _).setCell (p:=⟨X3.heap.size,2,none⟩) hAge _;have hk8:(((X7.setCell ⟨X3.heap.size,0,none⟩ (qI (t:Nat))).setCell ⟨X3.heap.size,1,none⟩ (qI b)).setCell ⟨X3.heap.size,2,none⟩ (qI c)).heap[X3.heap.size]? =some (qC #[qI (t:Nat),qI b,qI c] 287 (0,0)):=(zad (zad (zad hA7))).trans (by simp)
       go_wp2_with fail
       refine hK _ _ B8 ?_;clear hK K;obtain⟨X8,hX8⟩:∃ X,X=(((X7.setCell ⟨X3.heap.size,0,none⟩ (qI (t:Nat))).setCell ⟨X3.heap.size,1,none⟩ (qI b)).setCell ⟨X3.heap.size,2,none⟩ (qI c)):=⟨_,rfl⟩;rw [←hX8] at B8 hk8 ⊢;clear hX8 z0 z1 z2 f0 f1 f2;refine qT1 17 [] fun K hK=>?_
       go_wp2_with fail
       refine hK _ _ B8 ?_;clear hK K;refine za2 ?_;have q2:=zaa hk8 2;have BF:=hb02.trans (B8.mono hb02.size);go_wp2;go_ret2;exact⟨by rw [HB.out];rfl,BF⟩
      ·go_wp2_with fail
       refine hK _ _ (B3.alloc B3.size _) ?_;clear hK K;have B6:=B3.alloc B3.size (qC #[qI 0,qI 0,qI 0] 287);have hA6:=heap_alloc_new X3 (qC #[qI 0,qI 0,qI 0] 287);obtain⟨X6,hX6⟩:∃ X,X=X3.alloc (qC #[qI 0,qI 0,qI 0] 287):=⟨_,rfl⟩;rw [←hX6] at B6 hA6 ⊢;clear hX6;refine qT2 14 16 [16,17] [14,17] (fun K hK=>?_) fun K hK=>?_
       ·go_wp2_with fail
        refine hK _ _ B6 ?_;clear hK K;refine qT1 16 [17] fun K hK=>?_;have z0:=zaa hA6 0;have z1:=zaa hA6 1;have z2:=zaa hA6 2;have f0:=zab hA6 0;have f1:=zab hA6 1;have f2:=zab hA6 2;have hAge:w2.heap.size≤X3.heap.size:=B3.size;have B8:Below w2.heap.size w2 (((X6.setCell ⟨X3.heap.size,0,none⟩ (qI (t:Nat))).setCell ⟨X3.heap.size,1,none⟩ (qI b)).setCell ⟨X3.heap.size,2,none⟩ (qI c)):=((B6.setCell (p:=⟨X3.heap.size,0,none⟩) hAge _).setCell (p:=⟨X3.heap.size,1,none⟩) hAge _).setCell (p:=⟨X3.heap.size,2,none⟩) hAge _;have hk8:(((X6.setCell ⟨X3.heap.size,0,none⟩ (qI (t:Nat))).setCell ⟨X3.heap.size,1,none⟩ (qI b)).setCell ⟨X3.heap.size,2,none⟩ (qI c)).heap[X3.heap.size]? =some (qC #[qI (t:Nat),qI b,qI c] 287 (0,0)):=(zad (zad (zad hA6))).trans (by simp)
        go_wp2_with fail
        refine hK _ _ B8 ?_;clear hK K;obtain⟨X8,hX8⟩:∃ X,X=(((X6.setCell ⟨X3.heap.size,0,none⟩ (qI (t:Nat))).setCell ⟨X3.heap.size,1,none⟩ (qI b)).setCell ⟨X3.heap.size,2,none⟩ (qI c)):=⟨_,rfl⟩;rw [←hX8] at B8 hk8 ⊢;clear hX8 z0 z1 z2 f0 f1 f2;refine qT1 17 [] fun K hK=>?_
        go_wp2_with fail
        refine hK _ _ B8 ?_;clear hK K;refine za2 ?_;have q2:=zaa hk8 2;have BF:=hb02.trans (B8.mono hb02.size);go_wp2;go_ret2;exact⟨by rw [HB.out];rfl,BF⟩
       ·have z0:=zaa hA6 0
        have z1:=zaa hA6 1;have z2:=zaa hA6 2;have f0:=zab hA6 0;have f1:=zab hA6 1;have f2:=zab hA6 2;have hAge:w2.heap.size≤X3.heap.size:=B3.size;have B7:Below w2.heap.size w2 (((X6.setCell ⟨X3.heap.size,0,none⟩ (qI (t:Nat))).setCell ⟨X3.heap.size,1,none⟩ (qI b)).setCell ⟨X3.heap.size,2,none⟩ (qI c)):=((B6.setCell (p:=⟨X3.heap.size,0,none⟩) hAge _).setCell (p:=⟨X3.heap.size,1,none⟩) hAge _).setCell (p:=⟨X3.heap.size,2,none⟩) hAge _;have hk7:(((X6.setCell ⟨X3.heap.size,0,none⟩ (qI (t:Nat))).setCell ⟨X3.heap.size,1,none⟩ (qI b)).setCell ⟨X3.heap.size,2,none⟩ (qI c)).heap[X3.heap.size]? =some (qC #[qI (t:Nat),qI b,qI c] 287 (0,0)):=(zad (zad (zad hA6))).trans (by simp)
        go_wp2_with fail
        refine hK _ _ B7 ?_;clear hK K;obtain⟨X7,hX7⟩:∃ X,X=(((X6.setCell ⟨X3.heap.size,0,none⟩ (qI (t:Nat))).setCell ⟨X3.heap.size,1,none⟩ (qI b)).setCell ⟨X3.heap.size,2,none⟩ (qI c)):=⟨_,rfl⟩;rw [←hX7] at B7 hk7 ⊢;clear hX7 z0 z1 z2 f0 f1 f2;refine qT1 14 [17] fun K hK=>?_
        go_wp2_with fail
        refine hK _ _ B7 ?_;clear hK K;refine qT1 17 [] fun K hK=>?_
        go_wp2_with fail
        refine hK _ _ B7 ?_;clear hK K;refine za2 ?_;have q2:=zaa hk7 2;have BF:=hb02.trans (B7.mono hb02.size);go_wp2;go_ret2;exact⟨by rw [HB.out];rfl,BF⟩
     ·go_wp2_with fail
      refine hK _ _ B3 ?_;clear hK K;refine qT2 13 15 [15,16,17] [13,16,17] (fun K hK=>?_) fun K hK=>?_
      ·go_wp2_with fail
       refine hK _ _ B3 ?_;clear hK K;refine qT1 15 [16,17] fun K hK=>?_
       go_wp2_with fail
       refine hK _ _ (B3.alloc B3.size _) ?_;clear hK K;have B7:=B3.alloc B3.size (qC #[qI 0,qI 0,qI 0] 287);have hA7:=heap_alloc_new X3 (qC #[qI 0,qI 0,qI 0] 287);obtain⟨X7,hX7⟩:∃ X,X=X3.alloc (qC #[qI 0,qI 0,qI 0] 287):=⟨_,rfl⟩;rw [←hX7] at B7 hA7 ⊢;clear hX7;refine qT1 16 [17] fun K hK=>?_;have z0:=zaa hA7 0;have z1:=zaa hA7 1;have z2:=zaa hA7 2;have f0:=zab hA7 0;have f1:=zab hA7 1;have f2:=zab hA7 2;have hAge:w2.heap.size≤X3.heap.size:=B3.size;have B8:Below w2.heap.size w2 (((X7.setCell ⟨X3.heap.size,0,none⟩ (qI (t:Nat))).setCell ⟨X3.heap.size,1,none⟩ (qI b)).setCell ⟨X3.heap.size,2,none⟩ (qI c)):=((B7.setCell (p:=⟨X3.heap.size,0,none⟩) hAge _).setCell (p:=⟨X3.heap.size,1,none⟩) hAge _).setCell (p:=⟨X3.heap.size,2,none⟩) hAge _;have hk8:(((X7.setCell ⟨X3.heap.size,0,none⟩ (qI (t:Nat))).setCell ⟨X3.heap.size,1,none⟩ (qI b)).setCell ⟨X3.heap.size,2,none⟩ (qI c)).heap[X3.heap.size]? =some (qC #[qI (t:Nat),qI b,qI c] 287 (0,0)):=(zad (zad (zad hA7))).trans (by simp)
       go_wp2_with fail
       refine hK _ _ B8 ?_;clear hK K;obtain⟨X8,hX8⟩:∃ X,X=(((X7.setCell ⟨X3.heap.size,0,none⟩ (qI (t:Nat))).setCell ⟨X3.heap.size,1,none⟩ (qI b)).setCell ⟨X3.heap.size,2,none⟩ (qI c)):=⟨_,rfl⟩;rw [←hX8] at B8 hk8 ⊢;clear hX8 z0 z1 z2 f0 f1 f2;refine qT1 17 [] fun K hK=>?_
       go_wp2_with fail
       refine hK _ _ B8 ?_;clear hK K;refine za2 ?_;have q2:=zaa hk8 2;have BF:=hb02.trans (B8.mono hb02.size);go_wp2;go_ret2;exact⟨by rw [HB.out];rfl,BF⟩
      ·go_wp2_with fail
       refine hK _ _ (B3.alloc B3.size _) ?_;clear hK K;have B6:=B3.alloc B3.size (qC #[qI 0,qI 0,qI 0] 287);have hA6:=heap_alloc_new X3 (qC #[qI 0,qI 0,qI 0] 287);obtain⟨X6,hX6⟩:∃ X,X=X3.alloc (qC #[qI 0,qI 0,qI 0] 287):=⟨_,rfl⟩;rw [←hX6] at B6 hA6 ⊢;clear hX6;refine qT1 13 [16,17] fun K hK=>?_
       go_wp2_with fail
       refine hK _ _ B6 ?_;clear hK K;refine qT1 16 [17] fun K hK=>?_;have z0:=zaa hA6 0;have z1:=zaa hA6 1;have z2:=zaa hA6 2;have f0:=zab hA6 0;have f1:=zab hA6 1;have f2:=zab hA6 2;have hAge:w2.heap.size≤X3.heap.size:=B3.size;have B8:Below w2.heap.size w2 (((X6.setCell ⟨X3.heap.size,0,none⟩ (qI (t:Nat))).setCell ⟨X3.heap.size,1,none⟩ (qI b)).setCell ⟨X3.heap.size,2,none⟩ (qI c)):=((B6.setCell (p:=⟨X3.heap.size,0,none⟩) hAge _).setCell (p:=⟨X3.heap.size,1,none⟩) hAge _).setCell (p:=⟨X3.heap.size,2,none⟩) hAge _;have hk8:(((X6.setCell ⟨X3.heap.size,0,none⟩ (qI (t:Nat))).setCell ⟨X3.heap.size,1,none⟩ (qI b)).setCell ⟨X3.heap.size,2,none⟩ (qI c)).heap[X3.heap.size]? =some (qC #[qI (t:Nat),qI b,qI c] 287 (0,0)):=(zad (zad (zad hA6))).trans (by simp)
       go_wp2_with fail
       refine hK _ _ B8 ?_;clear hK K;obtain⟨X8,hX8⟩:∃ X,X=(((X6.setCell ⟨X3.heap.size,0,none⟩ (qI (t:Nat))).setCell ⟨X3.heap.size,1,none⟩ (qI b)).setCell ⟨X3.heap.size,2,none⟩ (qI c)):=⟨_,rfl⟩;rw [←hX8] at B8 hk8 ⊢;clear hX8 z0 z1 z2 f0 f1 f2;refine qT1 17 [] fun K hK=>?_
       go_wp2_with fail
       refine hK _ _ B8 ?_;clear hK K;refine za2 ?_;have q2:=zaa hk8 2;have BF:=hb02.trans (B8.mono hb02.size);go_wp2;go_ret2;exact⟨by rw [HB.out];rfl,BF⟩
     ·go_wp2_with fail
      refine hK _ _ (B3.alloc B3.size _) ?_;clear hK K;have B5:=B3.alloc B3.size (qC #[qI 0,qI 0,qI 0] 287);have hA5:=heap_alloc_new X3 (qC #[qI 0,qI 0,qI 0] 287);obtain⟨X5,hX5⟩:∃ X,X=X3.alloc (qC #[qI 0,qI 0,qI 0] 287):=⟨_,rfl⟩;rw [←hX5] at B5 hA5 ⊢;clear hX5;refine qT2 13 14 [14,16,17] [13,16,17] (fun K hK=>?_) fun K hK=>?_
      ·go_wp2_with fail
       refine hK _ _ B5 ?_;clear hK K;refine qT2 14 16 [16,17] [14,17] (fun K hK=>?_) fun K hK=>?_
       ·go_wp2_with fail
        refine hK _ _ B5 ?_;clear hK K;refine qT1 16 [17] fun K hK=>?_;have z0:=zaa hA5 0;have z1:=zaa hA5 1;have z2:=zaa hA5 2;have f0:=zab hA5 0;have f1:=zab hA5 1;have f2:=zab hA5 2;have hAge:w2.heap.size≤X3.heap.size:=B3.size;have B8:Below w2.heap.size w2 (((X5.setCell ⟨X3.heap.size,0,none⟩ (qI (t:Nat))).setCell ⟨X3.heap.size,1,none⟩ (qI b)).setCell ⟨X3.heap.size,2,none⟩ (qI c)):=((B5.setCell (p:=⟨X3.heap.size,0,none⟩) hAge _).setCell (p:=⟨X3.heap.size,1,none⟩) hAge _).setCell (p:=⟨X3.heap.size,2,none⟩) hAge _;have hk8:(((X5.setCell ⟨X3.heap.size,0,none⟩ (qI (t:Nat))).setCell ⟨X3.heap.size,1,none⟩ (qI b)).setCell ⟨X3.heap.size,2,none⟩ (qI c)).heap[X3.heap.size]? =some (qC #[qI (t:Nat),qI b,qI c] 287 (0,0)):=(zad (zad (zad hA5))).trans (by simp)
        go_wp2_with fail
        refine hK _ _ B8 ?_;clear hK K;obtain⟨X8,hX8⟩:∃ X,X=(((X5.setCell ⟨X3.heap.size,0,none⟩ (qI (t:Nat))).setCell ⟨X3.heap.size,1,none⟩ (qI b)).setCell ⟨X3.heap.size,2,none⟩ (qI c)):=⟨_,rfl⟩;rw [←hX8] at B8 hk8 ⊢;clear hX8 z0 z1 z2 f0 f1 f2;refine qT1 17 [] fun K hK=>?_
        go_wp2_with fail
        refine hK _ _ B8 ?_;clear hK K;refine za2 ?_;have q2:=zaa hk8 2;have BF:=hb02.trans (B8.mono hb02.size);go_wp2;go_ret2;exact⟨by rw [HB.out];rfl,BF⟩
       ·have z0:=zaa hA5 0
        have z1:=zaa hA5 1;have z2:=zaa hA5 2;have f0:=zab hA5 0;have f1:=zab hA5 1;have f2:=zab hA5 2;have hAge:w2.heap.size≤X3.heap.size:=B3.size;have B7:Below w2.heap.size w2 (((X5.setCell ⟨X3.heap.size,0,none⟩ (qI (t:Nat))).setCell ⟨X3.heap.size,1,none⟩ (qI b)).setCell ⟨X3.heap.size,2,none⟩ (qI c)):=((B5.setCell (p:=⟨X3.heap.size,0,none⟩) hAge _).setCell (p:=⟨X3.heap.size,1,none⟩) hAge _).setCell (p:=⟨X3.heap.size,2,none⟩) hAge _;have hk7:(((X5.setCell ⟨X3.heap.size,0,none⟩ (qI (t:Nat))).setCell ⟨X3.heap.size,1,none⟩ (qI b)).setCell ⟨X3.heap.size,2,none⟩ (qI c)).heap[X3.heap.size]? =some (qC #[qI (t:Nat),qI b,qI c] 287 (0,0)):=(zad (zad (zad hA5))).trans (by simp)
        go_wp2_with fail
        refine hK _ _ B7 ?_;clear hK K;obtain⟨X7,hX7⟩:∃ X,X=(((X5.setCell ⟨X3.heap.size,0,none⟩ (qI (t:Nat))).setCell ⟨X3.heap.size,1,none⟩ (qI b)).setCell ⟨X3.heap.size,2,none⟩ (qI c)):=⟨_,rfl⟩;rw [←hX7] at B7 hk7 ⊢;clear hX7 z0 z1 z2 f0 f1 f2;refine qT1 14 [17] fun K hK=>?_
        go_wp2_with fail
        refine hK _ _ B7 ?_;clear hK K;refine qT1 17 [] fun K hK=>?_
        go_wp2_with fail
        refine hK _ _ B7 ?_;clear hK K;refine za2 ?_;have q2:=zaa hk7 2;have BF:=hb02.trans (B7.mono hb02.size);go_wp2;go_ret2;exact⟨by rw [HB.out];rfl,BF⟩
      ·go_wp2_with fail
       refine hK _ _ B5 ?_;clear hK K;refine qT1 13 [16,17] fun K hK=>?_
       go_wp2_with fail
       refine hK _ _ B5 ?_;clear hK K;refine qT1 16 [17] fun K hK=>?_;have z0:=zaa hA5 0;have z1:=zaa hA5 1;have z2:=zaa hA5 2;have f0:=zab hA5 0;have f1:=zab hA5 1;have f2:=zab hA5 2;have hAge:w2.heap.size≤X3.heap.size:=B3.size;have B8:Below w2.heap.size w2 (((X5.setCell ⟨X3.heap.size,0,none⟩ (qI (t:Nat))).setCell ⟨X3.heap.size,1,none⟩ (qI b)).setCell ⟨X3.heap.size,2,none⟩ (qI c)):=((B5.setCell (p:=⟨X3.heap.size,0,none⟩) hAge _).setCell (p:=⟨X3.heap.size,1,none⟩) hAge _).setCell (p:=⟨X3.heap.size,2,none⟩) hAge _;have hk8:(((X5.setCell ⟨X3.heap.size,0,none⟩ (qI (t:Nat))).setCell ⟨X3.heap.size,1,none⟩ (qI b)).setCell ⟨X3.heap.size,2,none⟩ (qI c)).heap[X3.heap.size]? =some (qC #[qI (t:Nat),qI b,qI c] 287 (0,0)):=(zad (zad (zad hA5))).trans (by simp)
       go_wp2_with fail
       refine hK _ _ B8 ?_;clear hK K;obtain⟨X8,hX8⟩:∃ X,X=(((X5.setCell ⟨X3.heap.size,0,none⟩ (qI (t:Nat))).setCell ⟨X3.heap.size,1,none⟩ (qI b)).setCell ⟨X3.heap.size,2,none⟩ (qI c)):=⟨_,rfl⟩;rw [←hX8] at B8 hk8 ⊢;clear hX8 z0 z1 z2 f0 f1 f2;refine qT1 17 [] fun K hK=>?_
       go_wp2_with fail
       refine hK _ _ B8 ?_;clear hK K;refine za2 ?_;have q2:=zaa hk8 2;have BF:=hb02.trans (B8.mono hb02.size);go_wp2;go_ret2;exact⟨by rw [HB.out];rfl,BF⟩
    ·go_wp2_with fail
     refine hK _ _ (B3.alloc B3.size _) ?_;clear hK K;have B4:=B3.alloc B3.size (qC #[qI 0,qI 0,qI 0] 287);have hA4:=heap_alloc_new X3 (qC #[qI 0,qI 0,qI 0] 287);obtain⟨X4,hX4⟩:∃ X,X=X3.alloc (qC #[qI 0,qI 0,qI 0] 287):=⟨_,rfl⟩;rw [←hX4] at B4 hA4 ⊢;clear hX4;refine qT1 12 [13,14,16,17] fun K hK=>?_
     go_wp2_with fail
     refine hK _ _ B4 ?_;clear hK K;refine qT2 13 14 [14,16,17] [13,16,17] (fun K hK=>?_) fun K hK=>?_
     ·go_wp2_with fail
      refine hK _ _ B4 ?_;clear hK K;refine qT2 14 16 [16,17] [14,17] (fun K hK=>?_) fun K hK=>?_
      ·go_wp2_with fail
       refine hK _ _ B4 ?_;clear hK K;refine qT1 16 [17] fun K hK=>?_;have z0:=zaa hA4 0;have z1:=zaa hA4 1;have z2:=zaa hA4 2;have f0:=zab hA4 0;have f1:=zab hA4 1;have f2:=zab hA4 2;have hAge:w2.heap.size≤X3.heap.size:=B3.size;have B8:Below w2.heap.size w2 (((X4.setCell ⟨X3.heap.size,0,none⟩ (qI (t:Nat))).setCell ⟨X3.heap.size,1,none⟩ (qI b)).setCell ⟨X3.heap.size,2,none⟩ (qI c)):=((B4.setCell (p:=⟨X3.heap.size,0,none⟩) hAge _).setCell (p:=⟨X3.heap.size,1,none⟩) hAge _).setCell (p:=⟨X3.heap.size,2,none⟩) hAge _;have hk8:(((X4.setCell ⟨X3.heap.size,0,none⟩ (qI (t:Nat))).setCell ⟨X3.heap.size,1,none⟩ (qI b)).setCell ⟨X3.heap.size,2,none⟩ (qI c)).heap[X3.heap.size]? =some (qC #[qI (t:Nat),qI b,qI c] 287 (0,0)):=(zad (zad (zad hA4))).trans (by simp)
       go_wp2_with fail
       refine hK _ _ B8 ?_;clear hK K;obtain⟨X8,hX8⟩:∃ X,X=(((X4.setCell ⟨X3.heap.size,0,none⟩ (qI (t:Nat))).setCell ⟨X3.heap.size,1,none⟩ (qI b)).setCell ⟨X3.heap.size,2,none⟩ (qI c)):=⟨_,rfl⟩;rw [←hX8] at B8 hk8 ⊢;clear hX8 z0 z1 z2 f0 f1 f2;refine qT1 17 [] fun K hK=>?_
       go_wp2_with fail
       refine hK _ _ B8 ?_;clear hK K;refine za2 ?_;have q2:=zaa hk8 2;have BF:=hb02.trans (B8.mono hb02.size);go_wp2;go_ret2;exact⟨by rw [HB.out];rfl,BF⟩
      ·have z0:=zaa hA4 0
       have z1:=zaa hA4 1;have z2:=zaa hA4 2;have f0:=zab hA4 0;have f1:=zab hA4 1;have f2:=zab hA4 2;have hAge:w2.heap.size≤X3.heap.size:=B3.size;have B7:Below w2.heap.size w2 (((X4.setCell ⟨X3.heap.size,0,none⟩ (qI (t:Nat))).setCell ⟨X3.heap.size,1,none⟩ (qI b)).setCell ⟨X3.heap.size,2,none⟩ (qI c)):=((B4.setCell (p:=⟨X3.heap.size,0,none⟩) hAge _).setCell (p:=⟨X3.heap.size,1,none⟩) hAge _).setCell (p:=⟨X3.heap.size,2,none⟩) hAge _;have hk7:(((X4.setCell ⟨X3.heap.size,0,none⟩ (qI (t:Nat))).setCell ⟨X3.heap.size,1,none⟩ (qI b)).setCell ⟨X3.heap.size,2,none⟩ (qI c)).heap[X3.heap.size]? =some (qC #[qI (t:Nat),qI b,qI c] 287 (0,0)):=(zad (zad (zad hA4))).trans (by simp)
       go_wp2_with fail
       refine hK _ _ B7 ?_;clear hK K;obtain⟨X7,hX7⟩:∃ X,X=(((X4.setCell ⟨X3.heap.size,0,none⟩ (qI (t:Nat))).setCell ⟨X3.heap.size,1,none⟩ (qI b)).setCell ⟨X3.heap.size,2,none⟩ (qI c)):=⟨_,rfl⟩;rw [←hX7] at B7 hk7 ⊢;clear hX7 z0 z1 z2 f0 f1 f2;refine qT1 14 [17] fun K hK=>?_
       go_wp2_with fail
       refine hK _ _ B7 ?_;clear hK K;refine qT1 17 [] fun K hK=>?_
       go_wp2_with fail
       refine hK _ _ B7 ?_;clear hK K;refine za2 ?_;have q2:=zaa hk7 2;have BF:=hb02.trans (B7.mono hb02.size);go_wp2;go_ret2;exact⟨by rw [HB.out];rfl,BF⟩
     ·go_wp2_with fail
      refine hK _ _ B4 ?_;clear hK K;refine qT1 13 [16,17] fun K hK=>?_
      go_wp2_with fail
      refine hK _ _ B4 ?_;clear hK K;refine qT1 16 [17] fun K hK=>?_;have z0:=zaa hA4 0;have z1:=zaa hA4 1;have z2:=zaa hA4 2;have f0:=zab hA4 0;have f1:=zab hA4 1;have f2:=zab hA4 2;have hAge:w2.heap.size≤X3.heap.size:=B3.size;have B8:Below w2.heap.size w2 (((X4.setCell ⟨X3.heap.size,0,none⟩ (qI (t:Nat))).setCell ⟨X3.heap.size,1,none⟩ (qI b)).setCell ⟨X3.heap.size,2,none⟩ (qI c)):=((B4.setCell (p:=⟨X3.heap.size,0,none⟩) hAge _).setCell (p:=⟨X3.heap.size,1,none⟩) hAge _).setCell (p:=⟨X3.heap.size,2,none⟩) hAge _;have hk8:(((X4.setCell ⟨X3.heap.size,0,none⟩ (qI (t:Nat))).setCell ⟨X3.heap.size,1,none⟩ (qI b)).setCell ⟨X3.heap.size,2,none⟩ (qI c)).heap[X3.heap.size]? =some (qC #[qI (t:Nat),qI b,qI c] 287 (0,0)):=(zad (zad (zad hA4))).trans (by simp)
      go_wp2_with fail
      refine hK _ _ B8 ?_;clear hK K;obtain⟨X8,hX8⟩:∃ X,X=(((X4.setCell ⟨X3.heap.size,0,none⟩ (qI (t:Nat))).setCell ⟨X3.heap.size,1,none⟩ (qI b)).setCell ⟨X3.heap.size,2,none⟩ (qI c)):=⟨_,rfl⟩;rw [←hX8] at B8 hk8 ⊢;clear hX8 z0 z1 z2 f0 f1 f2;refine qT1 17 [] fun K hK=>?_
      go_wp2_with fail
      refine hK _ _ B8 ?_;clear hK K;refine za2 ?_;have q2:=zaa hk8 2;have BF:=hb02.trans (B8.mono hb02.size);go_wp2;go_ret2;exact⟨by rw [HB.out];rfl,BF⟩
   ·go_wp2_with fail
    refine hK _ _ (B2.alloc B2.size _) ?_;clear hK K;have B3:=B2.alloc B2.size (qC #[qI 0,qI 0,qI 0] 287);have hA3:=heap_alloc_new X2 (qC #[qI 0,qI 0,qI 0] 287);obtain⟨X3,hX3⟩:∃ X,X=X2.alloc (qC #[qI 0,qI 0,qI 0] 287):=⟨_,rfl⟩;rw [←hX3] at B3 hA3 ⊢;clear hX3;refine qT1 11 [12,13,14,16,17] fun K hK=>?_
    go_wp2_with fail
    refine (HRS.out _ B3).mono ?_;rintro e X4 ⟨rfl,hb4⟩;have B4:=B3.trans (hb4.mono B3.size);have hA4:=qBa hb4 hA3
    go_wp2_with fail
    refine hK _ _ B4 ?_;clear hK K;refine qT1 12 [13,14,16,17] fun K hK=>?_
    go_wp2_with fail
    refine hK _ _ B4 ?_;clear hK K;refine qT2 13 14 [14,16,17] [13,16,17] (fun K hK=>?_) fun K hK=>?_
    ·go_wp2_with fail
     refine hK _ _ B4 ?_;clear hK K;refine qT2 14 16 [16,17] [14,17] (fun K hK=>?_) fun K hK=>?_
     ·go_wp2_with fail
      refine hK _ _ B4 ?_;clear hK K;refine qT1 16 [17] fun K hK=>?_;have z0:=zaa hA4 0;have z1:=zaa hA4 1;have z2:=zaa hA4 2;have f0:=zab hA4 0;have f1:=zab hA4 1;have f2:=zab hA4 2;have hAge:w2.heap.size≤X2.heap.size:=B2.size;have B8:Below w2.heap.size w2 (((X4.setCell ⟨X2.heap.size,0,none⟩ (qI (t:Nat))).setCell ⟨X2.heap.size,1,none⟩ (qI b)).setCell ⟨X2.heap.size,2,none⟩ (qI c)):=((B4.setCell (p:=⟨X2.heap.size,0,none⟩) hAge _).setCell (p:=⟨X2.heap.size,1,none⟩) hAge _).setCell (p:=⟨X2.heap.size,2,none⟩) hAge _;have hk8:(((X4.setCell ⟨X2.heap.size,0,none⟩ (qI (t:Nat))).setCell ⟨X2.heap.size,1,none⟩ (qI b)).setCell ⟨X2.heap.size,2,none⟩ (qI c)).heap[X2.heap.size]? =some (qC #[qI (t:Nat),qI b,qI c] 287 (0,0)):=(zad (zad (zad hA4))).trans (by simp)
      go_wp2_with fail
      refine hK _ _ B8 ?_;clear hK K;obtain⟨X8,hX8⟩:∃ X,X=(((X4.setCell ⟨X2.heap.size,0,none⟩ (qI (t:Nat))).setCell ⟨X2.heap.size,1,none⟩ (qI b)).setCell ⟨X2.heap.size,2,none⟩ (qI c)):=⟨_,rfl⟩;rw [←hX8] at B8 hk8 ⊢;clear hX8 z0 z1 z2 f0 f1 f2;refine qT1 17 [] fun K hK=>?_
      go_wp2_with fail
      refine hK _ _ B8 ?_;clear hK K;refine za2 ?_;have q2:=zaa hk8 2;have BF:=hb02.trans (B8.mono hb02.size);go_wp2;go_ret2;exact⟨by rw [HB.out];rfl,BF⟩
     ·have z0:=zaa hA4 0
      have z1:=zaa hA4 1;have z2:=zaa hA4 2;have f0:=zab hA4 0;have f1:=zab hA4 1;have f2:=zab hA4 2;have hAge:w2.heap.size≤X2.heap.size:=B2.size;have B7:Below w2.heap.size w2 (((X4.setCell ⟨X2.heap.size,0,none⟩ (qI (t:Nat))).setCell ⟨X2.heap.size,1,none⟩ (qI b)).setCell ⟨X2.heap.size,2,none⟩ (qI c)):=((B4.setCell (p:=⟨X2.heap.size,0,none⟩) hAge _).setCell (p:=⟨X2.heap.size,1,none⟩) hAge _).setCell (p:=⟨X2.heap.size,2,none⟩) hAge _;have hk7:(((X4.setCell ⟨X2.heap.size,0,none⟩ (qI (t:Nat))).setCell ⟨X2.heap.size,1,none⟩ (qI b)).setCell ⟨X2.heap.size,2,none⟩ (qI c)).heap[X2.heap.size]? =some (qC #[qI (t:Nat),qI b,qI c] 287 (0,0)):=(zad (zad (zad hA4))).trans (by simp)
      go_wp2_with fail
      refine hK _ _ B7 ?_;clear hK K;obtain⟨X7,hX7⟩:∃ X,X=(((X4.setCell ⟨X2.heap.size,0,none⟩ (qI (t:Nat))).setCell ⟨X2.heap.size,1,none⟩ (qI b)).setCell ⟨X2.heap.size,2,none⟩ (qI c)):=⟨_,rfl⟩;rw [←hX7] at B7 hk7 ⊢;clear hX7 z0 z1 z2 f0 f1 f2;refine qT1 14 [17] fun K hK=>?_
      go_wp2_with fail
      refine hK _ _ B7 ?_;clear hK K;refine qT1 17 [] fun K hK=>?_
      go_wp2_with fail
      refine hK _ _ B7 ?_;clear hK K;refine za2 ?_;have q2:=zaa hk7 2;have BF:=hb02.trans (B7.mono hb02.size);go_wp2;go_ret2;exact⟨by rw [HB.out];rfl,BF⟩
    ·go_wp2_with fail
     refine hK _ _ B4 ?_;clear hK K;refine qT1 13 [16,17] fun K hK=>?_
     go_wp2_with fail
     refine hK _ _ B4 ?_;clear hK K;refine qT1 16 [17] fun K hK=>?_;have z0:=zaa hA4 0;have z1:=zaa hA4 1;have z2:=zaa hA4 2;have f0:=zab hA4 0;have f1:=zab hA4 1;have f2:=zab hA4 2;have hAge:w2.heap.size≤X2.heap.size:=B2.size;have B8:Below w2.heap.size w2 (((X4.setCell ⟨X2.heap.size,0,none⟩ (qI (t:Nat))).setCell ⟨X2.heap.size,1,none⟩ (qI b)).setCell ⟨X2.heap.size,2,none⟩ (qI c)):=((B4.setCell (p:=⟨X2.heap.size,0,none⟩) hAge _).setCell (p:=⟨X2.heap.size,1,none⟩) hAge _).setCell (p:=⟨X2.heap.size,2,none⟩) hAge _;have hk8:(((X4.setCell ⟨X2.heap.size,0,none⟩ (qI (t:Nat))).setCell ⟨X2.heap.size,1,none⟩ (qI b)).setCell ⟨X2.heap.size,2,none⟩ (qI c)).heap[X2.heap.size]? =some (qC #[qI (t:Nat),qI b,qI c] 287 (0,0)):=(zad (zad (zad hA4))).trans (by simp)
     go_wp2_with fail
     refine hK _ _ B8 ?_;clear hK K;obtain⟨X8,hX8⟩:∃ X,X=(((X4.setCell ⟨X2.heap.size,0,none⟩ (qI (t:Nat))).setCell ⟨X2.heap.size,1,none⟩ (qI b)).setCell ⟨X2.heap.size,2,none⟩ (qI c)):=⟨_,rfl⟩;rw [←hX8] at B8 hk8 ⊢;clear hX8 z0 z1 z2 f0 f1 f2;refine qT1 17 [] fun K hK=>?_
     go_wp2_with fail
     refine hK _ _ B8 ?_;clear hK K;refine za2 ?_;have q2:=zaa hk8 2;have BF:=hb02.trans (B8.mono hb02.size);go_wp2;go_ret2;exact⟨by rw [HB.out];rfl,BF⟩
  ·go_wp2_with fail
   refine hK _ _ (B1.alloc B1.size _) ?_;clear hK K;have B2:=B1.alloc B1.size (qC #[qI 0,qI 0,qI 0] 287);have hA2:=heap_alloc_new X1 (qC #[qI 0,qI 0,qI 0] 287);obtain⟨X2,hX2⟩:∃ X,X=X1.alloc (qC #[qI 0,qI 0,qI 0] 287):=⟨_,rfl⟩;rw [←hX2] at B2 hA2 ⊢;clear hX2;refine qT1 7 [11,12,13,14,16,17] fun K hK=>?_
   go_wp2_with fail
   refine (HBO.out _).mono ?_;rintro e X3 ⟨rfl,hb3⟩;have B3:=B2.trans (hb3.mono B2.size);have hA3:=qBa hb3 hA2
   go_wp2_with fail
   refine hK _ _ B3 ?_;clear hK K;refine qT1 11 [12,13,14,16,17] fun K hK=>?_
   go_wp2_with fail
   refine (HRS.out _ B3).mono ?_;rintro e X4 ⟨rfl,hb4⟩;have B4:=B3.trans (hb4.mono B3.size);have hA4:=qBa hb4 hA3
   go_wp2_with fail
   refine hK _ _ B4 ?_;clear hK K;refine qT1 12 [13,14,16,17] fun K hK=>?_
   go_wp2_with fail
   refine hK _ _ B4 ?_;clear hK K;refine qT2 13 14 [14,16,17] [13,16,17] (fun K hK=>?_) fun K hK=>?_
   ·go_wp2_with fail
    refine hK _ _ B4 ?_;clear hK K;refine qT2 14 16 [16,17] [14,17] (fun K hK=>?_) fun K hK=>?_
    ·go_wp2_with fail
     refine hK _ _ B4 ?_;clear hK K;refine qT1 16 [17] fun K hK=>?_;have z0:=zaa hA4 0;have z1:=zaa hA4 1;have z2:=zaa hA4 2;have f0:=zab hA4 0;have f1:=zab hA4 1;have f2:=zab hA4 2;have hAge:w2.heap.size≤X1.heap.size:=B1.size;have B8:Below w2.heap.size w2 (((X4.setCell ⟨X1.heap.size,0,none⟩ (qI (t:Nat))).setCell ⟨X1.heap.size,1,none⟩ (qI b)).setCell ⟨X1.heap.size,2,none⟩ (qI c)):=((B4.setCell (p:=⟨X1.heap.size,0,none⟩) hAge _).setCell (p:=⟨X1.heap.size,1,none⟩) hAge _).setCell (p:=⟨X1.heap.size,2,none⟩) hAge _;have hk8:(((X4.setCell ⟨X1.heap.size,0,none⟩ (qI (t:Nat))).setCell ⟨X1.heap.size,1,none⟩ (qI b)).setCell ⟨X1.heap.size,2,none⟩ (qI c)).heap[X1.heap.size]? =some (qC #[qI (t:Nat),qI b,qI c] 287 (0,0)):=(zad (zad (zad hA4))).trans (by simp)
     go_wp2_with fail
     refine hK _ _ B8 ?_;clear hK K;obtain⟨X8,hX8⟩:∃ X,X=(((X4.setCell ⟨X1.heap.size,0,none⟩ (qI (t:Nat))).setCell ⟨X1.heap.size,1,none⟩ (qI b)).setCell ⟨X1.heap.size,2,none⟩ (qI c)):=⟨_,rfl⟩;rw [←hX8] at B8 hk8 ⊢;clear hX8 z0 z1 z2 f0 f1 f2;refine qT1 17 [] fun K hK=>?_
     go_wp2_with fail
     refine hK _ _ B8 ?_;clear hK K;refine za2 ?_;have q2:=zaa hk8 2;have BF:=hb02.trans (B8.mono hb02.size);go_wp2;go_ret2;exact⟨by rw [HB.out];rfl,BF⟩
    ·have z0:=zaa hA4 0
     have z1:=zaa hA4 1;have z2:=zaa hA4 2;have f0:=zab hA4 0;have f1:=zab hA4 1;have f2:=zab hA4 2;have hAge:w2.heap.size≤X1.heap.size:=B1.size;have B7:Below w2.heap.size w2 (((X4.setCell ⟨X1.heap.size,0,none⟩ (qI (t:Nat))).setCell ⟨X1.heap.size,1,none⟩ (qI b)).setCell ⟨X1.heap.size,2,none⟩ (qI c)):=((B4.setCell (p:=⟨X1.heap.size,0,none⟩) hAge _).setCell (p:=⟨X1.heap.size,1,none⟩) hAge _).setCell (p:=⟨X1.heap.size,2,none⟩) hAge _;have hk7:(((X4.setCell ⟨X1.heap.size,0,none⟩ (qI (t:Nat))).setCell ⟨X1.heap.size,1,none⟩ (qI b)).setCell ⟨X1.heap.size,2,none⟩ (qI c)).heap[X1.heap.size]? =some (qC #[qI (t:Nat),qI b,qI c] 287 (0,0)):=(zad (zad (zad hA4))).trans (by simp)
     go_wp2_with fail
     refine hK _ _ B7 ?_;clear hK K;obtain⟨X7,hX7⟩:∃ X,X=(((X4.setCell ⟨X1.heap.size,0,none⟩ (qI (t:Nat))).setCell ⟨X1.heap.size,1,none⟩ (qI b)).setCell ⟨X1.heap.size,2,none⟩ (qI c)):=⟨_,rfl⟩;rw [←hX7] at B7 hk7 ⊢;clear hX7 z0 z1 z2 f0 f1 f2;refine qT1 14 [17] fun K hK=>?_
     go_wp2_with fail
     refine hK _ _ B7 ?_;clear hK K;refine qT1 17 [] fun K hK=>?_
     go_wp2_with fail
     refine hK _ _ B7 ?_;clear hK K;refine za2 ?_;have q2:=zaa hk7 2;have BF:=hb02.trans (B7.mono hb02.size);go_wp2;go_ret2;exact⟨by rw [HB.out];rfl,BF⟩
   ·go_wp2_with fail
    refine hK _ _ B4 ?_;clear hK K;refine qT1 13 [16,17] fun K hK=>?_
    go_wp2_with fail
    refine hK _ _ B4 ?_;clear hK K;refine qT1 16 [17] fun K hK=>?_;have z0:=zaa hA4 0;have z1:=zaa hA4 1;have z2:=zaa hA4 2;have f0:=zab hA4 0;have f1:=zab hA4 1;have f2:=zab hA4 2;have hAge:w2.heap.size≤X1.heap.size:=B1.size;have B8:Below w2.heap.size w2 (((X4.setCell ⟨X1.heap.size,0,none⟩ (qI (t:Nat))).setCell ⟨X1.heap.size,1,none⟩ (qI b)).setCell ⟨X1.heap.size,2,none⟩ (qI c)):=((B4.setCell (p:=⟨X1.heap.size,0,none⟩) hAge _).setCell (p:=⟨X1.heap.size,1,none⟩) hAge _).setCell (p:=⟨X1.heap.size,2,none⟩) hAge _;have hk8:(((X4.setCell ⟨X1.heap.size,0,none⟩ (qI (t:Nat))).setCell ⟨X1.heap.size,1,none⟩ (qI b)).setCell ⟨X1.heap.size,2,none⟩ (qI c)).heap[X1.heap.size]? =some (qC #[qI (t:Nat),qI b,qI c] 287 (0,0)):=(zad (zad (zad hA4))).trans (by simp)
    go_wp2_with fail
    refine hK _ _ B8 ?_;clear hK K;obtain⟨X8,hX8⟩:∃ X,X=(((X4.setCell ⟨X1.heap.size,0,none⟩ (qI (t:Nat))).setCell ⟨X1.heap.size,1,none⟩ (qI b)).setCell ⟨X1.heap.size,2,none⟩ (qI c)):=⟨_,rfl⟩;rw [←hX8] at B8 hk8 ⊢;clear hX8 z0 z1 z2 f0 f1 f2;refine qT1 17 [] fun K hK=>?_
    go_wp2_with fail
    refine hK _ _ B8 ?_;clear hK K;refine za2 ?_;have q2:=zaa hk8 2;have BF:=hb02.trans (B8.mono hb02.size);go_wp2;go_ret2;exact⟨by rw [HB.out];rfl,BF⟩
 ·go_wp2_with fail
  refine hK _ _ (B0.alloc B0.size _) ?_;clear hK K;have B1:=B0.alloc B0.size (qC #[qI 0,qI 0,qI 0] 287);have hA1:=heap_alloc_new X0 (qC #[qI 0,qI 0,qI 0] 287);obtain⟨X1,hX1⟩:∃ X,X=X0.alloc (qC #[qI 0,qI 0,qI 0] 287):=⟨_,rfl⟩;rw [←hX1] at B1 hA1 ⊢;clear hX1;refine qT1 4 [7,11,12,13,14,16,17] fun K hK=>?_
  go_wp2_with fail
  refine (HTO.out _).mono ?_;rintro e X2 ⟨rfl,hb2⟩;have B2:=B1.trans (hb2.mono B1.size);have hA2:=qBa hb2 hA1
  go_wp2_with fail
  refine hK _ _ B2 ?_;clear hK K;refine qT1 7 [11,12,13,14,16,17] fun K hK=>?_
  go_wp2_with fail
  refine (HBO.out _).mono ?_;rintro e X3 ⟨rfl,hb3⟩;have B3:=B2.trans (hb3.mono B2.size);have hA3:=qBa hb3 hA2
  go_wp2_with fail
  refine hK _ _ B3 ?_;clear hK K;refine qT1 11 [12,13,14,16,17] fun K hK=>?_
  go_wp2_with fail
  refine (HRS.out _ B3).mono ?_;rintro e X4 ⟨rfl,hb4⟩;have B4:=B3.trans (hb4.mono B3.size);have hA4:=qBa hb4 hA3
  go_wp2_with fail
  refine hK _ _ B4 ?_;clear hK K;refine qT1 12 [13,14,16,17] fun K hK=>?_
  go_wp2_with fail
  refine hK _ _ B4 ?_;clear hK K;refine qT2 13 14 [14,16,17] [13,16,17] (fun K hK=>?_) fun K hK=>?_
  ·go_wp2_with fail
   refine hK _ _ B4 ?_;clear hK K;refine qT2 14 16 [16,17] [14,17] (fun K hK=>?_) fun K hK=>?_
   ·go_wp2_with fail
    refine hK _ _ B4 ?_;clear hK K;refine qT1 16 [17] fun K hK=>?_;have z0:=zaa hA4 0;have z1:=zaa hA4 1;have z2:=zaa hA4 2;have f0:=zab hA4 0;have f1:=zab hA4 1;have f2:=zab hA4 2;have hAge:w2.heap.size≤X0.heap.size:=B0.size;have B8:Below w2.heap.size w2 (((X4.setCell ⟨X0.heap.size,0,none⟩ (qI (t:Nat))).setCell ⟨X0.heap.size,1,none⟩ (qI b)).setCell ⟨X0.heap.size,2,none⟩ (qI c)):=((B4.setCell (p:=⟨X0.heap.size,0,none⟩) hAge _).setCell (p:=⟨X0.heap.size,1,none⟩) hAge _).setCell (p:=⟨X0.heap.size,2,none⟩) hAge _;have hk8:(((X4.setCell ⟨X0.heap.size,0,none⟩ (qI (t:Nat))).setCell ⟨X0.heap.size,1,none⟩ (qI b)).setCell ⟨X0.heap.size,2,none⟩ (qI c)).heap[X0.heap.size]? =some (qC #[qI (t:Nat),qI b,qI c] 287 (0,0)):=(zad (zad (zad hA4))).trans (by simp)
    go_wp2_with fail
    refine hK _ _ B8 ?_;clear hK K;obtain⟨X8,hX8⟩:∃ X,X=(((X4.setCell ⟨X0.heap.size,0,none⟩ (qI (t:Nat))).setCell ⟨X0.heap.size,1,none⟩ (qI b)).setCell ⟨X0.heap.size,2,none⟩ (qI c)):=⟨_,rfl⟩;rw [←hX8] at B8 hk8 ⊢;clear hX8 z0 z1 z2 f0 f1 f2;refine qT1 17 [] fun K hK=>?_
    go_wp2_with fail
    refine hK _ _ B8 ?_;clear hK K;refine za2 ?_;have q2:=zaa hk8 2;have BF:=hb02.trans (B8.mono hb02.size);go_wp2;go_ret2;exact⟨by rw [HB.out];rfl,BF⟩
   ·have z0:=zaa hA4 0
    have z1:=zaa hA4 1;have z2:=zaa hA4 2;have f0:=zab hA4 0;have f1:=zab hA4 1;have f2:=zab hA4 2;have hAge:w2.heap.size≤X0.heap.size:=B0.size;have B7:Below w2.heap.size w2 (((X4.setCell ⟨X0.heap.size,0,none⟩ (qI (t:Nat))).setCell ⟨X0.heap.size,1,none⟩ (qI b)).setCell ⟨X0.heap.size,2,none⟩ (qI c)):=((B4.setCell (p:=⟨X0.heap.size,0,none⟩) hAge _).setCell (p:=⟨X0.heap.size,1,none⟩) hAge _).setCell (p:=⟨X0.heap.size,2,none⟩) hAge _;have hk7:(((X4.setCell ⟨X0.heap.size,0,none⟩ (qI (t:Nat))).setCell ⟨X0.heap.size,1,none⟩ (qI b)).setCell ⟨X0.heap.size,2,none⟩ (qI c)).heap[X0.heap.size]? =some (qC #[qI (t:Nat),qI b,qI c] 287 (0,0)):=(zad (zad (zad hA4))).trans (by simp)
    go_wp2_with fail
    refine hK _ _ B7 ?_;clear hK K;obtain⟨X7,hX7⟩:∃ X,X=(((X4.setCell ⟨X0.heap.size,0,none⟩ (qI (t:Nat))).setCell ⟨X0.heap.size,1,none⟩ (qI b)).setCell ⟨X0.heap.size,2,none⟩ (qI c)):=⟨_,rfl⟩;rw [←hX7] at B7 hk7 ⊢;clear hX7 z0 z1 z2 f0 f1 f2;refine qT1 14 [17] fun K hK=>?_
    go_wp2_with fail
    refine hK _ _ B7 ?_;clear hK K;refine qT1 17 [] fun K hK=>?_
    go_wp2_with fail
    refine hK _ _ B7 ?_;clear hK K;refine za2 ?_;have q2:=zaa hk7 2;have BF:=hb02.trans (B7.mono hb02.size);go_wp2;go_ret2;exact⟨by rw [HB.out];rfl,BF⟩
  ·go_wp2_with fail
   refine hK _ _ B4 ?_;clear hK K;refine qT1 13 [16,17] fun K hK=>?_
   go_wp2_with fail
   refine hK _ _ B4 ?_;clear hK K;refine qT1 16 [17] fun K hK=>?_;have z0:=zaa hA4 0;have z1:=zaa hA4 1;have z2:=zaa hA4 2;have f0:=zab hA4 0;have f1:=zab hA4 1;have f2:=zab hA4 2;have hAge:w2.heap.size≤X0.heap.size:=B0.size;have B8:Below w2.heap.size w2 (((X4.setCell ⟨X0.heap.size,0,none⟩ (qI (t:Nat))).setCell ⟨X0.heap.size,1,none⟩ (qI b)).setCell ⟨X0.heap.size,2,none⟩ (qI c)):=((B4.setCell (p:=⟨X0.heap.size,0,none⟩) hAge _).setCell (p:=⟨X0.heap.size,1,none⟩) hAge _).setCell (p:=⟨X0.heap.size,2,none⟩) hAge _;have hk8:(((X4.setCell ⟨X0.heap.size,0,none⟩ (qI (t:Nat))).setCell ⟨X0.heap.size,1,none⟩ (qI b)).setCell ⟨X0.heap.size,2,none⟩ (qI c)).heap[X0.heap.size]? =some (qC #[qI (t:Nat),qI b,qI c] 287 (0,0)):=(zad (zad (zad hA4))).trans (by simp)
   go_wp2_with fail
   refine hK _ _ B8 ?_;clear hK K;obtain⟨X8,hX8⟩:∃ X,X=(((X4.setCell ⟨X0.heap.size,0,none⟩ (qI (t:Nat))).setCell ⟨X0.heap.size,1,none⟩ (qI b)).setCell ⟨X0.heap.size,2,none⟩ (qI c)):=⟨_,rfl⟩;rw [←hX8] at B8 hk8 ⊢;clear hX8 z0 z1 z2 f0 f1 f2;refine qT1 17 [] fun K hK=>?_
   go_wp2_with fail
   refine hK _ _ B8 ?_;clear hK K;refine za2 ?_;have q2:=zaa hk8 2;have BF:=hb02.trans (B8.mono hb02.size);go_wp2;go_ret2;exact⟨by rw [HB.out];rfl,BF⟩
end Go.Proofs.YtpbmmoneeoijaaaGreatDoor
