/-
  A part of the proof: CertW CertWs.
-/
import Derived.Test.YtpbmmoneeoijaaaGreatDoorP32
namespace Go.Proofs.YtpbmmoneeoijaaaGreatDoor
open Go.RowKit Go.Deep Go.Shelf
set_option maxRecDepth 100000
set_option maxHeartbeats 8000000
def zp2 (f:RowF) (l:List Nat) (k:Nat):List Int:=(List.range k).flatMap fun k=>[rowG f l k 0,rowG f l k 1,rowG f l k 2]
theorem zql (f:RowF) (l:List Nat) (k:Nat):zp2 f l (k+1)=zp2 f l k ++ [rowG f l k 0,rowG f l k 1,rowG f l k 2]:=by simp [zp2,List.range_succ]
theorem zhj (f:RowF) (l:List Nat):∀ k,(zp2 f l k).length=3 * k
 |0=>rfl
 |k+1=>by rw [zql,List.length_append,zhj f l k];simp;omega
def zds (F:Nat→RowF) (L:Nat→List Nat) (i:Nat):List Int:=(List.range i).flatMap fun i=>((L i).length:Int) :: zp2 (F i) (L i) (L i).length
theorem zor (F:Nat→RowF) (L:Nat→List Nat) (i:Nat):zds F L (i+1)=zds F L i ++ (((L i).length:Int) :: zp2 (F i) (L i) (L i).length):=by simp [zds,List.range_succ]
theorem zgs {F:Nat→RowF} {L:Nat→List Nat} (h:∀ i,(L i).length≤32):∀ i,(zds F L i).length≤97 * i
 |0=>Nat.le_refl _
 |i+1=>by
  rw [zor,List.length_append,List.length_cons,zhj];have:=zgs (F:=F) h i;have:=h i;omega
def zjq (E:Nat→Int×Int×Bool) (k:Nat):List Int:=(List.range k).flatMap fun k=>[spG E k 0,spG E k 1]
theorem zn4 (E:Nat→Int×Int×Bool) (k:Nat):zjq E (k+1)=zjq E k ++ [spG E k 0,spG E k 1]:=by simp [zjq,List.range_succ]
theorem zgq (E:Nat→Int×Int×Bool):∀ k,(zjq E k).length=2 * k
 |0=>rfl
 |k+1=>by rw [zn4,List.length_append,zgq E k];simp;omega
def zpi (F:Nat→RowF) (L:Nat→List Nat) (E:Nat→Int×Int×Bool) (ml el:Nat):List Int:=((ml:Int) :: zds F L ml) ++ ((el:Int) :: zjq E el)
structure KpC (n₀:Nat) (A C:World):Prop where
 below:Below n₀ A C
 keep:∀ (b:Nat) (cs:Array Value) (t:TypeId),(t=97∨t=287∨t=154)→A.heap[b]? =some (Obj.cells cs t (0,0))→C.heap[b]? =some (Obj.cells cs t (0,0))
theorem KpC.t {n₀:Nat} {A C D:World} (h:KpC n₀ A C) (k:KpC n₀ C D):KpC n₀ A D:=⟨h.below.trans k.below,fun b cs t ht hb=>k.keep b cs t ht (h.keep b cs t ht hb)⟩
theorem KpC.b {n₀:Nat} {w:World} (hn:n₀≤w.heap.size) (W:World) (l:Nat) (o o':Obj) (hl:w.heap.size≤l) (h:W.heap[l]? =some o) (hc:o.isCells=false) (hw:o.isWalk=false):KpC n₀ W (W.putObj l o'):=
 ⟨belowK_b hn W l o o' hl h hc hw,fun b cs t _ hb=>(World.putObj_heap_other fun e=>by subst e;rw [h] at hb;cases hb;cases hc).trans hb⟩
theorem KpC.alloc {n₀:Nat} {W:World} (h:n₀≤W.heap.size) (o:Obj):KpC n₀ W (W.alloc o):=⟨(Below.refl _ _).alloc h o,fun b _ _ _ hb=>(Below.heap_alloc W o b (qLt hb)).trans hb⟩
theorem zAx (n:Nat) (hn:1≤n) (Bc:Nat) (F:Nat→RowF) (L:Nat→List Nat) (E:Nat→Int×Int×Bool) (ca ce:Option Addr) (ml el cc cd:Nat) (w0 w:World) (h0w:Below w0.heap.size w0 w) (hc:w.heap[Bc]? =some (qC #[.slice ca ml cc,.slice ce el cd] 97))
  (hM:zdv F L w0 ca ml) (hE:zb9 w0 ce el 2 (spG E)) (hL:∀ i,(L i).length≤32) (m8:ml≤8) (e24:el≤24):
  SeqN Fence.wide n Tryz.prog 230 #[qP Bc] (fun x:Int=>#[qI x]) (KpC w0.heap.size) (fun ys=>ys=zpi F L E ml el) (fun _=>True) 900 w:=by
 intro l J Jx W hW hJ hJx hoJ hoJx hY h0;have hbcW:=(hW.block Bc (qLt hc)).trans hc;have hszW:=hW.size;have hsz0:=h0w.size;have d0:=zaa hbcW 0;have d1:=zaa hbcW 1;have HLM:=hid fun i=>zgs (F:=F) hL i;refine callsIn_of_wp Tryz.func230 rfl trivial ?_ rfl;simp only [Tryz.ntmps230,qPr,Nat.reduceAdd,Nat.reduceSub];obtain⟨fn,tmps,assign,body,hy,hR⟩:=hY [] (ml:Int) W h0 (by simp)
 gi_wp2_with (refine hR.mono ?_;clear hR;rintro e W3 (⟨rfl,hJ3,hk3,hs3⟩|⟨rfl,hJx3,hk3,hs3⟩);have hbc3:=hk3.keep _ _ _ (.inl rfl) hbcW;have e0:=zaa hbc3 0;have e1:=zaa hbc3 1)
 ·have hB3:=(h0w.trans (hW.mono hsz0)).trans hk3.below
  have hsW:=hid (show w0.heap.size≤W.heap.size by omega);have hs3s:=hid hs3.size;have HMC:=hid hM;have HEC:=hid hE;have HC3:=hid hbc3;have HB3:=hid hB3;have HJ3:=hid (show J ((ml:Int) :: zds F L 0) W3 from hJ3);clear d0 d1 e0 e1 hM hE hy hs3 hbcW hk3 h0 hbc3 hB3 hJ3
  gi_loopw [18] (fun i_ wr=>∃ i:Nat,i≤ml∧i_=qI i∧Hid (J ((ml:Int) :: zds F L i) wr)∧Hid (wr.heap[Bc]? =some (qC #[.slice ca ml cc,.slice ce el cd] 97))∧Hid (Below w0.heap.size w0 wr)∧Hid (W.heap.size≤wr.heap.size)) (fun i_ _=>ml - (intOf i_).toNat)
  case atStart=>exact⟨0,by omega,rfl,HJ3,HC3,HB3,hs3s⟩
  case round=>
   clear HJ3 HC3 HB3 hs3s;obtain⟨i,hi,rfl,HJr,HCr,HBr,hsr⟩:=hrel;by_cases hlt:i < ml
   ·have t0:decide ((i:Int) < (ml:Int))=true:=by simp;omega
    obtain⟨b,v,rfl,hcv,ra,rc,rfl,hfr,hty⟩:=HMC.out.2 i hlt;have cm:=kept hcv HBr.out;have i0':(0:Int)≤(i:Int):=by omega
    have i1:(i:Int) < (ml:Int):=by omega
    have HFR:=hid hfr;have hll:=hL i;have hml:=HLM.out i;obtain⟨fn,tmps,assign,body,hy,hR⟩:=hY ((ml:Int) :: zds F L i) ((L i).length:Int) wr HJr.out (by simp;omega);clear hcv hfr hty;obtain⟨ln,hln⟩:∃ y,(L i).length=y:=⟨_,rfl⟩;rw [hln] at cm hy hR hll HFR
    gi_wp2_with (refine hR.mono ?_;clear hR;rintro e W3 (⟨rfl,hJ3,hk3,hs3⟩|⟨rfl,hJx3,hk3,hs3⟩))
    ·have HJ3:=hid (show J (((ml:Int) :: zds F L i) ++ (ln:Int) :: zp2 (F i) (L i) 0) W3 from hJ3)
     have HC3:=hid (hk3.keep _ _ _ (.inl rfl) HCr.out);have HB3:=hid (HBr.out.trans hk3.below);have hs3s:=hid (show W.heap.size≤W3.heap.size by have:=hs3.size;have:=hsr.out;omega);have HLN:=hid hln;clear hJ3 hk3 hs3 HJr HCr HBr hsr hy cm hln
     gi_loopw [29] (fun k_ X=>∃ k:Nat,k≤ln∧k_=qI k∧Hid (J (((ml:Int) :: zds F L i) ++ (ln:Int) :: zp2 (F i) (L i) k) X)∧Hid (X.heap[Bc]? =some (qC #[.slice (some ⟨b,0,none⟩) ml cc,.slice ce el cd] 97))∧Hid (Below w0.heap.size w0 X)∧Hid (W.heap.size≤X.heap.size)) (fun k_ _=>ln - (intOf k_).toNat)
     case atStart=>exact⟨0,by omega,rfl,HJ3,HC3,HB3,hs3s⟩
     case round=>
      clear HJ3 HC3 HB3 hs3s;obtain⟨k,hk,rfl,HJr,HCr,HBr,hsr⟩:=hrel;by_cases hkl:k < ln
      ·have t1:decide ((k:Int) < (ln:Int))=true:=by simp;omega
       obtain⟨rb,ro,rfl,hcr⟩:=HFR.out k hkl;have q0:=kept (hcr 0 (by decide)) HBr.out;have q1:=kept (hcr 1 (by decide)) HBr.out;have q2:=kept (hcr 2 (by decide)) HBr.out;rw [Nat.add_zero] at q0;clear hcr;have k0':(0:Int)≤(k:Int):=by omega
       have k1:(k:Int) < (ln:Int):=by omega
       have HRS:=hid (zql (F i) (L i) k);have hrl:=zhj (F i) (L i) k;generalize rowG (F i) (L i) k 0=x0 at q0 HRS;generalize rowG (F i) (L i) k 1=x1 at q1 HRS;generalize rowG (F i) (L i) k 2=x2 at q2 HRS;obtain⟨pre,hpre⟩:∃ y,((ml:Int) :: zds F L i) ++ (ln:Int) :: zp2 (F i) (L i) k=y:=⟨_,rfl⟩;have hpl:pre.length≤870:=by rw [←hpre];simp only [List.length_append,List.length_cons];omega
       have HPR:=hid (show pre ++ [x0] ++ [x1] ++ [x2]=((ml:Int) :: zds F L i) ++ (ln:Int) :: zp2 (F i) (L i) (k+1) by rw [←hpre,HRS.out];simp);rw [hpre] at HJr;clear hpre HRS;have hbox:=heap_alloc_new wr (qC #[qI x0,qI x1,qI x2] 287);have hJ0:=hoJ.alloc (qC #[qI x0,qI x1,qI x2] 287) HJr.out;have hC0:=(KpC.alloc (n₀:=w0.heap.size) (W:=wr) (by have:=hsW.out;have:=hsr.out;omega) (qC #[qI x0,qI x1,qI x2] 287));have hS0:wr.heap.size≤(wr.alloc (qC #[qI x0,qI x1,qI x2] 287)).heap.size:=by simp
       obtain⟨fn,tmps,assign,body,hy,hR⟩:=hY (pre) x0 _ hJ0 (by (try simp only [List.length_append,List.length_cons,List.length_nil]);omega)
       gi_wp2_with (refine hR.mono ?_;clear hR;rintro e W3 (⟨rfl,hJ1,hk3,hs3⟩|⟨rfl,hJx3,hk3,hs3⟩);have hb:=hk3.keep _ _ _ (.inr (.inl rfl)) hbox;have n1:=zaa hb 1)
       rotate_left
       ·try (refine⟨fun _ h=>(by cases h),?_⟩;gi_wp2)
        refine bodyPost_ret (results_none rfl _ _ _) rfl ?_;exact⟨⟨_,rfl⟩,.inr ⟨_,trivial,hJx3⟩⟩
       have hC1:=hC0.t hk3;have hS1:=Nat.le_trans hS0 hs3.size;clear hy hk3 hs3 hC0 hS0 hJ0 hbox;have hbox:=hb;clear hb;obtain⟨fn,tmps,assign,body,hy,hR⟩:=hY (pre ++ [x0]) x1 _ hJ1 (by (try simp only [List.length_append,List.length_cons,List.length_nil]);omega)
       gi_wp2_with fail
       try (rw [hy];simp only [go_sem])
       first|refine⟨fun e=>(by cases e),hR.mono ?_⟩|refine hR.mono ?_
       clear hR;rintro e W4 (⟨rfl,hJ2,hk3,hs3⟩|⟨rfl,hJx3,hk3,hs3⟩)
       rotate_left
       ·gi_wp2
        try (refine⟨fun _ h=>(by cases h),?_⟩;gi_wp2)
        refine bodyPost_ret (results_none rfl _ _ _) rfl ?_;exact⟨⟨_,rfl⟩,.inr ⟨_,trivial,hJx3⟩⟩
       have hb:=hk3.keep _ _ _ (.inr (.inl rfl)) hbox;have n2:=zaa hb 2;have hC2:=hC1.t hk3;have hS2:=Nat.le_trans hS1 hs3.size;clear hy hk3 hs3 hC1 hS1 hJ1 hbox;have hbox:=hb;clear hb;obtain⟨fn,tmps,assign,body,hy,hR⟩:=hY (pre ++ [x0] ++ [x1]) x2 _ hJ2 (by (try simp only [List.length_append,List.length_cons,List.length_nil]);omega)
       gi_wp2_with fail
       try (rw [hy];simp only [Result.andThen,go_sem])
       first|refine⟨fun e=>(by cases e),hR.mono ?_⟩|refine hR.mono ?_
       clear hR;rintro e W5 (⟨rfl,hJ3,hk3,hs3⟩|⟨rfl,hJx3,hk3,hs3⟩)
       rotate_left
       ·gi_wp2
        try (refine⟨fun _ h=>(by cases h),?_⟩;gi_wp2)
        refine bodyPost_ret (results_none rfl _ _ _) rfl ?_;exact⟨⟨_,rfl⟩,.inr ⟨_,trivial,hJx3⟩⟩
       have hC3:=hC2.t hk3;have hS3:=Nat.le_trans hS2 hs3.size;clear hy hk3 hs3 hC2 hS2 hJ2;rw [HPR.out] at hJ3;have HJ9:=hid hJ3;have HC9:=hid (hC3.keep _ _ _ (.inl rfl) HCr.out);have HB9:=hid (HBr.out.trans hC3.below);have hs9:=hid (Nat.le_trans hsr.out hS3);clear hJ3 hC3 hS3 HJr HCr HBr hsr HPR hpl q0 q1 q2
       gi_wp2
       go_roundw
       case rel=>exact⟨k+1,by omega,by go_num,HJ9,HC9,HB9,hs9⟩
       case measure=>simp [intOf];omega
      ·obtain rfl:k=ln:=by omega
       have t1:decide ((k:Int) < (k:Int))=false:=by simp
       have HJ4:=hid (show J ((ml:Int) :: zds F L (i+1)) wr by rw [zor,HLN.out];exact HJr.out)
       gi_wp2
       go_roundw
       case rel=>exact⟨i+1,by omega,by go_num,HJ4,HCr,HBr,hsr⟩
       case measure=>simp [intOf];omega
    ·refine bodyPost_ret (results_none rfl _ _ _) rfl ?_
     exact⟨⟨_,rfl⟩,.inr ⟨_,trivial,hJx3⟩⟩
   ·obtain rfl:i=ml:=by omega
    have t0:decide ((i:Int) < (i:Int))=false:=by simp
    have f1:=zaa HCr.out 1;have hml:=HLM.out i;obtain⟨fn,tmps,assign,body,hy,hR⟩:=hY ((i:Int) :: zds F L i) (el:Int) wr HJr.out (by simp;omega)
    gi_wp2_with (refine hR.mono ?_;clear hR;rintro e W3 (⟨rfl,hJ3,hk3,hs3⟩|⟨rfl,hJx3,hk3,hs3⟩);have hb:=hk3.keep _ _ _ (.inl rfl) HCr.out;have n1:=zaa hb 1)
    ·have HJ3:=hid (show J (((i:Int) :: zds F L i) ++ (el:Int) :: zjq E 0) W3 from hJ3)
     have HC3:=hid hb;have HB3:=hid (HBr.out.trans hk3.below);have hs3s:=hid (show W.heap.size≤W3.heap.size by have:=hs3.size;have:=hsr.out;omega);clear hJ3 hk3 hs3 HJr HCr HBr hsr hy f1 hb n1 t0
     gi_loopw [63] (fun k_ X=>∃ k:Nat,k≤el∧k_=qI k∧Hid (J (((i:Int) :: zds F L i) ++ (el:Int) :: zjq E k) X)∧Hid (X.heap[Bc]? =some (qC #[.slice ca i cc,.slice ce el cd] 97))∧Hid (Below w0.heap.size w0 X)∧Hid (W.heap.size≤X.heap.size)) (fun k_ _=>el - (intOf k_).toNat)
     case atStart=>exact⟨0,by omega,rfl,HJ3,HC3,HB3,hs3s⟩
     case round=>
      clear HJ3 HC3 HB3 hs3s;obtain⟨k,hk,rfl,HJr,HCr,HBr,hsr⟩:=hrel;by_cases hkl:k < el
      ·have t1:decide ((k:Int) < (el:Int))=true:=by simp;omega
       obtain⟨rb,ro,rfl,hcr⟩:=HEC.out k hkl;have q0:=kept (hcr 0 (by decide)) HBr.out;have q1:=kept (hcr 1 (by decide)) HBr.out;rw [Nat.add_zero] at q0;clear hcr;have k0':(0:Int)≤(k:Int):=by omega
       have k1:(k:Int) < (el:Int):=by omega
       have HRS:=hid (zn4 E k);have hrl:=zgq E k;generalize spG E k 0=x0 at q0 HRS;generalize spG E k 1=x1 at q1 HRS;obtain⟨pre,hpre⟩:∃ y,((i:Int) :: zds F L i) ++ (el:Int) :: zjq E k=y:=⟨_,rfl⟩;have hpl:pre.length≤870:=by rw [←hpre];simp only [List.length_append,List.length_cons];omega
       have HPR:=hid (show pre ++ [x0] ++ [x1]=((i:Int) :: zds F L i) ++ (el:Int) :: zjq E (k+1) by rw [←hpre,HRS.out];simp);rw [hpre] at HJr;clear hpre HRS;have hbox:=heap_alloc_new wr (qC #[qI x0,qI x1] 154);have hJ0:=hoJ.alloc (qC #[qI x0,qI x1] 154) HJr.out;have hC0:=(KpC.alloc (n₀:=w0.heap.size) (W:=wr) (by have:=hsW.out;have:=hsr.out;omega) (qC #[qI x0,qI x1] 154));have hS0:wr.heap.size≤(wr.alloc (qC #[qI x0,qI x1] 154)).heap.size:=by simp
       obtain⟨fn,tmps,assign,body,hy,hR⟩:=hY (pre) x0 _ hJ0 (by (try simp only [List.length_append,List.length_cons,List.length_nil]);omega)
       gi_wp2_with (refine hR.mono ?_;clear hR;rintro e W3 (⟨rfl,hJ1,hk3,hs3⟩|⟨rfl,hJx3,hk3,hs3⟩);have hb:=hk3.keep _ _ _ (.inr (.inr rfl)) hbox;have n1:=zaa hb 1)
       rotate_left
       ·try (refine⟨fun _ h=>(by cases h),?_⟩;gi_wp2)
        refine bodyPost_ret (results_none rfl _ _ _) rfl ?_;exact⟨⟨_,rfl⟩,.inr ⟨_,trivial,hJx3⟩⟩
       have hC1:=hC0.t hk3;have hS1:=Nat.le_trans hS0 hs3.size;clear hy hk3 hs3 hC0 hS0 hJ0 hbox;have hbox:=hb;clear hb;obtain⟨fn,tmps,assign,body,hy,hR⟩:=hY (pre ++ [x0]) x1 _ hJ1 (by (try simp only [List.length_append,List.length_cons,List.length_nil]);omega)
       gi_wp2_with fail
       try (rw [hy];simp only [go_sem])
       first|refine⟨fun e=>(by cases e),hR.mono ?_⟩|refine hR.mono ?_
       clear hR;rintro e W4 (⟨rfl,hJ2,hk3,hs3⟩|⟨rfl,hJx3,hk3,hs3⟩)
       rotate_left
       ·gi_wp2
        try (refine⟨fun _ h=>(by cases h),?_⟩;gi_wp2)
        refine bodyPost_ret (results_none rfl _ _ _) rfl ?_;exact⟨⟨_,rfl⟩,.inr ⟨_,trivial,hJx3⟩⟩
       have hC2:=hC1.t hk3;have hS2:=Nat.le_trans hS1 hs3.size;clear hy hk3 hs3 hC1 hS1 hJ1;rw [HPR.out] at hJ2;have HJ9:=hid hJ2;have HC9:=hid (hC2.keep _ _ _ (.inl rfl) HCr.out);have HB9:=hid (HBr.out.trans hC2.below);have hs9:=hid (Nat.le_trans hsr.out hS2);clear hJ2 hC2 hS2 HJr HCr HBr hsr HPR hpl q0 q1
       gi_wp2
       go_roundw
       case rel=>exact⟨k+1,by omega,by go_num,HJ9,HC9,HB9,hs9⟩
       case measure=>simp [intOf];omega
      ·obtain rfl:k=el:=by omega
       have t1:decide ((k:Int) < (k:Int))=false:=by simp
       gi_wp2
       go_end0
       exact⟨⟨_,rfl⟩,.inl ⟨_,rfl,HJr.out⟩⟩
    ·refine bodyPost_ret (results_none rfl _ _ _) rfl ?_
     exact⟨⟨_,rfl⟩,.inr ⟨_,trivial,hJx3⟩⟩
 ·refine bodyPost_ret (results_none rfl _ _ _) rfl ?_
  exact⟨⟨_,rfl⟩,.inr ⟨_,trivial,hJx3⟩⟩
attribute [local go_sem] Oper.semAt_some zaq
set_option maxRecDepth 100000
theorem infoU:(Tryz.prog.info? 39).map (fun i=>(i.zero,i.size,i.bytes))=some (some (qU 0),1,4):=by kernel_rfl
def u32s (l:List Int):List Value:=l.map fun x=>qU (IntKind.u32.wrap x)
def zEy (b:Nat) (l:List Int) (W:World):Prop:=∃ v,Boxed W b 28 v∧W.ownsRow b 39 1 v l.length (u32s l)
theorem zqh {β:Type} (b:Nat) (l:β→List Int):Own (fun (x:β) W=>zEy b (l x) W):=fun s X Y row hs hg hrow=>by
 obtain⟨v,hv,hr⟩:=hs;obtain⟨v',h1,h2,_⟩:=holdsRow_own b b 28 39 1 (fun x=>(l x).length) (fun x=>u32s (l x)) (fun _ _=>True) s X Y row ⟨v,hv,hr,trivial⟩ hg hrow;exact⟨v',h1,h2⟩
theorem zsv (m e:Value) (w:World):Calls Tryz.prog 170 #[.agg #[m,e]] w fun r w'=>r=.returned (.func (.func 230) #[] #[qP w.heap.size])∧w'=w.alloc (qC #[m,e] 97):=by
 go_enter Tryz.func170,Tryz.ntmps170;go_wp2;go_ret;exact⟨rfl,rfl⟩
theorem KpC.appended {W w1:World} {n₀ m B:Nat} {v v':Value} {k:Nat} {xs:List Value} {tmp:Obj} (hv:Boxed W B 28 v) (hrow:W.ownsRow m 39 1 v k xs) (hgrow:(W.alloc tmp).grownBy w1 v.ownBlock)
  (hb:Below n₀ W (w1.setCell ⟨B,0,none⟩ v')):KpC n₀ W (w1.setCell ⟨B,0,none⟩ v'):=⟨hb,fun b cs t ht hc=>by
 have hlt:=(qLt hc);have h1:(W.alloc tmp).heap[b]? =some (.cells cs t (0,0)):=(Below.heap_alloc W tmp b hlt).trans hc;have hB:b≠B:=by
  rintro rfl;have:=(show W.heap[b]? =_ from hv).symm.trans hc;rcases ht with rfl|rfl|rfl<;>simp at this
 have hne:some b≠v.ownBlock:=by
  rcases hrow.2 with ⟨rfl,_⟩|⟨g,cap,cur,rfl,_,hgb,_⟩
  ·simp [Value.ownBlock]
  ·intro e
   obtain rfl:b=g:=by simpa [Value.ownBlock] using e
   rw [hgb] at hc;rcases ht with rfl|rfl|rfl<;>simp at hc
 exact (heap_setCell_other _ ⟨B,0,none⟩ b v' (by show b≠B;exact hB)).trans ((hgrow.block b (by simp;omega) hne).trans h1)⟩
def zg5 (W:World) (ao:Option Addr) (l:List Int):Prop:=∀ j x,l[j]? =some x→∃ b,ao=some ⟨b,0,none⟩∧W.cell? ⟨b,j,none⟩=some (qU (IntKind.u32.wrap x))
theorem zg5.put {W:World} {ao:Option Addr} {l:List Int} {D:Nat} {x:Option (List Deferred)} {o:Obj} (h:zg5 W ao l) (hK:W.heap[D]? =some (.deferred x)):zg5 (W.putObj D o) ao l:=fun j v hj=>by
 obtain⟨b,e,hc⟩:=h j v hj;refine⟨b,e,?_⟩;have hne:b≠D:=by
  rintro rfl;simp [World.cell?,hK] at hc
 exact (World.cell?_of_block (w:=W) (w':=W.putObj D o) (a:=⟨b,j,none⟩) (World.putObj_heap_other hne)).trans hc
theorem zg5.below {W W':World} {ao:Option Addr} {l:List Int} (h:zg5 W ao l) (hb:Below W.heap.size W W'):zg5 W' ao l:=fun j v hj=>by
 obtain⟨b,e,hc⟩:=h j v hj;exact⟨b,e,kept hc hb⟩
theorem zqj {W:World} {B:Nat} {l:List Int} {v:Value} (h:W.ownsRow B 39 1 v l.length (u32s l)):∃ ao c,v=.slice ao l.length c∧zg5 W ao l:=by
 obtain⟨ao,c,e1,_,h2⟩:=zar h;refine⟨ao,c,e1,fun j x hj=>?_⟩;have hlt:=(List.getElem?_eq_some_iff.1 hj).1;obtain⟨b,rfl,_,h3,_⟩:=h2 (by omega);exact⟨b,rfl,by rw [h3 j (by omega)];unfold u32s;rw [List.getElem?_map,hj];rfl⟩
theorem zl1 {F:Nat→RowF} {L:Nat→List Nat} {E:Nat→Int×Int×Bool} {ml el:Nat} (hL:∀ i,(L i).length≤32) (m8:ml≤8) (e24:el≤24):(zpi F L E ml el).length≤900:=by
 unfold zpi;have:=zgs (F:=F) hL ml;have:=zgq E el;simp only [List.length_append,List.length_cons];omega
theorem zs5 (F:Nat→RowF) (L:Nat→List Nat) (E:Nat→Int×Int×Bool) (ca ce:Option Addr) (ml el cc cd:Nat) (w:World) (hM:zdv F L w ca ml) (hE:zb9 w ce el 2 (spG E)) (hL:∀ i,(L i).length≤32) (m8:ml≤8) (e24:el≤24):
  Calls Tryz.prog 91 #[.agg #[.slice ca ml cc,.slice ce el cd]] w fun e w'=>(∃ ao c,e=.returned (.slice ao (zpi F L E ml el).length c)∧zg5 w' ao (zpi F L E ml el))∧Below w.heap.size w w':=by
 have HST:=hid fun (Bc:Nat) (W:World) (h0w:Below w.heap.size w W) (hc:W.heap[Bc]? =some (qC #[.slice ca ml cc,.slice ce el cd] 97))=>zAx 7 (by omega) Bc F L E ca ce ml el cc cd w W h0w hc hM hE hL m8 e24;have hlen:=zl1 (F:=F) (E:=E) hL m8 e24;obtain⟨cl,hcl⟩:∃ l,zpi F L E ml el=l:=⟨_,rfl⟩;rw [hcl] at HST hlen ⊢;clear hcl hM hE hL m8 e24;refine (callsIn_wide (n:=8)).1 ?_;have h1:1≤8:=by omega
 obtain⟨i0,hi,iz0,iz1,iz2⟩:=info_parts infoU;refine callsIn_of_wp_marks Tryz.func91 rfl trivial ?_ rfl;simp only [Tryz.ntmps91,qPr,Nat.reduceAdd,Nat.reduceSub];refine wpIn_wide.2 ?_;obtain⟨m,hm⟩:∃ v,v=Value.slice ca ml cc:=⟨_,rfl⟩;obtain⟨e,he⟩:∃ v,v=Value.slice ce el cd:=⟨_,rfl⟩;rw [←hm,←he] at HST ⊢;clear hm he;have g0:=heap_alloc_new w (qC #[m,e] 97);have hb1:=qBr (w:=w) (qC #[m,e] 97);have g1:=zac g0 (qC #[.slice none 0 0] 28);have c0:=zaa g1 0;have c1:=zaa g1 1;have hb2:=hb1.alloc hb1.size (qC #[.slice none 0 0] 28);have bO2:=Boxed.new (w.alloc (qC #[m,e] 97)) 28 (.slice none 0 0);have hs2:((w.alloc (qC #[m,e] 97)).alloc (qC #[.slice none 0 0] 28)).heap.size=w.heap.size+2:=by simp
 rw [World.size_alloc] at bO2;have HCW:=hid fun X=>zsv m e X
 go_wp2_with (go_at_call 170;refine (HCW.out _).mono ?_;rintro r w' ⟨rfl,rfl⟩)
 have g2:=zac g1 (qC #[m,e] 97);have gC:=heap_alloc_new ((w.alloc (qC #[m,e] 97)).alloc (qC #[.slice none 0 0] 28)) (qC #[m,e] 97);rw [hs2] at gC;have bO3:=bO2.alloc (qC #[m,e] 97);have hb3:=hb2.alloc hb2.size (qC #[m,e] 97);have hs3:(((w.alloc (qC #[m,e] 97)).alloc (qC #[.slice none 0 0] 28)).alloc (qC #[m,e] 97)).heap.size=w.heap.size+3:=by simp
 obtain⟨W0,hW0⟩:∃ X,X=(((w.alloc (qC #[m,e] 97)).alloc (qC #[.slice none 0 0] 28)).alloc (qC #[m,e] 97)):=⟨_,rfl⟩;rw [←hW0] at g2 gC bO3 hb3 hs3 ⊢;clear hW0 c0 c1 g0 g1 hb1 hb2 bO2 hs2;have hst:=HST.out _ W0 hb3 gC;refine (wpIn_wide (n:=8)).1 ?_;refine zqm rfl h1 (gf:=230) (lb:=#[qP (w.heap.size+2)]) rfl trivial (enters_of Tryz.func230 (by kernel_rfl) rfl) hst
  KpC.t (KpC.b (by omega)) (Below.refl _ _) (fun _=>rfl)
  (fun pre W=>zEy (w.heap.size+1) pre W∧Below w.heap.size w W∧w.heap.size+3≤W.heap.size)
  (fun _ _ _=>False)
  (OwnFrom.and (Own.from (zqh _ (fun pre:List Int=>pre)) _) (OwnFrom.and (ownFrom_below (Nat.le_refl _) (by omega)) (fun _ X Y row hz hg _=>Nat.le_trans hz hg.size)))
  (fun _ _ _ _ _ hz _ _=>hz)
  ⟨⟨_,bO3,World.ownsRow_nil _ _ _ _⟩,hb3,by omega⟩
  (fun x a' W=>a'= { tmps:=#[.agg #[m,e],qP w.heap.size,.slice none 0 0,qP (w.heap.size+1),qI x,.agg #[m,e],.func (.func 230) #[] #[qP (w.heap.size+2)],qI x,undef,undef,undef,undef,undef,undef],defers:=[] })
  (fun x a' _ X Y row hz hg hr=>hz)
  ?assign ?body ?done ?stop
 case assign=>
  rintro l pre x W K hI hK
  gi_wp2
  exact hK _ _ (KeepsFrom.refl _ _) ⟨Below.refl _ _,fun _ _ _ _ h=>h⟩ hI rfl
 case body=>
  rintro l pre x a' W ⟨⟨v,hv,hrow⟩,hB,hsz⟩ rfl hlen2;have hc:=hv.cell;have hnews:∀ (j:Nat) (u:Value),[Value.int .u32 (IntKind.u32.wrap x)][j]? =some u→(W.alloc (qC #[Value.int .u32 (IntKind.u32.wrap x)] 39)).cell? ((⟨W.heap.size,0,none⟩:Addr).add j)=some u:=fun j u hj=>by
   rw [zbn,Nat.zero_add,World.cell?_alloc_at _ _ _ _ rfl];simpa using hj
  gi_wp2_with (gi_at_builtin;refine wpListIn_append_own _ rfl _ _ 28 rfl (w.heap.size+1) 39 i0 (qU 0) 1 4 Tryz.underlying28 hi iz0 iz1 iz2 rfl (by decide) _ _ _ rfl (hrow.alloc _) ⟨W.heap.size,0,none⟩ 1 1 [qU (IntKind.u32.wrap x)] rfl rfl hnews (by simp [Value.oneCell']) (by unfold maxLen;omega) (by omega) (by simp;omega) ?_;intro v' w1 hown' hgrow _;obtain⟨g',cap',rfl⟩:=ownsRow_succ hown';obtain⟨hv1,hv2,hr2,hk2,hb2⟩:=hv.appended (by decide) hrow (by omega) (Nat.le_refl _) hown' hgrow;have hc1:=hv1.cell;have hf1:=hv1.frozen)
  exact⟨hk2.from _,KpC.appended hv hrow hgrow (hb2.mono (by omega)),⟨_,hv2,by rw [List.length_append];show World.ownsRow _ _ _ _ _ (pre.length+1) (u32s (pre ++ [x]));unfold u32s;rw [List.map_append];exact hr2⟩,hB.trans (hb2.mono (by omega)),by have:=hb2.size;omega⟩
 case done=>
  rintro D ys W hD hyse ⟨⟨v,hv,hrow⟩,hB,hsz⟩ hK;subst hyse;obtain⟨ao,c,rfl,hU⟩:=zqj hrow;have hc:=hv.cell;have HU:=hid hU;have HB:=hid hB;clear hU hB;go_wp2;refine⟨by simp,.inl ⟨_,_,rfl,run_takeDeferred hK,?_⟩⟩;exact⟨_,results_tmp rfl _ _ _,⟨_,_,rfl,HU.out.put hK⟩,HB.out.trans (belowK_b (w:=w) (Nat.le_refl _) W D _ _ (by omega) hK rfl rfl)⟩
 case stop=>
  rintro D c pre W hD hpre hx hK;exact hx.elim
end Go.Proofs.YtpbmmoneeoijaaaGreatDoor
