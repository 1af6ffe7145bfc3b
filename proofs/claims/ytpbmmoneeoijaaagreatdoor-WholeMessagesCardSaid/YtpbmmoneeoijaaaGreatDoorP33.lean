/-
  A part of the proof: CoreSend CoreMany SchNew EngNew.
-/
import Derived.Test.YtpbmmoneeoijaaaGreatDoorP32
namespace Go.Proofs.YtpbmmoneeoijaaaGreatDoor
open Go.RowKit Go.Deep Go.Shelf
set_option maxRecDepth 100000
set_option maxHeartbeats 2000000 in
theorem zzj (base p:Nat) (cap:Int) (v:Value) (xs:List Int) (d n:Int) (w:World) (hq:QAt w base p cap 1 v xs d) (hbw:base≤w.heap.size) (hcap:1≤cap∧cap≤16) (_hlen:(xs.length:Int)≤cap):
  Calls Tryz.prog 62 #[.pointer (some ⟨p,0,none⟩),.int .i64 n] w fun e w'=>SendPost base p cap 1 v (zqg cap 1 xs d n) w e w':=by
 obtain⟨i0,hi,hz0,hz1,hz2⟩:=info_parts zs6;obtain⟨ao,ac,rfl,hac,hacm,hra,hpos⟩:=zgg hq.row;have c0:=hq.c0;have c1:=hq.c1;have c2:=hq.c2;by_cases h1:(xs.length:Int) < cap
 ·have HF:=hid (show zqg cap 1 xs d n=(xs ++ [n],d,0) from if_pos h1)
  have t1:decide ((xs.length:Int) < cap)=true:=by simpa using h1
  have hnews:∀ (j:Nat) (u:Value),[Value.int .i64 n][j]? =some u→((w.drewN 1).alloc (Obj.cells #[Value.int .i64 n] 3)).cell? ((⟨w.heap.size,0,none⟩:Addr).add j)=some u:=cell_one_new _ _ _;go_enter Tryz.func62,Tryz.ntmps62;go_wp2
  go_quiet (fail)
  go_wp2_with (at_builtin;refine wpList_append_own_at _ rfl _ _ 59 rfl base 3 i0 (.int .i64 0) 1 8 Tryz.underlying59 hi hz0 hz1 hz2 rfl (by decide) (.slice ao xs.length ac) xs.length (vi xs) rfl ((hq.drewN nq).row.alloc _) ⟨w.heap.size,0,none⟩ 1 1 _ rfl rfl (cell_one_new _ _ _) (by simp [Value.oneCell']) (by unfold maxLen;omega) (by omega) (by simp;omega) ?_;intro v' w1 hown hgrow _ hat;obtain⟨g,cg,rfl,_,_,_,_,_⟩:=own_form hown (by omega);have hblk1:=zaj (zaj (hq.drewN nq).blk (Save.alloc (w.drewN nq) _) id) (Save.of_grown hgrow) (fun e=>hq.not_row hq.row e);have hc2:w1.cell? ⟨p,2,none⟩=some (.slice ao xs.length ac):=zaa hblk1 2;have hf2:=zab hblk1 2)
  go_ret;rw [HF.out];refine⟨rfl,_,qset hblk1 (by rw [List.length_append,zk7];exact hown) hq.low,fun g' hg'=>?_,((Save.from_drewN ((Save.alloc (w.drewN nq) _).mono fun _ h=>h.elim)).trans (Save.of_grown hgrow) fun _ _ h=>.inr h).trans (Save.set w1 p 2 _) fun _ _ h=>.inl h⟩;rcases hat with h|h
  ·exact .inl (by rw [←h];exact hg')
  ·right
   rw [h] at hg';simp at hg';omega
 ·have t1:decide ((xs.length:Int) < cap)=false:=by simpa using h1
  have HF:=hid (show zqg cap 1 xs d n=(xs,d,271) by unfold zqg;rw [if_neg h1,if_neg (by decide),if_neg (by decide)]);go_enter Tryz.func62,Tryz.ntmps62;go_wp2
  go_quiet (fail)
  go_wp2;go_ret;rw [HF.out];exact⟨rfl,_,hq.drewN nq,zq4 _ _,Save.drewN _ (Save.refl _ _)⟩
def QuS.turn (u:QuS) (i:Nat) (s:QSt):QuS:={ u with q:=putN u.q i s }
theorem tot_turn {u:QuS} {i:Nat} {s:QSt} (hi:i < u.n):(u.turn i s).tot+(u.q i).xs.length=u.tot+s.xs.length:=by
 unfold QuS.tot QuS.turn;dsimp only;generalize u.n=n at hi ⊢
 induction n with
 |zero=>omega
 |succ n ih=>
  show (sumQ (fun j=>(putN u.q i s j).xs.length) n+(putN u.q i s n).xs.length)+_=(sumQ (fun j=>(u.q j).xs.length) n+(u.q n).xs.length)+_;by_cases hn:i=n
  ·subst hn
   rw [zbm,zec fun j hj=>by rw [zbf u.q s (show j≠i by omega)]];omega
  ·rw [zbf u.q s (show n≠i by omega)]
   have:=ih (by omega);omega
def SendI (c:za3) (z:zbp) (w:World) (e:Ending) (w':World):Prop:=∃ (code:Int) (u:QuS),e=.returned (.int .i64 code)∧zba c w' { z with u:=u }∧u.tot=z.u.tot+(if code=0 then 1 else 0)∧Below c.d.base w w'
set_option maxHeartbeats 2000000 in
theorem zA7 (c:za3) (z:zbp) (q n:Int) (w:World) (h:zba c w z):
  Calls Tryz.prog 21 #[.pointer (some ⟨c.cb,0,none⟩),.int .i64 q,.int .i64 n] w (SendI c z w):=by
 obtain⟨qv,ev,lv,ac,hc,hq,he⟩:=h.core;obtain⟨qa,qc,rfl,_,HPR⟩:=zb9 hq.1;have c41:=hc.c41;by_cases h0:q < 0
 ·have t0:decide (q < 0)=true:=by simpa using h0
  go_enter Tryz.func21,Tryz.ntmps21;go_wp2;go_ret;exact⟨104,z.u,rfl,h,by simp,Below.refl _ _⟩
 ·have t0:decide (q < 0)=false:=by simpa using h0
  obtain⟨i,rfl⟩:∃ i:Nat,q=i:=⟨q.toNat,by omega⟩;by_cases h1:i < z.u.n
  ·have t1:decide ((z.u.n:Int)≤(i:Int))=false:=by simp;omega
   have i0:(0:Int)≤(i:Int):=by omega
   have i1:(i:Int) < (z.u.n:Int):=by omega
   obtain⟨b,o,rfl,hci⟩:=HPR.out i h1;dsimp only at hci;obtain⟨hcap,hpol,hlen⟩:=h.uok.q i h1;have hqi:=hq.2.at_ i h1;unfold QOf at hqi;rw [hpol] at hqi;have HS:=hid (zzj c.d.base (z.u.P i) ((z.u.q i).cap:Int) (z.u.q i).v (z.u.q i).xs (z.u.q i).d n w hqi h.low (by omega) (by omega));clear hqi;go_enter Tryz.func21,Tryz.ntmps21
   go_wp2_with (go_at_call 62;refine HS.out.mono ?_;rintro e w2 ⟨rfl,v2,q2,h2,s2⟩)
   go_ret;have hle:∀ k,(k=z.u.P i∨(z.u.q i).v.ownBlock=some k)→∃ cur t,w.heap[k]? =some (.cells cur t (0,0))∧c.d.base≤k∧(t=266∨t=3):=fun k hk=>by
    rcases hk with rfl|hk
    ·exact⟨_,_,(hq.2.at_ i h1).blk,(hq.2.at_ i h1).low,.inl rfl⟩
    ·obtain⟨cur,hcu⟩:=zdy (hq.2.at_ i h1).row hk
     exact⟨cur,_,hcu,((hq.2.at_ i h1).row.lt k hk).1,.inr rfl⟩
   have F:FT (fun t=>t=266∨t=3) c.d.base w w2:=FT.of_save s2 fun k _ hk=>by
    obtain⟨cur,t,h3,h4,h5⟩:=hle k hk;exact⟨h4,cur,t,h3,h5⟩
   have hF:∀ t:TypeId,t≠266→t≠3→¬ (t=266∨t=3):=fun t h1 h2 h=>h.elim h1 h2;obtain⟨s',hs'⟩:∃ s':QSt,s'=⟨(z.u.q i).cap,1,v2,(zqg ((z.u.q i).cap:Int) 1 (z.u.q i).xs (z.u.q i).d n).1,(zqg ((z.u.q i).cap:Int) 1 (z.u.q i).xs (z.u.q i).d n).2.1⟩:=⟨_,rfl⟩;have hqs:Qs w2 c.d.base z.u.n z.u.P (putN z.u.q i s'):=hq.2.turn h1 s2 (by rw [hs'];exact q2) (by rw [hs'];exact h2);have hxl:s'.xs.length=(z.u.q i).xs.length+(if (zqg ((z.u.q i).cap:Int) 1 (z.u.q i).xs (z.u.q i).d n).2.2=0 then 1 else 0)∧s'.xs.length≤(z.u.q i).cap:=by
    rw [hs'];unfold zqg;by_cases hc:((z.u.q i).xs.length:Int) < ((z.u.q i).cap:Int)
    ·rw [if_pos hc];simp;omega
    ·rw [if_neg hc,if_neg (by decide),if_neg (by decide)];simp;omega
   have hu2:QuOk (z.u.turn i s'):=⟨h.uok.n4,fun j hj=>by
    unfold QuS.turn;dsimp only;by_cases hji:j=i
    ·subst hji
     rw [zbm];exact⟨by rw [hs'];exact hcap,by rw [hs'],by rw [show s'.cap=(z.u.q j).cap by rw [hs']];exact hxl.2⟩
    ·rw [zbf z.u.q s' hji]
     exact h.uok.q j hj⟩
   have hto:=tot_turn (u:=z.u) (s:=s') h1;refine⟨_,z.u.turn i s',rfl,⟨⟨_,ev,lv,ac,hc.keep F (hF _ (by decide) (by decide)),⟨FT.own F hq.1 (hF _ (by decide) (by decide)),hqs⟩,FT.own F he (hF _ (by decide) (by decide))⟩,h.b.keep ⟨hF _ (by decide) (by decide),hF _ (by decide) (by decide),hF _ (by decide) (by decide),hF _ (by decide) (by decide),hF _ (by decide) (by decide)⟩ (hF _ (by decide) (by decide)) (hF _ (by decide) (by decide)) (hF _ (by decide) (by decide)) F,h.eok,hu2⟩,by have:=hxl.1;omega,F.below h.low⟩
  ·have t1:decide ((z.u.n:Int)≤(i:Int))=true:=by simp;omega
   go_enter Tryz.func21,Tryz.ntmps21;go_wp2;go_ret;exact⟨104,z.u,rfl,h,by simp,Below.refl _ _⟩
set_option maxHeartbeats 2000000 in
theorem ztz (c:za3) (z:zbp) (w:World) (h:zba c w z):
  Calls Tryz.prog 54 #[.pointer (some ⟨c.cb,0,none⟩)] w fun e w'=>∃ v,e=.returned v∧w'.ownsRow c.d.base 152 4 v z.evs.length (evL z.evs)∧zba c w' { z with evs:=[] }∧Below c.d.base w w':=by
 obtain⟨qv,ev,lv,ac,hc,hq,he⟩:=h.core;obtain⟨ea,ec,rfl,_,_⟩:=zar he;have c44:=hc.c44;have f44:=hc.fz 44;have k:=hc.ft_set 44 (.slice none 0 0);have k1:=hid (hc.set (j:=44) (v:=.slice none 0 0) (by omega) rfl rfl rfl rfl);have HE:=hid (FT.own k he (by unfold CbT;decide));go_enter Tryz.func54,Tryz.ntmps54;go_wp2;go_ret;exact⟨_,rfl,HE.out,⟨⟨_,_,lv,ac,k1.out,hq.keep (by unfold CbT;decide) (by unfold CbT;decide) (by unfold CbT;decide) k,World.ownsRow_nil _ _ _ _⟩,h.b.keep zg8 (by unfold CbT;decide) (by unfold CbT;decide) (by unfold CbT;decide) k,h.eok,h.uok⟩,k.below h.low⟩
set_option maxHeartbeats 1000000 in
theorem ztu (c:za3) (z:zbp) (w:World) (h:zba c w z):
  Calls Tryz.prog 67 #[.pointer (some ⟨c.cb,0,none⟩)] w fun e w'=>e=.returned (.int .i64 (z.u.n:Nat))∧w'=w:=by
 obtain⟨qv,ev,lv,ac,hc,hq,he⟩:=h.core;obtain⟨qa,qc,rfl,_,HPR⟩:=zb9 hq.1;have c41:=hc.c41;go_enter Tryz.func67,Tryz.ntmps67;go_wp2;go_ret;exact⟨rfl,rfl⟩
end Go.Proofs.YtpbmmoneeoijaaaGreatDoor
namespace Go.Proofs.YtpbmmoneeoijaaaGreatDoor
open Go.RowKit Go.Shelf Go.Deep
attribute [local go_sem] Oper.semAt_some
set_option maxRecDepth 100000
set_option maxHeartbeats 1000000 in
theorem zyv (c:za3) (z:zbp) (i:Nat) (w:World) (h:zba c w z) (hi:i < z.u.n):
  Calls Tryz.prog 139 #[.pointer (some ⟨c.cb,0,none⟩),.int .i64 (i:Nat)] w fun e w'=>e=.returned (.func (.func 269) #[] #[.pointer (some ⟨w.heap.size,0,none⟩)])∧w.alloc (.cells #[.pointer (some ⟨z.u.P i,0,none⟩)] 160)=w':=by
 obtain⟨qv,ev,lv,ac,hc,hq,he⟩:=h.core;obtain⟨qa,qc,rfl,_,HPR⟩:=zb9 hq.1;have c41:=hc.c41;have t0:decide ((i:Int) < 0)=false:=by simp
 have t1:decide ((z.u.n:Int)≤(i:Int))=false:=by simp;omega
 have i0:(0:Int)≤(i:Int):=by omega
 have i1:(i:Int) < (z.u.n:Int):=by omega
 obtain⟨b,o,rfl,hci⟩:=HPR.out i hi;dsimp only at hci;go_enter Tryz.func139,Tryz.ntmps139
 go_wp2_with (go_at_call 214;refine (zup (z.u.P i) _).mono ?_;rintro e w2 ⟨rfl,rfl⟩)
 go_ret;exact⟨rfl,rfl⟩
set_option maxHeartbeats 1000000 in
theorem many_any (c:za3) (z:zbp) (i:Nat) (w:World) (h:zba c w z) (hi:i < z.u.n):
  Calls Tryz.prog 68 #[.pointer (some ⟨c.cb,0,none⟩),.int .i64 (i:Nat)] w fun e w'=>e=.returned (.int .i64 ((z.u.q i).xs.length:Nat))∧Below w.heap.size w w':=by
 obtain⟨qv,ev,lv,ac,_,hq,_⟩:=h.core;obtain⟨hcap,_,hlen⟩:=h.uok.q i hi;have hqi:=hq.2.at_ i hi;unfold QOf at hqi;obtain⟨xs,hxs⟩:∃ xs,(z.u.q i).xs=xs:=⟨_,rfl⟩;obtain⟨qv2,hqv2⟩:∃ v,(z.u.q i).v=v:=⟨_,rfl⟩;obtain⟨p,hp⟩:∃ p,z.u.P i=p:=⟨_,rfl⟩;rw [hxs,hqv2,hp] at hqi;rw [hxs] at hlen ⊢;obtain⟨ao,ca,rfl,_,_,hrow,_⟩:=zgg hqi.row;have hv1:=Boxed.new w 3 (.int .i64 0);have hv2:=Boxed.new (w.alloc (.cells #[.int .i64 0] 3)) 160 (.pointer (some ⟨p,0,none⟩));rw [World.size_alloc] at hv2;have hB1:Below w.heap.size w (w.alloc (.cells #[.int .i64 0] 3)):=(Below.refl _ w).alloc (Nat.le_refl _) _;have hB0:Below w.heap.size w ((w.alloc (.cells #[.int .i64 0] 3)).alloc (.cells #[.pointer (some ⟨p,0,none⟩)] 160)):=hB1.alloc (by simp) _;have hseq:=all1_in 7 (by omega) (w.heap.size+1) p ao ca xs w _ (by omega) hB0 hv2 hqi.c2 hrow;have HQU:=hid (zyv c z i _ (h.below hB1) hi);rw [hp,World.size_alloc] at HQU;clear hrow hqi hq h hxs hqv2 hp;refine (callsIn_wide (n:=8)).1 ?_;refine callsIn_of_wp_marks Tryz.func68 rfl trivial ?_ rfl;simp only [Tryz.ntmps68,List.size_toArray,List.length_cons,List.length_nil,Nat.reduceAdd,Nat.reduceSub,Array.replicate_succ,Array.replicate_zero,List.push_toArray,List.append_toArray,List.nil_append,List.cons_append]
 gi_wp2_with (refine⟨trivial,?_⟩;gi_at_call 139;refine (callsIn_wide.2 HQU.out).mono ?_;rintro e w1 ⟨rfl,rfl⟩)
 have g4:∀ a b:Nat,a≤a+b:=fun a b=>Nat.le_add_right a b;refine wpIn_rangeFunc_ownF rfl (by omega) (gf:=269) (lb:=#[.pointer (some ⟨w.heap.size+1,0,none⟩)]) rfl trivial (enters_of Tryz.func269 (by kernel_rfl) rfl) hseq belowK_t (belowK_b (by simp;omega)) (Below.refl _ _) (fun _=>rfl)
  (fun pre W=>Boxed W w.heap.size 3 (.int .i64 (pre.length:Nat))∧Below w.heap.size w W)
  (fun _ _ _=>False)
  (OwnFrom.and (Own.from (boxed_own w.heap.size 3 (fun pre:List Int=>.int .i64 (pre.length:Nat))) _) (ownFrom_below (Nat.le_refl _) (by simp;omega)))
  (fun _ _ _ _ _ hs _ _=>hs)
  ⟨hv1.alloc _,hB0⟩
  (fun x=>{ tmps:=#[.pointer (some ⟨c.cb,0,none⟩),.int .i64 (i:Nat),undef,undef,.int .i64 0,.pointer (some ⟨w.heap.size,0,none⟩),.pointer (some ⟨c.cb,0,none⟩),.int .i64 (i:Nat),.func (.func 269) #[] #[.pointer (some ⟨w.heap.size+1,0,none⟩)],.int .i64 x,undef,undef,undef],defers:=[] }) ?assign ?body ?done ?stop
 case assign=>
  intro l x W K hK
  gi_wp2
  simpa using hK
 case body=>
  rintro l pre x W ⟨hv,hB⟩ hlt;have hc:=hv.cell;have hf:=hv.frozen
  gi_wp2
  have hs:=(Below.refl w.heap.size W).setCell (p:=⟨w.heap.size,0,none⟩) (Nat.le_refl _) (.int .i64 ((pre.length:Int)+1));exact⟨KeepsOthers.setCell _ _ _,hs,by simpa using hv.set (.int .i64 ((pre.length:Int)+1)),hB.trans hs⟩
 case done=>
  rintro D ys W hD rfl ⟨hv,hB⟩ hK;have hc:=hv.cell
  gi_wp2
  refine⟨by simp,.inl ⟨_,_,rfl,run_takeDeferred hK,?_⟩⟩;exact⟨_,results_tmp rfl _ _ _,rfl,hB.trans (belowK_b (w:=w) (Nat.le_refl _) W D _ _ (by simp at hD;omega) hK rfl rfl)⟩
 case stop=>
  rintro D c pre W _ _ h _;exact h.elim
set_option maxHeartbeats 1000000 in
theorem zzd (c:za3) (z:zbp) (w:World) (h:zba c w z):
  Calls Tryz.prog 25 #[.pointer (some ⟨c.cb,0,none⟩)] w fun e w'=>e=.returned (.int .i64 (z.u.tot:Nat))∧Below w.heap.size w w':=by
 have hn4:=h.uok.n4;have hq16:∀ i,i < z.u.n→(z.u.q i).xs.length≤16:=fun i hi=>by have:=h.uok.q i hi;omega
 obtain⟨N,hN⟩:∃ N,z.u.n=N:=⟨_,rfl⟩;have HQU:=hid fun X (hX:Below w.heap.size w X)=>ztu c z X (h.below hX);have HMA:=hid fun (i:Nat) (hi:i < N) X (hX:Below w.heap.size w X)=>many_any c z i X (h.below hX) (by omega);have HTO:=hid (show z.u.tot=sumQ (fun i=>(z.u.q i).xs.length) N by unfold QuS.tot;rw [hN]);rw [hN] at HQU hn4 hq16;have HQ:=hid hq16;clear hN h hq16;go_enter Tryz.func25,Tryz.ntmps25;go_wp2
 go_loopw [3,4] (fun n_ i_ wr=>∃ i:Nat,i_=.int .i64 i∧i≤N∧n_=.int .i64 (sumQ (fun i=>(z.u.q i).xs.length) i:Nat)∧Hid (Below w.heap.size w wr)) (fun _ i_ _=>N - (intOf i_).toNat)
 case atStart=>exact⟨0,rfl,Nat.zero_le _,rfl,Below.refl _ _⟩
 case round=>
  obtain⟨i,rfl,hi,rfl,HB⟩:=hrel;have hsum:sumQ (fun i=>(z.u.q i).xs.length) i≤i * 16:=zsd fun j hj=>HQ.out j (by omega);obtain⟨S,hS⟩:∃ S,sumQ (fun i=>(z.u.q i).xs.length) i=S:=⟨_,rfl⟩;by_cases hlt:i < N
  ·have t0:decide ((i:Int) < (N:Int))=true:=by simp;omega
   have hle:=HQ.out i hlt;have HS1:=hid (show sumQ (fun i=>(z.u.q i).xs.length) (i+1)=S+(z.u.q i).xs.length by rw [←hS];rfl);obtain⟨L,hL⟩:∃ L,(z.u.q i).xs.length=L:=⟨_,rfl⟩;have HM:=hid (HMA.out i hlt);rw [hL] at HM hle HS1;rw [hS] at hsum ⊢;clear hL hS
   go_wp2_with (first|(go_at_call 67;refine (HQU.out _ HB.out).mono ?_;rintro e w2 ⟨rfl,hw2⟩;obtain rfl:=hw2.symm)|(go_at_call 68;refine (HM.out _ HB.out).mono ?_;rintro e w3 ⟨rfl,b3⟩))
   go_roundw
   case rel=>exact⟨i+1,by go_num,by omega,by rw [HS1.out];go_num,hid (HB.out.trans (b3.mono HB.out.size))⟩
   case measure=>simp [intOf];omega
  ·obtain rfl:i=N:=by omega
   have t0:decide ((i:Int) < (i:Int))=false:=by simp
   go_wp2_with (go_at_call 67;refine (HQU.out _ HB.out).mono ?_;rintro e w2 ⟨rfl,hw2⟩;obtain rfl:=hw2.symm)
   go_ret;exact⟨by rw [HTO.out,hS];rfl,HB.out⟩
theorem zxj (a b:Int):wrap64 (wrap64 a+b)=wrap64 (a+b):=by
 unfold wrap64;omega
theorem evL_get {l:List EvR} {j k:Nat} (h:j < l.length) (hk:k < 4):(evL l)[j * 4+k]? =(evC l[j])[k]?:=by
 induction l generalizing j with
 |nil=>simp at h
 |cons x l ih=>
  show (evC x ++ evL l)[j * 4+k]? =_
  cases j with
  |zero=>rw [List.getElem?_append_left (by simp [evC];omega),Nat.zero_mul,Nat.zero_add];rfl
  |succ j=>
   have h2:j < l.length:=by simpa using h
   rw [List.getElem?_append_right (by simp [evC];omega)];have:=ih h2;rw [show (evC x).length=4 from rfl,show (j+1) * 4+k - 4=j * 4+k by omega];exact this
set_option maxHeartbeats 1000000 in
theorem zts (c:za3) (z:zbp) (w:World) (h:zba c w z) (hl:z.evs.length≤100000000):
  Calls Tryz.prog 24 #[.pointer (some ⟨c.cb,0,none⟩)] w fun e w'=>e=.returned (.int .i64 (wrap64 (drp z.evs)))∧zba c w' { z with evs:=[] }∧Below c.d.base w w':=by
 have HEV:=hid (ztz c z w h);obtain⟨l,hle⟩:∃ l,z.evs=l:=⟨_,rfl⟩;rw [hle] at HEV hl ⊢;clear hle h;obtain⟨N,hN⟩:∃ N,l.length=N:=⟨_,rfl⟩;have HN0:=hid hN;rw [hN] at HEV hl;clear hN;go_enter Tryz.func24,Tryz.ntmps24
 go_wp2_with (go_at_call 54;refine HEV.out.mono ?_;rintro e w2 ⟨v2,rfl,o2,I2,b2⟩;obtain⟨ua,uc,rfl,_,hcell⟩:=zar o2)
 have HI:=hid I2;have HB:=hid b2;have HC:=hid hcell;clear I2 b2 o2 HEV hcell
 go_loopw [3,5] (fun n_ i_ wr=>∃ i:Nat,i_=.int .i64 i∧i≤N∧n_=.int .i64 (wrap64 (drp (l.take i)))∧wr=w2) (fun _ i_ _=>N - (intOf i_).toNat)
 case atStart=>exact⟨0,rfl,Nat.zero_le _,by simp [drp,wrap64],rfl⟩
 case round=>
  obtain⟨i,rfl,hi,rfl,rfl⟩:=hrel;by_cases hlt:i < N
  ·have t0:decide ((i:Int) < (N:Int))=true:=by simp;omega
   have i0:(0:Int)≤(i:Int):=by omega
   have i1:(i:Int) < (N:Int):=by omega
   have hiL:i < l.length:=by rw [HN0.out];exact hlt
   obtain⟨b,rfl,_,hcl,_⟩:=HC.out (by omega);have hd:drp (l.take (i+1))=drp (l.take i)+drpE l[i]:=by rw [List.take_succ_eq_append_getElem hiL,zhe,ztr]
   have key:∀ k,k < 4→wr.cell? ⟨b,i * 4+k,none⟩=(evC l[i])[k]?:=fun k hk=>(hcl (i * 4+k) (by omega)).trans (evL_get hiL hk);obtain⟨x,hx⟩:∃ x,l[i]=x:=⟨_,rfl⟩;rw [hx] at key hd;obtain⟨tt,kk,ka,kb⟩:=x;have d1:wr.cell? ⟨b,i * 4+1,none⟩=some (.int .i64 kk):=key 1 (by decide);have d3:wr.cell? ⟨b,i * 4+3,none⟩=some (.int .i64 kb):=key 3 (by decide);have HD:=hid hd;obtain⟨S,hS⟩:∃ S,drp (l.take i)=S:=⟨_,rfl⟩;rw [hS] at HD ⊢;clear hS hd key hx hcl;by_cases hk:kk=10
   ·subst hk
    go_wp2;go_roundw
    case rel=>exact⟨i+1,by go_num,by omega,by rw [HD.out];simp [drpE,zxj],trivial⟩
    case measure=>simp [intOf];omega
   ·have u1:(kk == 10)=false:=by simp [hk]
    go_wp2;go_roundw
    case rel=>exact⟨i+1,by go_num,by omega,by rw [HD.out];simp [drpE,hk],trivial⟩
    case measure=>simp [intOf];omega
  ·obtain rfl:i=N:=by omega
   have t0:decide ((i:Int) < (i:Int))=false:=by simp
   go_wp2;go_ret;rw [List.take_of_length_le (by rw [HN0.out];exact Nat.le_refl _)];exact⟨rfl,HI.out,HB.out⟩
end Go.Proofs.YtpbmmoneeoijaaaGreatDoor
namespace Go.Proofs.YtpbmmoneeoijaaaGreatDoor
open Go.RowKit Go.Deep Go.Shelf
set_option maxRecDepth 100000
def schL:Array Value:=#[.int .i64 0,.int .i64 0,.int .i64 0,.int .i64 0,.int .i64 0,.slice none 0 0,.int .i64 0,.int .i64 0,.int .i64 0,.int .i64 0,.int .i64 0,.slice none 0 0,.int .i64 0,.int .i64 0,.int .i64 0,.int .i64 0,.int .i64 0,.slice none 0 0,.int .i64 0,.int .i64 0,.int .i64 0,.int .i64 0,.int .i64 0,.slice none 0 0,.int .i64 0,.int .i64 0,.int .i64 0,.int .i64 0,.int .i64 0,.slice none 0 0,.int .i64 0,.int .i64 0,.int .i64 0,.int .i64 0,.int .i64 0,.slice none 0 0,.int .i64 0,.int .i64 0,.int .i64 0,.int .i64 0,.int .i64 0,.slice none 0 0,.int .i64 0,.int .i64 0,.int .i64 0,.int .i64 0,.int .i64 0,.slice none 0 0,.int .i64 0,.int .i64 0,.int .i64 0,.int .i64 0,.int .i64 0,.slice none 0 0,.int .i64 0,.int .i64 0,.int .i64 0,.int .i64 0,.int .i64 0,.slice none 0 0,.int .i64 0,.int .i64 0,.int .i64 0,.int .i64 0,.int .i64 0,.slice none 0 0,.int .i64 0,.int .i64 0,.int .i64 0,.int .i64 0,.int .i64 0,.slice none 0 0,.int .i64 0,.int .i64 0,.int .i64 0,.int .i64 0,.int .i64 0,.slice none 0 0,.int .i64 0,.int .i64 0,.int .i64 0,.int .i64 0,.int .i64 0,.slice none 0 0,.int .i64 0,.int .i64 0,.int .i64 0,.int .i64 0,.int .i64 0,.slice none 0 0,.int .i64 0,.int .i64 0,.int .i64 0,.int .i64 0,.int .i64 0,.slice none 0 0,.int .u32 0,.int .u32 0,.int .u32 0,.int .u32 0,.int .u32 0,.int .u32 0,.int .u32 0,.int .u32 0,.int .u32 0,.int .u32 0,.int .u32 0,.int .u32 0,.int .u32 0,.int .u32 0,.int .u32 0,.int .u32 0,.int .u32 0,.int .u32 0,.int .u32 0,.int .u32 0,.int .u32 0,.int .u32 0,.int .u32 0,.int .u32 0,.int .u32 0,.int .u32 0,.int .u32 0,.int .u32 0,.int .u32 0,.int .u32 0,.int .u32 0,.int .u32 0,.int .u32 0,.int .u32 0,.int .u32 0,.int .i64 16,.int .i64 16,.int .i64 16,.int .i64 16,.int .i64 16,.int .i64 16,.int .i64 16,.int .i64 16,.int .i64 0]
theorem zzk:schL.size=140:=by rfl
theorem sch_laid (w:World) (base:Nat) (hb:base≤w.heap.size):zb8 (w.alloc (.cells schL 249)) base w.heap.size:=by
 have bX:=heap_alloc_new w (.cells schL 249);refine⟨(zaa bX 96).trans rfl,(zaa bX 97).trans rfl,⟨0,(zaa bX 139).trans rfl⟩,fun k hk=>⟨_,(zaa bX (131+k)).trans (Array.getElem?_eq_getElem (by rw [zzk];omega))⟩,fun o=>zab bX o,⟨_,bX⟩,hb⟩
attribute [local irreducible] schL
set_option maxHeartbeats 1000000 in
theorem zxy (base:Nat) (w:World) (hb:base≤w.heap.size):
  Calls Tryz.prog 104 #[] w fun e w'=>∃ sb,e=.returned (.pointer (some ⟨sb,0,none⟩))∧zb8 w' base sb∧Below w.heap.size w w':=by
 go_enter Tryz.func104,Tryz.ntmps104
 go_upto_region 1 with fail
 refine wp_region_lit ?_
 go_wp2_with fail
 refine (zi9 _).mono ?_;rintro e w2 ⟨rfl,b2⟩;dsimp only;rename_i KK hKK;refine hKK _ _ ?_;refine zbv rfl (v:=.agg schL) (by kernel_rfl) ?_;go_wp2;go_ret;exact⟨_,rfl,sch_laid w2 base (Nat.le_trans hb b2.size),b2.trans ((Below.refl _ w2).alloc b2.size _)⟩
end Go.Proofs.YtpbmmoneeoijaaaGreatDoor
namespace Go.Proofs.YtpbmmoneeoijaaaGreatDoor
open Go.RowKit Go.Deep Go.Shelf
set_option maxRecDepth 100000
def eng0:EngS:=⟨0,-1,0,0,0,-1,0⟩
theorem eng_laid (W:World) (base:Nat) (y:Img) (cm ce:Value) (hb:base≤W.heap.size):zdk (W.alloc (.cells #[.int .i64 y.r,.slice y.ao y.n y.cap,.slice y.mo y.mn y.mc,.slice y.eo y.en y.ec,cm,ce,.int .i64 0,.int .i64 (-1),.int .i64 0,.int .i64 0,.int .i64 0,.int .i64 (-1),.int .u32 0,.pointer none,.int .i64 0] 259)) base W.heap.size y cm ce eng0 []:=by
 have bX:=heap_alloc_new W (.cells #[.int .i64 y.r,.slice y.ao y.n y.cap,.slice y.mo y.mn y.mc,.slice y.eo y.en y.ec,cm,ce,.int .i64 0,.int .i64 (-1),.int .i64 0,.int .i64 0,.int .i64 0,.int .i64 (-1),.int .u32 0,.pointer none,.int .i64 0] 259);exact⟨zaa bX 0,zaa bX 1,zaa bX 2,zaa bX 3,zaa bX 4,zaa bX 5,zaa bX 6,zaa bX 7,zaa bX 8,zaa bX 9,zaa bX 10,zaa bX 11,zaa bX 12,fun o=>zab bX o,⟨_,bX⟩,Dl.qs_nil (zaa bX 13) (zaa bX 14) (fun o=>zab bX o) hb,hb⟩
def zCf (x:Img) (M:Nat→za9) (g:Nat→Nat→Int) (q:Nat→Nat→Nat→Int) (h:Nat→Nat→Int) (cm ce:Value) (base:Nat) (w:World) (e:Ending) (w':World):Prop:=
 ∃ y R eb,e=.returned (.pointer (some ⟨eb,0,none⟩))∧(y.r=x.r∧y.n=x.n∧y.mn=x.mn∧y.en=x.en)∧(∀ i,i < x.mn→(R i).t=(M i).t∧(R i).qn=(M i).qn)∧zg6 w' y R g q h∧zdk w' base eb y cm ce eng0 []∧Below w.heap.size w w'
set_option maxHeartbeats 2000000 in
theorem zyt (x:Img) (M:Nat→za9) (g:Nat→Nat→Int) (q:Nat→Nat→Nat→Int) (h:Nat→Nat→Int) (ca co:Option Addr) (cl cb cn cc base:Nat) (w:World) (hb:base≤w.heap.size) (hO:zg6 w x M g q h)
  (hn:x.n≤100) (hm1:1≤x.mn) (hmn:x.mn≤100) (hen:x.en≤100) (hqn:∀ i,i < x.mn→(M i).qn≤100):
  Calls Tryz.prog 106 #[iv x,.agg #[.slice ca cl cb,.slice co cn cc]] w (zCf x M g q h (.slice ca cl cb) (.slice co cn cc) base w):=by
 have HCP:=hid fun X (hX:Below w.heap.size w X)=>zvl x M g q h X (hO.tasks.below hX) (hO.modes.below hX) (fun i hi=>(hO.queues i hi).below hX) (hO.edges.below hX) hn hm1 hmn hen hqn;unfold iv at HCP ⊢;have b1:Below w.heap.size w (w.alloc (.cells #[.int .i64 x.r,.slice x.ao x.n x.cap,.slice x.mo x.mn x.mc,.slice x.eo x.en x.ec] 26)):=(Below.refl _ _).alloc (Nat.le_refl _) _;have b2:=b1.alloc b1.size (.cells #[.slice ca cl cb,.slice co cn cc] 97);have bI:=zac (heap_alloc_new w (.cells #[.int .i64 x.r,.slice x.ao x.n x.cap,.slice x.mo x.mn x.mc,.slice x.eo x.en x.ec] 26)) (.cells #[.slice ca cl cb,.slice co cn cc] 97);have bC:=heap_alloc_new (w.alloc (.cells #[.int .i64 x.r,.slice x.ao x.n x.cap,.slice x.mo x.mn x.mc,.slice x.eo x.en x.ec] 26)) (.cells #[.slice ca cl cb,.slice co cn cc] 97);rw [World.size_alloc] at bC;go_enter Tryz.func106,Tryz.ntmps106
 go_upto_region 1 with fail
 obtain⟨W2,hW2⟩:∃ X,X=(w.alloc (.cells #[.int .i64 x.r,.slice x.ao x.n x.cap,.slice x.mo x.mn x.mc,.slice x.eo x.en x.ec] 26)).alloc (.cells #[.slice ca cl cb,.slice co cn cc] 97):=⟨_,rfl⟩;rw [←hW2] at b2 bI bC ⊢;clear hW2 b1;have i0:=zaa bI 0;have i1:=zaa bI 1;have i2:=zaa bI 2;have i3:=zaa bI 3;have k0:=zaa bC 0;have k1:=zaa bC 1;refine zah [1,3,4,5] (fun X=>Below W2.heap.size W2 X) (by kernel_rfl) (by kernel_rfl) (⟨rfl,rfl,rfl,Nat.le_refl _,fun _ _=>rfl⟩:Below W2.heap.size W2 W2.drew) ?_;refine qFs fun K hK=>?_;go_simp;refine⟨.agg #[.int .i64 x.r,.slice x.ao x.n x.cap,.slice x.mo x.mn x.mc,.slice x.eo x.en x.ec],fun X hX=>?_,hK _ ?_⟩
 ·have z0:=kept i0 hX
  have z1:=kept i1 hX;have z2:=kept i2 hX;have z3:=kept i3 hX;go_simp
 clear hK K;refine qFc ?_;refine qFs fun K hK=>?_;go_simp;refine⟨.agg #[.slice ca cl cb,.slice co cn cc],fun X hX=>?_,hK _ ?_⟩
 ·have z0:=kept k0 hX
  have z1:=kept k1 hX;go_simp
 clear hK K;refine qFc ?_;refine qFc ?_;refine qFc ?_;refine zau ?_;have B0:Below W2.heap.size W2 W2.drew:=⟨rfl,rfl,rfl,Nat.le_refl _,fun _ _=>rfl⟩;refine qT1 1 [3,4,5] fun K hK=>?_;dsimp only [List.getElem_toArray,List.getElem_cons_succ,List.getElem_cons_zero]
 go_wp2_with fail
 refine (HCP.out _ (b2.trans (B0.mono b2.size))).mono ?_;rintro e W5 ⟨y,R,rfl,hy,hR,hOy,b5⟩;have HY:=hid hy;have HR:=hid hR;clear hy hR;have b6:=B0.trans (b5.mono B0.size);unfold iv
 go_wp2_with fail
 refine hK _ _ b6 ?_;clear hK K;refine qT1 3 [4,5] fun K hK=>?_;dsimp only [List.getElem_toArray,List.getElem_cons_succ,List.getElem_cons_zero];refine zbv rfl (v:=.agg #[.int .i64 y.r,.slice y.ao y.n y.cap,.slice y.mo y.mn y.mc,.slice y.eo y.en y.ec,.slice ca cl cb,.slice co cn cc,.int .i64 0,.int .i64 (-1),.int .i64 0,.int .i64 0,.int .i64 0,.int .i64 (-1),.int .u32 0,.pointer none,.int .i64 0]) (by kernel_rfl) ?_;refine hK _ _ b6 ?_;clear hK K;refine qT1 4 [5] fun K hK=>?_;dsimp only [List.getElem_toArray,List.getElem_cons_succ,List.getElem_cons_zero]
 go_wp2_with fail
 have b7:=b6.trans ((Below.refl W2.heap.size W5).alloc b6.size (.cells #[.int .i64 y.r,.slice y.ao y.n y.cap,.slice y.mo y.mn y.mc,.slice y.eo y.en y.ec,.slice ca cl cb,.slice co cn cc,.int .i64 0,.int .i64 (-1),.int .i64 0,.int .i64 0,.int .i64 0,.int .i64 (-1),.int .u32 0,.pointer none,.int .i64 0] 259));refine hK _ _ b7 ?_;clear hK K;refine qT1 5 [] fun K hK=>?_;dsimp only [List.getElem_toArray,List.getElem_cons_succ,List.getElem_cons_zero]
 go_wp2_with fail
 refine hK _ _ b7 ?_;clear hK K;refine zan ?_;go_wp2;go_ret;have bz:=b2.trans (b7.mono b2.size);exact⟨y,R,W5.heap.size,rfl,HY.out,HR.out,hOy.keep zb6 (FT.alloc (base:=0) W5 _),eng_laid W5 base y _ _ (Nat.le_trans hb (Nat.le_trans b2.size b6.size)),bz⟩
end Go.Proofs.YtpbmmoneeoijaaaGreatDoor
