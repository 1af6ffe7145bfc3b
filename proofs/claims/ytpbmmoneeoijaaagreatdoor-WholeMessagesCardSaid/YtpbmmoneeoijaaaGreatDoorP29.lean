/-
  A part of the proof: QueueList Values QueueStep QueueFillLaw QueueFill QueueLen SliceEqualI MigKit.
-/
import Derived.Test.YtpbmmoneeoijaaaGreatDoorP28
namespace Go.Proofs.YtpbmmoneeoijaaaGreatDoor
open Go.RowKit Go.Shelf
attribute [local go_sem] Oper.semAt_some
theorem zb2 {w w':World} (h:Below w.heap.size w w'):w.grownBy w' none:=⟨h.os,h.tape,h.output,h.size,fun k hk _=>h.block k hk⟩
theorem zp8 {xs:List Int} {k:Nat} (h:k < xs.length):xs.take (k+1)=xs.take k ++ [xs.getD k 0]:=by
 rw [List.take_succ_eq_append_getElem h];simp [List.getD,h]
set_option maxRecDepth 100000 in
set_option maxHeartbeats 400000 in
theorem all1_in (m:Nat) (hm:2≤m) (Bq p:Nat) (ao:Option Addr) (c:Nat) (xs:List Int) (w0 w:World) (hn:xs.length≤1000) (hb0:Below w0.heap.size w0 w) (hl:Boxed w Bq 160 (.pointer (some ⟨p,0,none⟩))) (h2:w0.cell? ⟨p,2,none⟩=some (.slice ao xs.length c)) (hT:Row w0 ao xs.length (fun i=>.int .i64 (xs.getD i 0))):
  SeqStopsK Fence.wide m Tryz.prog 269 #[.pointer (some ⟨Bq,0,none⟩)] (fun x:Int=>#[.int .i64 x]) (Below w0.heap.size) (fun ys=>ys=xs) (fun pre=>pre <+:xs) xs.length w:=by
 intro l J Jx W hW hJ hJx hY h0;refine callsIn_of_wp Tryz.func269 rfl trivial ?_ rfl;simp only [Tryz.ntmps269,List.size_toArray,List.length_cons,List.length_nil,Nat.reduceAdd,Nat.reduceSub,Array.replicate_succ,Array.replicate_zero,List.push_toArray,List.append_toArray,List.nil_append,List.cons_append];have h1:1≤m:=by omega
 have hl':=(hW.cell (zal hl.cell)).trans hl.cell;have hbW:=hb0.trans (hW.mono hb0.size);have h2':=(hbW.cell (zal h2)).trans h2;obtain⟨n,hnn⟩:∃ n,xs.length=n:=⟨_,rfl⟩;have HN:=hid hnn;rw [hnn] at h2' hT hn hY;clear hnn
 gi_wp2
 gi_loopw [4,10] (fun _ i wr=>∃ k:Nat,k≤n∧i=.int .i64 k∧J (xs.take k) wr∧Below w0.heap.size w0 wr∧W.heap.size≤wr.heap.size) (fun _ i _=>n - (intOf i).toNat)
 case atStart=>exact⟨0,Nat.zero_le _,rfl,h0,hbW,Nat.le_refl _⟩
 case round=>
  obtain⟨k,hk,rfl,hJs,hnx,hsz⟩:=hrel;by_cases hlt:k < n
  ·have t0:decide ((k:Int) < (n:Int))=true:=by simp;omega
   obtain⟨b,o,rfl,c00⟩:=hT k hlt;have c0:w0.cell? ⟨b,o+k,none⟩=some (.int .i64 (xs.getD k 0)):=c00;clear c00;have c1:=(hnx.cell (zal c0)).trans c0;have HS:=hid (zp8 (xs:=xs) (k:=k) (by have:=HN.out;omega));obtain⟨x,hx⟩:∃ x,xs.getD k 0=x:=⟨_,rfl⟩;rw [hx] at HS c1;clear hx c0;have HP:=hid (show xs.take (k+1) <+:xs from List.take_prefix _ _);obtain⟨fn,tmps,assign,body,hy,hR⟩:=hY _ x wr hJs (by rw [List.length_take];have:=HN.out;omega)
   gi_wp2
   refine hR.mono ?_;rintro e W3 (⟨rfl,hJ3,hk3⟩|⟨rfl,hJx3⟩)
   ·gi_wp2
    go_roundw
    case rel=>exact⟨k+1,by omega,by simp,by rw [HS.out];exact hJ3,hnx.trans hk3,Nat.le_trans hsz hk3.size⟩
    case measure=>simp [intOf];omega
   ·gi_wp2
    refine bodyPost_ret (results_none rfl _ _ _) rfl ?_;exact⟨⟨_,rfl⟩,.inr ⟨_,by rw [←HS.out];exact HP.out,hJx3⟩⟩
  ·obtain rfl:k=n:=by omega
   have t0:decide ((k:Int) < (k:Int))=false:=by simp
   gi_wp2
   go_end0
   exact⟨⟨_,rfl⟩,.inl ⟨_,rfl,by rw [List.take_of_length_le (by have:=HN.out;omega)] at hJs;exact hJs⟩⟩
theorem zup (p:Nat) (w:World):Calls Tryz.prog 214 #[.pointer (some ⟨p,0,none⟩)] w fun e w'=>e=.returned (.func (.func 269) #[] #[.pointer (some ⟨w.heap.size,0,none⟩)])∧w.alloc (.cells #[.pointer (some ⟨p,0,none⟩)] 160)=w':=by
 go_enter Tryz.func214,Tryz.ntmps214;go_wp2;go_ret;exact⟨rfl,rfl⟩
end Go.Proofs.YtpbmmoneeoijaaaGreatDoor
namespace Go.Proofs.YtpbmmoneeoijaaaGreatDoor
open Go.RowKit Go.Shelf
attribute [local go_sem] Oper.semAt_some
def KpR (lo:Option Addr) (W W':World):Prop:=W.heap.size≤W'.heap.size∧∀ a,lo=some a→∀ o,W.heap[a.block]? =some o→o.isCells=true→W'.heap[a.block]? =some o
theorem KpR.t {lo:Option Addr} {A B C:World} (h:KpR lo A B) (k:KpR lo B C):KpR lo A C:=⟨Nat.le_trans h.1 k.1,fun a e o ho hc=>k.2 a e o (h.2 a e o ho hc) hc⟩
theorem cell_obj {W:World} {b o:Nat} {v:Value} (h:W.cell? ⟨b,o,none⟩=some v):∃ x,W.heap[b]? =some x∧x.isCells=true:=by
 unfold World.cell? at h
 cases hx:W.heap[b]? with
 |none=>rw [hx] at h;cases h
 |some x=>cases x<;>simp_all [Obj.isCells]
theorem Row.kpr {lo:Option Addr} {n:Nat} {f:Nat→Value} {W W':World} (h:Row W lo n f) (hk:KpR lo W W'):Row W' lo n f:=fun i hi=>by
 obtain⟨b,o,rfl,hc⟩:=h i hi;obtain⟨x,hx,hxc⟩:=cell_obj hc;exact⟨b,o,rfl,(World.cell?_of_block (w:=W) (w':=W') (a:=⟨b,o+i,none⟩) ((hk.2 _ rfl x hx hxc).trans hx.symm)).trans hc⟩
end Go.Proofs.YtpbmmoneeoijaaaGreatDoor
namespace Go.Proofs.YtpbmmoneeoijaaaGreatDoor
open Go.RowKit
def zd6 (xs:List Int) (m:Nat):List Int:=if m < xs.length then xs.drop (xs.length - m) else xs
attribute [local go_sem] zch
end Go.Proofs.YtpbmmoneeoijaaaGreatDoor
namespace Go.Proofs.YtpbmmoneeoijaaaGreatDoor
def zde (cap:Nat):List Int→Nat→List Int→List Int×Nat
 |xs,d,[]=>(xs,d)
 |xs,d,x :: L=>if xs.length=cap then zde cap (xs.drop 1 ++ [x]) (d+1) L else zde cap (xs ++ [x]) d L
theorem zhc (cap:Nat):∀ (L:List Int) (xs:List Int) (d:Nat) (x:Int),zde cap xs d (L ++ [x])=if (zde cap xs d L).1.length=cap then ((zde cap xs d L).1.drop 1 ++ [x],(zde cap xs d L).2+1) else ((zde cap xs d L).1 ++ [x],(zde cap xs d L).2)
 | [],xs,d,x=>by
  show (if _ then _ else _)=_;rfl
 |y :: L,xs,d,x=>by
  show (if _ then zde cap _ _ (L ++ [x]) else zde cap _ _ (L ++ [x]))=_;have e:zde cap xs d (y :: L)=if xs.length=cap then zde cap (xs.drop 1 ++ [y]) (d+1) L else zde cap (xs ++ [y]) d L:=rfl
  rw [e];by_cases h:xs.length=cap
  ·simp only [if_pos h];exact zhc cap L _ _ x
  ·simp only [if_neg h];exact zhc cap L _ _ x
theorem ziy (xs:List Int) (m:Nat):(zd6 xs m).length=min xs.length m:=by
 unfold zd6
 split
 ·rw [List.length_drop];omega
 ·omega
theorem zvd (cap:Nat) (hc:1≤cap) (xs:List Int) (hx:xs.length≤cap) (d:Nat):∀ n (L:List Int),L.length=n→zde cap xs d L=(zd6 (xs ++ L) cap,d+((xs ++ L).length - (zd6 (xs ++ L) cap).length)):=by
 intro n
 induction n with
 |zero=>
  intro L hL;obtain rfl:=List.eq_nil_of_length_eq_zero hL;rw [List.append_nil,ziy];show (xs,d)=_;have:zd6 xs cap=xs:=if_neg (by omega);rw [this,show xs.length - min xs.length cap=0 by omega];rfl
 |succ n ih=>
  intro L hL;obtain⟨L',x,rfl⟩:∃ L' x,L=L' ++ [x]:=by
   rcases List.eq_nil_or_concat L with h|⟨L',x,h⟩
   ·rw [h] at hL;cases hL
   ·exact⟨L',x,by rw [h,List.concat_eq_append]⟩
  have hl:L'.length=n:=by simpa using hL
  rw [zhc,ih L' hl,←List.append_assoc];simp only [ziy];by_cases h:min (xs ++ L').length cap=cap
  ·rw [if_pos h]
   have h2:cap≤(xs ++ L').length:=by omega
   have e:zd6 (xs ++ L' ++ [x]) cap=(zd6 (xs ++ L') cap).drop 1 ++ [x]:=by
    have h3:zd6 (xs ++ L' ++ [x]) cap=(xs ++ L' ++ [x]).drop ((xs ++ L' ++ [x]).length - cap):=if_pos (by simp at h2 ⊢;omega);have h4:zd6 (xs ++ L') cap=(xs ++ L').drop ((xs ++ L').length - cap):=by
     unfold zd6
     split
     ·rfl
     ·rw [show (xs ++ L').length - cap=0 by omega,List.drop_zero]
    rw [h3,h4,List.drop_drop,List.drop_append_of_le_length (by simp at h2 ⊢;omega)]
    congr 2
    simp at h2 ⊢;omega
   rw [e];simp at h2 ⊢;omega
  ·rw [if_neg h]
   have h2:(xs ++ L').length < cap:=by omega
   have e1:zd6 (xs ++ L') cap=xs ++ L':=if_neg (by omega);have e2:zd6 (xs ++ L' ++ [x]) cap=xs ++ L' ++ [x]:=if_neg (by simp at h2 ⊢;omega);rw [e1,e2];simp at h2 ⊢;omega
end Go.Proofs.YtpbmmoneeoijaaaGreatDoor
namespace Go.Proofs.YtpbmmoneeoijaaaGreatDoor
open Go.RowKit Go.Shelf
attribute [local go_sem] Oper.semAt_some Oper.quietS Oper.effS zgv zne zch
theorem kpr_b {n₀:Nat} {lo:Option Addr} (W:World) (l:Nat) (o o':Obj) (_hl:n₀≤l) (h:W.heap[l]? =some o) (hc:o.isCells=false) (_hw:o.isWalk=false):KpR lo W (W.putObj l o'):=by
 refine⟨(grownBy_putObj' W l o').size,fun a _ x hx hxc=>?_⟩;refine ((grownBy_putObj' W l o').block a.block (Array.getElem?_eq_some_iff.1 hx).1 fun e=>?_).trans hx;obtain rfl:a.block=l:=by simpa using e
 rw [h] at hx;cases hx;rw [hc] at hxc;cases hxc
theorem zo5 {S:Nat→Prop} {lo:Option Addr} {W W':World} (h:Save S W W') (hn:∀ a,lo=some a→¬ S a.block):KpR lo W W':=⟨h.size,fun a e _ ho _=>zaj ho h (hn a e)⟩
theorem zl2 {cap:Nat} (hc:1≤cap) {xs:List Int} (hx:xs.length≤cap) (L:List Int):(zde cap xs 0 L).1.length≤cap∧(zde cap xs 0 L).2≤L.length:=by
 rw [zvd cap hc xs hx 0 _ L rfl];simp only [ziy,List.length_append];omega
structure FillI (base p cap:Nat) (pol d:Int) (v:Value) (xs:List Int) (w w1:World) (pre:List Int) (W:World):Prop where
 q:∃ v',QAt W base p cap pol v' (zde cap xs 0 pre).1 d∧Heir w1 v v'
 bq:Boxed W w.heap.size 160 (.pointer (some ⟨p,0,none⟩))
 bo:Boxed W (w.heap.size+1) 3 (.int .i64 (zde cap xs 0 pre).2)
 s:Save (fun k=>k=p∨v.ownBlock=some k) w W
theorem zAu {base p cap:Nat} {pol d:Int} {v:Value} {xs:List Int} {w w1:World} (h1:w.heap.size≤w1.heap.size):OwnFrom w1.heap.size (FillI base p cap pol d v xs w w1):=fun pre A B row hs hg hr=>by
 obtain⟨⟨v',hq,hv⟩,bq,bo,s⟩:=hs;have hS:=Save.of_grown hg;have hnot:∀ {k:Nat} {o:Obj},A.heap[k]? =some o→o.isCells=true→row≠some k:=fun ho hc e=>by
  obtain⟨_,o',ho',hc'⟩:=hr _ e;rw [ho] at ho';cases ho';rw [hc] at hc';cases hc'
 refine⟨⟨v',hq.save hS (hnot hq.blk rfl) fun g hg' e=>?_,hv⟩,bq.kept hg (fun e=>hnot bq rfl e.symm),bo.kept hg (fun e=>hnot bo rfl e.symm),s.trans hS fun i hi e=>?_⟩
 ·rcases hq.row.2 with ⟨hn,_⟩|⟨g',_,_,hn,_,hb,_⟩
  ·rw [hn] at hg';cases hg'
  ·rw [hn] at hg';cases hg';exact hnot hb rfl e
 ·have:=(hr i e).1;omega
theorem znn {X Y:World} {base:Nat} {e:TypeId} {size:Nat} {v:Value} {k:Nat} {xs:List Value} (h:X.ownsRow base e size v k xs) (hg:X.grownBy Y v.ownBlock):KeepsOthers X Y:=
 KeepsOthers.of_grownBy hg fun j o ej hj=>by
  rcases h.2 with ⟨rfl,_⟩|⟨g,cap,cur,rfl,_,hgb,_⟩
  ·cases ej
  ·cases ej
   rw [hgb] at hj;cases hj;rfl
structure zr0 (B p:Nat) (u:Value) (X:World):Prop where
 q:X.cell? ⟨B,0,none⟩=some (.pointer (some ⟨p,0,none⟩))
 l:X.cell? ⟨p,2,none⟩=some u
def zpw (base p cap:Nat) (pol d:Int) (v:Value) (xs L:List Int) (w:World) (e:Ending) (w':World):Prop:=
 e=.returned (.int .i64 (zde cap xs 0 L).2)∧∃ v',QAt w' base p cap pol v' (zde cap xs 0 L).1 (min (d+(zde cap xs 0 L).2) 4096)∧Heir w v v'∧Save (fun k=>k=p∨v.ownBlock=some k) w w'
set_option maxRecDepth 100000 in
set_option maxHeartbeats 2000000 in
theorem fill_any (gf:Nat) (lb:Array Value) (base p:Nat) (cap:Nat) (pol d:Int) (v:Value) (xs L:List Int) (lo:Option Addr) (w:World) (hq:QAt w base p cap pol v xs d) (hbw:base≤w.heap.size) (hcap:1≤cap∧cap≤16) (hlen:xs.length≤cap) (hd:0≤d∧d≤4096)
  (hLl:L.length≤100) (hlp:∀ a,lo=some a→a.block < w.heap.size∧a.block≠p∧v.ownBlock≠some a.block) (eg:∀ args w,(callFunc gf args).run Tryz.prog w=.ok (.enter gf args) w)
  (hseq:SeqStopsK Fence.wide 7 Tryz.prog gf lb (fun x:Int=>#[.int .i64 x]) (KpR lo) (fun ys=>ys=L) (fun pre=>pre <+:L) L.length w):
  Calls Tryz.prog 265 #[.pointer (some ⟨p,0,none⟩),.func (.func gf) #[] lb] w fun e w'=>zpw base p cap pol d v xs L w e w':=by
 obtain⟨i0,hi,hz0,hz1,hz2⟩:=info_parts zs6;refine (callsIn_wide (n:=8)).1 ?_;refine callsIn_of_wp_marks Tryz.func265 rfl trivial ?_ rfl;simp only [Tryz.ntmps265,List.size_toArray,List.length_cons,List.length_nil,Nat.reduceAdd,Nat.reduceSub,Array.replicate_succ,Array.replicate_zero,List.push_toArray,List.append_toArray,List.nil_append,List.cons_append];have hpw:=hq.lt;have hvw:∀ g,v.ownBlock=some g→g < w.heap.size:=fun g hg=>(hq.row.lt g hg).2;have hb0:=Boxed.new w 160 (.pointer (some ⟨p,0,none⟩));have hb1:=Boxed.new (w.alloc (Obj.cells #[.pointer (some ⟨p,0,none⟩)] 160)) 3 (.int .i64 0);rw [World.size_alloc] at hb1
 gi_wp2
 obtain⟨w1,hw1⟩:∃ w1,w1=(w.alloc (Obj.cells #[.pointer (some ⟨p,0,none⟩)] 160)).alloc (Obj.cells #[.int .i64 0] 3):=⟨_,rfl⟩;have hB0:Below w.heap.size w w1:=by rw [hw1];exact ((Below.refl _ w).alloc (Nat.le_refl _) _).alloc (by simp) _
 have hsz1:Hid (w1.heap.size=w.heap.size+2):=by show _=_;rw [hw1];simp
 have hI0:FillI base p cap pol d v xs w w1 [] w1:=⟨⟨v,hq.save (Save.of_below hB0 fun _=>False) id fun _ _=>id,zq4 _ _⟩,by rw [hw1];exact hb0.alloc _,by rw [hw1];exact hb1,Save.of_below hB0 _⟩;rw [←hw1];clear hw1 hb0 hb1;refine wpIn_rangeFunc_ownF rfl (by omega) (gf:=gf) (lb:=lb) rfl trivial eg hseq KpR.t kpr_b hB0 (fun _=>rfl)
  (FillI base p cap pol d v xs w w1) (fun _ _ _=>False) (zAu hB0.size) (fun _ _ _ _ _ h _ _=>h) hI0
  (fun x=>{ tmps:=#[.pointer (some ⟨p,0,none⟩),.func (.func gf) #[] lb,.pointer (some ⟨w.heap.size,0,none⟩),undef,.int .i64 0,.pointer (some ⟨w.heap.size+1,0,none⟩),.int .i64 x,.func (.func gf) #[] lb,.int .i64 x,undef,undef,undef,undef,undef,undef,undef,undef,undef,undef,undef,undef,undef,undef,undef,undef,undef,undef,undef,undef,undef,undef,undef,undef,undef,undef,undef,undef,undef,undef,undef,undef,undef,undef,undef,undef],defers:=[] }) ?assign ?body ?done ?stop
 case assign=>
  intro l x W K hK
  gi_wp2
  exact hK
 case body=>
  rintro l pre x W hI hlt;obtain⟨⟨v',hq',hv'⟩,bq,bo,sv⟩:=hI;have hF:=hid (zhc cap pre xs 0 x);obtain⟨hyl,hkl⟩:=zl2 hcap.1 hlen pre;obtain⟨⟨ys,k⟩,hyk⟩:∃ y,zde cap xs 0 pre=y:=⟨_,rfl⟩;rw [hyk] at hF hq' bo hyl hkl;simp only at hF hq' bo hyl hkl;clear hyk;have hvn:∀ g,v'.ownBlock=some g→g≠w.heap.size∧g≠w.heap.size+1∧∀ a,lo=some a→a.block≠g:=fun g hg=>by
   have h1:=hsz1.out;rcases hv' g hg with e|e
   ·have:=hvw g e
    exact⟨by omega,by omega,fun a ha ea=>(hlp a ha).2.2 (ea▸e)⟩
   ·exact⟨by omega,by omega,fun a ha ea=>by have:=(hlp a ha).1;omega⟩
  obtain⟨ao,c,rfl,hac,hacm,hra,hpos⟩:=zgg hq'.row;have c0:=hq'.c0;have c2:=hq'.c2;have cq:=bq.cell;obtain⟨n,hn⟩:∃ n,ys.length=n:=⟨_,rfl⟩;by_cases hfull:n=cap
  ·have t0:((n:Int) == (cap:Int))=true:=by simp [hfull]
   have HN:=hid hn;rw [hn] at c2 hra hpos hyl hac hF;have HQ:=hid hq';clear hn hq'
   gi_wp2
   refine zda 11 (zne fun _=>W) (by kernel_rfl) (by kernel_rfl) (by kernel_rfl) (fun ⟨_,_,h⟩=>h) (zne.start _ _ rfl) ?_;simp only [List.take_succ_cons,List.take_zero,List.drop_succ_cons,List.drop_zero]
   repeat (refine zhw (by rfl) (by rfl) (fun K hK=>?_);go_simp;(refine hK _ ?_;clear hK K))
   refine zk4 ?_;rintro _ ⟨nq,rfl⟩;obtain⟨Wa,hWa⟩:∃ Wa,Wa=W.drewN nq:=⟨_,rfl⟩;have hqW:QAt Wa base p cap pol (.slice ao ys.length c) ys d:=by rw [hWa];exact HQ.out.drewN nq
   have hbq:Boxed Wa w.heap.size 160 (.pointer (some ⟨p,0,none⟩)):=by rw [hWa];exact bq
   have hbo:Boxed Wa (w.heap.size+1) 3 (.int .i64 (k:Int)):=by rw [hWa];exact bo
   have hsW:Save (fun k=>k=p∨v.ownBlock=some k) w Wa:=by rw [hWa];exact Save.drewN _ sv
   have hko:KeepsOthers W Wa:=by rw [hWa];exact⟨Nat.le_refl _,fun _ _ h _=>h⟩
   have hkp:KpR lo W Wa:=by rw [hWa];exact⟨Nat.le_refl _,fun _ _ _ h _=>h⟩
   have hrw:Row Wa ao n (fun i=>.int .i64 (ys.getD i 0)):=by rw [hWa];exact hra
   have hFF:=hid (show zde cap xs 0 (pre ++ [x])=(ys.drop 1 ++ [x],k+1) by rw [hF.out,if_pos hfull]);rw [←hWa];clear hWa HQ hF c0 c2 cq hra t0;subst hfull;obtain⟨g,rfl,hg⟩:=hpos (by omega);go_wp2
   gi_wp2
   have c2:=hqW.c2;have cq:=hbq.cell;rw [HN.out] at c2;have hm2:1≤n∧n≤16:=by omega
   refine zb4 [6,7,8,9] (zr0 w.heap.size p (.slice (some ⟨g,0,none⟩) n c)) (by kernel_rfl) (by kernel_rfl) (by kernel_rfl) (fun ⟨_,_,h⟩=>h) ⟨cq,c2⟩ ?_
   iterate 2
    refine qFs fun K hK=>?_;go_simp;refine⟨.pointer (some ⟨p,0,none⟩),fun X hX=>by rw [hX.q];rfl,hK _ ?_⟩;clear hK K
   iterate 2 (refine qFs fun K hK=>?_;go_simp;(refine⟨_,fun _ _=>rfl,hK _ ?_⟩;clear hK K))
   refine qFs fun K hK=>?_;go_simp;refine⟨.slice (some ⟨g,0,none⟩) n c,fun X hX=>by rw [hX.l];rfl,hK _ ?_⟩;clear hK K;obtain⟨ad,had⟩:∃ ad,(if c=1 then some (⟨g,0,none⟩:Addr) else some ⟨g,1,none⟩)=some ad:=by split<;>exact⟨_,rfl⟩
   have hadm:1 < n→ad=⟨g,1,none⟩:=fun h=>by rw [if_neg (by omega)] at had;exact (Option.some.inj had).symm
   refine qFs fun K hK=>?_;go_simp;refine⟨.slice (some ad) (n - 1) (c - 1),fun X _=>by rw [if_pos (by omega)],hK _ ?_⟩;clear hK K
   repeat (first|refine qFc ?_|(refine qFs fun K hK=>?_;go_simp;(refine⟨_,fun _ _=>rfl,hK _ ?_⟩;clear hK K)))
   refine zau ?_;show wpTs _ _ _ _ 4 _ _ _;have hb1:Below Wa.heap.size Wa Wa.drew:=⟨rfl,rfl,rfl,Nat.le_refl _,fun _ _=>rfl⟩;obtain⟨Y1,hY1⟩:∃ Y1,Y1=Wa.drew:=⟨_,rfl⟩;have hko1:KeepsOthers Wa Y1:=by rw [hY1];exact KeepsOthers.drew _
   have hnews:∀ (j:Nat) (u:Value),(vi (ys.drop 1))[j]? =some u→Y1.cell? (ad.add j)=some u:=fun j u hj=>by
    have hjl:j < n - 1:=by
     have:=(List.getElem?_eq_some_iff.1 hj).1;have h2:=HN.out;rw [zp1,List.length_drop] at this;omega
    have:=hrw.cellAt (i:=1+j) (by omega);rw [hY1,hadm (by omega),za8,show Wa.drew.cell? ⟨g,1+j,none⟩=Wa.cell? ⟨g,1+j,none⟩ from rfl,←hj];rw [Nat.zero_add] at this;rw [this];have h2:=HN.out;simp only [vi,List.getElem?_map,List.getElem?_drop,List.getD];rw [List.getElem?_eq_getElem (by omega)];rfl
   rw [←hY1] at hb1 ⊢;clear hY1;have hvl:(vi (ys.drop 1)).length=(n - 1) * 1:=by rw [zp1,List.length_drop,HN.out];omega
   have hq1:=hqW.save (Save.of_below hb1 fun _=>False) id fun _ _=>id;have hbq1:=hbq.kept (zb2 hb1) (by simp);have hbo1:=hbo.kept (zb2 hb1) (by simp);have hszY:w.heap.size≤Y1.heap.size:=Nat.le_trans hsW.size hb1.size;refine qT1 6 [7,8,9] fun K hK=>?_;refine wpList_append_own_at _ rfl _ _ 59 rfl base 3 i0 (.int .i64 0) 1 8 Tryz.underlying59 hi hz0 hz1 hz2 rfl (by decide) (.slice none 0 0) 0 [] rfl (World.ownsRow_nil Y1 base 3 1) ad (n - 1) (c - 1) (vi (ys.drop 1)) rfl hvl hnews (vi_one _) (by unfold maxLen;omega) (by omega) (Nat.le_trans hbw hszY) ?_;intro v3 W3 hown3 hgrow3 _ hat3;have hblk3:=zaj hq1.blk (Save.of_grown hgrow3) (fun e=>by cases e);have hbq3:=hbq1.kept hgrow3 (fun e=>by cases e);have hbo3:=hbo1.kept hgrow3 (fun e=>by cases e);have hko3:KeepsOthers Y1 W3:=KeepsOthers.of_grownBy hgrow3 fun j o ej _=>by cases ej
   have hs3:Save (fun _=>False) Y1 W3:=(Save.of_grown hgrow3).mono fun _ e=>by cases e
   have hC3:zr0 w.heap.size p (.slice (some ⟨g,0,none⟩) n c) W3:=⟨hbq3.cell,by rw [←HN.out];exact zaa hblk3 2⟩;refine hK _ _ hC3 ?_;go_simp;clear hK K;refine qT1 7 [8,9] fun K hK=>?_
   go_wp2_with fail
   refine hK _ _ hC3 ?_;clear hK K;refine qT1 8 [9] fun K hK=>?_
   go_wp2_with fail
   refine hK _ _ hC3 ?_;clear hK K;have hown3':W3.ownsRow base 3 1 v3 (ys.drop 1).length (vi (ys.drop 1)):=by rw [Nat.zero_add,List.nil_append] at hown3;rw [List.length_drop,HN.out];exact hown3
   have hlen3:(ys.drop 1).length≤15:=by rw [List.length_drop,HN.out];omega
   obtain⟨zs,hzs⟩:∃ zs,ys.drop 1=zs:=⟨_,rfl⟩;rw [hzs] at hown3' hFF hlen3;clear hown3 hnews hvl hzs;obtain⟨ao5,c5,rfl,_,_,_,_⟩:=zgg hown3';have hc3:=hC3.l;have hf3:=zab hblk3 2;refine zcy (i:=9) (rem1:=[]) (by kernel_rfl) (by rfl) (by rfl) (by kernel_rfl) (fun K hK=>?_)
   go_wp2_with fail
   refine zan ?_;have hsz2:=hsz1.out;have hbol:=hbo3.lt;have hfin:=qset hblk3 hown3' hqW.low;have hsb:=Save.set W3 p 2 (.slice ao5 zs.length c5);have hboW:=zaj hbo3 hsb (by omega);have hbqW:=zaj hbq3 hsb (by omega);have hcW:=Boxed.cell hboW;have hfW:=Boxed.frozen hboW;have hs5:Save (fun k=>k=p∨v.ownBlock=some k) w (W3.setCell ⟨p,2,none⟩ (.slice ao5 zs.length c5)):=((hsW.trans (Save.of_below hb1 fun _=>False) fun _ _ h=>h.elim).trans hs3 fun _ _ h=>h.elim).trans hsb fun _ _ h=>.inl h;have hp5:Save (fun k=>k=p) Wa (W3.setCell ⟨p,2,none⟩ (.slice ao5 zs.length c5)):=((Save.of_below hb1 fun k=>k=p).trans hs3 fun _ _ h=>h.elim).trans hsb fun _ _ h=>h;have hko5:=((hko.trans hko1).trans hko3).trans (KeepsOthers.setCell W3 ⟨p,2,none⟩ (.slice ao5 zs.length c5));obtain⟨W5,hW5⟩:∃ W5,W5=W3.setCell ⟨p,2,none⟩ (.slice ao5 zs.length c5):=⟨_,rfl⟩;rw [←hW5] at hfin hboW hbqW hcW hfW hs5 hp5 hko5 ⊢;clear hW5 hsb hc3 hf3 hC3 hko3 hs3 hbo3 hbq3 hblk3 hgrow3 hbo1 hbq1 hq1
   gi_wp2
   have hvn5:∀ g,(Value.slice ao5 zs.length c5).ownBlock=some g→w1.heap.size≤g:=fun g hg=>by
    rcases hat3 with e|e
    ·rw [e] at hg;cases hg
    ·rw [e] at hg;cases hg
     have:=hb1.size;have:=hbo.lt;omega
   have hs6:=Save.set W5 (w.heap.size+1) 0 (.int .i64 ((k:Int)+1));have hq6:=hfin.save hs6 (by omega) fun g hg=>by have:=hvn5 g hg;omega
   have hbo6:Boxed (W5.setCell ⟨w.heap.size+1,0,none⟩ (.int .i64 ((k:Int)+1))) (w.heap.size+1) 3 (.int .i64 ((k+1:Nat):Int)):=by rw [show ((k+1:Nat):Int)=(k:Int)+1 by omega];exact Boxed.set _ hboW
   have hbq6:Boxed (W5.setCell ⟨w.heap.size+1,0,none⟩ (.int .i64 ((k:Int)+1))) w.heap.size 160 (.pointer (some ⟨p,0,none⟩)):=zaj hbqW hs6 (by omega);have hs7:=hs5.trans hs6 fun i hi e=>by omega
   have hko7:=hko5.trans (KeepsOthers.setCell W5 ⟨w.heap.size+1,0,none⟩ (.int .i64 ((k:Int)+1)));have hkp7:KpR lo W (W5.setCell ⟨w.heap.size+1,0,none⟩ (.int .i64 ((k:Int)+1))):=hkp.t (zo5 ((hp5.mono fun k h=>(show k=p∨k=w.heap.size+1 from .inl h)).trans hs6 fun _ _ h=>.inr h) fun a ha=>by
    have:=hlp a ha;rintro (h|h)<;>omega)
   obtain⟨W2,hW2⟩:∃ W2,W2=W5.setCell ⟨w.heap.size+1,0,none⟩ (.int .i64 ((k:Int)+1)):=⟨_,rfl⟩;rw [←hW2] at hq6 hbo6 hbq6 hs7 hko7 hkp7 ⊢;clear hW2 hcW hfW hs6 hko5 hs5 hp5 hboW hbqW hfin;have hv6:Heir w1 v (.slice ao5 zs.length c5):=fun g hg=>.inr (hvn5 g hg);have hvn6:∀ g,(Value.slice ao5 zs.length c5).ownBlock=some g→g≠w.heap.size∧g≠w.heap.size+1∧∀ a,lo=some a→a.block≠g:=fun g hg=>by
    have:=hvn5 g hg;exact⟨by omega,by omega,fun a ha=>by have:=(hlp a ha).1;omega⟩
   clear hv' hvn hqW hbq hbo hsW hko hkp;have c2:=hq6.c2;have cq:=hbq6.cell;refine zb4 [6,7,8,9,10] (zr0 w.heap.size p (.slice ao5 zs.length c5)) (by kernel_rfl) (by kernel_rfl) (by kernel_rfl) (fun ⟨_,_,h⟩=>h) ⟨cq,c2⟩ ?_;refine qFs fun K hK=>?_;go_simp;refine⟨.pointer (some ⟨p,0,none⟩),fun X hX=>by rw [hX.q];rfl,hK _ ?_⟩;clear hK K;refine qFs fun K hK=>?_;go_simp;refine⟨.pointer (some ⟨p,0,none⟩),fun X hX=>by rw [hX.q];rfl,hK _ ?_⟩;clear hK K
   iterate 2 (refine qFs fun K hK=>?_;go_simp;(refine⟨_,fun _ _=>rfl,hK _ ?_⟩;clear hK K))
   refine qFs fun K hK=>?_;go_simp;refine⟨.slice ao5 zs.length c5,fun X hX=>by rw [hX.l];rfl,hK _ ?_⟩;clear hK K
   repeat (first|refine qFc ?_|(refine qFs fun K hK=>?_;go_simp;(refine⟨_,fun _ _=>rfl,hK _ ?_⟩;clear hK K)))
   refine zau ?_;show wpTs _ _ _ _ 5 _ _ _;refine qT1 6 [7,8,9,10] fun K hK=>?_
   go_wp2_with fail
   have hb1:Below W2.heap.size W2 ((W2.alloc (Obj.cells #[Value.int .i64 x] 3)).drew):=((Below.refl W2.heap.size W2).alloc (Nat.le_refl _) _).trans ⟨rfl,rfl,rfl,Nat.le_refl _,fun _ _=>rfl⟩;obtain⟨Y1,hY1⟩:∃ Y1,Y1=(W2.alloc (Obj.cells #[Value.int .i64 x] 3)).drew:=⟨_,rfl⟩;have hko1:KeepsOthers W2 Y1:=by rw [hY1];exact (KeepsOthers.alloc _ _).trans (KeepsOthers.drew _)
   have hnews:∀ (j:Nat) (u:Value),[Value.int .i64 x][j]? =some u→Y1.cell? ((⟨W2.heap.size,0,none⟩:Addr).add j)=some u:=by rw [hY1];exact cell_one_new _ _ _
   rw [←hY1] at hb1 ⊢;clear hY1;have hq1:=hq6.save (Save.of_below hb1 fun _=>False) id fun _ _=>id;have hs1:Save (fun k=>k=p∨v.ownBlock=some k) W2 Y1:=Save.of_below hb1 _;have hbq1:=hbq6.kept (zb2 hb1) (by simp);have hbo1:=hbo6.kept (zb2 hb1) (by simp);have hC1:zr0 w.heap.size p (.slice ao5 zs.length c5) Y1:=⟨hbq1.cell,hq1.c2⟩;refine hK _ _ hC1 ?_;clear hK K;refine qT1 7 [8,9,10] fun K hK=>?_;have hrow1:=hq1.row;have hszY:w.heap.size≤Y1.heap.size:=Nat.le_trans hs7.size hb1.size;refine wpList_append_own_at _ rfl _ _ 59 rfl base 3 i0 (.int .i64 0) 1 8 Tryz.underlying59 hi hz0 hz1 hz2 rfl (by decide) (.slice ao5 zs.length c5) zs.length (vi zs) rfl hrow1 ⟨W2.heap.size,0,none⟩ 1 1 [Value.int .i64 x] rfl rfl hnews (by simp [Value.oneCell']) (by unfold maxLen;omega) (by omega) (Nat.le_trans hbw hszY) ?_;intro v3 W3 hown3 hgrow3 _ hat3;have hblk3:=zaj hq1.blk (Save.of_grown hgrow3) (hq1.not_row hq1.row);have hbq3:=hbq1.kept hgrow3 (fun e=>(hvn6 _ e.symm).1 rfl);have hbo3:=hbo1.kept hgrow3 (fun e=>(hvn6 _ e.symm).2.1 rfl);have hko3:=znn hrow1 hgrow3;have hC3:zr0 w.heap.size p (.slice ao5 zs.length c5) W3:=⟨hbq3.cell,zaa hblk3 2⟩;refine hK _ _ hC3 ?_;go_simp;clear hK K;refine qT1 8 [9,10] fun K hK=>?_
   go_wp2_with fail
   refine hK _ _ hC3 ?_;clear hK K;refine qT1 9 [10] fun K hK=>?_
   go_wp2_with fail
   refine hK _ _ hC3 ?_;clear hK K;have hown3':W3.ownsRow base 3 1 v3 (zs ++ [x]).length (vi (zs ++ [x])):=by rw [zk7,List.length_append];exact hown3
   obtain⟨ao3,c3,rfl,_,_,_,_⟩:=zgg hown3';have hc3:=hC3.l;have hf3:=zab hblk3 2;refine zcy (i:=10) (rem1:=[]) (by kernel_rfl) (by rfl) (by rfl) (by kernel_rfl) (fun K hK=>?_)
   go_wp2_with fail
   refine zan ?_
   gi_wp2
   have hsA:Save (fun k=>k=p∨v.ownBlock=some k) w Y1:=hs7.trans hs1 fun _ _ h=>h;have hsB:Save (fun k=>k=p∨v.ownBlock=some k) w W3:=hsA.trans (Save.of_grown hgrow3) fun i hi e=>.inr ((hv6 i e).resolve_right (by have:=hsz1.out;omega));have hsC:Save (fun k=>k=p∨v.ownBlock=some k∨(Value.slice ao5 zs.length c5).ownBlock=some k) W2 W3:=(hs1.mono fun _ h=>h.imp id .inl).trans (Save.of_grown hgrow3) fun i hi e=>.inr (.inr e);have hfin:=qset hblk3 hown3' hq6.low;simp only [List.length_append,List.length_cons,List.length_nil,Nat.zero_add] at hfin hat3;have hsz2:=hsz1.out;have hbol:=hbo6.lt;refine⟨(((hko7.trans hko1).trans hko3).trans (KeepsOthers.setCell _ _ _)),hkp7.t (zo5 (hsC.trans (Save.set W3 p 2 _) fun _ _ h=>.inl h) fun a ha=>?_),⟨.slice ao3 (zs.length+1) c3,by rw [hFF.out];exact hfin,fun g hg=>?_⟩,zaj hbq3 (Save.set W3 p 2 _) (by omega),by rw [hFF.out];exact zaj hbo3 (Save.set W3 p 2 _) (by omega),hsB.trans (Save.set W3 p 2 _) fun _ _ h=>.inl h⟩
   ·rintro (h|h|h)
    ·exact (hlp a ha).2.1 h
    ·exact (hlp a ha).2.2 h
    ·exact (hvn6 _ h).2.2 a ha rfl
   ·rcases hat3 with e|e
    ·exact hv6 g (e▸hg)
    ·rw [e] at hg;cases hg
     have:=hb1.size;exact .inr (by omega)
  ·have t0:((n:Int) == (cap:Int))=false:=beq_eq_false_iff_ne.2 (by omega)
   have HN:=hid hn;rw [hn] at c2 hra hpos hyl hac hF;have HQ:=hid hq';clear hn hq'
   gi_wp2
   refine zda 11 (zne fun _=>W) (by kernel_rfl) (by kernel_rfl) (by kernel_rfl) (fun ⟨_,_,h⟩=>h) (zne.start _ _ rfl) ?_;simp only [List.take_succ_cons,List.take_zero,List.drop_succ_cons,List.drop_zero]
   repeat (refine zhw (by rfl) (by rfl) (fun K hK=>?_);go_simp;(refine hK _ ?_;clear hK K))
   refine zk4 ?_;rintro _ ⟨nq,rfl⟩;obtain⟨W2,hW2⟩:∃ W2,W2=W.drewN nq:=⟨_,rfl⟩;have hqW:QAt W2 base p cap pol (.slice ao ys.length c) ys d:=by rw [hW2];exact HQ.out.drewN nq
   have hbq:Boxed W2 w.heap.size 160 (.pointer (some ⟨p,0,none⟩)):=by rw [hW2];exact bq
   have hbo:Boxed W2 (w.heap.size+1) 3 (.int .i64 (k:Int)):=by rw [hW2];exact bo
   have hsW:Save (fun k=>k=p∨v.ownBlock=some k) w W2:=by rw [hW2];exact Save.drewN _ sv
   have hko:KeepsOthers W W2:=by rw [hW2];exact⟨Nat.le_refl _,fun _ _ h _=>h⟩
   have hkp:KpR lo W W2:=by rw [hW2];exact⟨Nat.le_refl _,fun _ _ _ h _=>h⟩
   have hFF:=hid (show zde cap xs 0 (pre ++ [x])=(ys ++ [x],k) by rw [hF.out,if_neg hfull]);have hlz:ys.length≤15:=by have:=HN.out;omega
   rw [←hW2];clear hW2 HQ HN hF c0 c2 cq hra hpos hac hyl t0 hfull;go_wp2
   gi_wp2
   have c2:=hqW.c2;have cq:=hbq.cell;refine zb4 [6,7,8,9,10] (zr0 w.heap.size p (.slice ao ys.length c)) (by kernel_rfl) (by kernel_rfl) (by kernel_rfl) (fun ⟨_,_,h⟩=>h) ⟨cq,c2⟩ ?_;refine qFs fun K hK=>?_;go_simp;refine⟨.pointer (some ⟨p,0,none⟩),fun X hX=>by rw [hX.q];rfl,hK _ ?_⟩;clear hK K;refine qFs fun K hK=>?_;go_simp;refine⟨.pointer (some ⟨p,0,none⟩),fun X hX=>by rw [hX.q];rfl,hK _ ?_⟩;clear hK K
   iterate 2 (refine qFs fun K hK=>?_;go_simp;(refine⟨_,fun _ _=>rfl,hK _ ?_⟩;clear hK K))
   refine qFs fun K hK=>?_;go_simp;refine⟨.slice ao ys.length c,fun X hX=>by rw [hX.l];rfl,hK _ ?_⟩;clear hK K
   repeat (first|refine qFc ?_|(refine qFs fun K hK=>?_;go_simp;(refine⟨_,fun _ _=>rfl,hK _ ?_⟩;clear hK K)))
   refine zau ?_;show wpTs _ _ _ _ 5 _ _ _;refine qT1 6 [7,8,9,10] fun K hK=>?_
   go_wp2_with fail
   have hb1:Below W2.heap.size W2 ((W2.alloc (Obj.cells #[Value.int .i64 x] 3)).drew):=((Below.refl W2.heap.size W2).alloc (Nat.le_refl _) _).trans ⟨rfl,rfl,rfl,Nat.le_refl _,fun _ _=>rfl⟩;obtain⟨Y1,hY1⟩:∃ Y1,Y1=(W2.alloc (Obj.cells #[Value.int .i64 x] 3)).drew:=⟨_,rfl⟩;have hko1:KeepsOthers W2 Y1:=by rw [hY1];exact (KeepsOthers.alloc _ _).trans (KeepsOthers.drew _)
   have hnews:∀ (j:Nat) (u:Value),[Value.int .i64 x][j]? =some u→Y1.cell? ((⟨W2.heap.size,0,none⟩:Addr).add j)=some u:=by rw [hY1];exact cell_one_new _ _ _
   rw [←hY1] at hb1 ⊢;clear hY1;have hq1:=hqW.save (Save.of_below hb1 fun _=>False) id fun _ _=>id;have hs1:Save (fun k=>k=p∨v.ownBlock=some k) W2 Y1:=Save.of_below hb1 _;have hbq1:=hbq.kept (zb2 hb1) (by simp);have hbo1:=hbo.kept (zb2 hb1) (by simp);have hC1:zr0 w.heap.size p (.slice ao ys.length c) Y1:=⟨hbq1.cell,hq1.c2⟩;refine hK _ _ hC1 ?_;clear hK K;refine qT1 7 [8,9,10] fun K hK=>?_;have hrow1:=hq1.row;have hszY:w.heap.size≤Y1.heap.size:=Nat.le_trans hsW.size hb1.size;refine wpList_append_own_at _ rfl _ _ 59 rfl base 3 i0 (.int .i64 0) 1 8 Tryz.underlying59 hi hz0 hz1 hz2 rfl (by decide) (.slice ao ys.length c) ys.length (vi ys) rfl hrow1 ⟨W2.heap.size,0,none⟩ 1 1 [Value.int .i64 x] rfl rfl hnews (by simp [Value.oneCell']) (by unfold maxLen;omega) (by omega) (Nat.le_trans hbw hszY) ?_;intro v3 W3 hown3 hgrow3 _ hat3;have hblk3:=zaj hq1.blk (Save.of_grown hgrow3) (hq1.not_row hq1.row);have hbq3:=hbq1.kept hgrow3 (fun e=>(hvn _ e.symm).1 rfl);have hbo3:=hbo1.kept hgrow3 (fun e=>(hvn _ e.symm).2.1 rfl);have hko3:=znn hrow1 hgrow3;have hC3:zr0 w.heap.size p (.slice ao ys.length c) W3:=⟨hbq3.cell,zaa hblk3 2⟩;refine hK _ _ hC3 ?_;go_simp;clear hK K;refine qT1 8 [9,10] fun K hK=>?_
   go_wp2_with fail
   refine hK _ _ hC3 ?_;clear hK K;refine qT1 9 [10] fun K hK=>?_
   go_wp2_with fail
   refine hK _ _ hC3 ?_;clear hK K;have hown3':W3.ownsRow base 3 1 v3 (ys ++ [x]).length (vi (ys ++ [x])):=by rw [zk7,List.length_append];exact hown3
   obtain⟨ao3,c3,rfl,_,_,_,_⟩:=zgg hown3';have hc3:=hC3.l;have hf3:=zab hblk3 2;refine zcy (i:=10) (rem1:=[]) (by kernel_rfl) (by rfl) (by rfl) (by kernel_rfl) (fun K hK=>?_)
   go_wp2_with fail
   refine zan ?_
   gi_wp2
   have hsA:Save (fun k=>k=p∨v.ownBlock=some k) w Y1:=hsW.trans hs1 fun _ _ h=>h;have hsB:Save (fun k=>k=p∨v.ownBlock=some k) w W3:=hsA.trans (Save.of_grown hgrow3) fun i hi e=>.inr ((hv' i e).resolve_right (by have:=hsz1.out;omega));have hsC:Save (fun k=>k=p∨v.ownBlock=some k∨(Value.slice ao ys.length c).ownBlock=some k) W2 W3:=(hs1.mono fun _ h=>h.imp id .inl).trans (Save.of_grown hgrow3) fun i hi e=>.inr (.inr e);have hfin:=qset hblk3 hown3' hqW.low;simp only [List.length_append,List.length_cons,List.length_nil,Nat.zero_add] at hfin hat3;have hsz2:=hsz1.out;have hbol:=hbo.lt;refine⟨(((hko.trans hko1).trans hko3).trans (KeepsOthers.setCell _ _ _)),hkp.t (zo5 (hsC.trans (Save.set W3 p 2 _) fun _ _ h=>.inl h) fun a ha=>?_),⟨.slice ao3 (ys.length+1) c3,by rw [hFF.out];exact hfin,fun g hg=>?_⟩,zaj hbq3 (Save.set W3 p 2 _) (by omega),by rw [hFF.out];exact zaj hbo3 (Save.set W3 p 2 _) (by omega),hsB.trans (Save.set W3 p 2 _) fun _ _ h=>.inl h⟩
   ·rintro (h|h|h)
    ·exact (hlp a ha).2.1 h
    ·exact (hlp a ha).2.2 h
    ·exact (hvn _ h).2.2 a ha rfl
   ·rcases hat3 with e|e
    ·exact hv' g (e▸hg)
    ·rw [e] at hg;cases hg
     have:=hb1.size;exact .inr (by omega)
 case done=>
  rintro D ys W hD rfl hI hK;obtain⟨⟨v',hq',hv'⟩,bq,bo,sv⟩:=hI;have hkl:=(zl2 hcap.1 hlen ys).2;obtain⟨⟨zs,k⟩,hyk⟩:∃ y,zde cap xs 0 ys=y:=⟨_,rfl⟩;rw [hyk] at hq' bo hkl;simp only at hq' bo hkl;have cq:=bq.cell;have co:=bo.cell;have HYK:=hid hyk;clear hyk;have HD:=hid (zzo base p cap pol v' zs d k W hq' hd (by omega))
  gi_wp2_with (refine⟨trivial,?_⟩;gi_at_call 126;refine (callsIn_wide.2 HD.out).mono ?_;rintro e w2 ⟨⟨r,rfl⟩,hq2,hs2⟩;have co2:=Boxed.cell (zaj (W':=w2) bo hs2 (by have:=hsz1.out;omega)))
  have hDp:D≠p:=fun e=>by
   have h1:=hq'.blk;rw [←e,hK] at h1;cases h1
  have hD2:w2.heap[D]? =some (.deferred (some [])):=zaj hK hs2 hDp;have hs3:Save (fun k=>some D=some k) w2 (w2.putObj D (.deferred none)):=Save.of_grown (grownBy_putObj' w2 D _);have hsz2:=hsz1.out;refine⟨by simp,.inl ⟨_,_,rfl,run_takeDeferred hD2,?_⟩⟩;refine⟨_,results_tmp rfl _ _ _,?_⟩;unfold zpw;rw [show zde cap xs 0 ys=(zs,k) from HYK.out];refine⟨rfl,v',hq2.save hs3 (fun e=>hDp (Option.some.inj e)) fun g hg e=>?_,fun g hg=>(hv' g hg).imp id fun h=>by omega,(sv.trans hs2 fun _ _ h=>.inl h).trans hs3 fun i hi e=>?_⟩
  ·cases e
   rcases hq2.row.2 with ⟨hn,_⟩|⟨g',_,_,hn,_,hb,_⟩
   ·rw [hn] at hg;cases hg
   ·rw [hn] at hg;cases hg
    rw [hD2] at hb;cases hb
  ·cases e;omega
 case stop=>
  rintro D c pre W _ _ h _;exact h.elim
end Go.Proofs.YtpbmmoneeoijaaaGreatDoor
namespace Go.Proofs.YtpbmmoneeoijaaaGreatDoor
open Go.RowKit
theorem qlen_any (base p:Nat) (cap pol d:Int) (v:Value) (xs:List Int) (w:World) (hq:QAt w base p cap pol v xs d):
  Calls Tryz.prog 264 #[.pointer (some ⟨p,0,none⟩)] w fun e w'=>e=.returned (.int .i64 xs.length)∧w=w':=by
 have c2:=hq.c2;obtain⟨ao,c,rfl,_,_,_,_⟩:=zgg hq.row;go_enter Tryz.func264,Tryz.ntmps264;go_wp2;go_ret;exact⟨rfl,rfl⟩
def eqL (f g:Nat→Int) (n m:Nat):Bool:=(List.range n).map f == (List.range m).map g
def Sets (w:World) (ao:Option Addr) (n:Nat) (g:Nat→Nat→Int):Prop:=∀ i,i < n→∃ b o,ao=some ⟨b,o,none⟩∧w.cell? ⟨b,o+i * 2,none⟩=some (.int .i64 (g i 0))∧w.cell? ⟨b,o+i * 2+1,none⟩=some (.int .i64 (g i 1))
theorem Sets.below {w w':World} {ao:Option Addr} {n:Nat} {g:Nat→Nat→Int} (h:Sets w ao n g) (hb:Below w.heap.size w w'):Sets w' ao n g:=fun i hi=>by
 obtain⟨b,o,e,h1,h2⟩:=h i hi;exact⟨b,o,e,(hb.cell (zal h1)).trans h1,(hb.cell (zal h2)).trans h2⟩
def zvw (n:Nat) (g:Nat→Nat→Int):Prop:=n≤4∧∀ i,i < n→znk (g i 0) (g i 1)=true
theorem zgk {cap pol:Int}:znk cap pol=true↔(1≤cap∧cap≤16)∧1≤pol∧pol≤3:=by
 unfold znk;simp only [Bool.and_eq_true,decide_eq_true_eq];omega
structure QSt where
 cap:Nat
 pol:Int
 v:Value
 xs:List Int
 d:Int
def QOf (W:World) (base p:Nat) (s:QSt):Prop:=QAt W base p (s.cap:Int) s.pol s.v s.xs s.d
structure Qs (W:World) (base n:Nat) (P:Nat→Nat) (q:Nat→QSt):Prop where
 at_:∀ i,i < n→QOf W base (P i) (q i)
 apart:∀ i j,i < n→j < n→i≠j→P i≠P j
 rows:∀ i j,i < n→j < n→i≠j→∀ g,(q i).v.ownBlock=some g→(q j).v.ownBlock≠some g
theorem zdy {w:World} {b n s:Nat} {e:TypeId} {u:Value} {ys:List Value} (h:w.ownsRow b e s u n ys) {g:Nat} (hg:u.ownBlock=some g):∃ cur,w.heap[g]? =some (.cells cur e (0,0)):=by
 rcases h.2 with ⟨rfl,_⟩|⟨g',cap,cur,rfl,_,h3,_⟩
 ·cases hg
 ·cases hg
  exact⟨cur,h3⟩
theorem Qs.keep {W W':World} {base n:Nat} {P:Nat→Nat} {q:Nat→QSt} {S:Nat→Prop} (h:Qs W base n P q) (hs:Save S W W') (hS:∀ k cur t,S k→W.heap[k]? =some (.cells cur t (0,0))→t≠266∧t≠3):Qs W' base n P q:=
 ⟨fun i hi=>(h.at_ i hi).save hs (fun hk=>(hS _ _ _ hk (h.at_ i hi).blk).1 rfl) (fun g hg hk=>by
  obtain⟨cur,hc⟩:=zdy (h.at_ i hi).row hg;exact (hS _ _ _ hk hc).2 rfl),h.apart,h.rows⟩
theorem Qs.below {W W':World} {base n:Nat} {P:Nat→Nat} {q:Nat→QSt} (h:Qs W base n P q) (hb:Below W.heap.size W W'):Qs W' base n P q:=h.keep (Save.of_below hb fun _=>False) fun _ _ _ hk=>hk.elim
theorem Qs.grown {W W':World} {base n:Nat} {P:Nat→Nat} {q:Nat→QSt} (h:Qs W base n P q) {b k s:Nat} {e:TypeId} {u:Value} {ys:List Value} (hu:W.ownsRow b e s u k ys) (he:e≠266∧e≠3) (hg:W.grownBy W' u.ownBlock):Qs W' base n P q:=
 h.keep (Save.of_grown hg) fun j cur t hj hc=>by
  obtain⟨cur',hc'⟩:=zdy hu hj;rw [hc'] at hc;cases hc;exact he
def putN {α:Type} (f:Nat→α) (k:Nat) (x:α):Nat→α:=fun i=>if i=k then x else f i
theorem zbm {α:Type} (f:Nat→α) (k:Nat) (x:α):putN f k x k=x:=if_pos rfl
theorem zbf {α:Type} (f:Nat→α) {k i:Nat} (x:α) (h:i≠k):putN f k x i=f i:=if_neg h
theorem Qs.snoc {W:World} {base n p:Nat} {P:Nat→Nat} {q:Nat→QSt} {s:QSt} (h:Qs W base n P q) (hs:QOf W base p s) (hp:∀ i,i < n→P i≠p) (hr:∀ i,i < n→∀ g,(q i).v.ownBlock=some g→s.v.ownBlock≠some g):Qs W base (n+1) (putN P n p) (putN q n s):=by
 have e1:∀ i,i < n+1→i=n∨(i < n∧putN P n p i=P i∧putN q n s i=q i):=fun i hi=>by
  rcases (show i=n∨i < n by omega) with h|h
  ·exact .inl h
  ·exact .inr ⟨h,zbf _ _ (by omega),zbf _ _ (by omega)⟩
 refine⟨fun i hi=>?_,fun i j hi hj hij=>?_,fun i j hi hj hij g hg=>?_⟩
 ·rcases e1 i hi with rfl|⟨h1,h2,h3⟩
  ·rw [zbm,zbm];exact hs
  ·rw [h2,h3];exact h.at_ i h1
 ·rcases e1 i hi with rfl|⟨h1,h2,h3⟩<;>rcases e1 j hj with rfl|⟨k1,k2,k3⟩
  ·exact absurd rfl hij
  ·rw [zbm,k2];exact fun e=>hp j k1 e.symm
  ·rw [zbm,h2];exact hp i h1
  ·rw [h2,k2];exact h.apart i j h1 k1 hij
 ·rcases e1 i hi with rfl|⟨h1,h2,h3⟩<;>rcases e1 j hj with rfl|⟨k1,k2,k3⟩
  ·exact absurd rfl hij
  ·rw [zbm] at hg
   rw [k3];exact fun e=>hr j k1 g e hg
  ·rw [h3] at hg
   rw [zbm];exact hr i h1 g hg
  ·rw [h3] at hg;rw [k3];exact h.rows i j h1 k1 hij g hg
theorem Qs.congr {W:World} {base n:Nat} {P P':Nat→Nat} {q q':Nat→QSt} (h:Qs W base n P q) (hP:∀ i,i < n→P' i=P i) (hq:∀ i,i < n→q' i=q i):Qs W base n P' q':=
 ⟨fun i hi=>by rw [hP i hi,hq i hi];exact h.at_ i hi,fun i j hi hj hij=>by rw [hP i hi,hP j hj];exact h.apart i j hi hj hij,fun i j hi hj hij=>by rw [hq i hi,hq j hj];exact h.rows i j hi hj hij⟩
theorem Qs.turn {W W':World} {base n k:Nat} {P:Nat→Nat} {q:Nat→QSt} {s:QSt} (h:Qs W base n P q) (hk:k < n) (hs:Save (fun j=>j=P k∨(q k).v.ownBlock=some j) W W') (hq:QOf W' base (P k) s) (hh:Heir W (q k).v s.v):Qs W' base n P (putN q k s):=by
 have hl:∀ i,i < n→∀ g,(q i).v.ownBlock=some g→g < W.heap.size:=fun i hi g hg=>((h.at_ i hi).row.lt g hg).2;have hold:∀ i,i < n→i≠k→QOf W' base (P i) (q i):=fun i hi hik=>(h.at_ i hi).save hs (fun e=>by
  rcases e with e|e
  ·exact h.apart i k hi hk hik e
  ·obtain⟨cur,hc⟩:=zdy (h.at_ k hk).row e
   have:=(h.at_ i hi).blk;rw [hc] at this;exact absurd this (by simp)) (fun g hg e=>by
  rcases e with e|e
  ·obtain⟨cur,hc⟩:=zdy (h.at_ i hi).row hg
   have:=(h.at_ k hk).blk;rw [←e,hc] at this;exact absurd this (by simp)
  ·exact h.rows i k hi hk hik g hg e)
 have hrow:∀ i,i < n→i≠k→∀ g,(q i).v.ownBlock=some g→s.v.ownBlock≠some g:=fun i hi hik g hg e=>by
  rcases hh g e with e2|e2
  ·exact h.rows i k hi hk hik g hg e2
  ·have:=hl i hi g hg;omega
 refine⟨fun i hi=>?_,h.apart,fun i j hi hj hij g hg=>?_⟩
 ·by_cases hik:i=k
  ·subst hik;rw [zbm];exact hq
  ·rw [zbf _ _ hik];exact hold i hi hik
 ·by_cases hik:i=k
  ·subst hik
   rw [zbm] at hg;rw [zbf _ _ (Ne.symm hij)];exact fun e=>hrow j hj (Ne.symm hij) g e hg
  ·rw [zbf _ _ hik] at hg
   by_cases hjk:j=k
   ·subst hjk;rw [zbm];exact hrow i hi hik g hg
   ·rw [zbf _ _ hjk];exact h.rows i j hi hj hij g hg
def ptrs (P:Nat→Nat) (n:Nat):List Value:=(List.range n).map fun i=>.pointer (some ⟨P i,0,none⟩)
theorem zzs (P:Nat→Nat) {n i:Nat} (h:i < n):(ptrs P n)[i]? =some (.pointer (some ⟨P i,0,none⟩)):=by simp [ptrs,h]
theorem zzr (P:Nat→Nat) (n p:Nat):ptrs (putN P n p) (n+1)=ptrs P n ++ [.pointer (some ⟨p,0,none⟩)]:=by
 unfold ptrs;rw [List.range_succ,List.map_append]
 congr 1
 ·refine List.map_congr_left fun i hi=>?_
  rw [zbf _ _ (by have:=List.mem_range.1 hi;omega)]
 ·simp [zbm]
def PRow (w:World) (ao:Option Addr) (n:Nat) (P:Nat→Nat):Prop:=Row w ao n fun i=>.pointer (some ⟨P i,0,none⟩)
theorem zb9 {w:World} {base n:Nat} {v:Value} {P:Nat→Nat} (h:w.ownsRow base 160 1 v n (ptrs P n)):∃ ao cap,v=.slice ao n cap∧(n≤cap∧cap≤maxLen)∧Hid (PRow w ao n P):=by
 rcases h.2 with ⟨e,h2⟩|⟨g,cap,cur,e,_,_,h3,h4,_⟩
 ·have h2:n=0:=h2
  exact⟨none,0,by rw [h2];exact e,⟨by omega,Nat.zero_le _⟩,fun i hi=>by omega⟩
 ·refine⟨_,cap,e,⟨h3,h4⟩,?_⟩
  rw [e] at h;exact (znj h).congr fun i hi=>by
   rw [List.getD_eq_getElem?_getD,zzs P hi];rfl
theorem infoQp:(Tryz.prog.info? 160).map (fun i=>(i.zero,i.size,i.bytes))=some (some (.pointer none),1,8):=by kernel_rfl
end Go.Proofs.YtpbmmoneeoijaaaGreatDoor
