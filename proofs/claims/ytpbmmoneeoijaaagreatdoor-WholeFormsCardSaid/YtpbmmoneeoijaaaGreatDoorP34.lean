/-
  A part of the proof: EncTask EncMode.
-/
import Derived.Test.YtpbmmoneeoijaaaGreatDoorP33
namespace Go.Proofs.YtpbmmoneeoijaaaGreatDoor
open Go.RowKit Go.Deep Go.Shelf
set_option maxRecDepth 100000
set_option maxHeartbeats 8000000
attribute [local go_sem] Oper.semAt_some zaq
attribute [local irreducible] wpAnyIn
set_option maxRecDepth 100000
theorem zn8 {B:Nat} {X Y:World} (h:Below X.heap.size X Y):KeepsFrom B X Y:=⟨h.size,fun k _o _ hk _=>(h.block k (qLt hk)).trans hk⟩
structure TB (l B n₀:Nat) (J:List Int→World→Prop) (y:Nat→Int) (p:Nat) (w:World) (s:List Int) (X:World):Prop where
 j:J s X
 t:X.heap[p]? =some (zaj y)
 f:X.heap[p+1]? =some (qC #[.func (.yield l) #[] #[]] 269)
 b:X.heap[p+1+1]? =some (qC #[.bool false] 4)
 k:KpE n₀ w X
 m:KeepsFrom B w X
section
variable {l N B n₀:Nat} {J:List Int→World→Prop} {y:Nat→Int} {p:Nat} {w X Y:World} {s:List Int}
theorem TB.below (hE:EncJ l N B n₀ J) (h:TB l B n₀ J y p w s X) (hn:n₀≤w.heap.size) (hb:Below X.heap.size X Y):TB l B n₀ J y p w s Y:=
 ⟨hE.below h.j hb,qBa hb h.t,qBa hb h.f,qBa hb h.b,h.k.t (KpE.of_below (Nat.le_trans hn h.k.below.size) hb),h.m.trans (zn8 hb)⟩
theorem TB.next (h:TB l B n₀ J y p w s X) {s':List Int} (hj:J s' Y) (hk:KpE n₀ X Y) (hm:KeepsFrom B X Y):TB l B n₀ J y p w s' Y:=
 ⟨hj,hk.keep _ _ _ (by decide) (by decide) h.t,hk.keep _ _ _ (by decide) (by decide) h.f,hk.keep _ _ _ (by decide) (by decide) h.b,h.k.t hk,h.m.trans hm⟩
end
theorem zwx {l N B n₀:Nat} {J:List Int→World→Prop} (hE:EncJ l N B n₀ J) (y:Nat→Int) (pre:List Int) (hN:pre.length+12≤N) (w:World) (h0:J pre w) (hB:B≤w.heap.size) (hn:n₀≤B):
  Calls Tryz.prog 156 #[tv y,.func (.yield l) #[] #[]] w (EncA J B n₀ pre (zim y) w):=by
 refine (callsIn_wide (n:=8)).1 ?_;have h1:1≤8:=by omega
 refine callsIn_of_wp_marks Tryz.func156 rfl trivial ?_ rfl;simp only [Tryz.ntmps156,qPr,Nat.reduceAdd,Nat.reduceSub];have HUV:=hid fun X=>uses_val y X;have HUS:=hid fun X=>zi9 y X;obtain⟨W0,hW0⟩:∃ X,X=(((w.alloc (zaj y)).alloc (qC #[.func (.yield l) #[] #[]] 269)).alloc (qC #[.bool false] 4)).drew:=⟨_,rfl⟩;have hT0:TB l B n₀ J y w.heap.size w pre W0:=by
  have bb:Below w.heap.size w W0:=by rw [hW0];exact (((qBr _).alloc (by simp) _).alloc (by simp;omega) _).drew
  have q:∀ (Z:World) (o o':Obj),(((w.alloc o).alloc o').alloc Z.heap[0]!).heap[w.heap.size]? =some o:=fun Z o o'=>(Below.heap_alloc _ _ _ (by simp;omega)).trans ((Below.heap_alloc _ _ _ (by simp)).trans (heap_alloc_new w o));refine⟨hE.below h0 bb,?_,?_,?_,KpE.of_below (by omega) bb,zn8 bb⟩
  ·rw [hW0]
   exact (Below.heap_alloc _ _ _ (by simp;omega)).trans ((Below.heap_alloc _ _ _ (by simp)).trans (heap_alloc_new w (zaj y)))
  ·rw [hW0]
   have:=heap_alloc_new (w.alloc (zaj y)) (qC #[.func (.yield l) #[] #[]] 269);rw [World.size_alloc] at this;exact (Below.heap_alloc _ _ _ (by simp)).trans this
  ·rw [hW0]
   have:=heap_alloc_new ((w.alloc (zaj y)).alloc (qC #[.func (.yield l) #[] #[]] 269)) (qC #[.bool false] 4);rw [World.size_alloc,World.size_alloc] at this;exact this
 unfold zaj at hW0
 gi_wp2
 refine znd (by kernel_rfl) ?_;rw [←hW0];obtain⟨p,hp⟩:∃ p,w.heap.size=p:=⟨_,rfl⟩;rw [hp] at hT0 ⊢;have HW0:=hid hT0;have HP:=hid hp;have hns:=hid (show n₀≤w.heap.size by omega);have HB:=hid hB;clear hW0 hT0 h0 hp hB;have c0W0:W0.cell? ⟨p,0,none⟩=some (qI (y 0)):=zaa HW0.out.t 0;have cfW0:W0.cell? ⟨p+1,0,none⟩=some (.func (.yield l) #[] #[]):=zaa HW0.out.f 0;refine wpAnyIn_take (i:=1) (v:=qP p) rfl rfl (by kernel_rfl) (by kernel_rfl) (by kernel_rfl) (fun _ _ _ h=>h) ⟨Or.inl ⟨by rfl,?_⟩,fun _=>rfl⟩ ?_
 ·intro w;go_simp
 go_simp;refine zgn (i:=0) (j:=2) (.func (.yield l) #[] #[]) (qI (y 0)) (by kernel_rfl) (by kernel_rfl) (by kernel_rfl) rfl rfl (by decide) rfl (fun K hK=>?_) (fun K hK=>?_) (fun K hK=>?_) (fun K hK=>?_) ?_
 ·go_simp;exact hK
 ·go_simp;exact hK
 ·go_simp;exact hK
 ·go_simp;exact hK
 go_simp;obtain⟨fn,tmps,assign,body,hy,hR⟩:=hE.y (pre) (y 0) W0 HW0.out.j (by (try simp only [List.length_append,List.length_cons,List.length_nil]);omega);refine wpAnyIn_ready (rs:=[3]) (by kernel_rfl) (by simp) ?_;refine AllReadyIn.cons rfl (fun K hK=>?_) AllReadyIn.nil;go_simp;refine (zak rfl hR).mono ?_;rintro e W1 ⟨rfl,hj,hk,hm⟩;have HW1:=hid (HW0.out.next hj hk hm);clear hj hk hm hR hy;go_simp;refine hK _ _ ?_;clear hK K;clear c0W0 cfW0 HW0;refine wpAnyIn_take (i:=4) (v:=.bool false) rfl rfl (by kernel_rfl) (by kernel_rfl) (by kernel_rfl) (fun _ _ _ h=>h) ⟨Or.inl ⟨by rfl,?_⟩,fun _=>rfl⟩ ?_
 ·intro w;go_simp
 go_simp;refine wpAnyIn_take (i:=5) (v:=.bool false) rfl rfl (by kernel_rfl) (by kernel_rfl) (by kernel_rfl) (fun _ _ _ h=>h) ⟨Or.inl ⟨by rfl,?_⟩,fun _=>rfl⟩ ?_
 ·intro w;go_simp
 go_simp;have c1W1:W1.cell? ⟨p,1,none⟩=some (qI (y 1)):=zaa HW1.out.t 1;have cfW1:W1.cell? ⟨p+1,0,none⟩=some (.func (.yield l) #[] #[]):=zaa HW1.out.f 0;refine wpAnyIn_take (i:=7) (v:=.pointer (some ⟨p,1,none⟩)) rfl rfl (by kernel_rfl) (by kernel_rfl) (by kernel_rfl) (fun _ _ _ h=>h) ⟨Or.inl ⟨by rfl,?_⟩,fun _=>rfl⟩ ?_
 ·intro w;go_simp
 go_simp;refine zgn (i:=6) (j:=8) (.func (.yield l) #[] #[]) (qI (y 1)) (by kernel_rfl) (by kernel_rfl) (by kernel_rfl) rfl rfl (by decide) rfl (fun K hK=>?_) (fun K hK=>?_) (fun K hK=>?_) (fun K hK=>?_) ?_
 ·go_simp;exact hK
 ·go_simp;exact hK
 ·go_simp;exact hK
 ·go_simp;exact hK
 go_simp;obtain⟨fn,tmps,assign,body,hy,hR⟩:=hE.y (pre ++ [y 0]) (y 1) W1 HW1.out.j (by (try simp only [List.length_append,List.length_cons,List.length_nil]);omega);refine wpAnyIn_ready (rs:=[9]) (by kernel_rfl) (by simp) ?_;refine AllReadyIn.cons rfl (fun K hK=>?_) AllReadyIn.nil;go_simp;refine (zak rfl hR).mono ?_;rintro e W2 ⟨rfl,hj,hk,hm⟩;have HW2:=hid (HW1.out.next hj hk hm);clear hj hk hm hR hy;go_simp;refine hK _ _ ?_;clear hK K;clear c1W1 cfW1 HW1;refine wpAnyIn_take (i:=10) (v:=.bool false) rfl rfl (by kernel_rfl) (by kernel_rfl) (by kernel_rfl) (fun _ _ _ h=>h) ⟨Or.inl ⟨by rfl,?_⟩,fun _=>rfl⟩ ?_
 ·intro w;go_simp
 go_simp;refine wpAnyIn_take (i:=11) (v:=.bool false) rfl rfl (by kernel_rfl) (by kernel_rfl) (by kernel_rfl) (fun _ _ _ h=>h) ⟨Or.inl ⟨by rfl,?_⟩,fun _=>rfl⟩ ?_
 ·intro w;go_simp
 go_simp;refine wpAnyIn_take (i:=12) (v:=.bool false) rfl rfl (by kernel_rfl) (by kernel_rfl) (by kernel_rfl) (fun _ _ _ h=>h) ⟨Or.inl ⟨by rfl,?_⟩,fun _=>rfl⟩ ?_
 ·intro w;go_simp
 go_simp;have c2W2:W2.cell? ⟨p,2,none⟩=some (qI (y 2)):=zaa HW2.out.t 2;have cfW2:W2.cell? ⟨p+1,0,none⟩=some (.func (.yield l) #[] #[]):=zaa HW2.out.f 0;refine wpAnyIn_take (i:=14) (v:=.pointer (some ⟨p,2,none⟩)) rfl rfl (by kernel_rfl) (by kernel_rfl) (by kernel_rfl) (fun _ _ _ h=>h) ⟨Or.inl ⟨by rfl,?_⟩,fun _=>rfl⟩ ?_
 ·intro w;go_simp
 go_simp;refine zgn (i:=13) (j:=15) (.func (.yield l) #[] #[]) (qI (y 2)) (by kernel_rfl) (by kernel_rfl) (by kernel_rfl) rfl rfl (by decide) rfl (fun K hK=>?_) (fun K hK=>?_) (fun K hK=>?_) (fun K hK=>?_) ?_
 ·go_simp;exact hK
 ·go_simp;exact hK
 ·go_simp;exact hK
 ·go_simp;exact hK
 go_simp;obtain⟨fn,tmps,assign,body,hy,hR⟩:=hE.y (pre ++ [y 0] ++ [y 1]) (y 2) W2 HW2.out.j (by (try simp only [List.length_append,List.length_cons,List.length_nil]);omega);refine wpAnyIn_ready (rs:=[16]) (by kernel_rfl) (by simp) ?_;refine AllReadyIn.cons rfl (fun K hK=>?_) AllReadyIn.nil;go_simp;refine (zak rfl hR).mono ?_;rintro e W3 ⟨rfl,hj,hk,hm⟩;have HW3:=hid (HW2.out.next hj hk hm);clear hj hk hm hR hy;go_simp;refine hK _ _ ?_;clear hK K;clear c2W2 cfW2 HW2;refine wpAnyIn_take (i:=17) (v:=.bool false) rfl rfl (by kernel_rfl) (by kernel_rfl) (by kernel_rfl) (fun _ _ _ h=>h) ⟨Or.inl ⟨by rfl,?_⟩,fun _=>rfl⟩ ?_
 ·intro w;go_simp
 go_simp;refine wpAnyIn_take (i:=18) (v:=.bool false) rfl rfl (by kernel_rfl) (by kernel_rfl) (by kernel_rfl) (fun _ _ _ h=>h) ⟨Or.inl ⟨by rfl,?_⟩,fun _=>rfl⟩ ?_
 ·intro w;go_simp
 go_simp;refine wpAnyIn_take (i:=19) (v:=.bool false) rfl rfl (by kernel_rfl) (by kernel_rfl) (by kernel_rfl) (fun _ _ _ h=>h) ⟨Or.inl ⟨by rfl,?_⟩,fun _=>rfl⟩ ?_
 ·intro w;go_simp
 go_simp;have c0W3:W3.cell? ⟨p,0,none⟩=some (qI (y 0)):=zaa HW3.out.t 0;have c1W3:W3.cell? ⟨p,1,none⟩=some (qI (y 1)):=zaa HW3.out.t 1;have c2W3:W3.cell? ⟨p,2,none⟩=some (qI (y 2)):=zaa HW3.out.t 2;have c3W3:W3.cell? ⟨p,3,none⟩=some (qI (y 3)):=zaa HW3.out.t 3;have c4W3:W3.cell? ⟨p,4,none⟩=some (qI (y 4)):=zaa HW3.out.t 4;have c5W3:W3.cell? ⟨p,5,none⟩=some (qI (y 5)):=zaa HW3.out.t 5;have c6W3:W3.cell? ⟨p,6,none⟩=some (qI (y 6)):=zaa HW3.out.t 6;have c7W3:W3.cell? ⟨p,7,none⟩=some (qI (y 7)):=zaa HW3.out.t 7;have c8W3:W3.cell? ⟨p,8,none⟩=some (qI (y 8)):=zaa HW3.out.t 8;have c9W3:W3.cell? ⟨p,9,none⟩=some (qI (y 9)):=zaa HW3.out.t 9;have c10W3:W3.cell? ⟨p,10,none⟩=some (qI (y 10)):=zaa HW3.out.t 10;have cfW3:W3.cell? ⟨p+1,0,none⟩=some (.func (.yield l) #[] #[]):=zaa HW3.out.f 0;obtain⟨U,hU⟩:∃ U,zfy (zb3 y 8)=U:=⟨_,rfl⟩;have hUl:U < 4294967296:=hU▸zxt _;rw [hU] at HUV;have u0':(0:Int)≤(U:Int):=by omega
 have u1:(U:Int) < 4294967296:=by omega
 have hUw:IntKind.i64.wrap (U:Int)=(U:Int):=IntWalk.i64_in _ (by omega);refine zvb 3 #[true,true,true,true,true,true,true,true,true,true,true,true,true,true,true,true,true,true,true,true,true,true,true,true,false,false,false] { tmps:=#[.agg (qF11 y),.func (.yield l) #[] #[],qP p,qP (p+1),qP (p+1+1),undef,undef,.func (.yield l) #[] #[],qP p,qI (y 0),.bool true,.bool false,.bool false,.func (.yield l) #[] #[],.pointer (some ⟨p,1,none⟩),qI (y 1),.bool true,.bool false,.bool false,.bool false,.func (.yield l) #[] #[],.pointer (some ⟨p,2,none⟩),qI (y 2),.bool true,.bool false,.bool false,.bool false,.func (.yield l) #[] #[],.agg (qF11 y),qU (U:Nat),qI (U:Nat),undef,undef,undef,undef,undef,undef,undef,undef,undef,undef,undef],defers:=[] } (fun X=>TB l B n₀ J y p w (pre ++ [y 0] ++ [y 1] ++ [y 2]) X) ?_ ?_
 rotate_left
 ·intro hcut
  unfold tv at HUV;refine wpAnyIn_ready (rs:=[20,21]) (by kernel_rfl) (by simp) ?_;refine AllReadyIn.cons rfl (fun K hK=>?_) (AllReadyIn.cons rfl (fun K hK=>?_) AllReadyIn.nil)
  ·go_simp
   refine hK _ _ ?_;clear hK K;refine wpAnyIn_ready (rs:=[21]) (by kernel_rfl) (by simp) ?_;refine AllReadyIn.cons rfl (fun K hK=>?_) AllReadyIn.nil;go_simp;refine hK _ _ ?_;clear hK K;refine wpAnyIn_ready (rs:=[22]) (by kernel_rfl) (by simp) ?_;refine AllReadyIn.cons rfl (fun K hK=>?_) AllReadyIn.nil;go_simp;refine⟨trivial,(callsIn_wide.2 (HUV.out _)).mono ?_⟩;rintro e X ⟨rfl,hbx⟩;have hTX:=HW3.out.below hE hns.out hbx;have cfX:X.cell? ⟨p+1,0,none⟩=some (.func (.yield l) #[] #[]):=zaa hTX.f 0;go_simp;refine hK _ _ ?_;clear hK K;refine wpAnyIn_take (i:=23) (v:=qI (U:Nat)) rfl rfl (by kernel_rfl) (by kernel_rfl) (by kernel_rfl) (fun _ _ _ h=>h) ⟨Or.inl ⟨by rfl,?_⟩,fun _=>rfl⟩ ?_
   ·intro w;go_simp
   go_simp;exact hcut _ _ _ (by kernel_rfl) rfl hTX
  ·go_simp
   refine hK _ _ ?_;clear hK K;refine wpAnyIn_ready (rs:=[20,22]) (by kernel_rfl) (by simp) ?_;refine AllReadyIn.cons rfl (fun K hK=>?_) (AllReadyIn.cons rfl (fun K hK=>?_) AllReadyIn.nil)
   ·go_simp
    refine hK _ _ ?_;clear hK K;refine wpAnyIn_ready (rs:=[22]) (by kernel_rfl) (by simp) ?_;refine AllReadyIn.cons rfl (fun K hK=>?_) AllReadyIn.nil;go_simp;refine⟨trivial,(callsIn_wide.2 (HUV.out _)).mono ?_⟩;rintro e X ⟨rfl,hbx⟩;have hTX:=HW3.out.below hE hns.out hbx;have cfX:X.cell? ⟨p+1,0,none⟩=some (.func (.yield l) #[] #[]):=zaa hTX.f 0;go_simp;refine hK _ _ ?_;clear hK K;refine wpAnyIn_take (i:=23) (v:=qI (U:Nat)) rfl rfl (by kernel_rfl) (by kernel_rfl) (by kernel_rfl) (fun _ _ _ h=>h) ⟨Or.inl ⟨by rfl,?_⟩,fun _=>rfl⟩ ?_
    ·intro w;go_simp
    go_simp;exact hcut _ _ _ (by kernel_rfl) rfl hTX
   ·go_simp
    refine⟨trivial,(callsIn_wide.2 (HUV.out _)).mono ?_⟩;rintro e X ⟨rfl,hbx⟩;have hTX:=HW3.out.below hE hns.out hbx;have cfX:X.cell? ⟨p+1,0,none⟩=some (.func (.yield l) #[] #[]):=zaa hTX.f 0;go_simp;refine hK _ _ ?_;clear hK K;refine wpAnyIn_take (i:=23) (v:=qI (U:Nat)) rfl rfl (by kernel_rfl) (by kernel_rfl) (by kernel_rfl) (fun _ _ _ h=>h) ⟨Or.inl ⟨by rfl,?_⟩,fun _=>rfl⟩ ?_
    ·intro w;go_simp
    go_simp;refine wpAnyIn_ready (rs:=[20]) (by kernel_rfl) (by simp) ?_;refine AllReadyIn.cons rfl (fun K hK=>?_) AllReadyIn.nil;go_simp;refine hK _ _ ?_;clear hK K;exact hcut _ _ _ (by kernel_rfl) rfl hTX
 rintro W4 hT4;have HW4:=hid hT4;clear hT4 HW3 HUV c0W3 c1W3 c2W3 c3W3 c4W3 c5W3 c6W3 c7W3 c8W3 c9W3 c10W3 cfW3;obtain⟨fn,tmps,assign,body,hy,hR⟩:=hE.y (pre ++ [y 0] ++ [y 1] ++ [y 2]) ((U:Int)) W4 HW4.out.j (by (try simp only [List.length_append,List.length_cons,List.length_nil]);omega);refine wpAnyIn_ready (rs:=[24]) (by kernel_rfl) (by simp) ?_;refine AllReadyIn.cons rfl (fun K hK=>?_) AllReadyIn.nil;go_simp;refine (zak rfl hR).mono ?_;rintro e W5 ⟨rfl,hj,hk,hm⟩;have HW5:=hid (HW4.out.next hj hk hm);clear hj hk hm hR hy;go_simp;refine hK _ _ ?_;clear hK K;refine wpAnyIn_take (i:=25) (v:=.bool false) rfl rfl (by kernel_rfl) (by kernel_rfl) (by kernel_rfl) (fun _ _ _ h=>h) ⟨Or.inl ⟨by rfl,?_⟩,fun _=>rfl⟩ ?_
 ·intro w;go_simp
 go_simp;refine wpAnyIn_take (i:=26) (v:=.bool false) rfl rfl (by kernel_rfl) (by kernel_rfl) (by kernel_rfl) (fun _ _ _ h=>h) ⟨Or.inl ⟨by rfl,?_⟩,fun _=>rfl⟩ ?_
 ·intro w;go_simp
 go_simp;refine wpAnyIn_done (by kernel_rfl) ?_ _;have HC5:=hid HW5.out.f;have ct:∀ k,W5.cell? ⟨p,k,none⟩=_:=fun k=>zaa HW5.out.t k;have c0:=ct 0;have c1:=ct 1;have c2:=ct 2;have c3:=ct 3;have c4:=ct 4;have c5:=ct 5;have c6:=ct 6;have c7:=ct 7;have c8:=ct 8;have c9:=ct 9;have c10:=ct 10;clear ct HW4;unfold tv at HUS
 gi_wp2_with (refine⟨trivial,?_⟩;gi_at_call 220;refine (callsIn_wide.2 (HUS.out _)).mono ?_;rintro e w' ⟨rfl,rfl⟩)
 clear c0 c1 c2 c3 c4 c5 c6 c7 c8 c9 c10 HC5 HUS hUw;have hbU:=heap_alloc_new W5 (zaj y);have hT6:=HW5.out.below hE hns.out (qBr (zaj y));have hs5:p+1+1 < W5.heap.size:=(qLt HW5.out.b);obtain⟨b6,hb6⟩:∃ n,W5.heap.size=n:=⟨_,rfl⟩;rw [hb6] at hbU hs5 ⊢;have hs6:(W5.alloc (zaj y)).heap.size=b6+1:=by rw [World.size_alloc,hb6]
 obtain⟨W6,hW6⟩:∃ X,X=W5.alloc (zaj y):=⟨_,rfl⟩;rw [←hW6] at hT6 hs6 hbU ⊢;have HS6:=hid hs6;have HW6:=hid hT6;have HP6:=hid hs5;clear hW6 HW5 hs6 hb6 hT6 hs5;obtain⟨s4,hs4⟩:∃ s,pre ++ [y 0] ++ [y 1] ++ [y 2] ++ [(U:Int)]=s:=⟨_,rfl⟩;rw [hs4] at HW6;have hs4l:s4.length=pre.length+4:=by rw [←hs4];simp
 have HS4:=hid hs4;have HU:=hid hU;clear hs4 hU;refine wpIn_rangeFunc_ownG rfl h1 (gf:=272) (lb:=#[qP b6]) rfl trivial (enters_of Tryz.func272 (by kernel_rfl) rfl)
  (zve (8 - 1) (by omega) b6 0 y W6 hbU) belowK_t (belowK_b (by omega)) (Below.refl _ _) (fun _=>rfl)
  (fun (q:List (Fin 8×Int)) X=>TB l B n₀ J y p w (s4 ++ q.map (·.2)) X)
  (fun _ _ _=>False)
  (by
   intro q X Y row hz hg hr;have hne:∀ k,k≤p+1+1→some k≠row:=fun k hk e=>by have:=(hr k e.symm).1;have:=HS6.out;have:=HP6.out;omega
   exact⟨hE.own _ X Y row hz.j hg fun r e=>⟨by have:=(hr r e).1;have:=HS6.out;have:=HP6.out;have:=HB.out;have:=HP.out;omega,(hr r e).2⟩,(hg.block _ (qLt hz.t) (hne _ (by omega))).trans hz.t,(hg.block _ (qLt hz.f) (hne _ (by omega))).trans hz.f,(hg.block _ (qLt hz.b) (hne _ (by omega))).trans hz.b,
    ⟨hz.k.below.grown hg (by have:=hns.out;have:=hz.k.below.size;omega) fun k e=>by have:=(hr k e).1;have:=HS6.out;have:=HP6.out;have:=HP.out;have:=hns.out;omega,fun c cs t h1 h2 hc=>(hg.block _ (Array.getElem?_eq_some_iff.1 (hz.k.keep c cs t h1 h2 hc)).1 fun e=>by
     have:=(hr c e.symm).1;have:=HS6.out;have:=HP6.out;have:=HP.out;have:=(qLt hc);omega).trans (hz.k.keep c cs t h1 h2 hc)⟩,
    ⟨Nat.le_trans hz.m.size hg.size,fun k o hk ho hc=>(hg.block _ (Array.getElem?_eq_some_iff.1 (hz.m.same k o hk ho hc)).1 fun e=>by
     have:=(hr k e.symm).1;have:=HS6.out;have:=HP6.out;have:=HP.out;have:=(qLt ho);omega).trans (hz.m.same k o hk ho hc)⟩⟩)
  (fun _ _ _ _ _ hz _ _=>hz)
  (by simpa using HW6.out)
  (fun (x:Fin 8×Int)=>{ tmps:=#[.agg (qF11 y),.func (.yield l) #[] #[],qP p,qP (p+1),qP (p+1+1),undef,qI x.2,.func (.yield l) #[] #[],qP p,qI (y 0),.bool true,.bool false,.bool false,.func (.yield l) #[] #[],.pointer (some ⟨p,1,none⟩),qI (y 1),.bool true,.bool false,.bool false,.bool false,.func (.yield l) #[] #[],.pointer (some ⟨p,2,none⟩),qI (y 2),.bool true,.bool false,.bool false,.bool false,.func (.yield l) #[] #[],.agg (qF11 y),qU (U:Nat),qI (U:Nat),.bool true,.bool false,.bool false,.agg (qF11 y),.func (.func 272) #[] #[qP b6],qI (x.1.val:Nat),qI x.2,undef,undef,undef,undef],defers:=[] })
  ?assign ?body ?done ?stop
 case assign=>
  rintro l' x X K hK
  gi_wp2
  exact hK
 case body=>
  rintro l' q ⟨⟨x1,x18⟩,xv⟩ X hT hlt;have cf:X.cell? ⟨p+1,0,none⟩=some (.func (.yield l) #[] #[]):=zaa hT.f 0;have hql:(q.map (·.2)).length < 8:=by simpa using hlt
  obtain⟨fn,tmps,assign,body,hy,hR⟩:=hE.y (s4 ++ q.map (·.2)) xv X hT.j (by rw [List.length_append];omega);have HT:=hid hT;clear hT HW6 HU HS4;dsimp only at hlt ⊢
  gi_wp2_with (refine (show RoundIn (Fence.wide.inRound l') _ _ _ _ _ _ _ _ _ from zak rfl hR).mono ?_;clear hR;rintro e Y ⟨rfl,hj,hk,hm⟩)
  rw [List.append_assoc] at hj;refine⟨⟨hm.size,fun k o hkk=>hm.same k o (by have:=HS6.out;have:=HP6.out;have:=HB.out;have:=HP.out;omega)⟩,hk.below.mono (Nat.zero_le _),?_⟩;have:=HT.out.next hj hk hm;show TB l B n₀ J y p w (s4 ++ (q ++ [((⟨x1,x18⟩,xv):Fin 8×Int)]).map (·.2)) Y;rw [List.map_append];exact this
 case stop=>
  rintro D c q X hD _ hf;exact hf.elim
 case done=>
  rintro D q X hD hq hT hK;have hq2:q.map (·.2)=(zb3 y 8).map (·.2):=by
   have:=congrArg (fun z=>z.map (·.2)) hq;rw [List.map_map] at this;exact this
  rw [hq2] at hT;have hbb:=hT.b;have cb:=zaa hbb 0;have fb:=zab hbb 0;obtain⟨F,hF⟩:∃ F,F=X.setCell ⟨p+1+1,0,none⟩ (.bool true):=⟨_,rfl⟩;have k1:Boxed F (p+1+1) 4 (.bool true):=by rw [hF];exact (show Boxed X (p+1+1) 4 (.bool false) from hbb).set _
  have hDn:p+1+1 < D:=by have:=HS6.out;have:=HP6.out;omega
  have hK8:F.heap[D]? =some (.deferred (some [])):=by
   rw [hF,Below.heap_setCell _ _ _ _ (by show D≠p+1+1;omega)];exact hK
  have hjF:J (s4 ++ (zb3 y 8).map (·.2)) F:=by rw [hF];exact hE.st X _ ⟨_,_,_,by have:=hns.out;have:=HP.out;omega,hbb,rfl⟩ _ hT.j
  have hkF:KpE n₀ w F:=by rw [hF];exact hT.k.set hns.out (by have:=HP.out;omega) _ _
  have hmF:KeepsFrom B w F:=by rw [hF];exact hT.m.trans ((KeepsOthers.setCell _ _ _).from _)
  clear hT hbb
  gi_wp2
  rw [←hF];clear hF;refine⟨by simp,.inl ⟨_,_,rfl,run_takeDeferred hK8,?_⟩⟩;have hDs:D < F.heap.size:=(qLt hK8);have hgr:F.grownBy (F.putObj D (.deferred none)) (some D):=⟨rfl,rfl,rfl,by simp,fun k _ hne=>World.putObj_heap_other (fun e=>hne (by rw [e]))⟩;have hDB:w.heap.size≤D:=by have:=HP.out;omega
  refine⟨.bool true,?_,rfl,?_,hkF.t (KpE.b (w:=w) hns.out F D _ _ hDB hK8 rfl rfl),Nat.le_trans hmF.size hgr.size,fun k o hk ho hc=>(World.putObj_heap_other (by have:=(qLt ho);omega)).trans (hmF.same k o hk ho hc)⟩
  ·have z2:=(show Boxed (F.putObj D (.deferred none)) (p+1+1) 4 (.bool true) from (World.putObj_heap_other (by omega)).trans k1).cell
   generalize F.putObj D (.deferred none)=Z at z2 ⊢;simp [results,Tryz.results156,go_sem,z2]
  ·have hz:=hE.own _ F _ (some D) hjF hgr fun r e=>by cases e;exact⟨by have:=HB.out;omega,_,hK8,rfl⟩
   rw [←HS4.out,←HU.out] at hz;simpa [zim] using hz
end Go.Proofs.YtpbmmoneeoijaaaGreatDoor
namespace Go.Proofs.YtpbmmoneeoijaaaGreatDoor
open Go.RowKit Go.Deep Go.Shelf
set_option maxRecDepth 100000
set_option maxHeartbeats 8000000
attribute [local go_sem] Oper.semAt_some zaq
set_option maxRecDepth 100000
theorem zf0 (q:Nat→Nat→Int):∀ n,(zcn q n).length=2 * n
 |0=>rfl
 |n+1=>by rw [zfp,List.length_append,zf0 q n];simp;omega
theorem zwy {l N B n₀:Nat} {J:List Int→World→Prop} (hE:EncJ l N B n₀ J) (t qn qc:Nat) (qo:Option Addr) (q:Nat→Nat→Int) (pre:List Int) (hN:pre.length+2+2 * qn≤N) (w0 w:World) (hw:Below w0.heap.size w0 w) (hQ:zb9 w0 qo qn 2 q)
  (h0:J pre w) (hB:B≤w.heap.size) (hn:n₀≤B) (h00:w0.heap.size≤n₀) (ht:t < 4294967296) (hq:qn≤100):
  Calls Tryz.prog 157 #[.agg #[qU (t:Nat),.slice qo qn qc],.func (.yield l) #[] #[]] w (EncA J B n₀ pre (zin t qn q) w):=by
 refine (callsIn_wide (n:=8)).1 ?_;refine callsIn_of_wp Tryz.func157 rfl trivial ?_ rfl;simp only [Tryz.ntmps157,qPr,Nat.reduceAdd,Nat.reduceSub];have t0':(0:Int)≤(t:Int):=by omega
 have t1:(t:Int) < 4294967296:=by omega
 have htw:IntKind.i64.wrap (t:Int)=(t:Int):=IntWalk.i64_in _ (by omega);obtain⟨W0,hW0⟩:∃ X,X=w.alloc (qC #[qU (t:Nat),.slice qo qn qc] 71):=⟨_,rfl⟩;have b0:Below w.heap.size w W0:=by rw [hW0];exact qBr _
 have hM0:MB B n₀ J w.heap.size #[qU (t:Nat),.slice qo qn qc] 71 w pre W0:=⟨hE.below h0 b0,by rw [hW0];exact heap_alloc_new w _,KpE.of_below (by omega) b0,ze6 b0⟩;have HM0:=hid hM0;have HW0:=hid hW0;have HB:=hid hB;clear hM0 h0 b0 hW0;obtain⟨fn,tmps,assign,body,hy,hR⟩:=hE.y (pre) ((t:Int)) W0 HM0.out.j (by (try simp only [List.length_append,List.length_cons,List.length_nil]);omega);have HY:=hid hy;have HR:=hid hR;clear hy hR;have c0:=zaa HM0.out.t 0;rw [HW0.out] at c0
 gi_wp2
 rw [←HW0.out,HY.out];simp only [Oper.uponIn];refine⟨fun e=>(by cases e),(zak rfl HR.out).mono ?_⟩;rintro e W1 ⟨rfl,hj,hk,hm⟩;have HM1:=hid (HM0.out.next (by decide) (by decide) hj hk hm);clear hj hk hm HY HR c0 HM0 htw;obtain⟨fn,tmps,assign,body,hy,hR⟩:=hE.y (pre ++ [(t:Int)]) ((qn:Int)) W1 HM1.out.j (by (try simp only [List.length_append,List.length_cons,List.length_nil]);omega);have HY:=hid hy;have HR:=hid hR;clear hy hR;have c1:=zaa HM1.out.t 1
 gi_wp2
 rw [HY.out];simp only [Oper.uponIn];refine⟨fun e=>(by cases e),(zak rfl HR.out).mono ?_⟩;rintro e W2 ⟨rfl,hj,hk,hm⟩;have HM2:=hid (HM1.out.next (by decide) (by decide) hj hk hm);clear hj hk hm HY HR c1 HM1;have c2:=zaa HM2.out.t 1
 gi_wp2
 have HQ:=hid hQ;have HWB:=hid hw;have HN:=hid (show w0.heap.size≤n₀ from h00);have HNB:=hid (show n₀≤w.heap.size by omega);have HM3:=hid (show MB B n₀ J w.heap.size #[qU (t:Nat),.slice qo qn qc] 71 w (pre ++ [(t:Int)] ++ [(qn:Int)] ++ zcn q 0) W2 by simpa [zcn] using HM2.out);obtain⟨s2,hs2⟩:∃ s,pre ++ [(t:Int)] ++ [(qn:Int)]=s:=⟨_,rfl⟩;rw [hs2] at HM3;have hs2l:s2.length=pre.length+2:=by rw [←hs2];simp
 have HS2:=hid hs2;clear HM2 c2 hQ hw hs2 hB
 gi_loopw [24] (fun i_ X=>∃ j:Nat,j≤qn∧i_=qI j∧Hid (MB B n₀ J w.heap.size #[qU (t:Nat),.slice qo qn qc] 71 w (s2 ++ zcn q j) X)) (fun i_ _=>qn - (intOf i_).toNat)
 case atStart=>exact⟨0,by omega,rfl,HM3⟩
 case round=>
  clear HM3;obtain⟨j,hj,rfl,HMr⟩:=hrel;by_cases hlt:j < qn
  ·have k0:decide ((j:Int) < (qn:Int))=true:=by simp;omega
   obtain⟨b,o,rfl,hc⟩:=HQ.out j hlt;have hbw:=HWB.out.trans (HMr.out.k.below.mono HN.out);have q0:=kept (hc 0 (by decide)) hbw;have q1:=kept (hc 1 (by decide)) hbw;rw [Nat.add_zero] at q0;have j0':(0:Int)≤(j:Int):=by omega
   have j1:(j:Int) < (qn:Int):=by omega
   have HS:=hid (show zcn q (j+1)=zcn q j ++ [q j 0,q j 1] from zfp q j);have hql:=zf0 q j;generalize q j 0=u at q0 HS;generalize q j 1=v at q1 HS;clear hc hbw;obtain⟨Y0,hY0⟩:∃ X,X=wr.alloc (qC #[qI u,qI v] 74):=⟨_,rfl⟩;have hbY:Below wr.heap.size wr Y0:=by rw [hY0];exact qBr _
   have HM0:=hid (HMr.out.below hE HNB.out hbY);have HQ0:=hid (show MB B n₀ J wr.heap.size #[qI u,qI v] 74 w (s2 ++ zcn q j) Y0 from ⟨HM0.out.j,by rw [hY0];exact heap_alloc_new wr _,HM0.out.k,HM0.out.m⟩);have HY0:=hid hY0;clear hbY hY0 HMr;obtain⟨fn,tmps,assign,body,hy,hR⟩:=hE.y (s2 ++ zcn q j) (u) Y0 HM0.out.j (by (try simp only [List.length_append]);omega);have HY:=hid hy;have HR:=hid hR;clear hy hR;have d0:=zaa HQ0.out.t 0;rw [HY0.out] at d0
   gi_wp2
   rw [←HY0.out,HY.out];simp only [Oper.uponIn];refine⟨fun e=>(by cases e),(zak rfl HR.out).mono ?_⟩;rintro e Y1 ⟨rfl,hj,hk,hm⟩;have HM1:=hid (HM0.out.next (by decide) (by decide) hj hk hm);have HQ1:=hid (HQ0.out.next (by decide) (by decide) hj hk hm);clear hj hk hm HY HR d0 HM0 HQ0;obtain⟨fn,tmps,assign,body,hy,hR⟩:=hE.y (s2 ++ zcn q j ++ [u]) (v) Y1 HM1.out.j (by (try simp only [List.length_append,List.length_cons,List.length_nil]);omega);have HY:=hid hy;have HR:=hid hR;clear hy hR;have d1:=zaa HQ1.out.t 1
   gi_wp2
   rw [HY.out];simp only [Oper.uponIn];refine⟨fun e=>(by cases e),(zak rfl HR.out).mono ?_⟩;rintro e Y2 ⟨rfl,hj,hk,hm⟩;have HM2:=hid (HM1.out.next (by decide) (by decide) hj hk hm);clear hj hk hm HY HR d1 HM1 HQ1;have HM9:=hid (show MB B n₀ J w.heap.size #[qU (t:Nat),.slice (some ⟨b,o,none⟩) qn qc] 71 w (s2 ++ zcn q (j+1)) Y2 by rw [HS.out];simpa using HM2.out);clear HM2 HS q0 q1
   gi_wp2
   go_roundw
   case rel=>exact⟨j+1,by omega,by go_num,HM9⟩
   case measure=>simp [intOf];omega
  ·obtain rfl:j=qn:=by omega
   have k0:decide ((j:Int) < (j:Int))=false:=by simp
   gi_wp2
   refine bodyPost_ret (v:=.bool true) (by simp [results,Tryz.results157,go_sem]) rfl ?_;refine⟨rfl,?_,HMr.out.k,HMr.out.m⟩;have:=HMr.out.j;rw [←HS2.out] at this;simpa [zin] using this
end Go.Proofs.YtpbmmoneeoijaaaGreatDoor
