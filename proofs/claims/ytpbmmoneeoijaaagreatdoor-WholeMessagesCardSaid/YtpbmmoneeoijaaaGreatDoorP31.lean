/-
  A part of the proof: MigMove.
-/
import Derived.Test.YtpbmmoneeoijaaaGreatDoorP30
namespace Go.Proofs.YtpbmmoneeoijaaaGreatDoor
open Go.RowKit Go.Maps Go.Shelf
attribute [local go_sem] Oper.semAt_some zch
def MoveGood (g:Nat→Nat→Int) (m:Nat→Int) (tq9 n:Nat) (xs:Nat→List Int) (w:World) (e:Ending) (w':World):Prop:=
 ∃ P v u q',e=.returned (.tuple #[v,u,.int .i64 0])∧w'.ownsRow w.heap.size 160 1 v tq9 (ptrs P tq9)∧Qs w' w.heap.size tq9 P q'∧(∀ j,j < tq9→(q' j).cap=(g j 0).toNat∧(q' j).pol=g j 1∧(q' j).xs=zbx g m tq9 xs n j)∧
  w'.ownsRow w.heap.size 334 2 u (zbb g m tq9 xs n).length (zgx (zbb g m tq9 xs n))∧Below w.heap.size w w'
def moveBad:Ending:=.returned (.tuple #[.slice none 0 0,.slice none 0 0,.int .i64 104])
def MovePost (g:Nat→Nat→Int) (m:Nat→Int) (tq9 n:Nat) (xs:Nat→List Int) (w:World) (e:Ending) (w':World):Prop:=
 (Dup m n tq9∧e=moveBad∧Below w.heap.size w w')∨(¬ Dup m n tq9∧MoveGood g m tq9 n xs w e w')
theorem infoDr:(Tryz.prog.info? 334).map (fun i=>(i.zero,i.size,i.bytes))=some (some (.agg #[.int .i64 0,.int .i64 0]),2,16):=by kernel_rfl
structure MI (m:Nat→Int) (n tq9:Nat) (g:Nat→Nat→Int) (P:Nat→Nat) (w:World) (S4 bm:Nat) (ao:Option Addr) (ac:Nat) (pre:List (Way m n tq9)) (W:World):Prop where
 mp:∃ D:DI,W.ownsMap Tryz.prog 3 (plainElem Tryz.prog 3) bm pre.length D∧Told D pre
 mb:Boxed W (bm+1) 397 (.map (some bm))
 r1:Boxed W (w.heap.size+1) 146 (.slice none 0 0)
 r2:Boxed W (w.heap.size+1+1) 330 (.slice none 0 0)
 r3:Boxed W (w.heap.size+1+1+1) 35 (.int .i64 0)
 own:W.ownsRow S4 160 1 (.slice ao tq9 ac) tq9 (ptrs P tq9)
 qs:Qs W S4 tq9 P (fresh g)
 lo:Below w.heap.size w W
 dis:∀ x∈pre,∀ y∈pre,x.1.1≠y.1.1→x.1.2≠y.1.2
structure MX (m:Nat→Int) (n tq9:Nat) (w:World) (pre:List (Way m n tq9)) (W:World):Prop where
 two:∃ q x y,pre=q ++ [x]∧y∈q∧y.1.2=x.1.2
 r1:Boxed W (w.heap.size+1) 146 (.slice none 0 0)
 r2:Boxed W (w.heap.size+1+1) 330 (.slice none 0 0)
 r3:Boxed W (w.heap.size+1+1+1) 35 (.int .i64 104)
 lo:Below w.heap.size w W
theorem Qs.kept {W W':World} {base n:Nat} {P:Nat→Nat} {q:Nat→QSt} {row:Option Nat} (h:Qs W base n P q) (hg:W.grownBy W' row) (hr:∀ r,row=some r→∃ o:Obj,W.heap[r]? =some o∧o.isCells=false):Qs W' base n P q:=
 h.keep (Save.of_grown hg) fun k cur t hk hc=>by
  obtain⟨o,ho,hoc⟩:=hr k hk;rw [hc] at ho;cases ho;cases hoc
theorem zks {W W':World} {b n s:Nat} {e:TypeId} {u:Value} {ys:List Value} {row:Option Nat} (h:W.ownsRow b e s u n ys) (hg:W.grownBy W' row) (hr:∀ r,row=some r→∃ o:Obj,W.heap[r]? =some o∧o.isCells=false):W'.ownsRow b e s u n ys:=
 h.kept hg (by
  cases e:u.ownBlock with
  |none=>exact .inl rfl
  |some k=>
   refine .inr fun h2=>?_;obtain⟨cur,hc⟩:=zdy h e;obtain⟨o,ho,hoc⟩:=hr k h2.symm;rw [hc] at ho;cases ho
   cases hoc)
theorem zby {W W':World} {b:Nat} {t:TypeId} {v:Value} {row:Option Nat} (h:Boxed W b t v) (hg:W.grownBy W' row) (hr:∀ r,row=some r→∃ o:Obj,W.heap[r]? =some o∧o.isCells=false):Boxed W' b t v:=
 h.kept hg fun e=>by
  obtain⟨o,ho,hoc⟩:=hr b e.symm;rw [show W.heap[b]? =_ from h] at ho;cases ho;cases hoc
theorem zfn {W:World} {b:Nat} {t:TypeId} {v:Value} (h:Boxed W b t v) (u:Value):Boxed (W.setCell ⟨b,0,none⟩ u) b t u:=heap_setCell_same W b 0 _ _ u h
theorem zao {W:World} {b b':Nat} {t:TypeId} {v:Value} (h:Boxed W b t v) (u:Value) (hb:b≠b'):Boxed (W.setCell ⟨b',0,none⟩ u) b t v:=(heap_setCell_other W ⟨b',0,none⟩ b u hb).trans h
theorem zz6 {m:Nat→Int} {n tq9:Nat} {g:Nat→Nat→Int} {P:Nat→Nat} {w:World} {S4 bm B:Nat} {ao:Option Addr} {ac:Nat} (hB:bm < B) (hw:w.heap.size≤B):OwnFrom B (MI m n tq9 g P w S4 bm ao ac):=fun pre A C row hs hg hr=>by
 have hr2:∀ r,row=some r→∃ o:Obj,A.heap[r]? =some o∧o.isCells=false:=fun r e=>(hr r e).2;obtain⟨⟨D,h1,h2⟩,h3,h4,h5,h6,h7,h8,h9,h10⟩:=hs;exact⟨⟨D,h1.kept hg (fun e=>by have:=(hr bm e.symm).1;omega),h2⟩,zby h3 hg hr2,zby h4 hg hr2,zby h5 hg hr2,zby h6 hg hr2,zks h7 hg hr2,h8.kept hg hr2,h9.grown hg h9.size (fun j e=>by have:=(hr j e).1;omega),h10⟩
theorem mx_own {m:Nat→Int} {n tq9:Nat} {w:World} {B:Nat} (hw:w.heap.size≤B):OwnFrom B (MX m n tq9 w):=fun pre A C row hs hg hr=>by
 have hr2:∀ r,row=some r→∃ o:Obj,A.heap[r]? =some o∧o.isCells=false:=fun r e=>(hr r e).2;obtain⟨h1,h2,h3,h4,h5⟩:=hs;exact⟨h1,zby h2 hg hr2,zby h3 hg hr2,zby h4 hg hr2,h5.grown hg h5.size (fun j e=>by have:=(hr j e).1;omega)⟩
structure MV (m:Nat→Int) (n tq9:Nat) (P:Nat→Nat) (w:World) (S4 bm D:Nat) (ao:Option Addr) (ac:Nat) (W:World):Prop where
 mp:∃ E:DI,W.ownsMap Tryz.prog 3 (plainElem Tryz.prog 3) bm (zcg m n tq9 4).length E∧Told E (zcg m n tq9 4)
 mb:Boxed W (bm+1) 397 (.map (some bm))
 r1:Boxed W (w.heap.size+1) 146 (.slice none 0 0)
 r2:Boxed W (w.heap.size+1+1) 330 (.slice none 0 0)
 r3:Boxed W (w.heap.size+1+1+1) 35 (.int .i64 0)
 own:W.ownsRow S4 160 1 (.slice ao tq9 ac) tq9 (ptrs P tq9)
 df:W.heap[D]? =some (.deferred (some []))
 lo:Below w.heap.size w W
theorem MV.save {m:Nat→Int} {n tq9:Nat} {P:Nat→Nat} {w:World} {S4 bm D:Nat} {ao:Option Addr} {ac:Nat} {W W':World} {S:Nat→Prop} (h:MV m n tq9 P w S4 bm D ao ac W) (hs:Save S W W')
  (hS:∀ k,S k→w.heap.size≤k∧∃ cur t,W.heap[k]? =some (.cells cur t (0,0))∧(t=266∨t=334)):MV m n tq9 P w S4 bm D ao ac W':=by
 have hb:∀ {b:Nat} {t:TypeId} {v:Value},t≠266→t≠334→Boxed W b t v→Boxed W' b t v:=fun h1 h2 h=>zaj h hs fun hk=>by
  obtain⟨_,cur,t',hc,ht⟩:=hS _ hk;rw [show W.heap[_]? =_ from h] at hc;cases hc;rcases ht with rfl|rfl
  ·exact h1 rfl
  ·exact h2 rfl
 obtain⟨⟨E,⟨es,ck,g1,g2⟩,g3⟩,h3,h4,h5,h6,h7,h8,h9⟩:=h;refine⟨⟨E,⟨es,ck,zaj g1 hs fun hk=>?_,g2⟩,g3⟩,hb (by decide) (by decide) h3,hb (by decide) (by decide) h4,hb (by decide) (by decide) h5,hb (by decide) (by decide) h6,zfv h7 hs fun gg hgg hk=>?_,zaj h8 hs fun hk=>?_,hs.below h9 h9.size fun k hk=>(hS k hk).1⟩
 ·obtain⟨_,cur,t',hc,ht⟩:=hS _ hk
  rw [g1] at hc;cases hc
 ·obtain⟨cur',hc'⟩:=zdy h7 hgg
  obtain⟨_,cur,t',hc,ht⟩:=hS _ hk;rw [hc'] at hc;cases hc;rcases ht with h|h
  ·exact absurd h (by decide)
  ·exact absurd h (by decide)
 ·obtain⟨_,cur,t',hc,ht⟩:=hS _ hk
  rw [h8] at hc;cases hc
theorem MV.below {m:Nat→Int} {n tq9:Nat} {P:Nat→Nat} {w:World} {S4 bm D:Nat} {ao:Option Addr} {ac:Nat} {W W':World} (h:MV m n tq9 P w S4 bm D ao ac W) (hb:Below W.heap.size W W'):MV m n tq9 P w S4 bm D ao ac W':=h.save (Save.of_below hb fun _=>False) fun _ hk=>hk.elim
theorem Qs.base {W:World} {b b' n:Nat} {P:Nat→Nat} {q:Nat→QSt} (h:Qs W b n P q) (hb:b'≤b):Qs W b' n P q:=⟨fun i hi=>QAt.base (h.at_ i hi) hb,h.apart,h.rows⟩
theorem zr1 (w:World):(zeroValue 3).run Tryz.prog w=.ok (.int .i64 0) w:=by kernel_rfl
theorem zgl {S:Nat→Prop} {W W':World} {b n s:Nat} {e:TypeId} {u:Value} {ys:List Value} (h:W.ownsRow b e s u n ys) (hs:Save S W W') (hn:∀ g,u.ownBlock=some g→¬ S g):W'.ownsRow b e s u n ys:=by
 obtain⟨h1,h2|⟨g,cap,cur,rfl,hb,hg,hr⟩⟩:=h
 ·exact⟨h1,.inl h2⟩
 ·exact⟨h1,.inr ⟨g,cap,cur,rfl,hb,(hs.block g (Array.getElem?_eq_some_iff.1 hg).1 (hn g rfl)).trans hg,hr⟩⟩
set_option maxRecDepth 100000 in
set_option maxHeartbeats 2000000 in
theorem move_any (oo lo:Option Addr) (n oc tq9 lc base0:Nat) (g:Nat→Nat→Int) (m:Nat→Int) (Po:Nat→Nat) (qo:Nat→QSt) (w:World) (hn:n≤4) (hm:∀ i,(Lit.int .i64 (m i)).wf=true) (hP:PRow w oo n Po) (hq:Qs w base0 n Po qo) (hxs:∀ i,i < n→(qo i).xs.length≤100)
  (hS:Sets w lo tq9 g) (hR:zvw tq9 g):
  Calls Tryz.prog 205 #[.slice oo n oc,.slice lo tq9 lc,arr4 m] w fun e w'=>MovePost g m tq9 n (fun i=>(qo i).xs) w e w':=by
 refine (callsIn_wide (n:=8)).1 ?_;refine callsIn_of_wp_marks Tryz.func205 rfl trivial ?_ rfl;unfold arr4;simp only [Tryz.ntmps205,List.size_toArray,List.length_cons,List.length_nil,Nat.reduceAdd,Nat.reduceSub,Array.replicate_succ,Array.replicate_zero,List.push_toArray,List.append_toArray,List.nil_append,List.cons_append];have hto:tq9≤4:=hR.1;have HR:=hid hR;have HP:=hid hP;have HQ:=hid hq;have HX:=hid hxs;have HS:=hid hS;clear hR hP hq hxs hS;refine wpIn_wide.2 ?_;have hmm:=@run_makeMap Tryz.prog
 go_wp2_with fail
 obtain⟨W4,hW4⟩:∃ W,W=((((w.alloc (Obj.cells #[Value.int .i64 (m 0),Value.int .i64 (m 1),Value.int .i64 (m 2),Value.int .i64 (m 3)] 174)).alloc (Obj.cells #[Value.slice none 0 0] 146)).alloc (Obj.cells #[Value.slice none 0 0] 330)).alloc (Obj.cells #[Value.int .i64 0] 35)):=⟨_,rfl⟩;have hB4:Below w.heap.size w W4:=by rw [hW4];exact ((((Below.refl _ w).alloc (Nat.le_refl _) _).alloc (by simp) _).alloc (by simp;omega) _).alloc (by simp;omega) _
 have hs4:W4.heap.size=w.heap.size+4:=by rw [hW4];simp
 have k0:W4.heap[w.heap.size]? =some (box4 m):=by
  rw [hW4];refine (Below.heap_alloc _ _ _ (by simp;omega)).trans ((Below.heap_alloc _ _ _ (by simp;omega)).trans ((Below.heap_alloc _ _ _ (by simp)).trans (heap_alloc_new w _)))
 have k1:Boxed W4 (w.heap.size+1) 146 (.slice none 0 0):=by
  rw [hW4];have h:=Boxed.new (w.alloc (Obj.cells #[Value.int .i64 (m 0),Value.int .i64 (m 1),Value.int .i64 (m 2),Value.int .i64 (m 3)] 174)) 146 (.slice none 0 0);rw [World.size_alloc] at h;exact (h.alloc _).alloc _
 have k2:Boxed W4 (w.heap.size+1+1) 330 (.slice none 0 0):=by
  rw [hW4];have h:=Boxed.new ((w.alloc (Obj.cells #[Value.int .i64 (m 0),Value.int .i64 (m 1),Value.int .i64 (m 2),Value.int .i64 (m 3)] 174)).alloc (Obj.cells #[Value.slice none 0 0] 146)) 330 (.slice none 0 0);rw [World.size_alloc,World.size_alloc] at h;exact h.alloc _
 have k3:Boxed W4 (w.heap.size+1+1+1) 35 (.int .i64 0):=by
  rw [hW4];have h:=Boxed.new (((w.alloc (Obj.cells #[Value.int .i64 (m 0),Value.int .i64 (m 1),Value.int .i64 (m 2),Value.int .i64 (m 3)] 174)).alloc (Obj.cells #[Value.slice none 0 0] 146)).alloc (Obj.cells #[Value.slice none 0 0] 330)) 35 (.int .i64 0);rw [World.size_alloc,World.size_alloc,World.size_alloc] at h;exact h
 rw [←hW4];clear hW4;have HB4:=hid hB4;have HK0:=hid k0;have HK1:=hid k1;have HK2:=hid k2;have HK3:=hid k3;have HS4:=hid hs4;refine (zqz lo tq9 lc g W4 (HS.out.below hB4) HR.out).mono ?_;rintro e w1 ⟨P,v,rfl,own1,qs1,b1⟩;obtain⟨ao,ac,rfl,hac,hPR⟩:=zb9 own1;have b1':=hid b1;have HO1:=hid own1;have HQ1:=hid qs1;have HPR:=hid hPR.out;have hl0:=zaj k0 (Save.of_below b1 fun _=>False) id;have bA:Below w1.heap.size w1 ((w1.alloc (Obj.map #[] 0)).alloc (Obj.cells #[Value.map (some w1.heap.size)] 397)):=((Below.refl _ _).alloc (Nat.le_refl _) _).alloc (by simp) _;have HBA:=hid bA;have hl1:=zaj hl0 (Save.of_below bA fun _=>False) id;have HK0':=hid hl1;have e0:=zaa hl1 0;have e1:=zaa hl1 1;have e2:=zaa hl1 2;have e3:=zaa hl1 3;have e0:((w1.alloc (Obj.map #[] 0)).alloc (Obj.cells #[Value.map (some w1.heap.size)] 397)).cell? ⟨w.heap.size,0,none⟩=some (.int .i64 (m 0)):=e0;have e1:((w1.alloc (Obj.map #[] 0)).alloc (Obj.cells #[Value.map (some w1.heap.size)] 397)).cell? ⟨w.heap.size,1,none⟩=some (.int .i64 (m 1)):=e1;have e2:((w1.alloc (Obj.map #[] 0)).alloc (Obj.cells #[Value.map (some w1.heap.size)] 397)).cell? ⟨w.heap.size,2,none⟩=some (.int .i64 (m 2)):=e2;have e3:((w1.alloc (Obj.map #[] 0)).alloc (Obj.cells #[Value.map (some w1.heap.size)] 397)).cell? ⟨w.heap.size,3,none⟩=some (.int .i64 (m 3)):=e3;clear own1 qs1 hPR b1 k0 k1 k2 k3 hB4 hs4 hl0 hl1 bA
 go_wp2_with fail
 clear e0 e1 e2 e3;refine (ways_any m n tq9 _).mono ?_;rintro e w2 ⟨rfl,rfl⟩
 go_wp2_with fail
 have b5:Below w1.heap.size w1 ((w1.alloc (Obj.map #[] 0)).alloc (Obj.cells #[Value.map (some w1.heap.size)] 397)):=HBA.out;have b8:Below w1.heap.size w1 (((((w1.alloc (Obj.map #[] 0)).alloc (Obj.cells #[Value.map (some w1.heap.size)] 397)).alloc (box4 m)).alloc (Obj.cells #[Value.int .i64 n] 3)).alloc (Obj.cells #[Value.int .i64 tq9] 3)):=((b5.alloc b5.size _).alloc (by simp;omega) _).alloc (by simp;omega) _;have hmp:=((((World.ownsMap_made (H:=Unit) w1 Tryz.prog 3 (plainElem Tryz.prog 3)).alloc (Obj.cells #[Value.map (some w1.heap.size)] 397)).alloc (box4 m)).alloc (Obj.cells #[Value.int .i64 n] 3)).alloc (Obj.cells #[Value.int .i64 tq9] 3);have hmb:=Boxed.new (w1.alloc (Obj.map #[] 0)) 397 (.map (some w1.heap.size));rw [World.size_alloc] at hmb;have hmb:=((hmb.alloc (box4 m)).alloc (Obj.cells #[Value.int .i64 n] 3)).alloc (Obj.cells #[Value.int .i64 tq9] 3);have hq0:=heap_alloc_new ((w1.alloc (Obj.map #[] 0)).alloc (Obj.cells #[Value.map (some w1.heap.size)] 397)) (box4 m);rw [World.size_alloc,World.size_alloc] at hq0;have hq0:=(Below.heap_alloc _ (Obj.cells #[Value.int .i64 tq9] 3) _ (by simp)).trans ((Below.heap_alloc _ (Obj.cells #[Value.int .i64 n] 3) _ (by simp)).trans hq0);have hq1:=Boxed.new (((w1.alloc (Obj.map #[] 0)).alloc (Obj.cells #[Value.map (some w1.heap.size)] 397)).alloc (box4 m)) 3 (.int .i64 n);rw [World.size_alloc,World.size_alloc,World.size_alloc] at hq1;have hq1:=hq1.alloc (Obj.cells #[Value.int .i64 tq9] 3);have hq2:=Boxed.new ((((w1.alloc (Obj.map #[] 0)).alloc (Obj.cells #[Value.map (some w1.heap.size)] 397)).alloc (box4 m)).alloc (Obj.cells #[Value.int .i64 n] 3)) 3 (.int .i64 tq9);rw [World.size_alloc,World.size_alloc,World.size_alloc,World.size_alloc] at hq2;obtain⟨W8,hW8⟩:∃ W,W=(((((w1.alloc (Obj.map #[] 0)).alloc (Obj.cells #[Value.map (some w1.heap.size)] 397)).alloc (box4 m)).alloc (Obj.cells #[Value.int .i64 n] 3)).alloc (Obj.cells #[Value.int .i64 tq9] 3)):=⟨_,rfl⟩;have hs8:W8.heap.size=w1.heap.size+5:=by rw [hW8];simp
 rw [←hW8] at b8 hmp hmb hq0 hq1 hq2 ⊢;clear hW8 b5 HBA HK0';have hB1:=HB4.out.trans (b1'.out.mono HB4.out.size);have hB8:=hB1.trans (b8.mono hB1.size);have hw8:w.heap.size≤w1.heap.size:=hB1.size;have HI0:MI m n tq9 g P w W4.heap.size w1.heap.size ao ac [] W8:=by
  have kb:∀ {b:Nat} {t:TypeId} {v:Value},Boxed W4 b t v→Boxed W8 b t v:=fun h=>zaj (zaj h (Save.of_below b1'.out fun _=>False) id) (Save.of_below b8 fun _=>False) id;exact⟨⟨_,hmp,zxo⟩,hmb,kb HK1.out,kb HK2.out,kb HK3.out,HO1.out.kept (zb2 b8) (by cases e:(Value.slice ao tq9 ac).ownBlock<;>simp),HQ1.out.below b8,hB8,fun x hx=>by cases hx⟩
 have hseq:=ways1_in 7 (by omega) (w1.heap.size+1+1) (w1.heap.size+1+1+1) (w1.heap.size+1+1+1+1) m n tq9 W8 (by omega) (by omega) hm hq0 hq1 hq2;clear hmp hmb hq0 hq1 hq2 b8 hB1 hB8 e0 e1 e2 e3;refine (wpIn_wide (n:=8)).1 ?_;refine wpIn_rangeFunc_ownG rfl (by omega) (gf:=301) (lb:=#[.pointer (some ⟨w1.heap.size+1+1,0,none⟩),.pointer (some ⟨w1.heap.size+1+1+1,0,none⟩),.pointer (some ⟨w1.heap.size+1+1+1+1,0,none⟩)]) rfl trivial (enters_of Tryz.func301 (by kernel_rfl) rfl) hseq KpB.t kpB_b (Below.refl _ _) (fun _=>rfl)
  (MI m n tq9 g P w W4.heap.size w1.heap.size ao ac) (fun c pre W=>c=.ret∧MX m n tq9 w pre W)
  (zz6 (by omega) (by omega)) (fun c=>fun pre A C row hs hg hr=>⟨hs.1,mx_own (by omega) pre A C row hs.2 hg hr⟩) HI0
  (fun x=>{ tmps:=#[Value.slice oo n oc,Value.slice lo tq9 lc,Value.agg #[Value.int .i64 (m 0),Value.int .i64 (m 1),Value.int .i64 (m 2),Value.int .i64 (m 3)],undef,undef,Value.pointer (some ⟨w.heap.size,0,none⟩),Value.pointer (some ⟨w.heap.size+1,0,none⟩),Value.pointer (some ⟨w.heap.size+1+1,0,none⟩),Value.pointer (some ⟨w.heap.size+1+1+1,0,none⟩),Value.slice ao tq9 ac,Value.int .i64 0,Value.pointer (some ⟨w1.heap.size+1,0,none⟩),Value.int .i64 x.1.1,Value.int .i64 x.1.2,undef,undef,undef,undef,undef,undef,undef,undef,Value.tuple #[Value.slice ao tq9 ac,Value.int .i64 0],Value.slice lo tq9 lc,Value.tuple #[Value.slice ao tq9 ac,Value.int .i64 0],Value.slice ao tq9 ac,Value.int .i64 0,Value.int .i64 0,Value.bool false,undef,Value.map (some w1.heap.size),Value.agg #[Value.int .i64 (m 0),Value.int .i64 (m 1),Value.int .i64 (m 2),Value.int .i64 (m 3)],Value.slice oo n oc,Value.int .i64 n,Value.slice ao tq9 ac,Value.int .i64 tq9,Value.func (.func 301) #[] #[Value.pointer (some ⟨w1.heap.size+1+1,0,none⟩),Value.pointer (some ⟨w1.heap.size+1+1+1,0,none⟩),Value.pointer (some ⟨w1.heap.size+1+1+1+1,0,none⟩)],Value.int .i64 x.1.1,Value.int .i64 x.1.2,undef,undef,undef,undef,undef,undef,undef,undef,undef,undef,undef,undef,undef,undef,undef,undef,undef,undef,undef,undef,undef,undef,undef,undef,undef,undef,undef,undef,undef,undef,undef,undef,undef,undef,undef,undef,undef,undef,undef,undef,undef,undef,undef,undef,undef,undef],defers:=[] }) ?assign ?body ?done ?stop
 case assign=>
  intro l x W K hK
  gi_wp2
  exact hK
 case body=>
  rintro l pre x W hI hlt;clear HI0 hseq hmm;have HIW:=hid hI;obtain⟨D,hmp,hT⟩:=hI.mp;have cb:=hI.mb.cell;have HT:=hid hT;have HMP:=hid hmp;obtain⟨bm,hbm⟩:∃ b,w1.heap.size=b:=⟨_,rfl⟩;rw [hbm] at HMP HIW hmp cb ⊢;clear hI hT;have hWm:=hmp.lt;have hwx:(Lit.int .i64 ((x.1.1:Nat):Int)).wf=true:=by
   have:=zjc x.2.1;exact WalkArith.wf_i64 (by omega)
  have hwy:(Lit.int .i64 ((x.1.2:Nat):Int)).wf=true:=by
   have:=zBk x.2.1;exact WalkArith.wf_i64 (by omega)
  have HWX:=hid hwx;have HWY:=hid hwy;clear hwx hwy
  gi_wp2_with (first|(gi_at_range;refine wpListIn_range_own _ rfl _ 397 rfl 3 3 znt Tryz.underlying397 _ bm _ _ rfl hmp ?_;intro W0 hrg0 hg0 hs0)|gi_in)
  go_frame
  have HW0:Hid (W.grownBy W0 none):=hg0;have hN0:∀ y∈pre,Maps.has D (kI y.1.1)=false→y.1.2≠x.1.2:=fun y hy h=>by
   rw [(HT.out.has y.1.1).2 ⟨y,hy,rfl⟩] at h;cases h
  have HN0:=hid hN0;clear hg0 hN0 hmp cb
  gi_loopw [15] (fun _ wr=>∃ (left:Lit→Bool) (cnt:Nat),wr.ranges Tryz.prog 3 (plainElem Tryz.prog 3) bm W.heap.size pre.length D left cnt∧Hid (∀ z,left z=true→Maps.has D z=true)∧Hid (∀ y∈pre,left (kI y.1.1)=false→y.1.2≠x.1.2)∧Hid (W.grownBy wr none)) (fun _ wr=>wr.rangeLeft bm W.heap.size)
  case atStart=>exact⟨_,_,hrg0,fun _ h=>h,HN0,HW0⟩
  case round=>
   clear HN0 HW0 hrg0;obtain⟨left,cnt,hrg,HL,HN,HG⟩:=hrel
   gi_wp2_with (first|(gi_at_next;refine wpListIn_next_ranges _ rfl _ rfl 3 znt (plainElem Tryz.prog 3) (Value.int .i64) (Value.int .i64) (fun key kl hk=>by obtain⟨x,hx,_⟩:=Maps.keyOf_int_inv Tryz.underlying3 hk;exact⟨x,hx⟩) (fun v y hv=>by obtain⟨c,rfl,_⟩:=plainElem_int_inv Tryz.underlying3 hv;exact⟨c,rfl⟩) bm W.heap.size pre.length _ _ _ rfl hrg ?_ ?_)|gi_in)
   ·intro hc0 hl0
    have HI2:Hid (MI m n tq9 g P w W4.heap.size bm ao ac pre wr):=zz6 (B:=W8.heap.size) (by omega) (by omega) pre W wr none HIW.out HG.out (fun r e=>by cases e);have hmp2:=hrg.owns;have cb2:=HI2.out.mb.cell;have HDI:Hid (∀ y∈pre,y.1.2≠x.1.2):=fun y hy=>HN.out y hy (hl0 _);have hc2:pre.length < 4:=hlt;have hkW:bm < W8.heap.size:=by omega
    gi_wp2_with (first|(gi_at_mapUpdate;refine wpListIn_mapUpdate_own _ rfl _ _ _ 397 rfl 3 3 znt Tryz.underlying397 _ bm pre.length _ rfl hmp2 (by unfold maxLen;omega) _ _ _ rfl rfl (keyOf_int_mk Tryz.underlying3 HWX.out) _ [] (plainElem_int Tryz.underlying3 HWY.out) ?_;intro w4 hmp4 hg4)|gi_in)
    have hG4:W.grownBy w4 (some bm):=((HG.out.but (some bm)).andThen hg4 fun j e=>.inr e);obtain⟨es,ck,hes,_⟩:=HMP.out;have hnc:∀ r,some bm=some r→∃ o:Obj,W.heap[r]? =some o∧o.isCells=false:=fun r e=>by cases e;exact⟨_,hes,rfl⟩
    obtain⟨_,h3,h4,h5,h6,h7,h8,h9,h10⟩:=HIW.out;refine⟨KeepsFrom.of_grownBy hG4 fun j e=>by cases e;exact hkW,⟨hG4.size,fun b hb o ho _=>?_⟩,⟨⟨_,by rw [List.length_append];exact hmp4,HT.out.put x⟩,zby h3 hG4 hnc,zby h4 hG4 hnc,zby h5 hG4 hnc,zby h6 hG4 hnc,zks h7 hG4 hnc,h8.kept hG4 hnc,h9.grown hG4 h9.size (fun j e=>by cases e;omega),fun y hy z hz hne=>?_⟩⟩
    ·refine (hG4.block b (Array.getElem?_eq_some_iff.1 ho).1 fun e=>?_).trans ho
     simp only [List.mem_cons,List.not_mem_nil,or_false,Option.some.injEq] at hb e;omega
    ·rcases List.mem_append.1 hy with hy2|hy2<;>rcases List.mem_append.1 hz with hz2|hz2
     ·exact h10 y hy2 z hz2 hne
     ·rw [List.mem_singleton] at hz2;subst hz2;exact HDI.out y hy2
     ·rw [List.mem_singleton] at hy2;subst hy2;exact fun e=>HDI.out z hz2 e.symm
     ·rw [List.mem_singleton] at hy2 hz2;subst hy2 hz2;exact absurd rfl hne
   ·intro kx kc kl y1 y2 w3 cnt3 hkey hlk hval hat hrg3 hlt3 hg3 hs3 hen
    obtain⟨kx',ex,rfl,hwk⟩:=Maps.keyOf_int_inv Tryz.underlying3 hkey;cases ex;obtain⟨kc',ec,hy1,hwc⟩:=plainElem_int_inv Tryz.underlying3 hval;cases ec;simp only [Prod.mk.injEq] at hy1;obtain⟨rfl,_⟩:=hy1;have G3:W.grownBy w3 none:=HG.out.andThen hg3 fun j e=>.inl (by cases e;exact Nat.le_refl _);have HG3:=hid G3;have HI3:Hid (MI m n tq9 g P w W4.heap.size bm ao ac pre w3):=zz6 (B:=W8.heap.size) (by omega) (by omega) pre W w3 none HIW.out G3 (fun r e=>by cases e);have hone:∃ y∈pre,((y.1.1:Nat):Int)=kx∧((y.1.2:Nat):Int)=kc:=by
     obtain⟨y,hy,e⟩:=HT.out.only kx (HL.out _ hlk);refine⟨y,hy,e,?_⟩;have h1:=HT.out.val y hy (.lit (.int .i64 0));have h2:=hat (.lit (.int .i64 0));rw [show kI ((y.1.1:Nat):Int)=.int .i64 kx by unfold kI;rw [e],h2] at h1;injection h1 with h1
     injection h1 with h1 h3
     exact h3.symm
    have HONE:=hid hone;by_cases hc:kc=((x.1.2:Nat):Int)
    ·have t0:(kc == ((x.1.2:Nat):Int))=true:=by simp [hc]
     have HTW:Hid (∃ q x' y,pre ++ [x]=q ++ [x']∧y∈q∧y.1.2=x'.1.2):=by
      obtain⟨y,hy,_,e⟩:=HONE.out;exact⟨pre,x,y,rfl,hy,by omega⟩
     have c1:=HI3.out.r1.cell;have c2:=HI3.out.r2.cell;have c3:=HI3.out.r3.cell;have f1:=HI3.out.r1.frozen;have f2:=HI3.out.r2.frozen;have f3:=HI3.out.r3.frozen;clear hc hone G3 hkey hval hat hg3 hlk HONE
     gi_wp2
     have r1:=HI3.out.r1;have r2:=HI3.out.r2;have r3:=HI3.out.r3;refine⟨(KeepsFrom.of_grownBy HG3.out fun j e=>by cases e).trans ((((KeepsOthers.setCell _ _ _).trans (KeepsOthers.setCell _ _ _)).trans (KeepsOthers.setCell _ _ _)).from _),rfl,⟨HTW.out,?_,?_,?_,?_⟩⟩
     ·exact zao (zao (zfn r1 _) _ (by omega)) _ (by omega)
     ·exact zao (zfn (zao r2 _ (by omega)) _) _ (by omega)
     ·exact zfn (zao (zao r3 _ (by omega)) _ (by omega)) _
     ·exact ((HI3.out.lo.setCell (p:=⟨w.heap.size+1,0,none⟩) (by simp) _).setCell (p:=⟨w.heap.size+1+1,0,none⟩) (by simp;omega) _).setCell (p:=⟨w.heap.size+1+1+1,0,none⟩) (by simp;omega) _
    ·have t0:(kc == ((x.1.2:Nat):Int))=false:=by simp [hc]
     have HN3:Hid (∀ y∈pre,(left (kI y.1.1) && !(kI y.1.1).sameKey (.int .i64 kx))=false→y.1.2≠x.1.2):=fun y hy h=>by
      cases hl:left (kI y.1.1) with
      |false=>exact HN.out y hy hl
      |true=>
       rw [hl,Bool.true_and,Bool.not_eq_false'] at h;obtain⟨z,hz,e1,e2⟩:=HONE.out;have e3:((y.1.1:Nat):Int)=kx:=by
        cases hq:decide (((y.1.1:Nat):Int)=kx) with
        |true=>exact of_decide_eq_true hq
        |false=>
         have:=of_decide_eq_false hq;rw [sameKey_ne (show kI ((y.1.1:Nat):Int)≠.int .i64 kx from fun e=>this (by unfold kI at e;injection e))] at h;cases h
       have e4:y=z:=way_eq (by omega);subst e4;intro e5;exact hc (by omega)
     have HL3:Hid (∀ z,(left z && !z.sameKey (.int .i64 kx))=true→Maps.has D z=true):=fun z h=>by
      rw [Bool.and_eq_true] at h;exact HL.out z h.1
     have hle:=hrg3.left_eq;have hle0:=hrg.left_eq;clear hc hone G3 hkey hval hat hg3 hlk HONE
     gi_wp2
     go_roundw
     case rel=>exact⟨_,cnt3,hrg3,HL3,HN3,HG3⟩
     case measure=>rw [hle,hle0];omega
 case done=>
  rintro D ys W hD rfl hI hK;have HND:Hid (¬ Dup m n tq9):=no_dup hI.dis rfl;have HIW:=hid hI;have HMV:Hid (MV m n tq9 P w W4.heap.size w1.heap.size D ao ac W):=⟨hI.mp,hI.mb,hI.r1,hI.r2,hI.r3,hI.own,hK,hI.lo⟩;have HQS:=hid hI.qs;have HSZ:W4.heap.size≤w1.heap.size:=b1'.out.size;have HSW:w.heap.size≤W4.heap.size:=HB4.out.size;have HDR:Hid (W.ownsRow w.heap.size 334 2 (.slice none 0 0) (zbb g m tq9 (fun i=>(qo i).xs) 0).length (zgx (zbb g m tq9 (fun i=>(qo i).xs) 0))):=World.ownsRow_nil _ _ _ _;have HST:Hid (∀ j,j < tq9→(fresh g j).cap=(g j 0).toNat∧(fresh g j).pol=g j 1∧(fresh g j).xs=zbx g m tq9 (fun i=>(qo i).xs) 0 j):=fun j _=>⟨rfl,rfl,rfl⟩;obtain⟨bm,hbm⟩:∃ b,w1.heap.size=b:=⟨_,rfl⟩;rw [hbm] at HMV ⊢;have HB0:Hid (base0=base0):=rfl;obtain⟨oi,di,dz0,dz1,dz2⟩:=info_parts infoDr;clear HI0 hseq hI hK HIW;clear hmb hq0 hq1 hbm
  go_wp2_with fail
  go_loopw [16,53] (fun v i_ wr=>∃ (i:Nat) (q':Nat→QSt),i_=.int .i64 i∧i≤n∧Hid (MV m n tq9 P w W4.heap.size bm D ao ac wr)∧Hid (Qs wr W4.heap.size tq9 P q')∧
   Hid (∀ j,j < tq9→(q' j).cap=(g j 0).toNat∧(q' j).pol=g j 1∧(q' j).xs=zbx g m tq9 (fun i=>(qo i).xs) i j)∧Hid (∀ j,j < tq9→(∀ k,k < i→bec m tq9 k≠some j)→q' j=fresh g j)∧
   Hid (wr.ownsRow w.heap.size 334 2 v (zbb g m tq9 (fun i=>(qo i).xs) i).length (zgx (zbb g m tq9 (fun i=>(qo i).xs) i)))) (fun _ i_ _=>n - (intOf i_).toNat)
  case atStart=>exact⟨0,_,rfl,Nat.zero_le _,HMV,HQS,HST,fun _ _ _=>rfl,HDR⟩
  case round=>
   clear HMV HQS HST HDR HB0;obtain⟨i,q',rfl,hin,HMV,HQS,HST,HFR,HDR⟩:=hrel;by_cases hlt:i < n
   ·have t0:decide ((i:Int) < (n:Int))=true:=by simp;omega
    obtain⟨ob,oof,rfl,co0⟩:=(HP.out.below HMV.out.lo) i hlt;have co:wr.cell? ⟨ob,oof+i,none⟩=some (.pointer (some ⟨Po i,0,none⟩)):=co0;clear co0;obtain⟨E,hmp,hT⟩:=HMV.out.mp;have cb:=HMV.out.mb.cell;have HT:=hid hT;have hwi:(Lit.int .i64 (i:Int)).wf=true:=WalkArith.wf_i64 (by omega);have hQi:QAt wr base0 (Po i) ((qo i).cap:Int) (qo i).pol (qo i).v (qo i).xs (qo i).d:=QAt.below (HQ.out.at_ i hlt) HMV.out.lo;have HQI:=hid hQi;have HLEN:=hid (qlen_any base0 (Po i) ((qo i).cap:Int) (qo i).pol (qo i).d (qo i).v (qo i).xs wr hQi);have HX100:=hid (HX.out i hlt);have i0':(0:Int)≤(i:Int):=by omega
    have i1:(i:Int) < (n:Int):=by omega
    have hh:=hT.has i
    cases hbec:bec m tq9 i with
    |none=>
     have hh2:Maps.has E (Lit.int .i64 (i:Int))=false:=by
      cases h:Maps.has E (Lit.int .i64 (i:Int)) with
      |false=>rfl
      |true=>
       obtain⟨x,_,e⟩:=hh.1 h;have:=x.2.1;rw [e,hbec] at this;cases this
     have HOV:Hid (zh3 g m tq9 (fun i=>(qo i).xs) i=(qo i).xs.length):=by
      show _=_;unfold zh3;rw [hbec]
     have HSTx:Hid (∀ j,j < tq9→(q' j).cap=(g j 0).toNat∧(q' j).pol=g j 1∧(q' j).xs=zbx g m tq9 (fun i=>(qo i).xs) (i+1) j):=fun j hj=>by
      obtain⟨a1,a2,a3⟩:=HST.out j hj;refine⟨a1,a2,?_⟩;rw [a3];unfold zbx;rw [if_neg (by rw [hbec];exact fun h=>by cases h)]
      cases i<;>rfl
     have HFRx:Hid (∀ j,j < tq9→(∀ k,k < i+1→bec m tq9 k≠some j)→q' j=fresh g j):=fun j hj h=>HFR.out j hj fun k hk=>h k (by omega);have HMVx:=HMV;have HQSx:=HQS;have HDRx:=HDR;obtain⟨LL,hLL⟩:∃ LL,(qo i).xs.length=LL:=⟨_,rfl⟩;rw [hLL] at HLEN HOV;clear hh hbec hT hQi hLL;by_cases hov:0 < LL
     ·have t3:decide ((0:Int) < ((LL:Nat):Int))=true:=by simp;omega
      have t4:decide (0 < LL)=true:=by simp;omega
      have HD2:Hid (zbb g m tq9 (fun i=>(qo i).xs) (i+1)=zbb g m tq9 (fun i=>(qo i).xs) i ++ [(i,LL)]):=by
       show _=_;rw [zbb,HOV.out,if_pos hov]
      have hdl:=zri g m tq9 (fun i=>(qo i).xs) i;have hszx:=HMVx.out.lo.size;have hnews:∀ (k:Nat) (u:Value),[Value.int .i64 (i:Int),Value.int .i64 ((LL:Nat):Int)][k]? =some u→(wr.alloc (Obj.cells #[Value.int .i64 (i:Int),Value.int .i64 ((LL:Nat):Int)] 334)).cell? ((⟨wr.heap.size,0,none⟩:Addr).add k)=some u:=fun k u hk=>by
       rw [za8,Nat.zero_add,World.cell?_alloc_at _ _ _ _ rfl];simpa using hk
      have HNW:=hid hnews;clear hov hnews
      go_wp2_with (first|(at_lookup;refine wpList_lookup_own_ok_int _ rfl _ _ 397 rfl 3 3 .i64 znt Tryz.underlying397 Tryz.underlying3 (zr1 _) bm _ _ rfl hmp _ _ rfl (keyOf_int_mk Tryz.underlying3 hwi) ?_;intro c hat hwc;clear hat hwc hmp cb)|(go_at_call 264;refine HLEN.out.mono ?_;rintro e w' ⟨rfl,rfl⟩)|(at_builtin;refine wpList_append_own _ rfl _ _ 330 rfl w.heap.size 334 oi (.agg #[.int .i64 0,.int .i64 0]) 2 16 Tryz.underlying330 di dz0 dz1 dz2 rfl (by decide) u16 _ _ rfl (HDRx.out.alloc _) ⟨wr.heap.size,0,none⟩ 1 1 [.int .i64 (i:Int),.int .i64 ((LL:Nat):Int)] rfl rfl HNW.out (by simp [Value.oneCell']) (by unfold maxLen;omega) (by omega) (by simp;omega) ?_;intro v5 w5 hown5 hgrow5 _;have HO5:=hid hown5;have HG5:=hid hgrow5;clear hown5 hgrow5))
      have bA:=(Below.refl wr.heap.size wr).alloc (Nat.le_refl _) (Obj.cells #[Value.int .i64 (i:Int),Value.int .i64 ((LL:Nat):Int)] 334);have HQ5:=hid ((HQSx.out.below bA).grown (HDRx.out.alloc _) (by decide) HG5.out);have HM5:=hid ((HMVx.out.below bA).save (Save.of_grown HG5.out) fun k hk=>⟨(HDRx.out.lt k hk).1,by
       obtain⟨cur,hc⟩:=zdy (HDRx.out.alloc (Obj.cells #[Value.int .i64 (i:Int),Value.int .i64 ((LL:Nat):Int)] 334)) hk;exact⟨cur,_,hc,.inr rfl⟩⟩)
      go_roundw
      case rel=>exact⟨i+1,_,by go_num,by omega,HM5,HQ5,HSTx,HFRx,by rw [HD2.out,List.length_append,zi8];exact HO5.out⟩
      case measure=>simp [intOf];omega
     ·have t3:decide ((0:Int) < ((LL:Nat):Int))=false:=by simp;omega
      have t4:decide (0 < LL)=false:=by simp;omega
      have HD2:Hid (zbb g m tq9 (fun i=>(qo i).xs) (i+1)=zbb g m tq9 (fun i=>(qo i).xs) i):=by
       show _=_;rw [zbb,HOV.out,if_neg hov,List.append_nil]
      clear hov
      go_wp2_with (first|(at_lookup;refine wpList_lookup_own_ok_int _ rfl _ _ 397 rfl 3 3 .i64 znt Tryz.underlying397 Tryz.underlying3 (zr1 _) bm _ _ rfl hmp _ _ rfl (keyOf_int_mk Tryz.underlying3 hwi) ?_;intro c hat hwc;clear hat hwc hmp cb)|(go_at_call 264;refine HLEN.out.mono ?_;rintro e w' ⟨rfl,rfl⟩)|go_in)
      go_roundw
      case rel=>exact⟨i+1,_,by go_num,by omega,HMVx,HQSx,HSTx,HFRx,by rw [HD2.out];exact HDRx.out⟩
      case measure=>simp [intOf];omega
    |some j=>
     have hjt:=zBk hbec;have hh2:Maps.has E (Lit.int .i64 (i:Int))=true:=hh.2 ⟨⟨(i,j),hbec,hlt⟩,(ziu _ 4).2 (zjc hbec),rfl⟩;have HCJ:Hid (∀ c:Int,E.atKey (.int .i64 (i:Int)) (.lit (.int .i64 0))=.lit (.int .i64 c)→c=(j:Int)):=fun c hc=>by
      have h1:=HT.out.val ⟨(i,j),hbec,hlt⟩ ((ziu _ 4).2 (zjc hbec)) (.lit (.int .i64 0));rw [show (kI (((⟨(i,j),hbec,hlt⟩:Way m n tq9).1.1:Nat):Int))=.int .i64 (i:Int) from rfl,hc] at h1;injection h1 with h1
      injection h1 with _ h1
     obtain⟨cp,hcp⟩:∃ cp,(g j 0).toNat=cp:=⟨_,rfl⟩;have hrb:=(zgk.1 (HR.out.2 j hjt)).1;have HOV:Hid (zh3 g m tq9 (fun i=>(qo i).xs) i=(qo i).xs.length - cp):=by
      show _=_;unfold zh3;rw [hbec,←hcp]
     have hnot:∀ k,k < i→bec m tq9 k≠some j:=fun k hk h=>HND.out ⟨i,k,j,hk,hlt,hbec,h⟩;have hfr:=HFR.out j hjt hnot;have hQj:QAt wr W4.heap.size (P j) (cp:Int) (g j 1) (.slice none 0 0) [] 0:=by
      have h:=HQS.out.at_ j hjt;rw [hfr] at h;rw [←hcp];exact h
     have HQJ:=hid hQj;have HFJ:=hid hfr;have HCP:Hid (1≤cp∧cp≤16):=by show _∧_;omega
     have HSTx:Hid (∀ (s:QSt),s.cap=cp→s.pol=g j 1→s.xs=zd6 (qo i).xs cp→∀ j',j' < tq9→(putN q' j s j').cap=(g j' 0).toNat∧(putN q' j s j').pol=g j' 1∧(putN q' j s j').xs=zbx g m tq9 (fun i=>(qo i).xs) (i+1) j'):=fun s s1 s2 s3 j' hj'=>by
      by_cases e:j'=j
      ·subst e
       rw [zbm];refine⟨by rw [s1,hcp],s2,?_⟩;rw [s3];unfold zbx;rw [if_pos hbec,hcp]
      ·rw [zbf _ _ e]
       obtain⟨a1,a2,a3⟩:=HST.out j' hj';refine⟨a1,a2,?_⟩;rw [a3]
       conv=>rhs;unfold zbx
       rw [if_neg (by rw [hbec];exact fun h=>e (Option.some.inj h).symm)]
     have HFRx:Hid (∀ (s:QSt),∀ j',j' < tq9→(∀ k,k < i+1→bec m tq9 k≠some j')→putN q' j s j'=fresh g j'):=fun s j' hj' h=>by
      have e:j'≠j:=fun e=>h i (Nat.lt_succ_self _) (by rw [e];exact hbec);rw [zbf _ _ e];exact HFR.out j' hj' fun k hk=>h k (by omega)
     obtain⟨ao',ac',e,_,hPR'⟩:=zb9 HMV.out.own;cases e;obtain⟨fb,fo,rfl,cF0⟩:=hPR'.out j hjt;have cF:wr.cell? ⟨fb,fo+j,none⟩=some (.pointer (some ⟨P j,0,none⟩)):=cF0;have j0':(0:Int)≤(j:Int):=by omega
     have j1:(j:Int) < (tq9:Int):=by omega
     have bB:=(Below.refl wr.heap.size wr).trans (show Below wr.heap.size wr wr.drew from ⟨rfl,rfl,rfl,Nat.le_refl _,fun _ _=>rfl⟩);have bB1:=bB.alloc (Nat.le_refl _) (Obj.cells #[.pointer (some ⟨Po i,0,none⟩)] 160);have hbx:=Boxed.new wr.drew 160 (.pointer (some ⟨Po i,0,none⟩));have HFI:=hid (zAs W4.heap.size base0 (P j) (Po i) wr.heap.size cp (g j 1) ((qo i).cap:Int) (qo i).pol (qo i).d (qo i).v (qo i).xs (wr.drew.alloc (Obj.cells #[.pointer (some ⟨Po i,0,none⟩)] 160)) (hQj.below bB1) HCP.out (by rw [World.size_alloc];have:=HMV.out.lo.size;have:=hQj.lt;have:=hQj.low;show W4.heap.size≤wr.heap.size+1;omega) (hQi.below bB1) hbx HX100.out);have HBB:=hid bB1;obtain⟨xs,hxs2⟩:∃ xs,(qo i).xs=xs:=⟨_,rfl⟩;rw [hxs2] at HLEN HFI HSTx HOV;obtain⟨ov,hov⟩:∃ ov,xs.length - cp=ov:=⟨_,rfl⟩;rw [hov] at HFI HOV;clear hh hbec hT hQi hcp hrb hnot hfr hQj cF0 bB bB1 hbx hPR' hxs2 hov
     go_wp2_with (first|(at_lookup;refine wpList_lookup_own_ok_int _ rfl _ _ 397 rfl 3 3 .i64 znt Tryz.underlying397 Tryz.underlying3 (zr1 _) bm _ _ rfl hmp _ _ rfl (keyOf_int_mk Tryz.underlying3 hwi) ?_;intro c hat hwc;obtain rfl:c=(j:Int):=HCJ.out c hat;clear hat hwc hmp cb)|(go_at_call 264;refine HLEN.out.mono ?_;rintro e w' ⟨rfl,rfl⟩))
     refine zcx [5,6,7] (fun X=>X.cell? ⟨fb,fo+j,none⟩=some (.pointer (some ⟨P j,0,none⟩))) (by kernel_rfl) (by kernel_rfl) (by exact cF) ?_
     repeat (first|refine qFc ?_|(refine qFs fun K hK=>?_;go_simp;(refine⟨_,fun _ _=>rfl,hK _ ?_⟩;clear hK K)))
     refine qFs fun K hK=>?_;go_simp;refine⟨.pointer (some ⟨P j,0,none⟩),fun X hX=>?_,hK _ ?_⟩
     ·have cX:X.cell? ⟨fb,fo+j,none⟩=some (.pointer (some ⟨P j,0,none⟩)):=hX
      go_simp
     clear hK K
     repeat (first|refine qFc ?_|(refine qFs fun K hK=>?_;go_simp;(refine⟨_,fun _ _=>rfl,hK _ ?_⟩;clear hK K)))
     refine zau ?_;have cF1:(wr.drew.alloc (Obj.cells #[.pointer (some ⟨Po i,0,none⟩)] 160)).cell? ⟨fb,fo+j,none⟩=some (.pointer (some ⟨P j,0,none⟩)):=(HBB.out.cell (zal cF)).trans cF;refine zcn (by rfl) (fun K hK=>?_)
     go_wp2_with fail
     refine (zup (Po i) wr.drew).mono ?_;rintro e X1 ⟨rfl,rfl⟩
     go_wp2_with fail
     refine hK _ _ cF1 ?_;clear hK K;refine zcn (by rfl) (fun K hK=>?_)
     go_wp2_with fail
     refine HFI.out.mono ?_;rintro e w9 ⟨rfl,u,hq9,hh9,hs9⟩;have HMB:=HMV.out.below HBB.out;have HQB:=HQS.out.below HBB.out;have HDB:=HDR.out.kept (zb2 HBB.out) (by cases e:u16.ownBlock<;>simp);have hblk:=(HQJ.out.below HBB.out).blk;have cF2:w9.cell? ⟨fb,fo+j,none⟩=some (.pointer (some ⟨P j,0,none⟩)):=by
      have h:=zgl HMB.own hs9 fun gg hgg hk=>by
       obtain⟨cur,hc⟩:=zdy HMB.own hgg;rw [hk,hblk] at hc;cases hc
      rcases h.2 with ⟨e,_⟩|⟨gg,cap,cur,e,_⟩
      ·cases e
      ·have e2:=e
       simp only [Value.slice.injEq,Option.some.injEq,Addr.mk.injEq,and_true,true_and] at e2;obtain⟨⟨rfl,rfl⟩,_⟩:=e2;rw [Nat.zero_add];exact (h.cellAt j (by omega)).trans (zzs P hjt)
     have HMVx:Hid (MV m n tq9 P w W4.heap.size bm D (some ⟨fb,fo,none⟩) ac w9):=HMB.save hs9 fun k hk=>by
      subst hk;exact⟨Nat.le_trans HSW HQJ.out.low,_,_,hblk,.inl rfl⟩
     have HDRx:Hid (w9.ownsRow w.heap.size 334 2 u16 (zbb g m tq9 (fun i=>(qo i).xs) i).length (zgx (zbb g m tq9 (fun i=>(qo i).xs) i))):=zgl HDB hs9 fun gg hgg hk=>by
      obtain⟨cur,hc⟩:=zdy HDB hgg;rw [hk,hblk] at hc;cases hc
     have HQSx:Hid (Qs w9 W4.heap.size tq9 P (putN q' j ⟨cp,g j 1,u,zd6 xs cp,min ((ov:Nat):Int) 4096⟩)):=HQB.turn hjt (hs9.mono fun k hk=>.inl hk) hq9 (by
      rw [HFJ.out];exact hh9)
     have HSTy:=hid (HSTx.out ⟨cp,g j 1,u,zd6 xs cp,min ((ov:Nat):Int) 4096⟩ rfl rfl rfl);have HFRy:=hid (HFRx.out ⟨cp,g j 1,u,zd6 xs cp,min ((ov:Nat):Int) 4096⟩);clear hq9 hh9 hs9 HMB HQB HDB hblk HFI HSTx HFRx HQJ HFJ HQI HLEN
     go_wp2_with fail
     refine hK _ _ cF2 ?_;clear hK K;refine zcn (by rfl) (fun K hK=>?_)
     go_wp2_with fail
     refine hK _ _ cF2 ?_;clear hK K;refine zkq ?_;by_cases hvv:0 < ov
     ·have t3:decide ((0:Int) < ((ov:Nat):Int))=true:=by simp;omega
      have t4:decide (0 < ov)=true:=by simp;omega
      have HD2:Hid (zbb g m tq9 (fun i=>(qo i).xs) (i+1)=zbb g m tq9 (fun i=>(qo i).xs) i ++ [(i,ov)]):=by
       show _=_;rw [zbb,HOV.out,if_pos hvv]
      have hdl:=zri g m tq9 (fun i=>(qo i).xs) i;have hszx:=HMVx.out.lo.size;have hnews:∀ (k:Nat) (u:Value),[Value.int .i64 (i:Int),Value.int .i64 ((ov:Nat):Int)][k]? =some u→(w9.alloc (Obj.cells #[Value.int .i64 (i:Int),Value.int .i64 ((ov:Nat):Int)] 334)).cell? ((⟨w9.heap.size,0,none⟩:Addr).add k)=some u:=fun k u hk=>by
       rw [za8,Nat.zero_add,World.cell?_alloc_at _ _ _ _ rfl];simpa using hk
      have HNW:=hid hnews;clear hvv hnews
      go_wp2_with ((at_builtin;refine wpList_append_own _ rfl _ _ 330 rfl w.heap.size 334 oi (.agg #[.int .i64 0,.int .i64 0]) 2 16 Tryz.underlying330 di dz0 dz1 dz2 rfl (by decide) u16 _ _ rfl (HDRx.out.alloc _) ⟨w9.heap.size,0,none⟩ 1 1 [.int .i64 (i:Int),.int .i64 ((ov:Nat):Int)] rfl rfl HNW.out (by simp [Value.oneCell']) (by unfold maxLen;omega) (by omega) (by simp;omega) ?_;intro v5 w5 hown5 hgrow5 _;have HO5:=hid hown5;have HG5:=hid hgrow5;clear hown5 hgrow5))
      have bA:=(Below.refl w9.heap.size w9).alloc (Nat.le_refl _) (Obj.cells #[Value.int .i64 (i:Int),Value.int .i64 ((ov:Nat):Int)] 334);have HQ5:=hid ((HQSx.out.below bA).grown (HDRx.out.alloc _) (by decide) HG5.out);have HM5:=hid ((HMVx.out.below bA).save (Save.of_grown HG5.out) fun k hk=>⟨(HDRx.out.lt k hk).1,by
       obtain⟨cur,hc⟩:=zdy (HDRx.out.alloc (Obj.cells #[Value.int .i64 (i:Int),Value.int .i64 ((ov:Nat):Int)] 334)) hk;exact⟨cur,_,hc,.inr rfl⟩⟩)
      go_roundw
      case rel=>exact⟨i+1,_,by go_num,by omega,HM5,HQ5,HSTy,HFRy,by rw [HD2.out,List.length_append,zi8];exact HO5.out⟩
      case measure=>simp [intOf];omega
     ·have t3:decide ((0:Int) < ((ov:Nat):Int))=false:=by simp;omega
      have t4:decide (0 < ov)=false:=by simp;omega
      have HD2:Hid (zbb g m tq9 (fun i=>(qo i).xs) (i+1)=zbb g m tq9 (fun i=>(qo i).xs) i):=by
       show _=_;rw [zbb,HOV.out,if_neg hvv,List.append_nil]
      clear hvv;go_wp2;go_roundw
      case rel=>exact⟨i+1,_,by go_num,by omega,HMVx,HQSx,HSTy,HFRy,by rw [HD2.out];exact HDRx.out⟩
      case measure=>simp [intOf];omega
   ·obtain rfl:i=n:=by omega
    have t0:decide ((i:Int) < (i:Int))=false:=by simp
    have r1:=HMV.out.r1;have r2:=HMV.out.r2;have r3:=HMV.out.r3;have c1:=r1.cell;have c2:=r2.cell;have c3:=r3.cell;have f1:=r1.frozen;have f2:=r2.frozen;have f3:=r3.frozen;have R1:=hid r1;have R2:=hid r2;have R3:=hid r3;obtain⟨dao,dcap,rfl⟩:∃ ao' c',u16=.slice ao' (zbb g m tq9 (fun k=>(qo k).xs) i).length c':=by
     rcases HDR.out.2 with ⟨e,h2⟩|⟨_,c',_,e,_⟩
     ·exact⟨none,0,by rw [e,h2]⟩
     ·exact⟨_,c',e⟩
    clear r1 r2 r3;go_wp2;obtain⟨W9,hW9⟩:∃ W9,W9=((wr.setCell ⟨w.heap.size+1,0,none⟩ (Value.slice ao tq9 ac)).setCell ⟨w.heap.size+1+1,0,none⟩ (Value.slice dao (zbb g m tq9 (fun k=>(qo k).xs) i).length dcap)).setCell ⟨w.heap.size+1+1+1,0,none⟩ (Value.int .i64 0):=⟨_,rfl⟩;have q1:Boxed W9 (w.heap.size+1) 146 (.slice ao tq9 ac):=by rw [hW9];exact zao (zao (zfn R1.out _) _ (by omega)) _ (by omega)
    have q2:Boxed W9 (w.heap.size+1+1) 330 (.slice dao (zbb g m tq9 (fun k=>(qo k).xs) i).length dcap):=by rw [hW9];exact zao (zfn (zao R2.out _ (by omega)) _) _ (by omega)
    have q3:Boxed W9 (w.heap.size+1+1+1) 35 (.int .i64 0):=by rw [hW9];exact zfn (zao (zao R3.out _ (by omega)) _ (by omega)) _
    have hsv:Save (fun k=>k=w.heap.size+1∨k=w.heap.size+1+1∨k=w.heap.size+1+1+1) wr W9:=by
     rw [hW9];exact ((((Save.set wr _ 0 _).mono fun k h=>.inl h).trans (Save.set _ _ 0 _) fun k _ h=>.inr (.inl h)).trans (Save.set _ _ 0 _) fun k _ h=>.inr (.inr h))
    have hK9:W9.heap[D]? =some (.deferred (some [])):=by
     rw [hW9];exact (((KeepsOthers.setCell _ _ _).trans (KeepsOthers.setCell _ _ _)).trans (KeepsOthers.setCell _ _ _)).same D _ HMV.out.df rfl
    have hty:∀ (k:Nat) (cur:Array Value) (t:TypeId),(k=w.heap.size+1∨k=w.heap.size+1+1∨k=w.heap.size+1+1+1)→wr.heap[k]? =some (.cells cur t (0,0))→t=146∨t=330∨t=35:=fun k cur t hk hc=>by
     rcases hk with rfl|rfl|rfl
     ·rw [show wr.heap[_]? =_ from R1.out] at hc;cases hc;exact .inl rfl
     ·rw [show wr.heap[_]? =_ from R2.out] at hc;cases hc;exact .inr (.inl rfl)
     ·rw [show wr.heap[_]? =_ from R3.out] at hc;cases hc;exact .inr (.inr rfl)
    have hlo9:Below w.heap.size w W9:=hsv.below HMV.out.lo HMV.out.lo.size fun k hk=>by omega
    have hrow9:∀ {b k s:Nat} {e:TypeId} {u:Value} {ys:List Value},e≠146→e≠330→e≠35→wr.ownsRow b e s u k ys→W9.ownsRow b e s u k ys:=fun h1 h2 h3 h=>zgl h hsv fun gg hgg hk=>by
     obtain⟨cur,hc⟩:=zdy h hgg;rcases hty _ _ _ hk hc with e|e|e
     ·exact h1 e
     ·exact h2 e
     ·exact h3 e
    have hqs9:Qs W9 W4.heap.size tq9 P q':=HQS.out.keep hsv fun k cur t hk hc=>by
     rcases hty _ _ _ hk hc with e|e|e<;>(rw [e];decide)
    rw [←hW9];clear hW9;have hgK:=grownBy_putObj' W9 D (.deferred none);have hnc:∀ r,some D=some r→∃ o:Obj,W9.heap[r]? =some o∧o.isCells=false:=fun r e=>by cases e;exact⟨_,hK9,rfl⟩
    refine⟨by simp,.inl ⟨_,_,rfl,run_takeDeferred hK9,?_⟩⟩;have g1:=cell_kept q1.cell hgK hnc;have g2:=cell_kept q2.cell hgK hnc;have g3:=cell_kept q3.cell hgK hnc;refine⟨.tuple #[.slice ao tq9 ac,.slice dao (zbb g m tq9 (fun k=>(qo k).xs) i).length dcap,.int .i64 0],?_,.inr ⟨HND.out,P,_,_,q',rfl,zkt (zks (hrow9 (by decide) (by decide) (by decide) HMV.out.own) hgK hnc) HSW,((hqs9.kept hgK hnc).base HSW),HST.out,zks (hrow9 (by decide) (by decide) (by decide) HDR.out) hgK hnc,hlo9.trans (belowK_b (w:=w) (Nat.le_refl _) W9 D _ _ (by omega) hK9 rfl rfl)⟩⟩;simp [results,Tryz.f205,go_sem,g1,g2,g3]
 case stop=>
  rintro D c pre W hD hpre ⟨rfl,hX⟩ hK;clear HI0 hseq
  gi_wp2
  refine⟨by simp,.inl ⟨_,_,rfl,run_takeDeferred hK,?_⟩⟩;have g1:=cell_kept hX.r1.cell (grownBy_putObj' _ D (.deferred none)) (fun r e=>by cases e;exact⟨_,hK,rfl⟩);have g2:=cell_kept hX.r2.cell (grownBy_putObj' _ D (.deferred none)) (fun r e=>by cases e;exact⟨_,hK,rfl⟩);have g3:=cell_kept hX.r3.cell (grownBy_putObj' _ D (.deferred none)) (fun r e=>by cases e;exact⟨_,hK,rfl⟩);refine⟨.tuple #[.slice none 0 0,.slice none 0 0,.int .i64 104],?_,.inl ⟨?_,rfl,hX.lo.trans (belowK_b (w:=w) (Nat.le_refl _) W D _ _ (by omega) hK rfl rfl)⟩⟩
  ·simp [results,Tryz.f205,go_sem,g1,g2,g3]
  ·obtain⟨q,x,y,rfl,hy,e⟩:=hX.two
   exact ztq hpre hy e
end Go.Proofs.YtpbmmoneeoijaaaGreatDoor
