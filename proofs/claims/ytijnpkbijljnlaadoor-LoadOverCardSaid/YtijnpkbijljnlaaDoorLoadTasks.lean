/-
  A set's tasks that an image has, one by one: an iterator that goes through the set's own one.
-/
import Derived.Test.YtijnpkbijljnlaaDoorMaskAll
import Derived.Test.YtijnpkbijljnlaaDoorFreeIn
import Derived.Test.YtijnpkbijljnlaaDoorRoundAny
namespace Go.Proofs.YtijnpkbijljnlaaDoor
open Go.RowKit Go.Shelf
attribute [local go_sem] Oper.semAt_some stillAt
attribute [local irreducible] wpFl wpAnyIn
/-- Those of a set that an image has. -/
def selT (s n : Nat) : List Nat := (bitsOf s).filter fun i => decide (i < n)
/-- What a round that goes on keeps: all that lay below, and the image's box. -/
structure KpT (n₀ Bi : Nat) (A C : World) : Prop where
  below : Below n₀ A C
  box : ∀ o, A.heap[Bi]? = some o → C.heap[Bi]? = some o
theorem KpT.t {n₀ Bi : Nat} {A C D : World} (h : KpT n₀ Bi A C) (k : KpT n₀ Bi C D) : KpT n₀ Bi A D := ⟨h.below.trans k.below, fun o ho => k.box o (h.box o ho)⟩
theorem KpT.b {n₀ Bi : Nat} {w : World} (hn : n₀ ≤ w.heap.size) (hB : Bi < w.heap.size) (W : World) (l : Nat) (o o' : Obj) (hl : w.heap.size ≤ l) (h : W.heap[l]? = some o) (hc : o.isCells = false) (hw : o.isWalk = false) : KpT n₀ Bi W (W.putObj l o') :=
  ⟨belowK_b hn W l o o' hl h hc hw, fun u hu => (World.putObj_heap_other (by omega)).trans hu⟩
theorem load_tasks_any (x : Img) (s : Nat) (w : World) : Calls Tryd.prog 27 #[iv x, .int .u32 s] w fun e w' => e = .returned (.func (.func 42) #[] #[.pointer (some ⟨w.heap.size + 1, 0, none⟩), .pointer (some ⟨w.heap.size, 0, none⟩)]) ∧ w' = (w.alloc (ivBox x)).alloc (.cells #[.int .u32 s] 28) := by
  obtain ⟨r, ao, n, cap, mo, mn, mc, eo, en, ec⟩ := x
  unfold iv ivBox
  go_enter Tryd.func27, Tryd.ntmps27
  go_wp2
  go_ret
  exact ⟨rfl, rfl⟩
/-- What a round's reads want. -/
structure TkC (n₀ Bi Yb : Nat) (bi yb : Obj) (W X : World) : Prop where
  img : X.heap[Bi]? = some bi
  yb : X.heap[Yb]? = some yb
  below : Below n₀ W X
set_option maxRecDepth 100000 in
set_option maxHeartbeats 2000000 in
theorem load_tasks1_stops (n : Nat) (hn : 3 ≤ n) (Bi Bs n₀ : Nat) (x : Img) (g : Nat → Nat → Int) (s : Nat) (w : World) (hs : s < 4294967296) (hn0 : 0 < n₀) (hnw : n₀ ≤ w.heap.size) (hBi : w.heap[Bi]? = some (ivBox x)) (hBs : w.cell? ⟨Bs, 0, none⟩ = some (.int .u32 s))
    (hT : Tasks w x.ao x.n g) (hTn : ∀ b o, x.ao = some ⟨b, o, none⟩ → 0 < x.n → b < n₀) (hTab : Tab w) :
    SeqB Fence.wide n Tryd.prog 42 #[.pointer (some ⟨Bs, 0, none⟩), .pointer (some ⟨Bi, 0, none⟩)] (fun i : Nat => #[tv (g i)]) (KpT n₀ Bi) (fun ys => ys = selT s x.n) (fun pre => pre <+: selT s x.n) 32 w := by
  intro l J Jx W hW hJ hJx hoJ hoJx hY h0
  have h1 : 1 ≤ n := by omega
  obtain ⟨r, ao, nn, cap, mo, mn, mc, eo, en, ec⟩ := x
  unfold ivBox at hBi
  dsimp only at hT hTn ⊢
  have hBi0 : Bi < w.heap.size := (Array.getElem?_eq_some_iff.1 hBi).1
  have hBiW := (hW.block _ hBi0).trans hBi
  have hBsW := kept hBs hW
  have hTW := hT.below hW
  have hTabW := hTab.below hW hTab.pos
  have hszW := hW.size
  have a1 : Below W.heap.size W (W.alloc (Obj.cells #[.func (.yield l) #[] #[]] 73)) := (Below.refl _ _).alloc (Nat.le_refl _) _
  have hBs1 := kept hBsW a1
  have hyb := Boxed.new W 73 (.func (.yield l) #[] #[])
  refine callsIn_of_wp_marks Tryd.func42 rfl trivial ?_ rfl
  simp only [Tryd.ntmps42, List.size_toArray, List.length_cons, List.length_nil, Nat.reduceAdd, Nat.reduceSub, Array.replicate_succ, Array.replicate_zero, List.push_toArray, List.append_toArray, List.nil_append, List.cons_append]
  gi_wp2_with (refine ⟨trivial, ?_⟩; gi_at_call 23; refine (callsIn_wide.2 (mall_any s _)).mono ?_; rintro e w' ⟨rfl, rfl⟩)
  have a2 : Below W.heap.size W ((W.alloc (Obj.cells #[.func (.yield l) #[] #[]] 73)).alloc (Obj.cells #[.int .u32 s] 28)) := a1.alloc (by simp) _
  have hyb2 := hyb.alloc (Obj.cells #[.int .u32 s] 28)
  have hcs : ((W.alloc (Obj.cells #[.func (.yield l) #[] #[]] 73)).alloc (Obj.cells #[.int .u32 s] 28)).cell? ⟨W.heap.size + 1, 0, none⟩ = some (.int .u32 s) := by
    have := (cell_new_l (W.alloc (Obj.cells #[.func (.yield l) #[] #[]] 73)) (.int .u32 s) 28).1
    rwa [World.size_alloc] at this
  have hj0 := hoJ.alloc (Obj.cells #[.int .u32 s] 28) (hoJ.alloc (Obj.cells #[.func (.yield l) #[] #[]] 73) h0)
  have hsz2 : ((W.alloc (Obj.cells #[.func (.yield l) #[] #[]] 73)).alloc (Obj.cells #[.int .u32 s] 28)).heap.size = W.heap.size + 2 := by simp
  obtain ⟨W1, hW1⟩ : ∃ X, X = (W.alloc (Obj.cells #[.func (.yield l) #[] #[]] 73)).alloc (Obj.cells #[.int .u32 s] 28) := ⟨_, rfl⟩
  rw [← hW1] at a2 hyb2 hcs hj0 hsz2 ⊢
  clear hW1 a1 hBs1 hyb h0
  have hup : ∀ {J : List Nat → World → Prop}, OwnFrom W.heap.size J → OwnFrom W1.heap.size J := fun h z X Y row hz hg hr => h z X Y row hz hg fun r e => ⟨by have := (hr r e).1; omega, (hr r e).2⟩
  refine wpIn_rangeFunc_ownG rfl h1 (gf := 34) (lb := #[.pointer (some ⟨W.heap.size + 1, 0, none⟩)]) rfl trivial (enters_of Tryd.func34 (by kernel_rfl) rfl)
    (all1_stops (n - 1) (by omega) (W.heap.size + 1) n₀ s W1 hs hn0 hcs (hTabW.below a2 hTabW.pos)) belowK_t (belowK_b (by omega)) (Below.refl _ _) (fun _ => rfl)
    (fun pre X => ((J (pre.filter fun i => decide (i < nn)) X ∧ X.heap[Bi]? = some (.cells #[.int .i64 r, .slice ao nn cap, .slice mo mn mc, .slice eo en ec] 26 (0, 0))) ∧ X.heap[W.heap.size]? = some (.cells #[.func (.yield l) #[] #[]] 73 (0, 0))) ∧ Below n₀ W X)
    (fun c pre X => c = .ret ∧ Jx (pre.filter fun i => decide (i < nn)) X)
    (OwnFrom.and (ownFrom_and_same (ownFrom_and_same (fun z X Y row hz hg hr => hup hoJ _ X Y row hz hg hr) (by omega)) (by omega)) (ownFrom_below (by omega) (by omega)))
    (fun c z X Y row hz hg hr => ⟨hz.1, hup hoJx _ X Y row hz.2 hg hr⟩)
    ⟨⟨⟨hj0, (a2.block _ (by omega)).trans hBiW⟩, hyb2⟩, a2.mono (by omega)⟩
    (fun i => { tmps := #[.func (.yield l) #[] #[], .pointer (some ⟨Bs, 0, none⟩), .pointer (some ⟨Bi, 0, none⟩), .pointer (some ⟨W.heap.size, 0, none⟩), .int .i64 i, .int .u32 s, .func (.func 34) #[] #[.pointer (some ⟨W.heap.size + 1, 0, none⟩)], .int .i64 i, undef, undef, undef, undef, undef, undef, undef, undef, undef, undef, undef, undef, undef, undef, undef], defers := [] })
    ?assign ?body ?done ?stop
  case assign =>
    rintro l' i X K hK
    gi_wp2
    exact hK
  case body =>
    rintro l' pre i X ⟨⟨⟨hj, hbi⟩, hyx⟩, hB⟩ hlt
    have c1 := blk_cell hbi 1
    have cy := blk_cell hyx 0
    by_cases hi : i < nn
    · have t0 : decide ((i : Int) < (nn : Int)) = true := by simp; omega
      have e : (pre ++ [i]).filter (fun i => decide (i < nn)) = pre.filter (fun i => decide (i < nn)) ++ [i] := by simp [hi]
      have i0' : (0 : Int) ≤ (i : Int) := by omega
      have i1 : (i : Int) < (nn : Int) := by omega
      obtain ⟨b, o, rfl, hb⟩ := hTW.form hi
      obtain ⟨⟨g0, g1, g2, g3⟩, ⟨g4, g5, g6, g7⟩, g8, g9, g10⟩ := hTW.at_ hi
      have hbn := hTn b o rfl (by omega)
      have hl32 : (pre.filter fun i => decide (i < nn)).length < 32 := Nat.lt_of_le_of_lt (List.length_filter_le _ _) hlt
      have HE := hid e
      obtain ⟨sel, hsel⟩ : ∃ q, q = pre.filter fun i => decide (i < nn) := ⟨_, rfl⟩
      rw [← hsel] at hj hl32 HE
      clear e hsel
      have up : ∀ {p : Addr} {u : Value}, p.block = b → W.cell? p = some u → X.drew.cell? p = some u := fun hp hu => (hB.cell (by rw [hp]; omega)).trans hu
      have q0 := up rfl g0
      have q1 := up rfl g1
      have q2 := up rfl g2
      have q3 := up rfl g3
      have q4 := up rfl g4
      have q5 := up rfl g5
      have q6 := up rfl g6
      have q7 := up rfl g7
      have q8 := up rfl g8
      have q9 := up rfl g9
      have q10 := up rfl g10
      clear g0 g1 g2 g3 g4 g5 g6 g7 g8 g9 g10 up
      gi_wp2
      have hjd : J sel X.drew := hoJ _ X _ none hj ⟨rfl, rfl, rfl, Nat.le_refl _, fun _ _ _ => rfl⟩ (fun r e => by cases e)
      obtain ⟨fn, tmps, assign, body, hy, hR⟩ := hY sel i X.drew hjd hl32
      unfold tv at hy
      refine wpIn_region_round (by kernel_rfl) (by kernel_rfl) ?_
      refine wpAnyIn_take (i := 0) (v := .int .i64 i) rfl rfl (by kernel_rfl) (by kernel_rfl) (by kernel_rfl) (fun _ _ _ h => h) ⟨Or.inl ⟨by rfl, ?_⟩, fun _ => rfl⟩ ?_
      · intro w; go_simp
      go_simp
      refine wpAnyIn_take (i := 1) (v := .pointer (some ⟨Bi, 1, none⟩)) rfl rfl (by kernel_rfl) (by kernel_rfl) (by kernel_rfl) (fun _ _ _ h => h) ⟨Or.inl ⟨by rfl, ?_⟩, fun _ => rfl⟩ ?_
      · intro w; go_simp
      go_simp
      refine wpAnyIn_ready (rs := [2]) (by kernel_rfl) (by simp) ?_
      refine AllReadyIn.cons rfl (fun K hK => ?_) AllReadyIn.nil
      go_simp
      refine hK _ _ ?_
      clear hK K
      refine wpAnyIn_take (i := 3) (v := .int .i64 nn) rfl rfl (by kernel_rfl) (by kernel_rfl) (by kernel_rfl) (fun _ _ _ h => h) ⟨Or.inl ⟨by rfl, ?_⟩, fun _ => rfl⟩ ?_
      · intro w; go_simp
      go_simp
      refine wpAnyIn_take (i := 4) (v := .bool true) rfl rfl (by kernel_rfl) (by kernel_rfl) (by kernel_rfl) (fun _ _ _ h => h) ⟨Or.inl ⟨by rfl, ?_⟩, fun _ => rfl⟩ ?_
      · intro w; go_simp
      go_simp
      refine wpAnyIn_take (i := 5) (v := .bool true) rfl rfl (by kernel_rfl) (by kernel_rfl) (by kernel_rfl) (fun _ _ _ h => h) ⟨Or.inl ⟨by rfl, ?_⟩, fun _ => rfl⟩ ?_
      · intro w; go_simp
      go_simp
      refine wpAnyIn_take (i := 7) (v := .pointer (some ⟨Bi, 1, none⟩)) rfl rfl (by kernel_rfl) (by kernel_rfl) (by kernel_rfl) (fun _ _ _ h => h) ⟨Or.inl ⟨by rfl, ?_⟩, fun _ => rfl⟩ ?_
      · intro w; go_simp
      go_simp
      refine wpAnyIn_take (i := 9) (v := .int .i64 i) rfl rfl (by kernel_rfl) (by kernel_rfl) (by kernel_rfl) (fun _ _ _ h => h) ⟨Or.inl ⟨by rfl, ?_⟩, fun _ => rfl⟩ ?_
      · intro w; go_simp
      go_simp
      refine wpAnyIn_ready (rs := [6, 8]) (by kernel_rfl) (by simp) ?_
      refine AllReadyIn.cons rfl (fun K hK => ?_) (AllReadyIn.cons rfl (fun K hK => ?_) AllReadyIn.nil)
      · go_simp
        refine hK _ _ ?_
        clear hK K
        refine wpAnyIn_ready (rs := [8]) (by kernel_rfl) (by simp) ?_
        refine AllReadyIn.cons rfl (fun K hK => ?_) AllReadyIn.nil
        go_simp
        refine hK _ _ ?_
        clear hK K
        refine wpAnyIn_take (i := 10) (v := .pointer (some ⟨b, o + i * 11, none⟩)) rfl rfl (by kernel_rfl) (by kernel_rfl) (by kernel_rfl) (fun _ _ _ h => h) ⟨Or.inl ⟨by rfl, ?_⟩, fun _ => rfl⟩ ?_
        · intro w; go_simp
        go_simp
        refine wpAnyIn_ready (rs := [11]) (by kernel_rfl) (by simp) ?_
        refine AllReadyIn.cons rfl (fun K hK => ?_) AllReadyIn.nil
        go_simp
        refine hK _ _ ?_
        clear hK K
        refine wpAnyIn_ready (rs := [12]) (by kernel_rfl) (by simp) ?_
        refine AllReadyIn.cons rfl (fun K hK => ?_) AllReadyIn.nil
        go_simp
        refine ⟨fun e => (by cases e), (y_round_free rfl hR).mono ?_⟩
        rintro e W3 (⟨rfl, hj3, hk3, hs3⟩ | ⟨rfl, hj3, hk3, hs3⟩)
        · have hkb : Below n₀ X W3 := ⟨hk3.below.os, hk3.below.tape, hk3.below.output, hk3.below.size, hk3.below.block⟩
          have hsm : SameFrom W1.heap.size X W3 := ⟨hs3.size, fun k hk => hs3.same k (by omega)⟩
          go_simp
          refine hK _ _ ?_
          clear hK K
          refine wpAnyIn_take (i := 13) (v := .bool false) rfl rfl (by kernel_rfl) (by kernel_rfl) (by kernel_rfl) (fun _ _ _ h => h) ⟨Or.inl ⟨by rfl, ?_⟩, fun _ => rfl⟩ ?_
          · intro w; go_simp
          go_simp
          refine wpAnyIn_take (i := 14) (v := .bool false) rfl rfl (by kernel_rfl) (by kernel_rfl) (by kernel_rfl) (fun _ _ _ h => h) ⟨Or.inl ⟨by rfl, ?_⟩, fun _ => rfl⟩ ?_
          · intro w; go_simp
          go_simp
          refine wpAnyIn_done (by kernel_rfl) ?_ _
          gi_wp2
          exact ⟨hsm.keeps, hkb, ⟨⟨by rw [HE.out]; exact hj3, hk3.box _ hbi⟩, hs3.at_ (Nat.le_refl _) hyx⟩, hB.trans hkb⟩
        · have hkb : Below n₀ X W3 := ⟨hk3.below.os, hk3.below.tape, hk3.below.output, hk3.below.size, hk3.below.block⟩
          have hsm : SameFrom W1.heap.size X W3 := ⟨hs3.size, fun k hk => hs3.same k (by omega)⟩
          go_simp
          refine hK _ _ ?_
          clear hK K
          refine wpAnyIn_take (i := 13) (v := .bool true) rfl rfl (by kernel_rfl) (by kernel_rfl) (by kernel_rfl) (fun _ _ _ h => h) ⟨Or.inl ⟨by rfl, ?_⟩, fun _ => rfl⟩ ?_
          · intro w; go_simp
          go_simp
          refine wpAnyIn_take (i := 14) (v := .bool true) rfl rfl (by kernel_rfl) (by kernel_rfl) (by kernel_rfl) (fun _ _ _ h => h) ⟨Or.inl ⟨by rfl, ?_⟩, fun _ => rfl⟩ ?_
          · intro w; go_simp
          go_simp
          refine wpAnyIn_done (by kernel_rfl) ?_ _
          gi_wp2
          exact ⟨hsm.keeps, rfl, by rw [HE.out]; exact hj3⟩
      · go_simp
        refine hK _ _ ?_
        clear hK K
        refine wpAnyIn_take (i := 10) (v := .pointer (some ⟨b, o + i * 11, none⟩)) rfl rfl (by kernel_rfl) (by kernel_rfl) (by kernel_rfl) (fun _ _ _ h => h) ⟨Or.inl ⟨by rfl, ?_⟩, fun _ => rfl⟩ ?_
        · intro w; go_simp
        go_simp
        refine wpAnyIn_ready (rs := [6, 11]) (by kernel_rfl) (by simp) ?_
        refine AllReadyIn.cons rfl (fun K hK => ?_) (AllReadyIn.cons rfl (fun K hK => ?_) AllReadyIn.nil)
        · go_simp
          refine hK _ _ ?_
          clear hK K
          refine wpAnyIn_ready (rs := [11]) (by kernel_rfl) (by simp) ?_
          refine AllReadyIn.cons rfl (fun K hK => ?_) AllReadyIn.nil
          go_simp
          refine hK _ _ ?_
          clear hK K
          refine wpAnyIn_ready (rs := [12]) (by kernel_rfl) (by simp) ?_
          refine AllReadyIn.cons rfl (fun K hK => ?_) AllReadyIn.nil
          go_simp
          refine ⟨fun e => (by cases e), (y_round_free rfl hR).mono ?_⟩
          rintro e W3 (⟨rfl, hj3, hk3, hs3⟩ | ⟨rfl, hj3, hk3, hs3⟩)
          · have hkb : Below n₀ X W3 := ⟨hk3.below.os, hk3.below.tape, hk3.below.output, hk3.below.size, hk3.below.block⟩
            have hsm : SameFrom W1.heap.size X W3 := ⟨hs3.size, fun k hk => hs3.same k (by omega)⟩
            go_simp
            refine hK _ _ ?_
            clear hK K
            refine wpAnyIn_take (i := 13) (v := .bool false) rfl rfl (by kernel_rfl) (by kernel_rfl) (by kernel_rfl) (fun _ _ _ h => h) ⟨Or.inl ⟨by rfl, ?_⟩, fun _ => rfl⟩ ?_
            · intro w; go_simp
            go_simp
            refine wpAnyIn_take (i := 14) (v := .bool false) rfl rfl (by kernel_rfl) (by kernel_rfl) (by kernel_rfl) (fun _ _ _ h => h) ⟨Or.inl ⟨by rfl, ?_⟩, fun _ => rfl⟩ ?_
            · intro w; go_simp
            go_simp
            refine wpAnyIn_done (by kernel_rfl) ?_ _
            gi_wp2
            exact ⟨hsm.keeps, hkb, ⟨⟨by rw [HE.out]; exact hj3, hk3.box _ hbi⟩, hs3.at_ (Nat.le_refl _) hyx⟩, hB.trans hkb⟩
          · have hkb : Below n₀ X W3 := ⟨hk3.below.os, hk3.below.tape, hk3.below.output, hk3.below.size, hk3.below.block⟩
            have hsm : SameFrom W1.heap.size X W3 := ⟨hs3.size, fun k hk => hs3.same k (by omega)⟩
            go_simp
            refine hK _ _ ?_
            clear hK K
            refine wpAnyIn_take (i := 13) (v := .bool true) rfl rfl (by kernel_rfl) (by kernel_rfl) (by kernel_rfl) (fun _ _ _ h => h) ⟨Or.inl ⟨by rfl, ?_⟩, fun _ => rfl⟩ ?_
            · intro w; go_simp
            go_simp
            refine wpAnyIn_take (i := 14) (v := .bool true) rfl rfl (by kernel_rfl) (by kernel_rfl) (by kernel_rfl) (fun _ _ _ h => h) ⟨Or.inl ⟨by rfl, ?_⟩, fun _ => rfl⟩ ?_
            · intro w; go_simp
            go_simp
            refine wpAnyIn_done (by kernel_rfl) ?_ _
            gi_wp2
            exact ⟨hsm.keeps, rfl, by rw [HE.out]; exact hj3⟩
        · go_simp
          refine hK _ _ ?_
          clear hK K
          refine wpAnyIn_ready (rs := [6]) (by kernel_rfl) (by simp) ?_
          refine AllReadyIn.cons rfl (fun K hK => ?_) AllReadyIn.nil
          go_simp
          refine hK _ _ ?_
          clear hK K
          refine wpAnyIn_ready (rs := [12]) (by kernel_rfl) (by simp) ?_
          refine AllReadyIn.cons rfl (fun K hK => ?_) AllReadyIn.nil
          go_simp
          refine ⟨fun e => (by cases e), (y_round_free rfl hR).mono ?_⟩
          rintro e W3 (⟨rfl, hj3, hk3, hs3⟩ | ⟨rfl, hj3, hk3, hs3⟩)
          · have hkb : Below n₀ X W3 := ⟨hk3.below.os, hk3.below.tape, hk3.below.output, hk3.below.size, hk3.below.block⟩
            have hsm : SameFrom W1.heap.size X W3 := ⟨hs3.size, fun k hk => hs3.same k (by omega)⟩
            go_simp
            refine hK _ _ ?_
            clear hK K
            refine wpAnyIn_take (i := 13) (v := .bool false) rfl rfl (by kernel_rfl) (by kernel_rfl) (by kernel_rfl) (fun _ _ _ h => h) ⟨Or.inl ⟨by rfl, ?_⟩, fun _ => rfl⟩ ?_
            · intro w; go_simp
            go_simp
            refine wpAnyIn_take (i := 14) (v := .bool false) rfl rfl (by kernel_rfl) (by kernel_rfl) (by kernel_rfl) (fun _ _ _ h => h) ⟨Or.inl ⟨by rfl, ?_⟩, fun _ => rfl⟩ ?_
            · intro w; go_simp
            go_simp
            refine wpAnyIn_done (by kernel_rfl) ?_ _
            gi_wp2
            exact ⟨hsm.keeps, hkb, ⟨⟨by rw [HE.out]; exact hj3, hk3.box _ hbi⟩, hs3.at_ (Nat.le_refl _) hyx⟩, hB.trans hkb⟩
          · have hkb : Below n₀ X W3 := ⟨hk3.below.os, hk3.below.tape, hk3.below.output, hk3.below.size, hk3.below.block⟩
            have hsm : SameFrom W1.heap.size X W3 := ⟨hs3.size, fun k hk => hs3.same k (by omega)⟩
            go_simp
            refine hK _ _ ?_
            clear hK K
            refine wpAnyIn_take (i := 13) (v := .bool true) rfl rfl (by kernel_rfl) (by kernel_rfl) (by kernel_rfl) (fun _ _ _ h => h) ⟨Or.inl ⟨by rfl, ?_⟩, fun _ => rfl⟩ ?_
            · intro w; go_simp
            go_simp
            refine wpAnyIn_take (i := 14) (v := .bool true) rfl rfl (by kernel_rfl) (by kernel_rfl) (by kernel_rfl) (fun _ _ _ h => h) ⟨Or.inl ⟨by rfl, ?_⟩, fun _ => rfl⟩ ?_
            · intro w; go_simp
            go_simp
            refine wpAnyIn_done (by kernel_rfl) ?_ _
            gi_wp2
            exact ⟨hsm.keeps, rfl, by rw [HE.out]; exact hj3⟩
    · have t0 : decide ((i : Int) < (nn : Int)) = false := by simp; omega
      have e : (pre ++ [i]).filter (fun i => decide (i < nn)) = pre.filter (fun i => decide (i < nn)) := by simp [hi]
      gi_wp2
      refine wpIn_region_chain [] (TkC n₀ Bi W.heap.size (.cells #[.int .i64 r, .slice ao nn cap, .slice mo mn mc, .slice eo en ec] 26) (.cells #[.func (.yield l) #[] #[]] 73) W) (by kernel_rfl) (by kernel_rfl) (by kernel_rfl) (fun ⟨_, _, h⟩ => h) ⟨hbi, hyx, hB.trans ⟨rfl, rfl, rfl, Nat.le_refl _, fun _ _ => rfl⟩⟩ ?_
      iterate 2 (first | refine wpFl_chain (by rfl) ?_ | (refine wpFl_still (by rfl) (by rfl) (fun K hK => ?_); go_simp; (refine ⟨_, fun _ _ => rfl, hK _ ?_⟩; clear hK K)))
      refine wpFl_still (by rfl) (by rfl) (fun K hK => ?_)
      go_simp
      refine ⟨.slice ao nn cap, fun Z hZ => ?_, hK _ ?_⟩
      · have z1 := blk_cell hZ.img 1
        go_simp
      clear hK K
      iterate 1 (first | refine wpFl_chain (by rfl) ?_ | (refine wpFl_still (by rfl) (by rfl) (fun K hK => ?_); go_simp; (refine ⟨_, fun _ _ => rfl, hK _ ?_⟩; clear hK K)))
      refine wpFl_still (by rfl) (by rfl) (fun K hK => ?_)
      go_simp
      refine ⟨.bool false, fun Z hZ => rfl, hK _ ?_⟩
      clear hK K
      iterate 1 (first | refine wpFl_chain (by rfl) ?_ | (refine wpFl_still (by rfl) (by rfl) (fun K hK => ?_); go_simp; (refine ⟨_, fun _ _ => rfl, hK _ ?_⟩; clear hK K)))
      iterate 8 (refine wpFl_skip (by rfl) (by rfl) ?_; go_simp)
      iterate 1 (first | refine wpFl_chain (by rfl) ?_ | (refine wpFl_still (by rfl) (by rfl) (fun K hK => ?_); go_simp; (refine ⟨_, fun _ _ => rfl, hK _ ?_⟩; clear hK K)))
      refine wpFl_nil ?_
      refine wpTl_nil ?_
      gi_wp2
      have hjd := hoJ _ X X.drew none hj ⟨rfl, rfl, rfl, Nat.le_refl _, fun _ _ _ => rfl⟩ (fun r e => by cases e)
      exact ⟨(show SameFrom W1.heap.size X X.drew from ⟨Nat.le_refl _, fun _ _ _ => rfl⟩).keeps, ⟨rfl, rfl, rfl, Nat.le_refl _, fun _ _ => rfl⟩, ⟨⟨by rw [e]; exact hjd, hbi⟩, hyx⟩, hB.trans ⟨rfl, rfl, rfl, Nat.le_refl _, fun _ _ => rfl⟩⟩
  case done =>
    rintro D ys X hD rfl ⟨⟨⟨hj, hbi⟩, hyx⟩, hB⟩ hK
    gi_wp2
    refine ⟨by simp, .inl ⟨_, _, rfl, run_takeDeferred hK, ?_⟩⟩
    exact ⟨_, results_none rfl _ _ _, ⟨_, rfl⟩, .inl ⟨_, rfl, hoJ _ X _ (some D) hj (grownBy_putObj' X D _) (fun r e => by cases e; exact ⟨by omega, _, hK, rfl⟩)⟩⟩
  case stop =>
    rintro D c pre X hD hpre ⟨rfl, hjx⟩ hK
    gi_wp2
    refine ⟨by simp, .inl ⟨_, _, rfl, run_takeDeferred hK, ?_⟩⟩
    exact ⟨_, results_none rfl _ _ _, ⟨_, rfl⟩, .inr ⟨_, hpre.filter _, hoJx _ X _ (some D) hjx (grownBy_putObj' X D _) (fun r e => by cases e; exact ⟨by omega, _, hK, rfl⟩)⟩⟩
end Go.Proofs.YtijnpkbijljnlaaDoor
