/-
  The terms of a set of an image's tasks.
-/
import Derived.Test.YtijnpkbijljnlaaDoorMaskAll
import Derived.Test.YtijnpkbijljnlaaDoorFreeIn
namespace Go.Proofs.YtijnpkbijljnlaaDoor
open Go.RowKit Go.Shelf
attribute [local go_sem] Oper.semAt_some stillAt
/-- Those of a set that an image has. -/
def selOf (s n : Nat) : List Nat := (bitsOf s).filter fun i => decide (i < n)
def termCells (g : Nat → Nat → Int) (l : List Nat) : List Value := l.flatMap fun i => [.int .i64 (g i 0), .int .i64 (g i 2), .int .i64 0, .int .i64 0]
theorem termCells_snoc (g : Nat → Nat → Int) (l : List Nat) (i : Nat) : termCells g (l ++ [i]) = termCells g l ++ [.int .i64 (g i 0), .int .i64 (g i 2), .int .i64 0, .int .i64 0] := by simp [termCells]
theorem infoTerm : (Tryd.prog.info? 33).map (fun i => (i.zero, i.size, i.bytes)) = some (some (.agg #[.int .i64 0, .int .i64 0, .int .i64 0, .int .i64 0]), 4, 32) := by kernel_rfl
/-- What the round's reads want. -/
structure TmC (n₁ : Nat) (W : World) (v : Value) (X : World) : Prop where
  box : X.cell? ⟨n₁, 0, none⟩ = some v
  below : Below n₁ W X
set_option maxRecDepth 100000 in
set_option maxHeartbeats 2000000 in
theorem terms_any (x : Img) (g : Nat → Nat → Int) (s : Nat) (w : World) (hs : s < 4294967296) (hn : x.n ≤ maxLen) (hT : Tasks w x.ao x.n g) (hTab : Tab w) :
    Calls Tryd.prog 9 #[iv x, .int .u32 s] w fun e W' => ∃ v, e = .returned v ∧ W'.ownsRow (w.heap.size + 1) 33 4 v (selOf s x.n).length (termCells g (selOf s x.n)) ∧ Below w.heap.size w W' := by
  obtain ⟨r, ao, n, cap, mo, mn, mc, eo, en, ec⟩ := x
  unfold iv
  dsimp only at hn hT ⊢
  refine (callsIn_wide (n := 4)).1 ?_
  have h1 : 1 ≤ 4 := by omega
  obtain ⟨i0, hi, hz0, hz1, hz2⟩ := info_parts infoTerm
  refine callsIn_of_wp_marks Tryd.func9 rfl trivial ?_ rfl
  simp only [Tryd.ntmps9, List.size_toArray, List.length_cons, List.length_nil, Nat.reduceAdd, Nat.reduceSub, Array.replicate_succ, Array.replicate_zero, List.push_toArray, List.append_toArray, List.nil_append, List.cons_append]
  gi_wp2_with (refine ⟨trivial, ?_⟩; gi_at_call 23; refine (callsIn_wide.2 (mall_any s _)).mono ?_; rintro e w' ⟨rfl, rfl⟩)
  have hT0 : Tab (((w.alloc (Obj.cells #[.int .i64 r, .slice ao n cap, .slice mo mn mc, .slice eo en ec] 26)).alloc (Obj.cells #[.slice none 0 0] 30)).alloc (Obj.cells #[.int .u32 s] 28)) :=
    hTab.below ((((Below.refl w.heap.size w).alloc (Nat.le_refl _) _).alloc (by simp) _).alloc (by simp; omega) _) hTab.pos
  obtain ⟨w1, hw1⟩ : ∃ X, X = w.alloc (Obj.cells #[.int .i64 r, .slice ao n cap, .slice mo mn mc, .slice eo en ec] 26) := ⟨_, rfl⟩
  have hs1 : w1.heap.size = w.heap.size + 1 := by rw [hw1]; simp
  have hblk : w1.heap[w.heap.size]? = some (Obj.cells #[.int .i64 r, .slice ao n cap, .slice mo mn mc, .slice eo en ec] 26 (0, 0)) := by rw [hw1]; exact heap_alloc_new w _
  have c1 : w1.cell? ⟨w.heap.size, 1, none⟩ = some (.slice ao n cap) := blk_cell hblk 1
  have hT1 : Tasks w1 ao n g := by rw [hw1]; exact hT.below ((Below.refl _ _).alloc (Nat.le_refl _) _)
  have hb1 : Below w.heap.size w w1 := by rw [hw1]; exact (Below.refl _ _).alloc (Nat.le_refl _) _
  rw [← hw1] at hT0 ⊢
  clear hw1 hblk
  have hc2 : ((w1.alloc (Obj.cells #[.slice none 0 0] 30)).alloc (Obj.cells #[.int .u32 s] 28)).cell? ⟨w.heap.size + 2, 0, none⟩ = some (.int .u32 s) := by
    have := (cell_new_l (w1.alloc (Obj.cells #[.slice none 0 0] 30)) (.int .u32 s) 28).1
    rwa [World.size_alloc, hs1] at this
  have hB0 : Below (w.heap.size + 1) w1 ((w1.alloc (Obj.cells #[.slice none 0 0] 30)).alloc (Obj.cells #[.int .u32 s] 28)) :=
    ((Below.refl _ w1).alloc (by omega) _).alloc (by simp; omega) _
  refine wpIn_rangeFunc_ownG rfl h1 (gf := 34) (lb := #[.pointer (some ⟨w.heap.size + 2, 0, none⟩)]) rfl trivial (enters_of Tryd.func34 (by kernel_rfl) rfl)
    (all1_stops (4 - 1) (by omega) (w.heap.size + 2) (w.heap.size + 1) s _ hs (by omega) hc2 hT0) belowK_t (belowK_b (by simp; omega)) (Below.refl _ _) (fun _ => rfl)
    (fun pre W => (∃ v, Boxed W (w.heap.size + 1) 30 v ∧ W.ownsRow (w.heap.size + 1) 33 4 v (pre.filter fun i => decide (i < n)).length (termCells g (pre.filter fun i => decide (i < n))) ∧ True) ∧ Below (w.heap.size + 1) w1 W)
    (fun _ _ _ => False)
    (OwnFrom.and (Own.from (holdsRow_own (w.heap.size + 1) (w.heap.size + 1) 30 33 4 (fun pre : List Nat => (pre.filter fun i => decide (i < n)).length) (fun pre => termCells g (pre.filter fun i => decide (i < n))) (fun _ _ => True)) _) (ownFrom_below (by omega) (by simp; omega)))
    (fun _ _ _ _ _ hs _ _ => hs)
    ⟨⟨_, by have := Boxed.new w1 30 (.slice none 0 0); rw [hs1] at this; exact this.alloc _, World.ownsRow_nil _ _ _ _, trivial⟩, hB0⟩
    (fun x => { tmps := #[.agg #[.int .i64 r, .slice ao n cap, .slice mo mn mc, .slice eo en ec], .int .u32 s, .pointer (some ⟨w.heap.size, 0, none⟩), undef, .slice none 0 0, .pointer (some ⟨w.heap.size + 1, 0, none⟩), .int .i64 x, .int .u32 s, .func (.func 34) #[] #[.pointer (some ⟨w.heap.size + 2, 0, none⟩)], .int .i64 x, undef, undef, undef, undef, undef, undef, undef, undef, undef, undef, undef, undef, undef, undef, undef], defers := [] })
    ?assign ?body ?done ?stop
  case assign =>
    rintro l x W K hK
    gi_wp2
    exact hK
  case body =>
    rintro l pre x W ⟨⟨v, hv, hrow, _⟩, hB⟩ hlt
    have hc := hv.cell
    have d1 := (hB.cell (p := ⟨w.heap.size, 1, none⟩) (by show w.heap.size < _; omega)).trans c1
    by_cases hx : x < n
    · have t0 : decide ((x : Int) < (n : Int)) = true := by simp; omega
      have e : (pre ++ [x]).filter (fun i => decide (i < n)) = pre.filter (fun i => decide (i < n)) ++ [x] := by simp [hx]
      obtain ⟨sel, hsel⟩ : ∃ l, l = pre.filter fun i => decide (i < n) := ⟨_, rfl⟩
      have hsl : sel.length ≤ 32 := by rw [hsel]; exact Nat.le_trans (List.length_filter_le _ _) (by omega)
      rw [← hsel] at hrow e
      have HE := hid e
      clear hsel e
      have i0' : (0 : Int) ≤ (x : Int) := by omega
      have i1 : (x : Int) < (n : Int) := by omega
      obtain ⟨b, o, rfl, hb⟩ := hT1.form hx
      have hTW := hT1.below (by rw [hs1]; exact hB)
      obtain ⟨⟨g0, g1, g2, g3⟩, ⟨g4, g5, g6, g7⟩, g8, g9, g10⟩ := hTW.at_ hx
      gi_wp2
      refine wpIn_region_free [6, 7, 8, 9] (TmC (w.heap.size + 1) W v) (by kernel_rfl) (by kernel_rfl) (by kernel_rfl) (fun ⟨_, _, h⟩ => h) ⟨hc, ⟨rfl, rfl, rfl, Nat.le_refl _, fun _ _ => rfl⟩⟩ ?_
      refine wpFl_still (by rfl) (by rfl) (fun K hK => ?_)
      go_simp
      refine ⟨v, fun X hX => by rw [hX.box]; rfl, hK _ ?_⟩
      clear hK K
      repeat (first | refine wpFl_chain (by rfl) ?_ | (refine wpFl_still (by rfl) (by rfl) (fun K hK => ?_); go_simp; (refine ⟨_, fun _ _ => rfl, hK _ ?_⟩; clear hK K)))
      refine wpFl_still (by rfl) (by rfl) (fun K hK => ?_)
      go_simp
      refine ⟨.slice (some ⟨b, o, none⟩) n cap, fun X hX => ?_, hK _ ?_⟩
      · have cX := (hX.below.cell (p := ⟨w.heap.size, 1, none⟩) (by show w.heap.size < _; omega)).trans d1
        go_simp
      clear hK K
      repeat (first | refine wpFl_chain (by rfl) ?_ | (refine wpFl_still (by rfl) (by rfl) (fun K hK => ?_); go_simp; (refine ⟨_, fun _ _ => rfl, hK _ ?_⟩; clear hK K)))
      refine wpFl_still (by rfl) (by rfl) (fun K hK => ?_)
      go_simp
      refine ⟨tv (g x), fun X hX => ?_, hK _ ?_⟩
      · have up : ∀ {p : Addr} {u : Value}, p.block = b → W.cell? p = some u → X.cell? p = some u := fun hp hu => (hX.below.cell (by rw [hp]; omega)).trans hu
        have q0 := up rfl g0
        have q1 := up rfl g1
        have q2 := up rfl g2
        have q3 := up rfl g3
        have q4 := up rfl g4
        have q5 := up rfl g5
        have q6 := up rfl g6
        have q7 := up rfl g7
        have q8 := up rfl g8
        have q9 := up rfl g9
        have q10 := up rfl g10
        go_simp
      clear hK K
      repeat (first | refine wpFl_chain (by rfl) ?_ | (refine wpFl_still (by rfl) (by rfl) (fun K hK => ?_); go_simp; (refine ⟨_, fun _ _ => rfl, hK _ ?_⟩; clear hK K)))
      refine wpFl_nil ?_
      show wpTs _ _ _ _ 4 _ _ _
      have hb0 : Below W.heap.size W W.drew := ⟨rfl, rfl, rfl, Nat.le_refl _, fun _ _ => rfl⟩
      have hk0 : KeepsOthers W W.drew := KeepsOthers.drew _
      have hv0 : Boxed W.drew (w.heap.size + 1) 30 v := hv
      have hr0 : W.drew.ownsRow (w.heap.size + 1) 33 4 v sel.length (termCells g sel) := hrow
      obtain ⟨Y0, hY0⟩ : ∃ Y, Y = W.drew := ⟨_, rfl⟩
      rw [← hY0] at hb0 hk0 hv0 hr0 ⊢
      clear hY0
      refine wpTs_1 (i := 6) (rem1 := [7, 8, 9]) (by kernel_rfl) (by rfl) (by rfl) (fun K hK => ?_)
      go_wp2_with fail
      refine (of_any (g x) 0 _).mono ?_
      rintro e1 X1 ⟨rfl, hx1⟩
      go_wp2_with fail
      have hb1' := hb0.trans (hx1.mono hb0.size)
      have hk1 : KeepsOthers W X1 := hk0.trans ⟨hx1.size, fun k o hk _ => (hx1.block k (Array.getElem?_eq_some_iff.1 hk).1).trans hk⟩
      have hv1 : Boxed X1 (w.heap.size + 1) 30 v := (hx1.block _ hv0.lt).trans hv0
      have hr1 : X1.ownsRow (w.heap.size + 1) 33 4 v sel.length (termCells g sel) := hr0.kept (below_grownBy hx1) (by cases v.ownBlock <;> simp)
      have hC1 : TmC (w.heap.size + 1) W v X1 := ⟨hv1.cell, hb1'.mono (by have := hv.lt; omega)⟩
      refine hK _ _ hC1 ?_
      clear hK K
      refine wpTs_1 (i := 7) (rem1 := [8, 9]) (by kernel_rfl) (by rfl) (by rfl) (fun K hK => ?_)
      go_wp2_with fail
      obtain ⟨tmp, htmp⟩ : ∃ t : Obj, t = Obj.cells #[.int .i64 (g x 0), .int .i64 (g x 2), .int .i64 0, .int .i64 0] 33 := ⟨_, rfl⟩
      have hnews : ∀ (j : Nat) (u : Value), [Value.int .i64 (g x 0), .int .i64 (g x 2), .int .i64 0, .int .i64 0][j]? = some u → (X1.alloc tmp).cell? ((⟨X1.heap.size, 0, none⟩ : Addr).add j) = some u := fun j u hj => by
        rw [add_off, Nat.zero_add, htmp, World.cell?_alloc_at _ _ _ _ rfl]; simpa using hj
      rw [← htmp]
      clear htmp
      have ha1 : Below X1.heap.size X1 (X1.alloc tmp) := (Below.refl _ _).alloc (Nat.le_refl _) _
      have hC2 : TmC (w.heap.size + 1) W v (X1.alloc tmp) := ⟨(hv1.alloc _).cell, hC1.below.trans (ha1.mono (by have := hv1.lt; omega))⟩
      refine hK _ _ hC2 ?_
      clear hK K
      refine wpTs_1 (i := 8) (rem1 := [9]) (by kernel_rfl) (by rfl) (by rfl) (fun K hK => ?_)
      refine wpList_append_own _ rfl _ _ 30 rfl (w.heap.size + 1) 33 i0 _ 4 32 Tryd.underlying30 hi hz0 hz1 hz2 rfl (by decide) _ _ _ rfl (hr1.alloc _) ⟨X1.heap.size, 0, none⟩ 1 1 _ rfl rfl hnews (by simp [Value.oneCell']) (by unfold maxLen; omega) (by omega) (by have := hv1.lt; simp; omega) ?_
      intro v' X3 hown' hgrow _
      obtain ⟨g', cap', rfl⟩ := ownsRow_succ hown'
      obtain ⟨hv3, hv4, hr4, hk4, hb4⟩ := hv1.appended (by decide) hr1 (by have := hv1.lt; omega) (Nat.le_refl _) hown' hgrow
      have hc1 := hv3.cell
      have hf1 := hv3.frozen
      have hC3 : TmC (w.heap.size + 1) W v X3 := ⟨hv3.cell, (hC2.below.grown hgrow (by have := hv1.lt; simp; omega) fun k e => (hr1.lt k e).1)⟩
      refine hK _ _ hC3 ?_
      go_simp
      clear hK K
      refine wpTs_last (i := 9) (rem1 := []) (by kernel_rfl) (by rfl) (by rfl) (by kernel_rfl) (fun K hK => ?_)
      go_wp2_with fail
      refine wpTs_0 ?_
      gi_wp2
      have hBW : Below (w.heap.size + 1) W (X3.setCell ⟨w.heap.size + 1, 0, none⟩ (.slice (some ⟨g', 0, none⟩) (sel.length + 1) cap')) := hC1.below.trans hb4
      exact ⟨(hk1.trans hk4).from _, hBW, ⟨_, hv4, by rw [HE.out, List.length_append, termCells_snoc]; exact hr4, trivial⟩, hB.trans hBW⟩
    · have t0 : decide ((x : Int) < (n : Int)) = false := by simp; omega
      have e : (pre ++ [x]).filter (fun i => decide (i < n)) = pre.filter (fun i => decide (i < n)) := by simp [hx]
      gi_wp2
      exact ⟨KeepsFrom.refl _ _, Below.refl _ _, ⟨v, hv, by rw [e]; exact hrow, trivial⟩, hB⟩
  case done =>
    rintro D ys W hD rfl ⟨⟨v, hv, hrow, _⟩, hB⟩ hK
    have hc := hv.cell
    gi_wp2
    refine ⟨by simp, .inl ⟨_, _, rfl, run_takeDeferred hK, ?_⟩⟩
    have hB2 : Below w.heap.size w W := hb1.trans (hB.mono (by omega))
    exact ⟨_, results_tmp rfl _ _ _, v, rfl, ownsRow_putObj hrow _ hK rfl, hB2.trans (belowK_b (w := w) (Nat.le_refl _) W D _ _ (by simp at hD; omega) hK rfl rfl)⟩
  case stop =>
    rintro D c pre W _ _ h _
    exact h.elim
end Go.Proofs.YtijnpkbijljnlaaDoor
