/-
  The exact part of all time that a set's tasks ask for: the walk.
-/
import Derived.Test.YtijnpkbijljnlaaDoorLoadAdd
namespace Go.Proofs.YtijnpkbijljnlaaDoor
open Go.RowKit Go.Shelf
attribute [local go_sem] Oper.semAt_some
/-- The part so far, or none. -/
def exactF (g : Nat → Nat → Int) (acc : Int × Int) : List Nat → Option (Int × Int)
  | [] => some acc
  | i :: l => if (addP acc.1 acc.2 (g i 2) (g i 0)).2 then exactF g (addP acc.1 acc.2 (g i 2) (g i 0)).1 l else none
theorem exactF_append (g : Nat → Nat → Int) (l m : List Nat) (acc : Int × Int) : exactF g acc (l ++ m) = (exactF g acc l).bind fun a => exactF g a m := by
  induction l generalizing acc with
  | nil => rfl
  | cons x l ih =>
    simp only [List.cons_append, exactF]
    split
    · exact ih _
    · rfl
theorem exactF_prefix {g : Nat → Nat → Int} {l m : List Nat} (h : l <+: m) (hn : exactF g (0, 1) l = none) : exactF g (0, 1) m = none := by
  obtain ⟨t, rfl⟩ := h
  rw [exactF_append, hn]; rfl
def exactR (g : Nat → Nat → Int) (l : List Nat) : (Int × Int) × Bool := match exactF g (0, 1) l with | some p => (p, true) | none => ((0, 0), false)
theorem blk_alloc {W : World} {b : Nat} {o : Obj} (h : W.heap[b]? = some o) (o' : Obj) : (W.alloc o').heap[b]? = some o := (Below.heap_alloc _ _ _ (Array.getElem?_eq_some_iff.1 h).1).trans h
/-- Only one block is written. -/
structure Only (b : Nat) (X Y : World) : Prop where
  below : Below b X Y
  other : ∀ k, k ≠ b → Y.heap[k]? = X.heap[k]?
theorem Only.set {b : Nat} {W X : World} (h : Only b W X) (j : Nat) (u : Value) : Only b W (X.setCell ⟨b, j, none⟩ u) :=
  ⟨h.below.setCell (p := ⟨b, j, none⟩) (Nat.le_refl _) u, fun k hk => (Below.heap_setCell X _ u k hk).trans (h.other k hk)⟩
theorem Only.refl (b : Nat) (X : World) : Only b X X := ⟨Below.refl _ _, fun _ _ => rfl⟩
theorem Only.same {b B : Nat} {X Y : World} (h : Only b X Y) (hb : b < B) : SameFrom B X Y := ⟨h.below.size, fun k hB _ => h.other k (by omega)⟩
theorem part_set {W : World} {b : Nat} {u v : Value} {t : TypeId} (h : W.heap[b]? = some (.cells #[u, v] t (0, 0))) (x y : Value) : ((W.setCell ⟨b, 0, none⟩ x).setCell ⟨b, 1, none⟩ y).heap[b]? = some (.cells #[x, y] t (0, 0)) :=
  heap_setCell_same _ b 1 _ t y (heap_setCell_same W b 0 _ t x h)
set_option maxRecDepth 100000 in
set_option maxHeartbeats 2000000 in
theorem exact_any (x : Img) (g : Nat → Nat → Int) (s : Nat) (w : World) (hs : s < 4294967296) (hT : Tasks w x.ao x.n g) (hTab : Tab w) :
    Calls Tryd.prog 18 #[iv x, .int .u32 s] w fun e W' => e = .returned (pv (exactR g (selT s x.n))) ∧ Below w.heap.size w W' := by
  refine (callsIn_wide (n := 6)).1 ?_
  have h1 : 1 ≤ 6 := by omega
  have HLT := hid (load_tasks_any x s)
  have HST := hid fun (Bi Bs : Nat) (W : World) (hn : w.heap.size ≤ W.heap.size) (hBi : W.heap[Bi]? = some (ivBox x)) (hBs : W.cell? ⟨Bs, 0, none⟩ = some (.int .u32 s)) (hTw : Tasks W x.ao x.n g) (hTb : Tab W) =>
    load_tasks1_stops 5 (by omega) Bi Bs w.heap.size x g s W hs hTab.pos hn hBi hBs hTw (fun b o e h0 => by
      obtain ⟨b', o', e', hb⟩ := hT.form h0
      rw [e] at e'; cases e'; exact hb) hTb
  obtain ⟨r, ao, n, cap, mo, mn, mc, eo, en, ec⟩ := x
  unfold iv at HLT ⊢
  unfold ivBox at HLT HST
  dsimp only at hT HST HLT ⊢
  refine callsIn_of_wp_marks Tryd.func18 rfl trivial ?_ rfl
  simp only [Tryd.ntmps18, List.size_toArray, List.length_cons, List.length_nil, Nat.reduceAdd, Nat.reduceSub, Array.replicate_succ, Array.replicate_zero, List.push_toArray, List.append_toArray, List.nil_append, List.cons_append]
  gi_wp2_with (refine ⟨trivial, ?_⟩; gi_at_call 27; refine (callsIn_wide.2 (HLT.out _)).mono ?_; rintro e w' ⟨rfl, rfl⟩)
  have b1 : Below w.heap.size w (w.alloc (Obj.cells #[.int .i64 r, .slice ao n cap, .slice mo mn mc, .slice eo en ec] 26)) := (Below.refl _ _).alloc (Nat.le_refl _) _
  have x4 : ((w.alloc (Obj.cells #[.int .i64 r, .slice ao n cap, .slice mo mn mc, .slice eo en ec] 26)).alloc (Obj.cells #[.int .i64 0, .int .i64 0] 46)).heap[w.heap.size + 1]? = some (Obj.cells #[.int .i64 0, .int .i64 0] 46) := by have := heap_alloc_new (w.alloc (Obj.cells #[.int .i64 r, .slice ao n cap, .slice mo mn mc, .slice eo en ec] 26)) (Obj.cells #[.int .i64 0, .int .i64 0] 46); rwa [World.size_alloc] at this
  have x5 : Boxed (((w.alloc (Obj.cells #[.int .i64 r, .slice ao n cap, .slice mo mn mc, .slice eo en ec] 26)).alloc (Obj.cells #[.int .i64 0, .int .i64 0] 46)).alloc (Obj.cells #[.bool false] 4)) (w.heap.size + 2) 4 (.bool false) := by have := Boxed.new ((w.alloc (Obj.cells #[.int .i64 r, .slice ao n cap, .slice mo mn mc, .slice eo en ec] 26)).alloc (Obj.cells #[.int .i64 0, .int .i64 0] 46)) 4 (.bool false); rwa [World.size_alloc, World.size_alloc] at this
  have x6 : ((((w.alloc (Obj.cells #[.int .i64 r, .slice ao n cap, .slice mo mn mc, .slice eo en ec] 26)).alloc (Obj.cells #[.int .i64 0, .int .i64 0] 46)).alloc (Obj.cells #[.bool false] 4)).alloc (Obj.cells #[.int .i64 0, .int .i64 1] 46)).heap[w.heap.size + 3]? = some (Obj.cells #[.int .i64 0, .int .i64 1] 46) := by have := heap_alloc_new (((w.alloc (Obj.cells #[.int .i64 r, .slice ao n cap, .slice mo mn mc, .slice eo en ec] 26)).alloc (Obj.cells #[.int .i64 0, .int .i64 0] 46)).alloc (Obj.cells #[.bool false] 4)) (Obj.cells #[.int .i64 0, .int .i64 1] 46); rwa [World.size_alloc, World.size_alloc, World.size_alloc] at this
  have x7 : (((((w.alloc (Obj.cells #[.int .i64 r, .slice ao n cap, .slice mo mn mc, .slice eo en ec] 26)).alloc (Obj.cells #[.int .i64 0, .int .i64 0] 46)).alloc (Obj.cells #[.bool false] 4)).alloc (Obj.cells #[.int .i64 0, .int .i64 1] 46)).alloc (Obj.cells #[.int .i64 r, .slice ao n cap, .slice mo mn mc, .slice eo en ec] 26)).heap[w.heap.size + 4]? = some (Obj.cells #[.int .i64 r, .slice ao n cap, .slice mo mn mc, .slice eo en ec] 26) := by have := heap_alloc_new ((((w.alloc (Obj.cells #[.int .i64 r, .slice ao n cap, .slice mo mn mc, .slice eo en ec] 26)).alloc (Obj.cells #[.int .i64 0, .int .i64 0] 46)).alloc (Obj.cells #[.bool false] 4)).alloc (Obj.cells #[.int .i64 0, .int .i64 1] 46)) (Obj.cells #[.int .i64 r, .slice ao n cap, .slice mo mn mc, .slice eo en ec] 26); rwa [World.size_alloc, World.size_alloc, World.size_alloc, World.size_alloc] at this
  have x8 : Boxed ((((((w.alloc (Obj.cells #[.int .i64 r, .slice ao n cap, .slice mo mn mc, .slice eo en ec] 26)).alloc (Obj.cells #[.int .i64 0, .int .i64 0] 46)).alloc (Obj.cells #[.bool false] 4)).alloc (Obj.cells #[.int .i64 0, .int .i64 1] 46)).alloc (Obj.cells #[.int .i64 r, .slice ao n cap, .slice mo mn mc, .slice eo en ec] 26)).alloc (Obj.cells #[.int .u32 s] 28)) (w.heap.size + 5) 28 (.int .u32 s) := by have := Boxed.new (((((w.alloc (Obj.cells #[.int .i64 r, .slice ao n cap, .slice mo mn mc, .slice eo en ec] 26)).alloc (Obj.cells #[.int .i64 0, .int .i64 0] 46)).alloc (Obj.cells #[.bool false] 4)).alloc (Obj.cells #[.int .i64 0, .int .i64 1] 46)).alloc (Obj.cells #[.int .i64 r, .slice ao n cap, .slice mo mn mc, .slice eo en ec] 26)) 28 (.int .u32 s); rwa [World.size_alloc, World.size_alloc, World.size_alloc, World.size_alloc, World.size_alloc] at this
  have y4 : ((((((w.alloc (Obj.cells #[.int .i64 r, .slice ao n cap, .slice mo mn mc, .slice eo en ec] 26)).alloc (Obj.cells #[.int .i64 0, .int .i64 0] 46)).alloc (Obj.cells #[.bool false] 4)).alloc (Obj.cells #[.int .i64 0, .int .i64 1] 46)).alloc (Obj.cells #[.int .i64 r, .slice ao n cap, .slice mo mn mc, .slice eo en ec] 26)).alloc (Obj.cells #[.int .u32 s] 28)).heap[w.heap.size + 1]? = some (Obj.cells #[.int .i64 0, .int .i64 0] 46) := (Below.heap_alloc _ _ _ (by simp only [World.size_alloc]; omega)).trans ((Below.heap_alloc _ _ _ (by simp only [World.size_alloc]; omega)).trans ((Below.heap_alloc _ _ _ (by simp only [World.size_alloc]; omega)).trans ((Below.heap_alloc _ _ _ (by simp only [World.size_alloc]; omega)).trans x4)))
  have y5 := ((x5.alloc (Obj.cells #[.int .i64 0, .int .i64 1] 46)).alloc (Obj.cells #[.int .i64 r, .slice ao n cap, .slice mo mn mc, .slice eo en ec] 26)).alloc (Obj.cells #[.int .u32 s] 28)
  have y6 : ((((((w.alloc (Obj.cells #[.int .i64 r, .slice ao n cap, .slice mo mn mc, .slice eo en ec] 26)).alloc (Obj.cells #[.int .i64 0, .int .i64 0] 46)).alloc (Obj.cells #[.bool false] 4)).alloc (Obj.cells #[.int .i64 0, .int .i64 1] 46)).alloc (Obj.cells #[.int .i64 r, .slice ao n cap, .slice mo mn mc, .slice eo en ec] 26)).alloc (Obj.cells #[.int .u32 s] 28)).heap[w.heap.size + 3]? = some (Obj.cells #[.int .i64 0, .int .i64 1] 46) := (Below.heap_alloc _ _ _ (by simp only [World.size_alloc]; omega)).trans ((Below.heap_alloc _ _ _ (by simp only [World.size_alloc]; omega)).trans x6)
  have y7 : ((((((w.alloc (Obj.cells #[.int .i64 r, .slice ao n cap, .slice mo mn mc, .slice eo en ec] 26)).alloc (Obj.cells #[.int .i64 0, .int .i64 0] 46)).alloc (Obj.cells #[.bool false] 4)).alloc (Obj.cells #[.int .i64 0, .int .i64 1] 46)).alloc (Obj.cells #[.int .i64 r, .slice ao n cap, .slice mo mn mc, .slice eo en ec] 26)).alloc (Obj.cells #[.int .u32 s] 28)).heap[w.heap.size + 4]? = some (Obj.cells #[.int .i64 r, .slice ao n cap, .slice mo mn mc, .slice eo en ec] 26) := (Below.heap_alloc _ _ _ (by simp)).trans x7
  have hB0 : Below w.heap.size w ((((((w.alloc (Obj.cells #[.int .i64 r, .slice ao n cap, .slice mo mn mc, .slice eo en ec] 26)).alloc (Obj.cells #[.int .i64 0, .int .i64 0] 46)).alloc (Obj.cells #[.bool false] 4)).alloc (Obj.cells #[.int .i64 0, .int .i64 1] 46)).alloc (Obj.cells #[.int .i64 r, .slice ao n cap, .slice mo mn mc, .slice eo en ec] 26)).alloc (Obj.cells #[.int .u32 s] 28)) := ((((b1.alloc (by simp) _).alloc (by simp; omega) _).alloc (by simp; omega) _).alloc (by simp; omega) _).alloc (by simp; omega) _
  have hsz : ((((((w.alloc (Obj.cells #[.int .i64 r, .slice ao n cap, .slice mo mn mc, .slice eo en ec] 26)).alloc (Obj.cells #[.int .i64 0, .int .i64 0] 46)).alloc (Obj.cells #[.bool false] 4)).alloc (Obj.cells #[.int .i64 0, .int .i64 1] 46)).alloc (Obj.cells #[.int .i64 r, .slice ao n cap, .slice mo mn mc, .slice eo en ec] 26)).alloc (Obj.cells #[.int .u32 s] 28)).heap.size = w.heap.size + 6 := by simp
  clear x4 x5 x6 x7 b1
  obtain ⟨W0, hW0⟩ : ∃ X, X = (((((w.alloc (Obj.cells #[.int .i64 r, .slice ao n cap, .slice mo mn mc, .slice eo en ec] 26)).alloc (Obj.cells #[.int .i64 0, .int .i64 0] 46)).alloc (Obj.cells #[.bool false] 4)).alloc (Obj.cells #[.int .i64 0, .int .i64 1] 46)).alloc (Obj.cells #[.int .i64 r, .slice ao n cap, .slice mo mn mc, .slice eo en ec] 26)).alloc (Obj.cells #[.int .u32 s] 28) := ⟨_, rfl⟩
  rw [← hW0] at x8 y4 y5 y6 y7 hB0 hsz ⊢
  clear hW0
  have hst := HST.out (w.heap.size + 4) (w.heap.size + 5) W0 (by omega) y7 x8.cell (hT.below hB0) (hTab.below hB0 hTab.pos)
  refine range_seqB rfl h1 (gf := 42) (lb := #[.pointer (some ⟨w.heap.size + 5, 0, none⟩), .pointer (some ⟨w.heap.size + 4, 0, none⟩)]) rfl trivial (enters_of Tryd.func42 (by kernel_rfl) rfl) hst
    KpT.t (KpT.b (by omega) (by omega)) (Below.refl _ _) (fun _ => rfl)
    (fun pre W => (∃ m : Int × Int, exactF g (0, 1) pre = some m ∧ W.heap[w.heap.size + 3]? = some (.cells #[.int .i64 m.1, .int .i64 m.2] 46 (0, 0)) ∧ W.heap[w.heap.size + 1]? = some (.cells #[.int .i64 0, .int .i64 0] 46 (0, 0)) ∧ Boxed W (w.heap.size + 2) 4 (.bool false)) ∧ Below w.heap.size w W)
    (fun c pre W => (c = .ret ∧ exactF g (0, 1) pre = none ∧ W.heap[w.heap.size + 1]? = some (.cells #[.int .i64 0, .int .i64 0] 46 (0, 0)) ∧ Boxed W (w.heap.size + 2) 4 (.bool false)) ∧ Below w.heap.size w W)
    (OwnFrom.and (fun z X Y row hz hg hr => by
      obtain ⟨m, z1, z2, z3, z4⟩ := hz
      exact ⟨m, z1, block_on z2 hg hr, block_on z3 hg hr, boxed_on z4 hg hr⟩) (ownFrom_below (Nat.le_refl _) (by omega)))
    (fun c => OwnFrom.and (fun z X Y row hz hg hr => ⟨hz.1, hz.2.1, block_on hz.2.2.1 hg hr, boxed_on hz.2.2.2 hg hr⟩) (ownFrom_below (Nat.le_refl _) (by omega)))
    ⟨⟨(0, 1), rfl, y6, y4, y5⟩, hB0⟩
    (fun i a' W => ∃ b, W.heap[b]? = some (tvBox (g i)) ∧ a' = { tmps := #[.agg #[.int .i64 r, .slice ao n cap, .slice mo mn mc, .slice eo en ec], .int .u32 s, .pointer (some ⟨w.heap.size, 0, none⟩), undef, .pointer (some ⟨w.heap.size + 1, 0, none⟩), .pointer (some ⟨w.heap.size + 2, 0, none⟩), .pointer (some ⟨w.heap.size + 3, 0, none⟩), .pointer (some ⟨b, 0, none⟩), undef, undef, .agg #[.int .i64 0, .int .i64 1], .agg #[.int .i64 r, .slice ao n cap, .slice mo mn mc, .slice eo en ec], .int .u32 s, .func (.func 42) #[] #[.pointer (some ⟨w.heap.size + 5, 0, none⟩), .pointer (some ⟨w.heap.size + 4, 0, none⟩)], tv (g i), undef, undef, undef, undef, undef, undef, undef, undef, undef, undef, undef, undef, undef, undef, undef], defers := [] })
    (fun i a' _ X Y row hz hg hr => by
      obtain ⟨b, z2, z3⟩ := hz
      exact ⟨b, block_on z2 hg hr, z3⟩)
    ?assign ?body ?done ?stop
  case assign =>
    rintro l pre i W K ⟨⟨m, z1, z2, z3, z4⟩, hB⟩ hK
    unfold tv
    gi_wp2
    exact hK _ _ (SameFrom.alloc _ _) ⟨(Below.refl _ _).alloc hB.size _, fun o ho => (Below.heap_alloc _ _ _ (Array.getElem?_eq_some_iff.1 ho).1).trans ho⟩ ⟨⟨m, z1, blk_alloc z2 _, blk_alloc z3 _, z4.alloc _⟩, hB.alloc hB.size _⟩ ⟨W.heap.size, heap_alloc_new _ _, rfl⟩
  case body =>
    rintro l pre i a' W ⟨⟨m, z1, z2, z3, z4⟩, hB⟩ ⟨b, hbl, rfl⟩ hlt
    unfold tvBox at hbl
    have p0 := blk_cell hbl 0
    have p2 := blk_cell hbl 2
    have n0 := blk_cell z2 0
    have n1 := blk_cell z2 1
    have h1' : 1 ≤ 6 - 1 - 1 := by omega
    have hM := hid fun X => add37_any m.1 m.2 (g i 2) (g i 0) X
    have hsn := hid (show exactF g (0, 1) (pre ++ [i]) = if (addP m.1 m.2 (g i 2) (g i 0)).2 then some (addP m.1 m.2 (g i 2) (g i 0)).1 else none by rw [exactF_append, z1]; rfl)
    have Z2 := hid z2
    have Z3 := hid z3
    have Z4 := hid z4
    have HB := hid hB
    clear z1 z2 z3 z4 hB
    obtain ⟨⟨q, ok⟩, hx⟩ : ∃ y, addP m.1 m.2 (g i 2) (g i 0) = y := ⟨_, rfl⟩
    rw [hx] at hM hsn
    clear hx
    cases ok
    · gi_wp2_with (refine ⟨trivial, ?_⟩; gi_at_call 30; refine (CallsIn.inRound l (callsIn_wide.2 (hM.out _))).mono ?_; rintro e w' ⟨rfl, hb'⟩; have v2 := (hb'.block _ (Array.getElem?_eq_some_iff.1 Z2.out).1).trans Z2.out; have v3 := (hb'.block _ (Array.getElem?_eq_some_iff.1 Z3.out).1).trans Z3.out; have v4 := Boxed.kept Z4.out (below_grownBy hb') (by simp); have u2 := blk_alloc v2 (Obj.cells #[.int .i64 q.1, .int .i64 q.2] 46); have u3 := blk_alloc v3 (Obj.cells #[.int .i64 q.1, .int .i64 q.2] 46); have u4 := v4.alloc (Obj.cells #[.int .i64 q.1, .int .i64 q.2] 46); have e20 := blk_cell u2 0; have e21 := blk_cell u2 1; have f20 := blk_frozen u2 0; have f21 := blk_frozen u2 1; have e30 := blk_cell u3 0; have e31 := blk_cell u3 1; have f30 := blk_frozen u3 0; have f31 := blk_frozen u3 1; have e4 := u4.cell; have f4 := u4.frozen)
      have o1 : Only (w.heap.size + 1) (w'.alloc (Obj.cells #[.int .i64 q.1, .int .i64 q.2] 46)) _ := ((Only.refl (w.heap.size + 1) _).set 0 (.int .i64 0)).set 1 (.int .i64 0)
      have s1 := part_set u3 (.int .i64 0) (.int .i64 0)
      have s4 := (o1.other (w.heap.size + 2) (by omega)).trans u4
      obtain ⟨X1, hX1⟩ : ∃ X, X = ((w'.alloc (Obj.cells #[.int .i64 q.1, .int .i64 q.2] 46)).setCell ⟨w.heap.size + 1, 0, none⟩ (.int .i64 0)).setCell ⟨w.heap.size + 1, 1, none⟩ (.int .i64 0) := ⟨_, rfl⟩
      rw [← hX1] at o1 s1 s4 ⊢
      clear hX1
      have o2 : Only (w.heap.size + 2) X1 (X1.setCell ⟨w.heap.size + 2, 0, none⟩ (.bool false)) := (Only.refl _ _).set 0 _
      have hba : Below w.heap.size W (w'.alloc (Obj.cells #[.int .i64 q.1, .int .i64 q.2] 46)) := (hb'.mono HB.out.size).alloc (Nat.le_trans HB.out.size hb'.size) _
      have hBW : Below w.heap.size W (X1.setCell ⟨w.heap.size + 2, 0, none⟩ (.bool false)) := (hba.trans (o1.below.mono (by omega))).trans (o2.below.mono (by omega))
      have hsf : SameFrom W0.heap.size W (X1.setCell ⟨w.heap.size + 2, 0, none⟩ (.bool false)) := (((SameFrom.of_below hb').trans (SameFrom.alloc _ _)).trans (o1.same (by omega))).trans (o2.same (by omega))
      have ho2 : ∀ o, W.heap[w.heap.size + 4]? = some o → (X1.setCell ⟨w.heap.size + 2, 0, none⟩ (.bool false)).heap[w.heap.size + 4]? = some o := fun o ho =>
        (o2.other _ (by omega)).trans ((o1.other _ (by omega)).trans (blk_alloc ((hb'.block _ (Array.getElem?_eq_some_iff.1 ho).1).trans ho) _))
      exact ⟨hsf, ⟨hBW, ho2⟩, ⟨rfl, by rw [hsn.out]; rfl, (o2.other _ (by omega)).trans s1, Boxed.set _ s4⟩, HB.out.trans hBW⟩
    · gi_wp2_with (refine ⟨trivial, ?_⟩; gi_at_call 30; refine (CallsIn.inRound l (callsIn_wide.2 (hM.out _))).mono ?_; rintro e w' ⟨rfl, hb'⟩; have v2 := (hb'.block _ (Array.getElem?_eq_some_iff.1 Z2.out).1).trans Z2.out; have v3 := (hb'.block _ (Array.getElem?_eq_some_iff.1 Z3.out).1).trans Z3.out; have v4 := Boxed.kept Z4.out (below_grownBy hb') (by simp); have u2 := blk_alloc v2 (Obj.cells #[.int .i64 q.1, .int .i64 q.2] 46); have u3 := blk_alloc v3 (Obj.cells #[.int .i64 q.1, .int .i64 q.2] 46); have u4 := v4.alloc (Obj.cells #[.int .i64 q.1, .int .i64 q.2] 46); have e20 := blk_cell u2 0; have e21 := blk_cell u2 1; have f20 := blk_frozen u2 0; have f21 := blk_frozen u2 1; have e30 := blk_cell u3 0; have e31 := blk_cell u3 1; have f30 := blk_frozen u3 0; have f31 := blk_frozen u3 1; have e4 := u4.cell; have f4 := u4.frozen)
      have o1 : Only (w.heap.size + 3) (w'.alloc (Obj.cells #[.int .i64 q.1, .int .i64 q.2] 46)) _ := ((Only.refl (w.heap.size + 3) _).set 0 (.int .i64 q.1)).set 1 (.int .i64 q.2)
      have s1 := part_set u2 (.int .i64 q.1) (.int .i64 q.2)
      have s4 := (o1.other (w.heap.size + 2) (by omega)).trans u4
      obtain ⟨X1, hX1⟩ : ∃ X, X = ((w'.alloc (Obj.cells #[.int .i64 q.1, .int .i64 q.2] 46)).setCell ⟨w.heap.size + 3, 0, none⟩ (.int .i64 q.1)).setCell ⟨w.heap.size + 3, 1, none⟩ (.int .i64 q.2) := ⟨_, rfl⟩
      rw [← hX1] at o1 s1 s4 ⊢
      clear hX1
      have hba : Below w.heap.size W (w'.alloc (Obj.cells #[.int .i64 q.1, .int .i64 q.2] 46)) := (hb'.mono HB.out.size).alloc (Nat.le_trans HB.out.size hb'.size) _
      have hBW : Below w.heap.size W X1 := hba.trans (o1.below.mono (by omega))
      have hsf : SameFrom W0.heap.size W X1 := ((SameFrom.of_below hb').trans (SameFrom.alloc _ _)).trans (o1.same (by omega))
      have ho2 : ∀ o, W.heap[w.heap.size + 4]? = some o → X1.heap[w.heap.size + 4]? = some o := fun o ho =>
        (o1.other _ (by omega)).trans (blk_alloc ((hb'.block _ (Array.getElem?_eq_some_iff.1 ho).1).trans ho) _)
      exact ⟨hsf, ⟨hBW, ho2⟩, ⟨q, by rw [hsn.out]; rfl, s1, (o1.other _ (by omega)).trans u3, s4⟩, HB.out.trans hBW⟩
  case done =>
    rintro D ys W hD rfl ⟨⟨m, z1, z2, z3, z4⟩, hB⟩ hK
    have e20 := blk_cell z2 0
    have e21 := blk_cell z2 1
    have e30 := blk_cell z3 0
    have e31 := blk_cell z3 1
    have f30 := blk_frozen z3 0
    have f31 := blk_frozen z3 1
    have e4 := z4.cell
    have f4 := z4.frozen
    gi_wp2
    have o1 : Only (w.heap.size + 1) W _ := ((Only.refl (w.heap.size + 1) W).set 0 (.int .i64 m.1)).set 1 (.int .i64 m.2)
    have s1 := part_set z3 (.int .i64 m.1) (.int .i64 m.2)
    have s4 := (o1.other (w.heap.size + 2) (by omega)).trans z4
    have hK1 := (KeepsOthers.setCell (W.setCell ⟨w.heap.size + 1, 0, none⟩ (.int .i64 m.1)) ⟨w.heap.size + 1, 1, none⟩ (.int .i64 m.2)).same D _ ((KeepsOthers.setCell W ⟨w.heap.size + 1, 0, none⟩ (.int .i64 m.1)).same D _ hK rfl) rfl
    obtain ⟨X1, hX1⟩ : ∃ X, X = (W.setCell ⟨w.heap.size + 1, 0, none⟩ (.int .i64 m.1)).setCell ⟨w.heap.size + 1, 1, none⟩ (.int .i64 m.2) := ⟨_, rfl⟩
    rw [← hX1] at o1 s1 s4 hK1 ⊢
    clear hX1
    have o2 : Only (w.heap.size + 2) X1 (X1.setCell ⟨w.heap.size + 2, 0, none⟩ (.bool true)) := (Only.refl _ _).set 0 _
    have hK' : (X1.setCell ⟨w.heap.size + 2, 0, none⟩ (.bool true)).heap[D]? = some (.deferred (some [])) := (KeepsOthers.setCell _ ⟨w.heap.size + 2, 0, none⟩ (.bool true)).same D _ hK1 rfl
    refine ⟨by simp, .inl ⟨_, _, rfl, run_takeDeferred hK', ?_⟩⟩
    have s2 := (o2.other (w.heap.size + 1) (by omega)).trans s1
    have g0 := cell_kept (blk_cell s2 0) (grownBy_putObj' _ D (.deferred none)) (fun r e => by cases e; exact ⟨_, hK', rfl⟩)
    have g1 := cell_kept (blk_cell s2 1) (grownBy_putObj' _ D (.deferred none)) (fun r e => by cases e; exact ⟨_, hK', rfl⟩)
    have g2 := cell_kept (Boxed.set (.bool true) s4).cell (grownBy_putObj' _ D (.deferred none)) (fun r e => by cases e; exact ⟨_, hK', rfl⟩)
    refine ⟨pv (m, true), ?_, by unfold exactR; rw [z1], ((hB.trans (o1.below.mono (by omega))).trans (o2.below.mono (by omega))).trans (belowK_b (w := w) (Nat.le_refl _) _ D _ _ (by omega) hK' rfl rfl)⟩
    simp [results, Tryd.f18, go_sem, g0, g1, g2]
  case stop =>
    rintro D c pre W hD hpre ⟨⟨rfl, z1, z3, z4⟩, hB⟩ hK
    gi_wp2
    refine ⟨by simp, .inl ⟨_, _, rfl, run_takeDeferred hK, ?_⟩⟩
    have g0 := cell_kept (blk_cell z3 0) (grownBy_putObj' _ D (.deferred none)) (fun r e => by cases e; exact ⟨_, hK, rfl⟩)
    have g1 := cell_kept (blk_cell z3 1) (grownBy_putObj' _ D (.deferred none)) (fun r e => by cases e; exact ⟨_, hK, rfl⟩)
    have g2 := cell_kept z4.cell (grownBy_putObj' _ D (.deferred none)) (fun r e => by cases e; exact ⟨_, hK, rfl⟩)
    refine ⟨pv ((0, 0), false), ?_, by unfold exactR; rw [exactF_prefix hpre z1], hB.trans (belowK_b (w := w) (Nat.le_refl _) W D _ _ (by omega) hK rfl rfl)⟩
    simp [results, Tryd.f18, go_sem, g0, g1, g2]
end Go.Proofs.YtijnpkbijljnlaaDoor
