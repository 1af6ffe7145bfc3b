/-
  Behind how many ticks all periods of a set's tasks begin together again: the walk.
-/
import Derived.Test.YtijnpkbijljnlaaDoorLoadTasks
import Derived.Test.YtijnpkbijljnlaaDoorCheckGcd
namespace Go.Proofs.YtijnpkbijljnlaaDoor
open Go.RowKit Go.Shelf
attribute [local go_sem] Oper.semAt_some
/-- The round so far, or none. -/
def roundF (f : Nat → Int) (acc : Int) : List Nat → Option Int
  | [] => some acc
  | i :: l => if (multR acc (f i)).2 then roundF f (multR acc (f i)).1 l else none
theorem roundF_append (f : Nat → Int) (l m : List Nat) (acc : Int) : roundF f acc (l ++ m) = (roundF f acc l).bind fun a => roundF f a m := by
  induction l generalizing acc with
  | nil => rfl
  | cons x l ih =>
    simp only [List.cons_append, roundF]
    split
    · exact ih _
    · rfl
theorem roundF_prefix {f : Nat → Int} {l m : List Nat} (h : l <+: m) (hn : roundF f 1 l = none) : roundF f 1 m = none := by
  obtain ⟨t, rfl⟩ := h
  rw [roundF_append, hn]; rfl
def roundR (f : Nat → Int) (l : List Nat) : Int × Bool := match roundF f 1 l with | some n => (n, true) | none => (0, false)
theorem boxed_on {B b : Nat} {t : TypeId} {v : Value} {X Y : World} {row : Option Nat} (h : Boxed X b t v) (hg : X.grownBy Y row) (hr : ∀ r, row = some r → B ≤ r ∧ ∃ o : Obj, X.heap[r]? = some o ∧ o.isCells = false) : Boxed Y b t v :=
  h.kept hg fun e => by
    obtain ⟨_, o, ho, hc⟩ := hr b e.symm
    rw [show X.heap[b]? = _ from h] at ho
    cases ho; cases hc
/-- A task in a box. -/
@[go_sem] def tvBox (x : Nat → Int) : Obj := .cells #[.int .i64 (x 0), .int .i64 (x 1), .int .i64 (x 2), .int .i64 (x 3), .int .i64 (x 4), .int .i64 (x 5), .int .i64 (x 6), .int .i64 (x 7), .int .i64 (x 8), .int .i64 (x 9), .int .i64 (x 10)] 37
theorem block_on {B b : Nat} {cs : Array Value} {t : TypeId} {X Y : World} {row : Option Nat} (h : X.heap[b]? = some (.cells cs t (0, 0))) (hg : X.grownBy Y row) (hr : ∀ r, row = some r → B ≤ r ∧ ∃ o : Obj, X.heap[r]? = some o ∧ o.isCells = false) : Y.heap[b]? = some (.cells cs t (0, 0)) :=
  (hg.block b (Array.getElem?_eq_some_iff.1 h).1 fun e => by
    obtain ⟨_, o, ho, hc⟩ := hr b e.symm
    rw [h] at ho
    cases ho; cases hc).trans h
set_option maxRecDepth 100000 in
set_option maxHeartbeats 2000000 in
theorem round_any (x : Img) (g : Nat → Nat → Int) (s : Nat) (w : World) (hs : s < 4294967296) (hT : Tasks w x.ao x.n g) (hTab : Tab w) :
    Calls Tryd.prog 14 #[iv x, .int .u32 s] w fun e W' => e = .returned (rv (roundR (fun i => g i 0) (selT s x.n))) ∧ Below w.heap.size w W' := by
  refine (callsIn_wide (n := 6)).1 ?_
  have h1 : 1 ≤ 6 := by omega
  have HLT := hid (load_tasks_any x s)
  have HST := hid fun (Bi Bs : Nat) (W : World) (hn : w.heap.size ≤ W.heap.size) (hBi : W.heap[Bi]? = some (ivBox x)) (hBs : W.cell? ⟨Bs, 0, none⟩ = some (.int .u32 s)) (hTw : Tasks W x.ao x.n g) (hTb : Tab W) =>
    load_tasks1_stops 5 (by omega) Bi Bs w.heap.size x g s W hs hTab.pos hn hBi hBs hTw (fun b o e h0 => by
      obtain ⟨b', o', e', hb⟩ := hT.form h0
      rw [e] at e'; cases e'; exact hb) hTb
  obtain ⟨r, ao, n, cap, mo, mn, mc, eo, en, ec⟩ := x
  unfold iv at HLT ⊢
  unfold ivBox at HLT HST
  dsimp only at hT HST HLT ⊢
  refine callsIn_of_wp_marks Tryd.func14 rfl trivial ?_ rfl
  simp only [Tryd.ntmps14, List.size_toArray, List.length_cons, List.length_nil, Nat.reduceAdd, Nat.reduceSub, Array.replicate_succ, Array.replicate_zero, List.push_toArray, List.append_toArray, List.nil_append, List.cons_append]
  gi_wp2_with (refine ⟨trivial, ?_⟩; gi_at_call 27; refine (callsIn_wide.2 (HLT.out _)).mono ?_; rintro e w' ⟨rfl, rfl⟩)
  have b1 : Below w.heap.size w (w.alloc (Obj.cells #[.int .i64 r, .slice ao n cap, .slice mo mn mc, .slice eo en ec] 26)) := (Below.refl _ _).alloc (Nat.le_refl _) _
  have x4 : Boxed ((w.alloc (Obj.cells #[.int .i64 r, .slice ao n cap, .slice mo mn mc, .slice eo en ec] 26)).alloc (Obj.cells #[.int .i64 0] 3)) (w.heap.size + 1) 3 (.int .i64 0) := by have := Boxed.new (w.alloc (Obj.cells #[.int .i64 r, .slice ao n cap, .slice mo mn mc, .slice eo en ec] 26)) 3 (.int .i64 0); rwa [World.size_alloc] at this
  have x5 : Boxed (((w.alloc (Obj.cells #[.int .i64 r, .slice ao n cap, .slice mo mn mc, .slice eo en ec] 26)).alloc (Obj.cells #[.int .i64 0] 3)).alloc (Obj.cells #[.bool false] 4)) (w.heap.size + 2) 4 (.bool false) := by have := Boxed.new ((w.alloc (Obj.cells #[.int .i64 r, .slice ao n cap, .slice mo mn mc, .slice eo en ec] 26)).alloc (Obj.cells #[.int .i64 0] 3)) 4 (.bool false); rwa [World.size_alloc, World.size_alloc] at this
  have x6 : Boxed ((((w.alloc (Obj.cells #[.int .i64 r, .slice ao n cap, .slice mo mn mc, .slice eo en ec] 26)).alloc (Obj.cells #[.int .i64 0] 3)).alloc (Obj.cells #[.bool false] 4)).alloc (Obj.cells #[.int .i64 1] 3)) (w.heap.size + 3) 3 (.int .i64 1) := by have := Boxed.new (((w.alloc (Obj.cells #[.int .i64 r, .slice ao n cap, .slice mo mn mc, .slice eo en ec] 26)).alloc (Obj.cells #[.int .i64 0] 3)).alloc (Obj.cells #[.bool false] 4)) 3 (.int .i64 1); rwa [World.size_alloc, World.size_alloc, World.size_alloc] at this
  have x7 : (((((w.alloc (Obj.cells #[.int .i64 r, .slice ao n cap, .slice mo mn mc, .slice eo en ec] 26)).alloc (Obj.cells #[.int .i64 0] 3)).alloc (Obj.cells #[.bool false] 4)).alloc (Obj.cells #[.int .i64 1] 3)).alloc (Obj.cells #[.int .i64 r, .slice ao n cap, .slice mo mn mc, .slice eo en ec] 26)).heap[w.heap.size + 4]? = some (Obj.cells #[.int .i64 r, .slice ao n cap, .slice mo mn mc, .slice eo en ec] 26) := by have := heap_alloc_new ((((w.alloc (Obj.cells #[.int .i64 r, .slice ao n cap, .slice mo mn mc, .slice eo en ec] 26)).alloc (Obj.cells #[.int .i64 0] 3)).alloc (Obj.cells #[.bool false] 4)).alloc (Obj.cells #[.int .i64 1] 3)) (Obj.cells #[.int .i64 r, .slice ao n cap, .slice mo mn mc, .slice eo en ec] 26); rwa [World.size_alloc, World.size_alloc, World.size_alloc, World.size_alloc] at this
  have x8 : Boxed ((((((w.alloc (Obj.cells #[.int .i64 r, .slice ao n cap, .slice mo mn mc, .slice eo en ec] 26)).alloc (Obj.cells #[.int .i64 0] 3)).alloc (Obj.cells #[.bool false] 4)).alloc (Obj.cells #[.int .i64 1] 3)).alloc (Obj.cells #[.int .i64 r, .slice ao n cap, .slice mo mn mc, .slice eo en ec] 26)).alloc (Obj.cells #[.int .u32 s] 28)) (w.heap.size + 5) 28 (.int .u32 s) := by have := Boxed.new (((((w.alloc (Obj.cells #[.int .i64 r, .slice ao n cap, .slice mo mn mc, .slice eo en ec] 26)).alloc (Obj.cells #[.int .i64 0] 3)).alloc (Obj.cells #[.bool false] 4)).alloc (Obj.cells #[.int .i64 1] 3)).alloc (Obj.cells #[.int .i64 r, .slice ao n cap, .slice mo mn mc, .slice eo en ec] 26)) 28 (.int .u32 s); rwa [World.size_alloc, World.size_alloc, World.size_alloc, World.size_alloc, World.size_alloc] at this
  have y4 := (((x4.alloc (Obj.cells #[.bool false] 4)).alloc (Obj.cells #[.int .i64 1] 3)).alloc (Obj.cells #[.int .i64 r, .slice ao n cap, .slice mo mn mc, .slice eo en ec] 26)).alloc (Obj.cells #[.int .u32 s] 28)
  have y5 := ((x5.alloc (Obj.cells #[.int .i64 1] 3)).alloc (Obj.cells #[.int .i64 r, .slice ao n cap, .slice mo mn mc, .slice eo en ec] 26)).alloc (Obj.cells #[.int .u32 s] 28)
  have y6 := (x6.alloc (Obj.cells #[.int .i64 r, .slice ao n cap, .slice mo mn mc, .slice eo en ec] 26)).alloc (Obj.cells #[.int .u32 s] 28)
  have y7 : ((((((w.alloc (Obj.cells #[.int .i64 r, .slice ao n cap, .slice mo mn mc, .slice eo en ec] 26)).alloc (Obj.cells #[.int .i64 0] 3)).alloc (Obj.cells #[.bool false] 4)).alloc (Obj.cells #[.int .i64 1] 3)).alloc (Obj.cells #[.int .i64 r, .slice ao n cap, .slice mo mn mc, .slice eo en ec] 26)).alloc (Obj.cells #[.int .u32 s] 28)).heap[w.heap.size + 4]? = some (Obj.cells #[.int .i64 r, .slice ao n cap, .slice mo mn mc, .slice eo en ec] 26) := (Below.heap_alloc _ _ _ (by simp)).trans x7
  have hB0 : Below w.heap.size w ((((((w.alloc (Obj.cells #[.int .i64 r, .slice ao n cap, .slice mo mn mc, .slice eo en ec] 26)).alloc (Obj.cells #[.int .i64 0] 3)).alloc (Obj.cells #[.bool false] 4)).alloc (Obj.cells #[.int .i64 1] 3)).alloc (Obj.cells #[.int .i64 r, .slice ao n cap, .slice mo mn mc, .slice eo en ec] 26)).alloc (Obj.cells #[.int .u32 s] 28)) := ((((b1.alloc (by simp) _).alloc (by simp; omega) _).alloc (by simp; omega) _).alloc (by simp; omega) _).alloc (by simp; omega) _
  have hsz : ((((((w.alloc (Obj.cells #[.int .i64 r, .slice ao n cap, .slice mo mn mc, .slice eo en ec] 26)).alloc (Obj.cells #[.int .i64 0] 3)).alloc (Obj.cells #[.bool false] 4)).alloc (Obj.cells #[.int .i64 1] 3)).alloc (Obj.cells #[.int .i64 r, .slice ao n cap, .slice mo mn mc, .slice eo en ec] 26)).alloc (Obj.cells #[.int .u32 s] 28)).heap.size = w.heap.size + 6 := by simp
  clear x4 x5 x6 x7 b1
  obtain ⟨W0, hW0⟩ : ∃ X, X = (((((w.alloc (Obj.cells #[.int .i64 r, .slice ao n cap, .slice mo mn mc, .slice eo en ec] 26)).alloc (Obj.cells #[.int .i64 0] 3)).alloc (Obj.cells #[.bool false] 4)).alloc (Obj.cells #[.int .i64 1] 3)).alloc (Obj.cells #[.int .i64 r, .slice ao n cap, .slice mo mn mc, .slice eo en ec] 26)).alloc (Obj.cells #[.int .u32 s] 28) := ⟨_, rfl⟩
  rw [← hW0] at x8 y4 y5 y6 y7 hB0 hsz ⊢
  clear hW0
  have hst := HST.out (w.heap.size + 4) (w.heap.size + 5) W0 (by omega) y7 x8.cell (hT.below hB0) (hTab.below hB0 hTab.pos)
  refine range_seqB rfl h1 (gf := 42) (lb := #[.pointer (some ⟨w.heap.size + 5, 0, none⟩), .pointer (some ⟨w.heap.size + 4, 0, none⟩)]) rfl trivial (enters_of Tryd.func42 (by kernel_rfl) rfl) hst
    KpT.t (KpT.b (by omega) (by omega)) (Below.refl _ _) (fun _ => rfl)
    (fun pre W => (∃ m, roundF (fun i => g i 0) 1 pre = some m ∧ Boxed W (w.heap.size + 3) 3 (.int .i64 m) ∧ Boxed W (w.heap.size + 1) 3 (.int .i64 0) ∧ Boxed W (w.heap.size + 2) 4 (.bool false)) ∧ Below w.heap.size w W)
    (fun c pre W => (c = .ret ∧ roundF (fun i => g i 0) 1 pre = none ∧ Boxed W (w.heap.size + 1) 3 (.int .i64 0) ∧ Boxed W (w.heap.size + 2) 4 (.bool false)) ∧ Below w.heap.size w W)
    (OwnFrom.and (fun z X Y row hz hg hr => by
      obtain ⟨m, z1, z2, z3, z4⟩ := hz
      exact ⟨m, z1, boxed_on z2 hg hr, boxed_on z3 hg hr, boxed_on z4 hg hr⟩) (ownFrom_below (Nat.le_refl _) (by omega)))
    (fun c => OwnFrom.and (fun z X Y row hz hg hr => ⟨hz.1, hz.2.1, boxed_on hz.2.2.1 hg hr, boxed_on hz.2.2.2 hg hr⟩) (ownFrom_below (Nat.le_refl _) (by omega)))
    ⟨⟨1, rfl, y6, y4, y5⟩, hB0⟩
    (fun i a' W => ∃ b, W.heap[b]? = some (tvBox (g i)) ∧ a' = { tmps := #[.agg #[.int .i64 r, .slice ao n cap, .slice mo mn mc, .slice eo en ec], .int .u32 s, .pointer (some ⟨w.heap.size, 0, none⟩), undef, .pointer (some ⟨w.heap.size + 1, 0, none⟩), .pointer (some ⟨w.heap.size + 2, 0, none⟩), .pointer (some ⟨w.heap.size + 3, 0, none⟩), .pointer (some ⟨b, 0, none⟩), undef, undef, .agg #[.int .i64 r, .slice ao n cap, .slice mo mn mc, .slice eo en ec], .int .u32 s, .func (.func 42) #[] #[.pointer (some ⟨w.heap.size + 5, 0, none⟩), .pointer (some ⟨w.heap.size + 4, 0, none⟩)], tv (g i), undef, undef, undef, undef, undef, undef, undef, undef, undef, undef, undef], defers := [] })
    (fun i a' _ X Y row hz hg hr => by
      obtain ⟨b, z2, z3⟩ := hz
      exact ⟨b, block_on z2 hg hr, z3⟩)
    ?assign ?body ?done ?stop
  case assign =>
    rintro l pre i W K ⟨⟨m, z1, z2, z3, z4⟩, hB⟩ hK
    unfold tv
    gi_wp2
    exact hK _ _ (SameFrom.alloc _ _) ⟨(Below.refl _ _).alloc hB.size _, fun o ho => (Below.heap_alloc _ _ _ (Array.getElem?_eq_some_iff.1 ho).1).trans ho⟩ ⟨⟨m, z1, z2.alloc _, z3.alloc _, z4.alloc _⟩, hB.alloc hB.size _⟩ ⟨W.heap.size, heap_alloc_new _ _, rfl⟩
  case body =>
    rintro l pre i a' W ⟨⟨m, z1, z2, z3, z4⟩, hB⟩ ⟨b, hbl, rfl⟩ hlt
    unfold tvBox at hbl
    have p0 := blk_cell hbl 0
    have n0 := z2.cell
    have h1' : 1 ≤ 6 - 1 - 1 := by omega
    have hM := hid fun X => multiple_any m (g i 0) X
    have hsn := hid (show roundF (fun i => g i 0) 1 (pre ++ [i]) = if (multR m (g i 0)).2 then some (multR m (g i 0)).1 else none by rw [roundF_append, z1]; rfl)
    have Z2 := hid z2
    have Z3 := hid z3
    have Z4 := hid z4
    have HB := hid hB
    clear z1 z2 z3 z4 hB
    obtain ⟨⟨q, ok⟩, hx⟩ : ∃ y, multR m (g i 0) = y := ⟨_, rfl⟩
    rw [hx] at hM hsn
    clear hx
    cases ok
    · gi_wp2_with (refine ⟨trivial, ?_⟩; gi_at_call 28; refine (CallsIn.inRound l (callsIn_wide.2 (hM.out _))).mono ?_; rintro e w' ⟨rfl, hb'⟩; have v2 := Boxed.kept Z2.out (below_grownBy hb') (by simp); have v3 := Boxed.kept Z3.out (below_grownBy hb') (by simp); have v4 := Boxed.kept Z4.out (below_grownBy hb') (by simp); have e2 := v2.cell; have f2 := v2.frozen; have e3 := v3.cell; have f3 := v3.frozen; have e4 := v4.cell; have f4 := v4.frozen)
      have ho2 : ∀ o, W.heap[w.heap.size + 4]? = some o → ((w'.setCell ⟨w.heap.size + 1, 0, none⟩ (.int .i64 0)).setCell ⟨w.heap.size + 2, 0, none⟩ (.bool false)).heap[w.heap.size + 4]? = some o := fun o ho =>
        (Below.heap_setCell _ _ _ _ (by show w.heap.size + 4 ≠ w.heap.size + 2; omega)).trans ((Below.heap_setCell _ _ _ _ (by show w.heap.size + 4 ≠ w.heap.size + 1; omega)).trans ((hb'.block _ (Array.getElem?_eq_some_iff.1 ho).1).trans ho))
      have hBW : Below w.heap.size W ((w'.setCell ⟨w.heap.size + 1, 0, none⟩ (.int .i64 0)).setCell ⟨w.heap.size + 2, 0, none⟩ (.bool false)) := ((hb'.mono HB.out.size).setCell (p := ⟨w.heap.size + 1, 0, none⟩) (by show w.heap.size ≤ w.heap.size + 1; omega) _).setCell (p := ⟨w.heap.size + 2, 0, none⟩) (by show w.heap.size ≤ w.heap.size + 2; omega) _
      have hsf : SameFrom W0.heap.size W ((w'.setCell ⟨w.heap.size + 1, 0, none⟩ (.int .i64 0)).setCell ⟨w.heap.size + 2, 0, none⟩ (.bool false)) := ((SameFrom.of_below hb').trans (SameFrom.set _ (p := ⟨w.heap.size + 1, 0, none⟩) (by show w.heap.size + 1 < _; omega) _)).trans (SameFrom.set _ (p := ⟨w.heap.size + 2, 0, none⟩) (by show w.heap.size + 2 < _; omega) _)
      exact ⟨hsf, ⟨hBW, ho2⟩, ⟨rfl, by rw [hsn.out]; rfl, (v3.set _).other (by omega) _, (v4.other (by omega) _).set _⟩, HB.out.trans hBW⟩
    · gi_wp2_with (refine ⟨trivial, ?_⟩; gi_at_call 28; refine (CallsIn.inRound l (callsIn_wide.2 (hM.out _))).mono ?_; rintro e w' ⟨rfl, hb'⟩; have v2 := Boxed.kept Z2.out (below_grownBy hb') (by simp); have v3 := Boxed.kept Z3.out (below_grownBy hb') (by simp); have v4 := Boxed.kept Z4.out (below_grownBy hb') (by simp); have e2 := v2.cell; have f2 := v2.frozen; have e3 := v3.cell; have f3 := v3.frozen; have e4 := v4.cell; have f4 := v4.frozen)
      have ho2 : ∀ o, W.heap[w.heap.size + 4]? = some o → (w'.setCell ⟨w.heap.size + 3, 0, none⟩ (.int .i64 q)).heap[w.heap.size + 4]? = some o := fun o ho =>
        (Below.heap_setCell _ _ _ _ (by show w.heap.size + 4 ≠ w.heap.size + 3; omega)).trans ((hb'.block _ (Array.getElem?_eq_some_iff.1 ho).1).trans ho)
      have hBW : Below w.heap.size W (w'.setCell ⟨w.heap.size + 3, 0, none⟩ (.int .i64 q)) := (hb'.mono HB.out.size).setCell (p := ⟨w.heap.size + 3, 0, none⟩) (by show w.heap.size ≤ w.heap.size + 3; omega) _
      have hsf : SameFrom W0.heap.size W (w'.setCell ⟨w.heap.size + 3, 0, none⟩ (.int .i64 q)) := (SameFrom.of_below hb').trans (SameFrom.set _ (p := ⟨w.heap.size + 3, 0, none⟩) (by show w.heap.size + 3 < _; omega) _)
      exact ⟨hsf, ⟨hBW, ho2⟩, ⟨q, by rw [hsn.out]; rfl, v2.set _, v3.other (by omega) _, v4.other (by omega) _⟩, HB.out.trans hBW⟩
  case done =>
    rintro D ys W hD rfl ⟨⟨m, z1, z2, z3, z4⟩, hB⟩ hK
    have e2 := z2.cell
    have e3 := z3.cell
    have e4 := z4.cell
    have f3 := z3.frozen
    have f4 := z4.frozen
    gi_wp2
    have hK' : ((W.setCell ⟨w.heap.size + 1, 0, none⟩ (.int .i64 m)).setCell ⟨w.heap.size + 2, 0, none⟩ (.bool true)).heap[D]? = some (.deferred (some [])) := ((KeepsOthers.setCell W ⟨w.heap.size + 1, 0, none⟩ (.int .i64 m)).trans (KeepsOthers.setCell _ ⟨w.heap.size + 2, 0, none⟩ (.bool true))).same D _ hK rfl
    refine ⟨by simp, .inl ⟨_, _, rfl, run_takeDeferred hK', ?_⟩⟩
    have v3 : Boxed ((W.setCell ⟨w.heap.size + 1, 0, none⟩ (.int .i64 m)).setCell ⟨w.heap.size + 2, 0, none⟩ (.bool true)) (w.heap.size + 1) 3 (.int .i64 m) := (z3.set _).other (by omega) _
    have v4 : Boxed ((W.setCell ⟨w.heap.size + 1, 0, none⟩ (.int .i64 m)).setCell ⟨w.heap.size + 2, 0, none⟩ (.bool true)) (w.heap.size + 2) 4 (.bool true) := (z4.other (by omega) _).set _
    have g0 := cell_kept v3.cell (grownBy_putObj' _ D (.deferred none)) (fun r e => by cases e; exact ⟨_, hK', rfl⟩)
    have g1 := cell_kept v4.cell (grownBy_putObj' _ D (.deferred none)) (fun r e => by cases e; exact ⟨_, hK', rfl⟩)
    refine ⟨rv (m, true), ?_, by unfold roundR; rw [z1], ((hB.setCell (p := ⟨w.heap.size + 1, 0, none⟩) (by show w.heap.size ≤ w.heap.size + 1; omega) _).setCell (p := ⟨w.heap.size + 2, 0, none⟩) (by show w.heap.size ≤ w.heap.size + 2; omega) _).trans (belowK_b (w := w) (Nat.le_refl _) _ D _ _ (by omega) hK' rfl rfl)⟩
    simp [results, Tryd.f14, go_sem, g0, g1]
  case stop =>
    rintro D c pre W hD hpre ⟨⟨rfl, z1, z3, z4⟩, hB⟩ hK
    gi_wp2
    refine ⟨by simp, .inl ⟨_, _, rfl, run_takeDeferred hK, ?_⟩⟩
    have g0 := cell_kept z3.cell (grownBy_putObj' _ D (.deferred none)) (fun r e => by cases e; exact ⟨_, hK, rfl⟩)
    have g1 := cell_kept z4.cell (grownBy_putObj' _ D (.deferred none)) (fun r e => by cases e; exact ⟨_, hK, rfl⟩)
    refine ⟨rv (0, false), ?_, by unfold roundR; rw [roundF_prefix hpre z1], hB.trans (belowK_b (w := w) (Nat.le_refl _) W D _ _ (by omega) hK rfl rfl)⟩
    simp [results, Tryd.f14, go_sem, g0, g1]
end Go.Proofs.YtijnpkbijljnlaaDoor
