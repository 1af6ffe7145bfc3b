/-
  How much of all time a set's tasks ask for, in thousandths: the walk.
-/
import Derived.Test.YtijnpkbijljnlaaDoorLoadRound
namespace Go.Proofs.YtijnpkbijljnlaaDoor
open Go.RowKit Go.Shelf
attribute [local go_sem] Oper.semAt_some
/-- What one task asks for. -/
def ofA (x : Nat → Int) : Int := 1000 * min (max (x 2) 0) 4096
def ofV (x : Nat → Int) : Int := if (upR (ofA x) (x 0)).2 then (upR (ofA x) (x 0)).1 else 0
theorem ofA_bd (x : Nat → Int) : 0 ≤ ofA x ∧ ofA x ≤ 4096000 := by unfold ofA; omega
theorem up_bd {a b : Int} (ha : 0 ≤ a) (hM : a ≤ 4096000) (h : (upR a b).2 = true) : 0 ≤ (upR a b).1 ∧ (upR a b).1 ≤ 4096000 := by
  unfold upR at h ⊢
  split
  · rename_i hc
    simp only [Bool.and_eq_true, Bool.not_eq_true', beq_eq_false_iff_ne] at hc
    obtain ⟨⟨_, hb⟩, hb0⟩ := hc
    have := inB_yes hb
    have hb1 : 1 ≤ b := by omega
    refine ⟨Int.ediv_nonneg (by omega) (by omega), ?_⟩
    show (a + b - 1) / b ≤ 4096000
    have : (a + b - 1) / b ≤ a := by
      rcases (show a = 0 ∨ 1 ≤ a by omega) with rfl | h1
      · rw [up_zero hb1]; omega
      · rw [← up_eq hb1]
        have := Int.ediv_le_self (a := a - 1) b (by omega)
        omega
    omega
  · rename_i hc; rw [if_neg hc] at h; cases h
theorem ofV_bd (x : Nat → Int) : 0 ≤ ofV x ∧ ofV x ≤ 4096000 := by
  unfold ofV
  split
  · rename_i h
    exact up_bd (ofA_bd x).1 (ofA_bd x).2 h
  · omega
def ofS (g : Nat → Nat → Int) (l : List Nat) : Int := (l.map fun i => ofV (g i)).sum
theorem ofS_snoc (g : Nat → Nat → Int) (l : List Nat) (i : Nat) : ofS g (l ++ [i]) = ofS g l + ofV (g i) := by simp [ofS]
theorem ofS_bd (g : Nat → Nat → Int) : ∀ l : List Nat, 0 ≤ ofS g l ∧ ofS g l ≤ 4096000 * l.length
  | [] => by simp [ofS]
  | i :: l => by
    have h := ofS_bd g l
    have hv := ofV_bd (g i)
    simp only [ofS, List.map_cons, List.sum_cons, List.length_cons] at h ⊢
    omega
set_option maxRecDepth 100000 in
set_option maxHeartbeats 2000000 in
theorem of37_any (x : Img) (g : Nat → Nat → Int) (s : Nat) (w : World) (hs : s < 4294967296) (hT : Tasks w x.ao x.n g) (hTab : Tab w) :
    Calls Tryd.prog 15 #[iv x, .int .u32 s] w fun e W' => e = .returned (.int .i64 (ofS g (selT s x.n))) ∧ Below w.heap.size w W' := by
  refine (callsIn_wide (n := 6)).1 ?_
  have h1 : 1 ≤ 6 := by omega
  have HLT := hid (load_tasks_any x s)
  have HST := hid fun (Bi Bs : Nat) (W : World) (hn : w.heap.size ≤ W.heap.size) (hBi : W.heap[Bi]? = some (ivBox x)) (hBs : W.cell? ⟨Bs, 0, none⟩ = some (.int .u32 s)) (hTw : Tasks W x.ao x.n g) (hTb : Tab W) =>
    load_tasks1_stops 5 (by omega) Bi Bs w.heap.size x g s W hs hTab.pos hn hBi hBs hTw (fun b o e h0 => by
      obtain ⟨b', o', e', hb⟩ := hT.form h0
      rw [e] at e'; cases e'; exact hb) hTb
  obtain ⟨r, ao, n, cap, mo, mn, mc, eo, en, ec⟩ := x
  unfold iv at HLT ⊢
  unfold ivBox at HLT HST
  dsimp only at hT HST HLT ⊢
  refine callsIn_of_wp_marks Tryd.func15 rfl trivial ?_ rfl
  simp only [Tryd.ntmps15, List.size_toArray, List.length_cons, List.length_nil, Nat.reduceAdd, Nat.reduceSub, Array.replicate_succ, Array.replicate_zero, List.push_toArray, List.append_toArray, List.nil_append, List.cons_append]
  gi_wp2_with (refine ⟨trivial, ?_⟩; gi_at_call 27; refine (callsIn_wide.2 (HLT.out _)).mono ?_; rintro e w' ⟨rfl, rfl⟩)
  have b1 : Below w.heap.size w (w.alloc (Obj.cells #[.int .i64 r, .slice ao n cap, .slice mo mn mc, .slice eo en ec] 26)) := (Below.refl _ _).alloc (Nat.le_refl _) _
  have x5 : Boxed ((w.alloc (Obj.cells #[.int .i64 r, .slice ao n cap, .slice mo mn mc, .slice eo en ec] 26)).alloc (Obj.cells #[.int .i64 0] 3)) (w.heap.size + 1) 3 (.int .i64 0) := by have := Boxed.new (w.alloc (Obj.cells #[.int .i64 r, .slice ao n cap, .slice mo mn mc, .slice eo en ec] 26)) 3 (.int .i64 0); rwa [World.size_alloc] at this
  have x7 : (((w.alloc (Obj.cells #[.int .i64 r, .slice ao n cap, .slice mo mn mc, .slice eo en ec] 26)).alloc (Obj.cells #[.int .i64 0] 3)).alloc (Obj.cells #[.int .i64 r, .slice ao n cap, .slice mo mn mc, .slice eo en ec] 26)).heap[w.heap.size + 2]? = some (Obj.cells #[.int .i64 r, .slice ao n cap, .slice mo mn mc, .slice eo en ec] 26) := by have := heap_alloc_new ((w.alloc (Obj.cells #[.int .i64 r, .slice ao n cap, .slice mo mn mc, .slice eo en ec] 26)).alloc (Obj.cells #[.int .i64 0] 3)) (Obj.cells #[.int .i64 r, .slice ao n cap, .slice mo mn mc, .slice eo en ec] 26); rwa [World.size_alloc, World.size_alloc] at this
  have x8 : Boxed ((((w.alloc (Obj.cells #[.int .i64 r, .slice ao n cap, .slice mo mn mc, .slice eo en ec] 26)).alloc (Obj.cells #[.int .i64 0] 3)).alloc (Obj.cells #[.int .i64 r, .slice ao n cap, .slice mo mn mc, .slice eo en ec] 26)).alloc (Obj.cells #[.int .u32 s] 28)) (w.heap.size + 3) 28 (.int .u32 s) := by have := Boxed.new (((w.alloc (Obj.cells #[.int .i64 r, .slice ao n cap, .slice mo mn mc, .slice eo en ec] 26)).alloc (Obj.cells #[.int .i64 0] 3)).alloc (Obj.cells #[.int .i64 r, .slice ao n cap, .slice mo mn mc, .slice eo en ec] 26)) 28 (.int .u32 s); rwa [World.size_alloc, World.size_alloc, World.size_alloc] at this
  have y5 := (x5.alloc (Obj.cells #[.int .i64 r, .slice ao n cap, .slice mo mn mc, .slice eo en ec] 26)).alloc (Obj.cells #[.int .u32 s] 28)
  have y7 : ((((w.alloc (Obj.cells #[.int .i64 r, .slice ao n cap, .slice mo mn mc, .slice eo en ec] 26)).alloc (Obj.cells #[.int .i64 0] 3)).alloc (Obj.cells #[.int .i64 r, .slice ao n cap, .slice mo mn mc, .slice eo en ec] 26)).alloc (Obj.cells #[.int .u32 s] 28)).heap[w.heap.size + 2]? = some (Obj.cells #[.int .i64 r, .slice ao n cap, .slice mo mn mc, .slice eo en ec] 26) := (Below.heap_alloc _ _ _ (by simp)).trans x7
  have hB0 : Below w.heap.size w ((((w.alloc (Obj.cells #[.int .i64 r, .slice ao n cap, .slice mo mn mc, .slice eo en ec] 26)).alloc (Obj.cells #[.int .i64 0] 3)).alloc (Obj.cells #[.int .i64 r, .slice ao n cap, .slice mo mn mc, .slice eo en ec] 26)).alloc (Obj.cells #[.int .u32 s] 28)) := ((b1.alloc (by simp) _).alloc (by simp; omega) _).alloc (by simp; omega) _
  have hsz : ((((w.alloc (Obj.cells #[.int .i64 r, .slice ao n cap, .slice mo mn mc, .slice eo en ec] 26)).alloc (Obj.cells #[.int .i64 0] 3)).alloc (Obj.cells #[.int .i64 r, .slice ao n cap, .slice mo mn mc, .slice eo en ec] 26)).alloc (Obj.cells #[.int .u32 s] 28)).heap.size = w.heap.size + 4 := by simp
  clear x5 x7 b1
  obtain ⟨W0, hW0⟩ : ∃ X, X = (((w.alloc (Obj.cells #[.int .i64 r, .slice ao n cap, .slice mo mn mc, .slice eo en ec] 26)).alloc (Obj.cells #[.int .i64 0] 3)).alloc (Obj.cells #[.int .i64 r, .slice ao n cap, .slice mo mn mc, .slice eo en ec] 26)).alloc (Obj.cells #[.int .u32 s] 28) := ⟨_, rfl⟩
  rw [← hW0] at x8 y5 y7 hB0 hsz ⊢
  clear hW0
  have hst := HST.out (w.heap.size + 2) (w.heap.size + 3) W0 (by omega) y7 x8.cell (hT.below hB0) (hTab.below hB0 hTab.pos)
  refine range_seqB rfl h1 (gf := 42) (lb := #[.pointer (some ⟨w.heap.size + 3, 0, none⟩), .pointer (some ⟨w.heap.size + 2, 0, none⟩)]) rfl trivial (enters_of Tryd.func42 (by kernel_rfl) rfl) hst
    KpT.t (KpT.b (by omega) (by omega)) (Below.refl _ _) (fun _ => rfl)
    (fun pre W => Boxed W (w.heap.size + 1) 3 (.int .i64 (ofS g pre)) ∧ Below w.heap.size w W)
    (fun _ _ _ => False)
    (OwnFrom.and (fun z X Y row hz hg hr => boxed_on hz hg hr) (ownFrom_below (Nat.le_refl _) (by omega)))
    (fun _ _ _ _ _ hz _ _ => hz)
    ⟨y5, hB0⟩
    (fun i a' W => ∃ b, W.heap[b]? = some (tvBox (g i)) ∧ a' = { tmps := #[.agg #[.int .i64 r, .slice ao n cap, .slice mo mn mc, .slice eo en ec], .int .u32 s, .pointer (some ⟨w.heap.size, 0, none⟩), undef, .int .i64 0, .pointer (some ⟨w.heap.size + 1, 0, none⟩), .pointer (some ⟨b, 0, none⟩), undef, undef, .agg #[.int .i64 r, .slice ao n cap, .slice mo mn mc, .slice eo en ec], .int .u32 s, .func (.func 42) #[] #[.pointer (some ⟨w.heap.size + 3, 0, none⟩), .pointer (some ⟨w.heap.size + 2, 0, none⟩)], tv (g i), undef, undef, undef, undef, undef, undef, undef, undef, undef, undef, undef, undef, undef, undef, undef, undef, undef], defers := [] })
    (fun i a' _ X Y row hz hg hr => by
      obtain ⟨b, z2, z3⟩ := hz
      exact ⟨b, block_on z2 hg hr, z3⟩)
    ?assign ?body ?done ?stop
  case assign =>
    rintro l pre i W K ⟨z2, hB⟩ hK
    unfold tv
    gi_wp2
    exact hK _ _ (SameFrom.alloc _ _) ⟨(Below.refl _ _).alloc hB.size _, fun o ho => (Below.heap_alloc _ _ _ (Array.getElem?_eq_some_iff.1 ho).1).trans ho⟩ ⟨z2.alloc _, hB.alloc hB.size _⟩ ⟨W.heap.size, heap_alloc_new _ _, rfl⟩
  case body =>
    rintro l pre i a' W ⟨z2, hB⟩ ⟨b, hbl, rfl⟩ hlt
    unfold tvBox at hbl
    have p0 := blk_cell hbl 0
    have p2 := blk_cell hbl 2
    have h1' : 1 ≤ 6 - 1 - 1 := by omega
    have hbd := ofA_bd (g i)
    have hM := hid fun (X : World) (a : Int) (h : a = ofA (g i)) => (show Calls Tryd.prog 29 #[.int .i64 a, .int .i64 (g i 0)] X fun e w' => e = .returned (rv (upR (ofA (g i)) (g i 0))) ∧ X = w' by rw [h]; exact up_any (ofA (g i)) (g i 0) X)
    have hw1 : IntKind.i64.wrap (1000 * min (max (g i 2) 0) 4096) = ofA (g i) := IntWalk.i64_in _ (by unfold ofA at hbd; omega)
    have hsb := ofS_bd g pre
    have hvb := ofV_bd (g i)
    have hsum : IntKind.i64.wrap (ofS g pre + ofV (g i)) = ofS g (pre ++ [i]) := by rw [ofS_snoc]; exact IntWalk.i64_in _ (by omega)
    have hsk : ofV (g i) = 0 → ofS g (pre ++ [i]) = ofS g pre := fun h => by rw [ofS_snoc, h]; omega
    obtain ⟨⟨q, ok⟩, hx⟩ : ∃ y, upR (ofA (g i)) (g i 0) = y := ⟨_, rfl⟩
    have hv : ofV (g i) = if ok then q else 0 := by unfold ofV; rw [hx]
    rw [hx] at hM
    have Z2 := hid z2
    have HB := hid hB
    have n0 := z2.cell
    have f0 := z2.frozen
    clear hx z2 hB hvb hsb hbd
    have HSK := hid hsk
    clear hsk
    cases ok
    · rw [if_neg (by simp)] at hv
      have he := hid (HSK.out hv)
      clear hsum hv
      gi_wp2_with (refine ⟨trivial, ?_⟩; gi_at_call 29; refine (CallsIn.inRound l (callsIn_wide.2 (hM.out _ _ (by unfold ofA; omega)))).mono ?_; rintro e w' ⟨rfl, rfl⟩)
      all_goals exact ⟨SameFrom.refl _ _, ⟨Below.refl _ _, fun o ho => ho⟩, by rw [he.out]; exact Z2.out, HB.out⟩
    · rw [if_pos rfl] at hv
      rw [hv] at hsum
      clear hv
      gi_wp2_with (refine ⟨trivial, ?_⟩; gi_at_call 29; refine (CallsIn.inRound l (callsIn_wide.2 (hM.out _ _ (by unfold ofA; omega)))).mono ?_; rintro e w' ⟨rfl, rfl⟩)
      all_goals have ho2 : ∀ o, W.heap[w.heap.size + 2]? = some o → (W.setCell ⟨w.heap.size + 1, 0, none⟩ (.int .i64 (ofS g (pre ++ [i])))).heap[w.heap.size + 2]? = some o := fun o ho =>
        (Below.heap_setCell _ _ _ _ (by show w.heap.size + 2 ≠ w.heap.size + 1; omega)).trans ho
      all_goals have hBW : Below w.heap.size W (W.setCell ⟨w.heap.size + 1, 0, none⟩ (.int .i64 (ofS g (pre ++ [i])))) := (Below.refl _ _).setCell (p := ⟨w.heap.size + 1, 0, none⟩) (by show w.heap.size ≤ w.heap.size + 1; omega) _
      all_goals exact ⟨SameFrom.set _ (p := ⟨w.heap.size + 1, 0, none⟩) (by show w.heap.size + 1 < _; omega) _, ⟨hBW, ho2⟩, Z2.out.set _, HB.out.trans hBW⟩
  case done =>
    rintro D ys W hD rfl ⟨z2, hB⟩ hK
    have e2 := z2.cell
    gi_wp2
    refine ⟨by simp, .inl ⟨_, _, rfl, run_takeDeferred hK, ?_⟩⟩
    exact ⟨_, results_tmp rfl _ _ _, rfl, hB.trans (belowK_b (w := w) (Nat.le_refl _) W D _ _ (by omega) hK rfl rfl)⟩
  case stop =>
    rintro D c pre W _ _ h _
    exact h.elim
end Go.Proofs.YtijnpkbijljnlaaDoor
