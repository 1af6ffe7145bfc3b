/-
  check.Sum over an iterator that is shown for this very caller: what it is told of so far has a sum.
-/
import Derived.Test.YtmjfodaoeeepcaaCheckSum
import Derived.Test.YtmjfodaoeeepcaaTurn
namespace Go.Proofs.Ytmjfodaoeeepcaa
open Go.RowKit Go.Shelf
attribute [local go_sem] Oper.semAt_some
def encS (x : Int) : Array Value := #[.int .i64 x]
/-- The sum's own cells: so far there is one. -/
def SumI (w : World) (pre : List Int) (W : World) : Prop :=
  (∃ s, sumF 0 pre = some s ∧ W.cell? ⟨w.heap.size + 1 + 1, 0, none⟩ = some (.int .i64 s) ∧ W.frozen? ⟨w.heap.size + 1 + 1, 0, none⟩ = false ∧ W.cell? ⟨w.heap.size, 0, none⟩ = some (.int .i64 0) ∧ W.frozen? ⟨w.heap.size, 0, none⟩ = false ∧ W.cell? ⟨w.heap.size + 1, 0, none⟩ = some (.bool false) ∧ W.frozen? ⟨w.heap.size + 1, 0, none⟩ = false) ∧ Below w.heap.size w W
def SumI2 (w : World) (p : List Int × Int) (W : World) : Prop := SumI w (p.1 ++ [p.2]) W
def SumX (w : World) (xs : List Int) (c : Code) (p : List Int × Int) (W : World) : Prop :=
  (c = .ret ∧ sumF 0 (p.1 ++ [p.2]) = none ∧ p.1 ++ [p.2] <+: xs ∧ W.cell? ⟨w.heap.size, 0, none⟩ = some (.int .i64 0) ∧ W.cell? ⟨w.heap.size + 1, 0, none⟩ = some (.bool false)) ∧ Below w.heap.size w W
theorem sumI_own (w : World) {d : Nat} (hd : w.heap.size ≤ d) : OwnFrom d (SumI w) :=
  OwnFrom.and (Own.from (fun _ _ _ _ hs hg hr => by
      obtain ⟨s, h1, h2, h3, h4, h5, h6, h7⟩ := hs
      exact ⟨s, h1, cell_kept h2 hg hr, (frozen_kept h2 hg hr).trans h3, cell_kept h4 hg hr, (frozen_kept h4 hg hr).trans h5, cell_kept h6 hg hr, (frozen_kept h6 hg hr).trans h7⟩) _) (ownFrom_below (Nat.le_refl _) hd)
theorem sumI2_own (w : World) {d : Nat} (hd : w.heap.size ≤ d) : OwnFrom d (SumI2 w) :=
  OwnFrom.and (Own.from (fun _ _ _ _ hs hg hr => by
      obtain ⟨s, h1, h2, h3, h4, h5, h6, h7⟩ := hs
      exact ⟨s, h1, cell_kept h2 hg hr, (frozen_kept h2 hg hr).trans h3, cell_kept h4 hg hr, (frozen_kept h4 hg hr).trans h5, cell_kept h6 hg hr, (frozen_kept h6 hg hr).trans h7⟩) _) (ownFrom_below (Nat.le_refl _) hd)
theorem sumX_own (w : World) (xs : List Int) (c : Code) {d : Nat} (hd : w.heap.size ≤ d) : OwnFrom d (SumX w xs c) :=
  OwnFrom.and (Own.from (fun _ _ _ _ hs hg hr => ⟨hs.1, hs.2.1, hs.2.2.1, cell_kept hs.2.2.2.1 hg hr, cell_kept hs.2.2.2.2 hg hr⟩) _) (ownFrom_below (Nat.le_refl _) hd)
theorem SumI.kept {w X Y : World} {pre : List Int} {row : Option Nat} (h : SumI w pre X) (hg : X.grownBy Y row) (hr : row = none) : SumI w pre Y := by
  subst hr
  obtain ⟨⟨s, h1, h2, h3, h4, h5, h6, h7⟩, hB⟩ := h
  exact ⟨⟨s, h1, cell_kept h2 hg (fun r e => by cases e), (frozen_kept h2 hg (fun r e => by cases e)).trans h3, cell_kept h4 hg (fun r e => by cases e), (frozen_kept h4 hg (fun r e => by cases e)).trans h5, cell_kept h6 hg (fun r e => by cases e), (frozen_kept h6 hg (fun r e => by cases e)).trans h7⟩, hB.grown hg hB.size fun j e => by cases e⟩
/-- The world in which the sum's loop begins. -/
def sumW (w : World) : World := ((w.alloc (.cells #[.int .i64 0] 3)).alloc (.cells #[.bool false] 4)).alloc (.cells #[.int .i64 0] 3)
theorem sumW_size (w : World) : (sumW w).heap.size = w.heap.size + 3 := by simp [sumW]
theorem sumW_is (w : World) : SumI w [] (sumW w) := by
  have c0 := cell_new_l w (.int .i64 0) 3
  have c1 := cell_new_l (w.alloc (.cells #[.int .i64 0] 3)) (.bool false) 4
  have c2 := cell_new_l ((w.alloc (.cells #[.int .i64 0] 3)).alloc (.cells #[.bool false] 4)) (.int .i64 0) 3
  simp only [World.size_alloc] at c1 c2
  exact ⟨⟨0, rfl, c2.1, c2.2, cell_alloc_l _ (cell_alloc_l _ c0.1), frozen_alloc_l _ (cell_alloc_l _ c0.1) (frozen_alloc_l _ c0.1 c0.2), cell_alloc_l _ c1.1, frozen_alloc_l _ c1.1 c1.2⟩, (((Below.refl _ w).alloc (Nat.le_refl _) _).alloc (by simp) _).alloc (by simp; omega) _⟩
set_option maxRecDepth 100000 in
set_option maxHeartbeats 2000000 in
theorem sum_turns (n : Nat) (hn : 4 ≤ n) (gf : Nat) (lb : Array Value) (xs : List Int) (w : World)
    (eg : ∀ args w, (callFunc gf args).run Try.prog w = .ok (.enter gf args) w)
    (hseq : Turns Fence.wide (n - 1) Try.prog gf lb encS (SumI w) (SumI2 w) (SumX w xs) (fun ys => ys = xs) (fun pre x => pre ++ [x] <+: xs) (sumW w)) :
    Calls Try.prog 8 #[.func (.func gf) #[] lb] w fun e W' => e = .returned (rv (rSum xs)) ∧ Below w.heap.size w W' := by
  refine (callsIn_wide (n := n)).1 ?_
  have h1 : 1 ≤ n := by omega
  refine callsIn_of_wp_marks Try.func8 rfl trivial ?_ rfl
  simp only [Try.ntmps8, List.size_toArray, List.length_cons, List.length_nil, Nat.reduceAdd, Nat.reduceSub, Array.replicate_succ, Array.replicate_zero, List.push_toArray, List.append_toArray, List.nil_append, List.cons_append]
  gi_wp2
  have hd : w.heap.size ≤ (sumW w).heap.size := by rw [sumW_size]; omega
  change (Code.rangeFunc _ _ _ _).wpIn _ _ _ _ _ (sumW w)
  refine range_turns rfl h1 (gf := gf) (lb := lb) rfl trivial eg (fun _ => rfl) hseq (Calm.of (sumI_own w hd)) (Calm.of (sumI2_own w hd)) (fun c => Calm.of (sumX_own w xs c hd))
    (fun x => { tmps := #[.func (.func gf) #[] lb, undef, .pointer (some ⟨w.heap.size, 0, none⟩), .pointer (some ⟨w.heap.size + 1, 0, none⟩), .pointer (some ⟨w.heap.size + 1 + 1, 0, none⟩), .int .i64 x, undef, undef, .func (.func gf) #[] lb, .int .i64 x, undef, undef, undef, undef, undef, undef, undef, undef, undef, undef], defers := [] }) ?assign ?body ?done ?stop
  case assign =>
    intro l x W K hK
    simp only [encS]
    gi_wp2
    exact hK
  case body =>
    rintro l pre x W ⟨⟨s, h1, h2, h3, h4, h5, h6, h7⟩, hB⟩ hF
    have h1' : 1 ≤ n - 1 - 1 := by omega
    have hA := hid (add_any s x)
    have hs := hid (show sumF 0 (pre ++ [x]) = if (addR s x).2 then some (addR s x).1 else none by rw [sumF_append, h1]; rfl)
    have HF := hid hF
    obtain ⟨⟨m, ok⟩, hx⟩ : ∃ y, addR s x = y := ⟨_, rfl⟩
    rw [hx] at hA hs
    clear hF
    cases ok
    · gi_wp2_with (refine ⟨trivial, ?_⟩; gi_at_call 36; refine (CallsIn.inRound l (callsIn_wide.2 (hA.out _))).mono ?_; rintro e w' ⟨rfl, rfl⟩)
      exact ⟨((KeepsOthers.setCell _ _ _).trans (KeepsOthers.setCell _ _ _)).from _, ⟨rfl, by rw [hs.out]; rfl, HF.out, by simp [go_sem, h4], by simp [go_sem, h6]⟩, (hB.setCell (p := ⟨w.heap.size, 0, none⟩) (Nat.le_refl _) _).setCell (p := ⟨w.heap.size + 1, 0, none⟩) (by simp) _⟩
    · gi_wp2_with (refine ⟨trivial, ?_⟩; gi_at_call 36; refine (CallsIn.inRound l (callsIn_wide.2 (hA.out _))).mono ?_; rintro e w' ⟨rfl, rfl⟩)
      exact ⟨(KeepsOthers.setCell _ _ _).from _, ⟨m, by rw [hs.out]; rfl, World.cell?_setCell_same' _ _ _ (by rw [h2]; rfl), by rw [World.frozen?_setCell]; exact h3, by simp [go_sem, h4], by simp [go_sem, h5], by simp [go_sem, h6], by simp [go_sem, h7]⟩, hB.setCell (p := ⟨w.heap.size + 1 + 1, 0, none⟩) (by simp; omega) _⟩
  case done =>
    rintro D ys W hD rfl ⟨⟨s, h1, h2, h3, h4, h5, h6, h7⟩, hB⟩ hK
    gi_wp2
    have hK' := ((KeepsOthers.setCell W ⟨w.heap.size, 0, none⟩ (.int .i64 s)).trans (KeepsOthers.setCell _ ⟨w.heap.size + 1, 0, none⟩ (.bool true))).same D _ hK rfl
    refine ⟨by simp, .inl ⟨_, _, rfl, run_takeDeferred hK', ?_⟩⟩
    have e0 : ((W.setCell ⟨w.heap.size, 0, none⟩ (.int .i64 s)).setCell ⟨w.heap.size + 1, 0, none⟩ (.bool true)).cell? ⟨w.heap.size, 0, none⟩ = some (.int .i64 s) := by simp [go_sem, h4]
    have e1 : ((W.setCell ⟨w.heap.size, 0, none⟩ (.int .i64 s)).setCell ⟨w.heap.size + 1, 0, none⟩ (.bool true)).cell? ⟨w.heap.size + 1, 0, none⟩ = some (.bool true) := by simp [go_sem, h6]
    have g0 := cell_kept e0 (grownBy_putObj' _ D (.deferred none)) (fun r e => by cases e; exact ⟨_, hK', rfl⟩)
    have g1 := cell_kept e1 (grownBy_putObj' _ D (.deferred none)) (fun r e => by cases e; exact ⟨_, hK', rfl⟩)
    refine ⟨rv (s, true), ?_, by unfold rSum; rw [h1], ((hB.setCell (p := ⟨w.heap.size, 0, none⟩) (Nat.le_refl _) _).setCell (p := ⟨w.heap.size + 1, 0, none⟩) (by simp) _).trans (belowK_b (w := w) (Nat.le_refl _) _ D _ _ (by omega) hK' rfl rfl)⟩
    simp [results, Try.f8, go_sem, g0, g1]
  case stop =>
    rintro D c p W hD ⟨⟨rfl, hin, hpre, hc0, hc1⟩, hB⟩ hK
    gi_wp2
    refine ⟨by simp, .inl ⟨_, _, rfl, run_takeDeferred hK, ?_⟩⟩
    have g0 := cell_kept hc0 (grownBy_putObj' _ D (.deferred none)) (fun r e => by cases e; exact ⟨_, hK, rfl⟩)
    have g1 := cell_kept hc1 (grownBy_putObj' _ D (.deferred none)) (fun r e => by cases e; exact ⟨_, hK, rfl⟩)
    refine ⟨rv (0, false), ?_, by unfold rSum; rw [sumF_prefix hpre hin], hB.trans (belowK_b (w := w) (Nat.le_refl _) W D _ _ (by omega) hK rfl rfl)⟩
    simp [results, Try.f8, go_sem, g0, g1]
end Go.Proofs.Ytmjfodaoeeepcaa
