/-
  Contract of the law's own function list of layer 7, over whatever iterator: a slice of all that come.
-/
import Derived.RangeFuncNested
import Derived.RangeFuncBound
import Derived.RangeFuncCalls
import Derived.RangeFuncLeaves
import Derived.RangeFuncFrom
import Derived.RangeFuncBox
import Derived.Maps.AppendAt
import Derived.Shelf.Abstract
import Derived.Shelf.RegionOpen
import Derived.WalkKit
import Derived.OwnWalkIn
import Derived.TacticsInMore
import Derived.LoopNIn
import Derived.LoopIn
import Derived.ProofKit
import Derived.Test.YtgcpfmdldgmbnaaPair
import Derived.Test.YtgcpfmdldgmbnaaRow
namespace Go.Proofs.Ytgcpfmdldgmbnaa
open Go.RowKit Go.Shelf
attribute [local go_sem] Oper.semAt_some
/-- The cells of what is to be programmed. -/
def cellsW (xs : List (Int × BitVec 32)) : List Value := xs.flatMap fun x => [.int .i64 x.1, .int .u32 (B x.2)]
theorem cellsW_snoc (pre : List (Int × BitVec 32)) (x : Int × BitVec 32) : cellsW (pre ++ [x]) = cellsW pre ++ [.int .i64 x.1, .int .u32 (B x.2)] := by simp [cellsW]
theorem infoW : (Try.prog.info? 88).map (fun i => (i.zero, i.size, i.bytes)) = some (some (.agg #[.int .i64 0, .int .u32 0]), 2, 16) := by kernel_rfl
theorem cells_own {X Y : World} {row : Option Nat} {b : Nat} {cs : Array Value} {t : TypeId} (h : X.heap[b]? = some (.cells cs t (0, 0))) (hg : X.grownBy Y row) (hr : ∀ r, row = some r → ∃ o, X.heap[r]? = some o ∧ o.isCells = false) : Y.heap[b]? = some (.cells cs t (0, 0)) := by
  refine (hg.block b (Array.getElem?_eq_some_iff.1 h).1 fun e => ?_).trans h
  obtain ⟨o, ho, hc⟩ := hr b e.symm
  rw [h] at ho; cases ho; cases hc
theorem cells_at {W : World} {b : Nat} {cs : Array Value} {t : TypeId} (h : W.heap[b]? = some (.cells cs t (0, 0))) (j : Nat) : W.cell? ⟨b, j, none⟩ = cs[j]? := by simp [World.cell?, h]
theorem room_free {F : Fence} (hd : F.depth = none) (k : Nat) : F.room k := fun d h => by rw [hd] at h; cases h
/-- Where no depth is asked the figures are all one. -/
theorem round_free {F : Fence} (hd : F.depth = none) {m m' : Nat} {P : Program} {l : Nat} {f : FuncId} {tmps : Array Value} {assign body : Code} {w : World} {R : Ending → World → Prop}
    (h : RoundIn F m P l f tmps assign body w R) : RoundIn F m' P l f tmps assign body w R := ⟨h.1, fun c cs _ => h.2 c cs (room_free hd _)⟩
theorem yield_free {F : Fence} (hd : F.depth = none) {m : Nat} (m' : Nat) {P : Program} {l : Nat} {args : Array Value} {W : World} {R : Ending → World → Prop} (h : YieldAt F m P l args W R) : YieldAt F m' P l args W R := by
  obtain ⟨fn, tmps, assign, body, hy, hR⟩ := h
  exact ⟨fn, tmps, assign, body, hy, round_free hd hR⟩
/-- What a round keeps: whatever lay below, and every pair. -/
def KpP (n₀ : Nat) (W W' : World) : Prop := Below n₀ W W' ∧ ∀ (b : Nat) (cs : Array Value), W.heap[b]? = some (Obj.cells cs 24 (0, 0)) → W'.heap[b]? = some (Obj.cells cs 24 (0, 0))
theorem KpP.t {n₀ : Nat} {A B C : World} (h : KpP n₀ A B) (k : KpP n₀ B C) : KpP n₀ A C := ⟨h.1.trans k.1, fun b cs hb => k.2 b cs (h.2 b cs hb)⟩
theorem KpP.b {n₀ : Nat} {w : World} (hn : n₀ ≤ w.heap.size) (W : World) (l : Nat) (o o' : Obj) (hl : w.heap.size ≤ l) (h : W.heap[l]? = some o) (hc : o.isCells = false) (hw : o.isWalk = false) : KpP n₀ W (W.putObj l o') :=
  ⟨belowK_b hn W l o o' hl h hc hw, fun b cs hb => cells_own hb (grownBy_putObj' W l o') (fun r e => by cases e; exact ⟨o, h, hc⟩)⟩
theorem KpP.alloc {n₀ : Nat} {W : World} (h : n₀ ≤ W.heap.size) (o : Obj) : KpP n₀ W (W.alloc o) := ⟨(Below.refl _ _).alloc h o, fun b cs hb => (Below.heap_alloc W o b (Array.getElem?_eq_some_iff.1 hb).1).trans hb⟩
/-- An append to a row of words, stored into its box. -/
theorem KpP.appended {W w1 : World} {n₀ B : Nat} {v v' : Value} {k : Nat} {xs : List Value} {tmp : Obj} (hv : Boxed W B 81 v) (hrow : W.ownsRow n₀ 88 2 v k xs) (hgrow : (W.alloc tmp).grownBy w1 v.ownBlock)
    (hb : Below n₀ W (w1.setCell ⟨B, 0, none⟩ v')) : KpP n₀ W (w1.setCell ⟨B, 0, none⟩ v') := ⟨hb, fun b cs hc => by
  have hlt := (Array.getElem?_eq_some_iff.1 hc).1
  have h1 : (W.alloc tmp).heap[b]? = some (.cells cs 24 (0, 0)) := (Below.heap_alloc W tmp b hlt).trans hc
  have hB : b ≠ B := by
    rintro rfl
    have := (show W.heap[b]? = _ from hv).symm.trans hc
    simp at this
  have hne : some b ≠ v.ownBlock := by
    rcases hrow.2 with ⟨rfl, _⟩ | ⟨g, cap, cur, rfl, _, hgb, _⟩
    · simp [Value.ownBlock]
    · intro e
      obtain rfl : b = g := by simpa [Value.ownBlock] using e
      rw [hgb] at hc; simp at hc
  exact (Below.heap_setCell w1 ⟨B, 0, none⟩ v' b hB).trans ((hgrow.block b (Array.getElem?_eq_some_iff.1 h1).1 hne).trans h1)⟩
set_option maxRecDepth 100000 in
set_option maxHeartbeats 2000000 in
theorem list_in (n : Nat) (hn : 4 ≤ n) (gf : Nat) (lb : Array Value) (xs : List (Int × BitVec 32)) (w : World) (hlen : xs.length ≤ 100)
    (eg : ∀ args w, (callFunc gf args).run Try.prog w = .ok (.enter gf args) w)
    (hseq : SeqStopsK Fence.wide (n - 1) Try.prog gf lb (fun x : Int × BitVec 32 => #[.agg #[.int .i64 x.1, .int .u32 (B x.2)]]) (KpP w.heap.size) (fun ys => ys = xs) (fun pre => pre <+: xs) xs.length w) :
    Calls Try.prog 61 #[.func (.func gf) #[] lb] w fun e W' => ∃ v, e = .returned v ∧ W'.ownsRow w.heap.size 88 2 v xs.length (cellsW xs) ∧ Below w.heap.size w W' := by
  refine (callsIn_wide (n := n)).1 ?_
  have h1 : 1 ≤ n := by omega
  obtain ⟨i0, hi, hz0, hz1, hz2⟩ := info_parts infoW
  refine callsIn_of_wp_marks Try.func61 rfl trivial ?_ rfl
  simp only [Try.ntmps61, List.size_toArray, List.length_cons, List.length_nil, Nat.reduceAdd, Nat.reduceSub, Array.replicate_succ, Array.replicate_zero, List.push_toArray, List.append_toArray, List.nil_append, List.cons_append]
  have hnil : ∀ w, (binOp .eql 84 (.func (.func gf) #[] lb) .nilFunc).run Try.prog w = .ok (.bool false) w := fun _ => by first | kernel_rfl | rfl
  gi_wp2
  have hB0 : Below w.heap.size w (w.alloc (.cells #[.slice none 0 0] 81)) := (Below.refl _ w).alloc (Nat.le_refl _) _
  refine wpIn_rangeFunc_ownH rfl h1 (gf := gf) (lb := lb) rfl trivial eg hseq KpP.t (KpP.b (by simp)) hB0 (fun _ => rfl)
    (fun pre W => (∃ v, Boxed W w.heap.size 81 v ∧ W.ownsRow w.heap.size 88 2 v pre.length (cellsW pre) ∧ True) ∧ Below w.heap.size w W)
    (fun _ _ _ => False)
    (OwnFrom.and (Own.from (holdsRow_own w.heap.size w.heap.size 81 88 2 (fun pre : List (Int × BitVec 32) => pre.length) cellsW (fun _ _ => True)) _) (ownFrom_below (Nat.le_refl _) (by simp)))
    (fun _ _ _ _ _ hs _ _ => hs)
    ⟨⟨_, Boxed.new w _ _, World.ownsRow_nil _ _ _ _, trivial⟩, hB0⟩
    (fun x a' W => ∃ Bx, w.heap.size < Bx ∧ W.heap[Bx]? = some (.cells #[.int .i64 x.1, .int .u32 (B x.2)] 88 (0, 0)) ∧ a' = { tmps := #[.func (.func gf) #[] lb, undef, .slice none 0 0, .pointer (some ⟨w.heap.size, 0, none⟩), .pointer (some ⟨Bx, 0, none⟩), .func (.func gf) #[] lb, .bool false, undef, .func (.func gf) #[] lb, .agg #[.int .i64 x.1, .int .u32 (B x.2)], undef, undef, undef, undef, undef], defers := [] })
    (fun x a' _ X Y row hs hg hr => by obtain ⟨Bx, h1, h2, h3⟩ := hs; exact ⟨Bx, h1, cells_own h2 hg (fun r e => (hr r e).2), h3⟩)
    ?assign ?body ?done ?stop
  case assign =>
    rintro l pre x W K ⟨⟨v, hv, hrow, _⟩, hB⟩ hK
    gi_wp2
    exact hK _ _ ((KeepsOthers.alloc _ _).from _) (KpP.alloc hB.size _) ⟨⟨v, hv.alloc _, hrow.alloc _, trivial⟩, hB.alloc hB.size _⟩ ⟨W.heap.size, hv.lt, World.alloc_heap_new W _, rfl⟩
  case body =>
    rintro l pre x a' W hl ⟨r, hr⟩ ⟨⟨v, hv, hrow, _⟩, hB⟩ ⟨Bx, hBx, hbx, rfl⟩ hlt
    have hc := hv.cell
    have x0 := cells_at hbx 0
    have x1 := cells_at hbx 1
    simp only [List.getElem?_toArray, List.getElem?_cons_zero, List.getElem?_cons_succ] at x0 x1
    have hnews : ∀ (j : Nat) (u : Value), [Value.int .i64 x.1, .int .u32 (B x.2)][j]? = some u → (W.alloc (Obj.cells #[Value.int .i64 x.1, .int .u32 (B x.2)] 88)).cell? ((⟨W.heap.size, 0, none⟩ : Addr).add j) = some u := fun j u hj => by
      rw [add_off, Nat.zero_add, World.cell?_alloc_at _ _ _ _ rfl]; simpa using hj
    gi_wp2_with (gi_at_builtin; refine wpListIn_append_own _ rfl _ _ 81 rfl w.heap.size 88 i0 (.agg #[.int .i64 0, .int .u32 0]) 2 16 Try.underlying81 hi hz0 hz1 hz2 rfl (by decide) _ _ _ rfl (hrow.alloc _) ⟨W.heap.size, 0, none⟩ 1 1 [.int .i64 x.1, .int .u32 (B x.2)] rfl rfl hnews (by simp [Value.oneCell']) (by unfold maxLen; omega) (by omega) (by have := hB.size; simp; omega) ?_; intro v' w1 hown' hgrow _; obtain ⟨g', cap', rfl⟩ := ownsRow_succ hown'; obtain ⟨hv1, hv2, hr2, hk2, hb2⟩ := hv.appended (by decide) hrow hB.size (Nat.le_refl _) hown' hgrow; have hc1 := hv1.cell; have hf1 := hv1.frozen)
    exact ⟨hk2.from _, KpP.appended hv hrow hgrow hb2, ⟨_, hv2, by rw [cellsW_snoc]; simpa using hr2, trivial⟩, hB.trans hb2⟩
  case done =>
    rintro D ys W hD rfl ⟨⟨v, hv, hrow, _⟩, hB⟩ hK
    have hc := hv.cell
    gi_wp2
    refine ⟨by simp, .inl ⟨_, _, rfl, run_takeDeferred hK, ?_⟩⟩
    exact ⟨_, results_tmp rfl _ _ _, v, rfl, ownsRow_putObj hrow _ hK rfl, hB.trans (belowK_b (w := w) (Nat.le_refl _) W D _ _ (by simp at hD; omega) hK rfl rfl)⟩
  case stop =>
    rintro D c pre W _ _ h _
    exact h.elim
/-- The two words of a pair. -/
def pairL (a : Int) (x : BitVec 32) : List (Int × BitVec 32) := [(a, x), (a + 1, ~~~x)]
def YieldsW (n₀ N l : Nat) (J Jx : List (Int × BitVec 32) → World → Prop) : Prop := ∀ m pre (x : Int × BitVec 32) W, J pre W → pre.length < N → YieldAt Fence.wide m Try.prog l #[.agg #[.int .i64 x.1, .int .u32 (B x.2)]] W fun e W' =>
      (e = .returned (.bool true) ∧ J (pre ++ [x]) W' ∧ KpP n₀ W W') ∨ (e = .returned (.bool false) ∧ Jx (pre ++ [x]) W')
theorem pairL_pre1 (a : Int) (x : BitVec 32) : [(a, x)] <+: pairL a x := ⟨[(a + 1, ~~~x)], rfl⟩
set_option maxRecDepth 100000 in
set_option maxHeartbeats 2000000 in
/-- The two words of a pair, handed on one behind the other. -/
theorem pairs_in (n : Nat) (hn : 2 ≤ n) (n₀ n₁ N l : Nat) (J Jx : List (Int × BitVec 32) → World → Prop) (hY : YieldsW n₀ N l J Jx)
    (hJ : AbidesFrom n₁ J)
    (a : Int) (x : BitVec 32) (pre : List (Int × BitVec 32)) (W : World) (h0 : 0 ≤ a) (ha : a ≤ 1000) (hn0 : n₀ ≤ W.heap.size) (hp : J pre W) (hN : pre.length + 2 ≤ N) :
    CallsIn Fence.wide n Try.prog 76 #[.func (.yield l) #[] #[], .int .i64 a, .int .u32 (B x)] W fun e W' =>
      (e = .returned (.bool true) ∧ J (pre ++ pairL a x) W' ∧ KpP n₀ W W') ∨ (e = .returned (.bool false) ∧ ∃ q, q <+: pairL a x ∧ Jx (pre ++ q) W') := by
  have h1 : 1 ≤ n := by omega
  have hdd : ∀ k : Nat, (Fence.wide.depth.isSome = true → 1 ≤ k) := fun k h => by cases h
  have g0 : W.grownBy (W.alloc (Obj.cells #[.int .u32 (B x), .int .u32 (B (~~~x))] 24)) none := World.grownBy_alloc W _ none
  have g1 : (W.alloc (Obj.cells #[.int .u32 (B x), .int .u32 (B (~~~x))] 24)).grownBy ((W.alloc (Obj.cells #[.int .u32 (B x), .int .u32 (B (~~~x))] 24)).alloc (Obj.cells #[.int .u32 (B x), .int .u32 (B (~~~x))] 24)) none := World.grownBy_alloc _ _ none
  have hp1 := hJ _ _ _ none (hJ _ _ _ none hp g0 (fun r e => by cases e)) g1 (fun r e => by cases e)
  have k1 : KpP n₀ W ((W.alloc (Obj.cells #[.int .u32 (B x), .int .u32 (B (~~~x))] 24)).alloc (Obj.cells #[.int .u32 (B x), .int .u32 (B (~~~x))] 24)) := (KpP.alloc hn0 _).t (KpP.alloc (by simp; omega) _)
  have hb : ((W.alloc (Obj.cells #[.int .u32 (B x), .int .u32 (B (~~~x))] 24)).alloc (Obj.cells #[.int .u32 (B x), .int .u32 (B (~~~x))] 24)).heap[W.heap.size + 1]? = some (Obj.cells #[.int .u32 (B x), .int .u32 (B (~~~x))] 24 (0, 0)) := by
    have := World.alloc_heap_new (W.alloc (Obj.cells #[.int .u32 (B x), .int .u32 (B (~~~x))] 24)) (Obj.cells #[.int .u32 (B x), .int .u32 (B (~~~x))] 24)
    rwa [World.size_alloc] at this
  generalize hW1 : (W.alloc (Obj.cells #[.int .u32 (B x), .int .u32 (B (~~~x))] 24)).alloc (Obj.cells #[.int .u32 (B x), .int .u32 (B (~~~x))] 24) = W1 at hp1 k1 hb
  have c0 := cells_at hb 0
  have c1 := cells_at hb 1
  simp only [List.getElem?_toArray, List.getElem?_cons_zero, List.getElem?_cons_succ] at c0 c1
  have hz : IntKind.i64.wrap (a + 1) = a + 1 := IntWalk.i64_in _ ⟨by omega, by omega⟩
  have y1 := YieldAt.mono (R' := fun e W2 => (e = .returned (.bool true) ∧ KpP n₀ W W2 ∧ W2.cell? ⟨W.heap.size + 1, 1, none⟩ = some (.int .u32 (B (~~~x))) ∧ YieldAt Fence.wide (n - 1) Try.prog l #[.agg #[.int .i64 (a + 1), .int .u32 (B (~~~x))]] W2 fun e W3 =>
      (e = .returned (.bool true) ∧ J (pre ++ pairL a x) W3 ∧ KpP n₀ W2 W3) ∨ (e = .returned (.bool false) ∧ Jx (pre ++ pairL a x) W3)) ∨ (e = .returned (.bool false) ∧ Jx (pre ++ [(a, x)]) W2))
    (hY (n - 1) pre (a, x) W1 hp1 (by omega)) fun e W2 h => h.elim (fun ⟨he, hj, hk⟩ => .inl ⟨he, k1.t hk, (cells_at (hk.2 _ _ hb) 1).trans rfl, by
      have := hY (n - 1) (pre ++ [(a, x)]) (a + 1, ~~~x) W2 hj (by simp; omega)
      rw [List.append_assoc] at this
      exact this⟩) .inr
  clear hY hJ hp hp1 g0 g1
  obtain ⟨fn, tmps, assign, body, hy, hR⟩ := y1
  refine callsIn_of_wp Try.func76 rfl trivial ?_ rfl
  simp only [Try.ntmps76, List.size_toArray, List.length_cons, List.length_nil, Nat.reduceAdd, Nat.reduceSub, Array.replicate_succ, Array.replicate_zero, List.push_toArray, List.append_toArray, List.nil_append, List.cons_append]
  subst hW1
  gi_wp2_with (first
    | (refine ⟨trivial, ?_⟩; gi_at_call 15; refine (callsIn_wide.2 (of_any x _)).mono ?_; rintro e w' ⟨rfl, rfl⟩)
    | ((try refine ⟨hdd _, ?_⟩); refine hR.mono ?_; clear hR; rintro e W2 (⟨rfl, k2, c2, fn2, tmps2, assign2, body2, hy2, hR2⟩ | ⟨rfl, hx1⟩))
    | ((try refine ⟨hdd _, ?_⟩); refine hR2.mono ?_; clear hR2; rintro e W3 (⟨rfl, hj3, k3⟩ | ⟨rfl, hx2⟩)))
  · go_ret
    exact .inl ⟨rfl, hj3, k2.t k3⟩
  · go_ret
    exact .inr ⟨rfl, pairL a x, List.prefix_refl _, hx2⟩
  · refine ⟨fun _ h => (by cases h), ?_⟩
    gi_wp2
    go_ret
    exact .inr ⟨rfl, [(a, x)], pairL_pre1 a x, hx1⟩
/-- A head's words. -/
def headL (s l c : BitVec 32) : List (Int × BitVec 32) := pairL 0 s ++ (pairL 2 l ++ pairL 4 c)
theorem headL_1 (s l c : BitVec 32) {q : List (Int × BitVec 32)} (h : q <+: pairL 0 s) : q <+: headL s l c := h.trans (List.prefix_append _ _)
theorem headL_2 (s l c : BitVec 32) {q : List (Int × BitVec 32)} (h : q <+: pairL 2 l) : pairL 0 s ++ q <+: headL s l c := by
  obtain ⟨t, ht⟩ := h
  exact ⟨t ++ pairL 4 c, by unfold headL; rw [← ht]; simp [List.append_assoc]⟩
theorem headL_3 (s l c : BitVec 32) {q : List (Int × BitVec 32)} (h : q <+: pairL 4 c) : pairL 0 s ++ pairL 2 l ++ q <+: headL s l c := by
  obtain ⟨t, ht⟩ := h
  exact ⟨t, by unfold headL; rw [← ht]; simp [List.append_assoc]⟩
set_option maxRecDepth 100000 in
set_option maxHeartbeats 2000000 in
theorem writes_stops (n : Nat) (hn : 5 ≤ n) (bh : Nat) (s l c : BitVec 32) (w : World) (h0 : w.cell? ⟨bh, 0, none⟩ = some (.int .u32 (B s))) (h1 : w.cell? ⟨bh, 1, none⟩ = some (.int .u32 (B l))) (h2 : w.cell? ⟨bh, 2, none⟩ = some (.int .u32 (B c))) :
    SeqStopsK Fence.wide n Try.prog 75 #[.pointer (some ⟨bh, 0, none⟩)] (fun x : Int × BitVec 32 => #[.agg #[.int .i64 x.1, .int .u32 (B x.2)]]) (KpP w.heap.size) (fun ys => ys = headL s l c) (fun pre => pre <+: headL s l c) 6 w := by
  intro ll J Jx W hW hJ hJx hY hj0
  have hYw : YieldsW w.heap.size 6 ll J Jx := fun m pre x W hj hl => yield_free rfl m (hY pre x W hj hl)
  have hn1 : 1 ≤ n := by omega
  have p1 := pairs_in (n - 1) (by omega) w.heap.size _ 6 ll J Jx hYw hJ 0 s [] W (by omega) (by omega) hW.size hj0 (by simp)
  have p2 := fun W1 (hj : J ([] ++ pairL 0 s) W1) (hs : w.heap.size ≤ W1.heap.size) => pairs_in (n - 1) (by omega) w.heap.size _ 6 ll J Jx hYw hJ 2 l ([] ++ pairL 0 s) W1 (by omega) (by omega) hs hj (by simp [pairL])
  have p3 := fun W2 (hj : J ([] ++ pairL 0 s ++ pairL 2 l) W2) (hs : w.heap.size ≤ W2.heap.size) => pairs_in (n - 1) (by omega) w.heap.size _ 6 ll J Jx hYw hJ 4 c ([] ++ pairL 0 s ++ pairL 2 l) W2 (by omega) (by omega) hs hj (by simp [pairL])
  have q0 := (hW.cell (cell_lt h0)).trans h0
  have hl1 := cell_lt h1
  have hl2 := cell_lt h2
  have q1 := (hW.cell hl1).trans h1
  have q2 := (hW.cell hl2).trans h2
  have hsz := hW.size
  clear hY hJ hJx hYw h0 h1 h2 hW hj0
  refine callsIn_of_wp Try.func75 rfl trivial ?_ rfl
  simp only [Try.ntmps75, List.size_toArray, List.length_cons, List.length_nil, Nat.reduceAdd, Nat.reduceSub, Array.replicate_succ, Array.replicate_zero, List.push_toArray, List.append_toArray, List.nil_append, List.cons_append]
  gi_wp2_with (first
    | (refine ⟨trivial, ?_⟩; gi_at_call 76; refine p1.mono ?_; clear p1; rintro e W1 (⟨rfl, hj1, k1⟩ | ⟨rfl, r1, hr1, hx1⟩); have q1' := (k1.1.cell hl1).trans q1)
    | (refine ⟨trivial, ?_⟩; gi_at_call 76; refine (p2 _ hj1 (Nat.le_trans hsz k1.1.size)).mono ?_; clear p2; rintro e W2 (⟨rfl, hj2, k2⟩ | ⟨rfl, r2, hr2, hx2⟩); have q2' := ((k1.t k2).1.cell hl2).trans q2)
    | (refine ⟨trivial, ?_⟩; gi_at_call 76; refine (p3 _ hj2 (Nat.le_trans hsz (Nat.le_trans k1.1.size k2.1.size))).mono ?_; clear p3; rintro e W3 (⟨rfl, hj3, k3⟩ | ⟨rfl, r3, hr3, hx3⟩)))
  · go_end0
    exact ⟨⟨_, rfl⟩, .inl ⟨_, rfl, by simpa [headL, List.append_assoc] using hj3⟩⟩
  · go_end0
    exact ⟨⟨_, rfl⟩, .inr ⟨_, headL_3 s l c hr3, by simpa [List.append_assoc] using hx3⟩⟩
  · repeat (refine ⟨(trivial : Fence.wide.fn _), ?_⟩; gi_wp2)
    go_end0
    exact ⟨⟨_, rfl⟩, .inr ⟨_, headL_2 s l c hr2, by simpa [List.append_assoc] using hx2⟩⟩
  · repeat (refine ⟨(trivial : Fence.wide.fn _), ?_⟩; gi_wp2)
    go_end0
    exact ⟨⟨_, rfl⟩, .inr ⟨_, headL_1 s l c hr1, by simpa using hx1⟩⟩
theorem one_stops (g : Nat) (n : Nat) (hn : 5 ≤ n) (a : Int) (x : BitVec 32) (w : World) (h0 : 0 ≤ a) (ha : a ≤ 1000)
    (hg : ∀ (ll : Nat) (J Jx : List (Int × BitVec 32) → World → Prop) (W : World), w.heap.size ≤ W.heap.size → (∀ m, 2 ≤ m → CallsIn Fence.wide m Try.prog 76 #[.func (.yield ll) #[] #[], .int .i64 a, .int .u32 (B x)] W fun e W' =>
      (e = .returned (.bool true) ∧ J ([] ++ pairL a x) W' ∧ KpP w.heap.size W W') ∨ (e = .returned (.bool false) ∧ ∃ q, q <+: pairL a x ∧ Jx ([] ++ q) W')) →
      CallsIn Fence.wide n Try.prog g #[.func (.yield ll) #[] #[]] W fun e W' => (∃ v, e = .returned v) ∧ ((∃ xs, xs = pairL a x ∧ J xs W') ∨ (∃ pre, pre <+: pairL a x ∧ Jx pre W'))) :
    SeqStopsK Fence.wide n Try.prog g #[] (fun x : Int × BitVec 32 => #[.agg #[.int .i64 x.1, .int .u32 (B x.2)]]) (KpP w.heap.size) (fun ys => ys = pairL a x) (fun pre => pre <+: pairL a x) 2 w := by
  intro ll J Jx W hW hJ hJx hY hj0
  have hYw : YieldsW w.heap.size 2 ll J Jx := fun m pre x W hj hl => yield_free rfl m (hY pre x W hj hl)
  have := hg ll J Jx W hW.size fun m hm => pairs_in m hm w.heap.size _ 2 ll J Jx hYw hJ a x [] W h0 ha hW.size hj0 (by simp)
  simpa using this
set_option maxRecDepth 100000 in
theorem commits_stops (n : Nat) (hn : 5 ≤ n) (x : BitVec 32) (hx : B x = 1668246893) (w : World) :
    SeqStopsK Fence.wide n Try.prog 77 #[] (fun x : Int × BitVec 32 => #[.agg #[.int .i64 x.1, .int .u32 (B x.2)]]) (KpP w.heap.size) (fun ys => ys = pairL 6 x) (fun pre => pre <+: pairL 6 x) 2 w := by
  refine one_stops _ n hn 6 x w (by omega) (by omega) fun ll J Jx W hsz hp => ?_
  have p1 := hp (n - 1) (by omega)
  rw [hx] at p1
  have hn1 : 1 ≤ n := by omega
  clear hp hx
  refine callsIn_of_wp Try.func77 rfl trivial ?_ rfl
  simp only [Try.ntmps77, List.size_toArray, List.length_cons, List.length_nil, Nat.reduceAdd, Nat.reduceSub, Array.replicate_succ, Array.replicate_zero, List.push_toArray, List.append_toArray, List.nil_append, List.cons_append]
  gi_wp2_with (refine ⟨trivial, ?_⟩; gi_at_call 76; refine p1.mono ?_; clear p1; rintro e W1 (⟨rfl, hj1, k1⟩ | ⟨rfl, r1, hr1, hx1⟩))
  · go_end0
    exact ⟨⟨_, rfl⟩, .inl ⟨_, rfl, hj1⟩⟩
  · go_end0
    exact ⟨⟨_, rfl⟩, .inr ⟨_, hr1, hx1⟩⟩
set_option maxRecDepth 100000 in
theorem confirms_stops (n : Nat) (hn : 5 ≤ n) (x : BitVec 32) (hx : B x = 1668247142) (w : World) :
    SeqStopsK Fence.wide n Try.prog 78 #[] (fun x : Int × BitVec 32 => #[.agg #[.int .i64 x.1, .int .u32 (B x.2)]]) (KpP w.heap.size) (fun ys => ys = pairL 8 x) (fun pre => pre <+: pairL 8 x) 2 w := by
  refine one_stops _ n hn 8 x w (by omega) (by omega) fun ll J Jx W hsz hp => ?_
  have p1 := hp (n - 1) (by omega)
  rw [hx] at p1
  have hn1 : 1 ≤ n := by omega
  clear hp hx
  refine callsIn_of_wp Try.func78 rfl trivial ?_ rfl
  simp only [Try.ntmps78, List.size_toArray, List.length_cons, List.length_nil, Nat.reduceAdd, Nat.reduceSub, Array.replicate_succ, Array.replicate_zero, List.push_toArray, List.append_toArray, List.nil_append, List.cons_append]
  gi_wp2_with (refine ⟨trivial, ?_⟩; gi_at_call 76; refine p1.mono ?_; clear p1; rintro e W1 (⟨rfl, hj1, k1⟩ | ⟨rfl, r1, hr1, hx1⟩))
  · go_end0
    exact ⟨⟨_, rfl⟩, .inl ⟨_, rfl, hj1⟩⟩
  · go_end0
    exact ⟨⟨_, rfl⟩, .inr ⟨_, hr1, hx1⟩⟩
end Go.Proofs.Ytgcpfmdldgmbnaa
