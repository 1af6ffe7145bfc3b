/-
  Small laws on a round handed on to an iterator, where no depth is asked; and the contract of an iterator whose caller keeps what is no cells.
-/
import Derived.RangeFuncNested
import Derived.RangeFuncBound
import Derived.RangeFuncCalls
import Derived.RangeFuncLeaves
import Derived.RangeFuncFrom
import Derived.RangeFuncBox
import Derived.Maps.AppendAt
import Derived.Shelf.Abstract
import Derived.Shelf.RegionOpen
import Derived.WalkKit
import Derived.OwnWalkIn
import Derived.TacticsInMore
import Derived.LoopNIn
import Derived.LoopIn
import Derived.ProofKit
import Derived.Test.YtijnpkbijljnlaaDoorRow
namespace Go.Proofs.YtijnpkbijljnlaaDoor
open Go.RowKit Go.Shelf
theorem y_room_free {F : Fence} (hd : F.depth = none) (k : Nat) : F.room k := fun d h => by rw [hd] at h; cases h
theorem y_round_free {F : Fence} (hd : F.depth = none) {m m' : Nat} {P : Program} {l : Nat} {f : FuncId} {tmps : Array Value} {assign body : Code} {w : World} {R : Ending → World → Prop}
    (h : RoundIn F m P l f tmps assign body w R) : RoundIn F m' P l f tmps assign body w R := ⟨h.1, fun c cs _ => h.2 c cs (y_room_free hd _)⟩
theorem y_free {F : Fence} (hd : F.depth = none) {m : Nat} (m' : Nat) {P : Program} {l : Nat} {args : Array Value} {W : World} {R : Ending → World → Prop} (h : YieldAt F m P l args W R) : YieldAt F m' P l args W R := by
  obtain ⟨fn, tmps, assign, body, hy, hR⟩ := h
  exact ⟨fn, tmps, assign, body, hy, y_round_free hd hR⟩
/-- All that was laid at or beyond B lies as it lay. -/
structure SameFrom (B : Nat) (W W' : World) : Prop where
  size : W.heap.size ≤ W'.heap.size
  same : ∀ k, B ≤ k → k < W.heap.size → W'.heap[k]? = W.heap[k]?
theorem SameFrom.refl (B : Nat) (W : World) : SameFrom B W W := ⟨Nat.le_refl _, fun _ _ _ => rfl⟩
theorem SameFrom.trans {B : Nat} {X Y Z : World} (h : SameFrom B X Y) (h' : SameFrom B Y Z) : SameFrom B X Z := ⟨Nat.le_trans h.size h'.size, fun i hB hi => (h'.same i hB (Nat.lt_of_lt_of_le hi h.size)).trans (h.same i hB hi)⟩
theorem SameFrom.mono {B B' : Nat} {X Y : World} (h : SameFrom B X Y) (hB : B ≤ B') : SameFrom B' X Y := ⟨h.size, fun i hi => h.same i (by omega)⟩
theorem SameFrom.at_ {B : Nat} {X Y : World} (h : SameFrom B X Y) {k : Nat} {o : Obj} (hB : B ≤ k) (hk : X.heap[k]? = some o) : Y.heap[k]? = some o := (h.same k hB (Array.getElem?_eq_some_iff.1 hk).1).trans hk
theorem SameFrom.keeps {B : Nat} {X Y : World} (h : SameFrom B X Y) : KeepsFrom B X Y := ⟨h.size, fun k o hB hk _ => h.at_ hB hk⟩
theorem SameFrom.of_below {B : Nat} {X Y : World} (h : Below X.heap.size X Y) : SameFrom B X Y := ⟨h.size, fun _ _ hk => h.block _ hk⟩
theorem SameFrom.grown {B : Nat} {X Y : World} {row : Option Nat} (hg : X.grownBy Y row) (hr : ∀ j, row = some j → j < B) : SameFrom B X Y := ⟨hg.size, fun _ _ hk => hg.block _ hk fun e => absurd (hr _ e.symm) (by omega)⟩
theorem SameFrom.set {B : Nat} (X : World) {p : Addr} (hp : p.block < B) (u : Value) : SameFrom B X (X.setCell p u) := ⟨by simp, fun _ _ _ => Below.heap_setCell X p u _ (by omega)⟩
theorem SameFrom.alloc {B : Nat} (X : World) (o : Obj) : SameFrom B X (X.alloc o) := ⟨by simp, fun _ _ hk => Below.heap_alloc X o _ hk⟩
/-- How the body of a round may be left. -/
def ownPostS {α : Type} (B : Nat) (Kp : World → World → Prop) (I : List α → World → Prop) (Ix : Code → List α → World → Prop) (xs : List α) (W : World) : Exit → Act → World → Prop
  | .normal, _, W' => SameFrom B W W' ∧ Kp W W' ∧ I xs W'
  | .ret, _, W' => SameFrom B W W' ∧ Kp W W' ∧ Ix .ret xs W'
  | .exit id, _, W' => SameFrom B W W' ∧ Kp W W' ∧ Ix (.exit id) xs W'
  | .goto t, _, W' => SameFrom B W W' ∧ Kp W W' ∧ Ix (.goto t) xs W'
  | .panic _, _, _ => False
  | .outgrown, _, _ => False
/-- As the kit's contract; beside what the iterator asks (Kp), each round that goes on keeps all that was laid since the iterator began. -/
def SeqB {α : Type} (F : Fence) (n : Nat) (P : Program) (g : Nat) (lb : Array Value) (encs : α → Array Value) (Kp : World → World → Prop) (S Sp : List α → Prop) (N : Nat) (w : World) : Prop :=
  ∀ (l : Nat) (J Jx : List α → World → Prop) (W : World), Below w.heap.size w W → AbidesFrom W.heap.size J → AbidesFrom W.heap.size Jx → OwnFrom W.heap.size J → OwnFrom W.heap.size Jx →
    (∀ pre x W1, J pre W1 → pre.length < N → YieldAt F (n - 1) P l (encs x) W1 fun e W' =>
      (e = .returned (.bool true) ∧ J (pre ++ [x]) W' ∧ Kp W1 W' ∧ SameFrom W.heap.size W1 W') ∨ (e = .returned (.bool false) ∧ Jx (pre ++ [x]) W' ∧ Kp W1 W' ∧ SameFrom W.heap.size W1 W')) →
    J [] W →
    CallsIn F n P g (#[.func (.yield l) #[] #[]] ++ lb) W fun e W' => (∃ v, e = .returned v) ∧ ((∃ xs, S xs ∧ J xs W') ∨ (∃ pre, Sp pre ∧ Jx pre W'))
theorem ownFrom_and_same {β : Type} {B b : Nat} {o : Obj} {J : β → World → Prop} (hJ : OwnFrom B J) (hb : b < B) : OwnFrom B (fun s W => J s W ∧ W.heap[b]? = some o) := fun s X Y row hs hg hr =>
  ⟨hJ s X Y row hs.1 hg hr, (hg.block b (Array.getElem?_eq_some_iff.1 hs.2).1 (fun e => by have := (hr b e.symm).1; omega)).trans hs.2⟩
/-- The caller's law over such an iterator. -/
theorem range_seqB {F : Fence} {n : Nat} {P : Program} {α : Type} {g : Operand} {ps : Array Tmp} {assign body : Code} {Q : Exit → Act → World → Prop} {a : Act} {w : World}
    (hro : F.round = none) (h1 : 1 ≤ n) {gf : Nat} {lb : Array Value} (hg : a.eval g = .func (.func gf) #[] lb) (hFg : F.fn gf) (eg : ∀ args w, (callFunc gf args).run P w = .ok (.enter gf args) w)
    {encs : α → Array Value} {Kp : World → World → Prop} {S Sp : List α → Prop} {N : Nat} {w0 : World} (hseq : SeqB F (n - 1) P gf lb encs Kp S Sp N w0)
    (hKt : ∀ {A B C : World}, Kp A B → Kp B C → Kp A C) (hKb : ∀ (W : World) (l : Nat) (o o' : Obj), w.heap.size ≤ l → W.heap[l]? = some o → o.isCells = false → o.isWalk = false → Kp W (W.putObj l o')) (hb0 : Below w0.heap.size w0 w) (hps : ∀ x, (encs x).size = ps.size)
    (I : List α → World → Prop) (Ix : Code → List α → World → Prop) (hI : OwnFrom w.heap.size I) (hIx : ∀ c, OwnFrom w.heap.size (Ix c)) (h0 : I [] w) (Ax : α → Act → World → Prop) (hAx : ∀ x a', OwnFrom w.heap.size (fun (_ : Unit) W => Ax x a' W))
    (hassign : ∀ (l : Nat) (pre : List α) (x : α) (W : World) (K : Act → World → Prop), I pre W → (∀ a' W', SameFrom w.heap.size W W' → Kp W W' → I pre W' → Ax x a' W' → K a' W') →
      assign.wpIn (F.inRound l) (n - 1 - 1) P (Exit.then K (fun _ _ _ => False)) { tmps := (ps.zip (encs x)).foldl (fun t (p, v) => t.setIfInBounds p v) a.tmps, defers := [] } W)
    (hbody : ∀ (l : Nat) (pre : List α) (x : α) (a' : Act) (W : World), I pre W → Ax x a' W → pre.length < N → body.wpIn (F.inRound l) (n - 1 - 1) P (ownPostS w.heap.size Kp I Ix (pre ++ [x]) W) a' W)
    (hdone : ∀ (D : Nat) (xs : List α) (W : World), w.heap.size ≤ D → S xs → I xs W → W.heap[D]? = some (.deferred (some [])) → Q .normal { a with defers := { target := .collected D, args := #[] } :: a.defers } W)
    (hstop : ∀ (D : Nat) (c : Code) (pre : List α) (W : World), w.heap.size ≤ D → Sp pre → Ix c pre W → W.heap[D]? = some (.deferred (some [])) → c.wpIn F n P Q { a with defers := { target := .collected D, args := #[] } :: a.defers } W) :
    (Code.rangeFunc g ps assign body).wpIn F n P Q a w := by
  refine wpIn_rangeFunc fun fn hfn => ?_
  rw [hro]
  let d := w.heap.size
  have hd : d = w.heap.size := rfl
  let rd : LoopState → Option Code → Loop := fun st pe => { state := st, pending := pe, fn, tmps := a.tmps, params := ps, assign, body, defers := d }
  have hL1 : ((w.alloc (.deferred (some []))).alloc (.loop (rd .ready none))).heap[d + 1]? = some (.loop (rd .ready none)) := by
    have := World.alloc_heap_new (w.alloc (.deferred (some []))) (.loop (rd .ready none)); rwa [World.size_alloc, ← hd] at this
  have hK1 : ((w.alloc (.deferred (some []))).alloc (.loop (rd .ready none))).heap[d]? = some (.deferred (some [])) := by
    exact (Below.heap_alloc _ _ _ (by simp only [World.size_alloc]; omega)).trans (World.alloc_heap_new w _)
  have hI1 : I [] ((w.alloc (.deferred (some []))).alloc (.loop (rd .ready none))) := hI.alloc _ (hI.alloc _ h0)
  have hb1 : Below w0.heap.size w0 ((w.alloc (.deferred (some []))).alloc (.loop (rd .ready none))) :=
    hb0.trans ((((Below.refl _ w).alloc (Nat.le_refl _) _).alloc (by simp) _).mono hb0.size)
  have hsz : ((w.alloc (.deferred (some []))).alloc (.loop (rd .ready none))).heap.size = d + 2 := by simp [hd]
  have up : ∀ {β : Type} {J : β → World → Prop}, OwnFrom d J → OwnFrom (d + 2) J := fun h s X Y row hs hg hr => h s X Y row hs hg fun r e => ⟨by have := (hr r e).1; omega, (hr r e).2⟩
  have ab : ∀ {β : Type} {J : β → World → Prop}, OwnFrom (d + 2) J → AbidesFrom (d + 2) J := fun h s X Y row hs hg hr => h s X Y row hs hg fun r e => by
    obtain ⟨hB, o, ho, hw⟩ := hr r e
    exact ⟨hB, o, ho, Obj.not_cells_of_walk hw⟩
  rw [← hd] at hI hAx hassign hbody hKb
  have hIx' : ∀ c, OwnFrom d (Ix c) := fun c => hIx c
  have hJ : OwnFrom (d + 2) (fun pre W => (I pre W ∧ W.heap[d + 1]? = some (.loop (rd .ready none))) ∧ W.heap[d]? = some (.deferred (some []))) :=
    ownFrom_and_same (ownFrom_and_same (up hI) (by omega)) (by omega)
  have hJx : OwnFrom (d + 2) (fun pre W => ∃ c, (Ix c pre W ∧ W.heap[d + 1]? = some (.loop (rd .done (some c)))) ∧ W.heap[d]? = some (.deferred (some []))) := fun s X Y row hs hg hr => by
    obtain ⟨c, hs⟩ := hs
    exact ⟨c, ownFrom_and_same (ownFrom_and_same (up (hIx' c)) (by omega)) (by omega) s X Y row hs hg hr⟩
  refine ⟨d + 1, [{ target := .collected d, args := #[] }], _, { target := .fn (.func gf) lb, args := #[.func (.yield (d + 1)) #[] #[]] }, _, gf, #[.func (.yield (d + 1)) #[] #[]] ++ lb, _, run_enterLoop_outer _ _ _ _ _, by simp only [resolve, hg]; simp [go_sem]; rfl, fun f' hf' => by simp [Target.leads] at hf'; subst hf'; exact hFg, by simp [invoke, go_sem, eg]; rfl, fun _ => h1, ?_⟩
  refine (hseq (d + 1) (fun pre W => (I pre W ∧ W.heap[d + 1]? = some (.loop (rd .ready none))) ∧ W.heap[d]? = some (.deferred (some []))) (fun pre W => ∃ c, (Ix c pre W ∧ W.heap[d + 1]? = some (.loop (rd .done (some c)))) ∧ W.heap[d]? = some (.deferred (some []))) ((w.alloc (.deferred (some []))).alloc (.loop (rd .ready none))) hb1 (by rw [hsz]; exact ab hJ) (by rw [hsz]; exact ab hJx) (by rw [hsz]; exact hJ) (by rw [hsz]; exact hJx) ?_ ⟨⟨hI1, hL1⟩, hK1⟩).mono ?_
  · rintro pre x W ⟨⟨hi, hl⟩, hk⟩ hlen
    rw [hsz]
    have hlt : d + 1 < W.heap.size := (Array.getElem?_eq_some_iff.1 hl).1
    refine ⟨fn, _, assign, body, run_yield hl (hps x), roundIn_of_wpIn hfn (hassign _ pre x W _ hi fun a' W' hkf hkp hi' hax => ?_)⟩
    have hl' := hkf.at_ (by omega) hl
    have hk' := hkf.at_ (by omega) hk
    refine ⟨_, run_beginRound hl' rfl, ?_⟩
    have hlt' : d + 1 < W'.heap.size := (Array.getElem?_eq_some_iff.1 hl').1
    have hl2 : (W'.putObj (d + 1) (.loop (rd .busy none))).heap[d + 1]? = some (.loop (rd .busy none)) := World.putObj_heap_same hlt'
    have hk2 : (W'.putObj (d + 1) (.loop (rd .busy none))).heap[d]? = some (.deferred (some [])) := (World.putObj_heap_other (by omega)).trans hk'
    have hw2 : Kp W (W'.putObj (d + 1) (.loop (rd .busy none))) := hKt hkp (hKb _ _ _ _ (by omega) hl' rfl rfl)
    have far : ∀ (X : World) (o : Obj) , SameFrom (d + 2) X (X.putObj (d + 1) o) := fun X o => SameFrom.grown (grownBy_putObj' X _ _) (fun j e => by cases e; omega)
    have more : ∀ {X Y : World}, SameFrom d X Y → SameFrom (d + 2) X Y := fun h => h.mono (by omega)
    have hf2 : SameFrom (d + 2) W (W'.putObj (d + 1) (.loop (rd .busy none))) := (more hkf).trans (far _ _)
    refine wpIn_mono (hbody _ pre x a' _ (hI.putObj _ hi' (by omega) hl' rfl) ((hAx x a').putObj (s := ()) _ hax (by omega) hl' rfl) hlen) ?_
    have fin : ∀ (jump : Option Code) (W3 : World), SameFrom d (W'.putObj (d + 1) (.loop (rd .busy none))) W3 →
        (Instr.endRound (d + 1) jump).run P W3 = .ok (.bool jump.isNone) (W3.putObj (d + 1) (.loop (rd (if jump.isNone then .ready else .done) jump))) ∧
        W3.heap[d + 1]? = some (.loop (rd .busy none)) ∧
        (W3.putObj (d + 1) (.loop (rd (if jump.isNone then .ready else .done) jump))).heap[d + 1]? = some (.loop (rd (if jump.isNone then .ready else .done) jump)) ∧
        (W3.putObj (d + 1) (.loop (rd (if jump.isNone then .ready else .done) jump))).heap[d]? = some (.deferred (some [])) ∧
        SameFrom (d + 2) W (W3.putObj (d + 1) (.loop (rd (if jump.isNone then .ready else .done) jump))) := fun jump W3 hk3 => by
      have hl3 := hk3.at_ (by omega) hl2
      exact ⟨run_endRound (P := P) jump hl3, hl3, World.putObj_heap_same (Array.getElem?_eq_some_iff.1 hl3).1, (World.putObj_heap_other (by omega)).trans (hk3.at_ (Nat.le_refl _) hk2), (hf2.trans (more hk3)).trans (far _ _)⟩
    rintro e a3 W3 hp
    cases e with
    | normal =>
      obtain ⟨hk3, hkp3, hi3⟩ := hp
      obtain ⟨hr, hl3, hl4, hk4, hf4⟩ := fin none W3 hk3
      exact ⟨_, _, hr, .inl ⟨rfl, ⟨⟨hI.putObj _ hi3 (by omega) hl3 rfl, hl4⟩, hk4⟩, hKt (hKt hw2 hkp3) (hKb _ _ _ _ (by omega) hl3 rfl rfl), hf4⟩⟩
    | ret =>
      obtain ⟨hk3, hkp3, hi3⟩ := hp
      obtain ⟨hr, hl3, hl4, hk4, hf4⟩ := fin (some .ret) W3 hk3
      exact ⟨_, _, hr, .inr ⟨rfl, ⟨.ret, ⟨(hIx' _).putObj _ hi3 (by omega) hl3 rfl, hl4⟩, hk4⟩, hKt (hKt hw2 hkp3) (hKb _ _ _ _ (by omega) hl3 rfl rfl), hf4⟩⟩
    | exit id =>
      obtain ⟨hk3, hkp3, hi3⟩ := hp
      obtain ⟨hr, hl3, hl4, hk4, hf4⟩ := fin (some (.exit id)) W3 hk3
      exact ⟨_, _, hr, .inr ⟨rfl, ⟨.exit id, ⟨(hIx' _).putObj _ hi3 (by omega) hl3 rfl, hl4⟩, hk4⟩, hKt (hKt hw2 hkp3) (hKb _ _ _ _ (by omega) hl3 rfl rfl), hf4⟩⟩
    | goto t =>
      obtain ⟨hk3, hkp3, hi3⟩ := hp
      obtain ⟨hr, hl3, hl4, hk4, hf4⟩ := fin (some (.goto t)) W3 hk3
      exact ⟨_, _, hr, .inr ⟨rfl, ⟨.goto t, ⟨(hIx' _).putObj _ hi3 (by omega) hl3 rfl, hl4⟩, hk4⟩, hKt (hKt hw2 hkp3) (hKb _ _ _ _ (by omega) hl3 rfl rfl), hf4⟩⟩
    | panic ch => exact hp.elim
    | outgrown => exact hp.elim
  · rintro e W2 ⟨⟨v, rfl⟩, (⟨xs, hS, ⟨hi, hl⟩, hk⟩ | ⟨pre, hSp, c, ⟨hi, hl⟩, hk⟩)⟩
    · exact ⟨none, _, run_endLoop (P := P) hl (by simp [rd]), hdone d xs _ (by omega) hS (hI.putObj _ hi (by omega) hl rfl) ((World.putObj_heap_other (by omega)).trans hk)⟩
    · exact ⟨some c, _, run_endLoop (P := P) hl (by simp [rd]), hstop d c pre _ (by omega) hSp ((hIx' c).putObj _ hi (by omega) hl rfl) ((World.putObj_heap_other (by omega)).trans hk)⟩
end Go.Proofs.YtijnpkbijljnlaaDoor
