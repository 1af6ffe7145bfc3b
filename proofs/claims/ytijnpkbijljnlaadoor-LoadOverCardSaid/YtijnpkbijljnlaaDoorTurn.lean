/-
  A law for 'for .. := range g { .. }' over an iterator that writes cells of its own (a captured variable) between two rounds: the iterator is shown for the caller's own invariant.
-/
import Derived.RangeFuncNested
import Derived.RangeFuncBound
import Derived.RangeFuncCalls
import Derived.RangeFuncLeaves
import Derived.RangeFuncFrom
import Derived.RangeFuncBox
import Derived.Maps.AppendAt
import Derived.Shelf.Abstract
import Derived.Shelf.RegionOpen
import Derived.WalkKit
import Derived.OwnWalkIn
import Derived.TacticsInMore
import Derived.LoopNIn
import Derived.LoopIn
import Derived.ProofKit
import Derived.Test.YtijnpkbijljnlaaDoorRow
namespace Go.Proofs.YtijnpkbijljnlaaDoor
open Go.RowKit Go.Shelf
/-- The loop's two blocks: its record, and the calls that its rounds put off. -/
def Book (d : Nat) (r : Loop) (W : World) : Prop := W.heap[d]? = some (.deferred (some [])) ∧ W.heap[d + 1]? = some (.loop r)
theorem Book.grown {d : Nat} {r : Loop} {X Y : World} {row : Option Nat} (h : Book d r X) (hg : X.grownBy Y row) (hr : ∀ k, row = some k → k < d) : Book d r Y :=
  ⟨(hg.block d (Array.getElem?_eq_some_iff.1 h.1).1 (fun e => by have := hr d e.symm; omega)).trans h.1, (hg.block (d + 1) (Array.getElem?_eq_some_iff.1 h.2).1 (fun e => by have := hr (d + 1) e.symm; omega)).trans h.2⟩
theorem Book.kept {d : Nat} {r : Loop} {X Y : World} (h : Book d r X) (hk : KeepsFrom d X Y) : Book d r Y := ⟨hk.same _ _ (Nat.le_refl _) h.1 rfl, hk.same _ _ (by omega) h.2 rfl⟩
theorem Book.put {d : Nat} {r : Loop} {X : World} (h : Book d r X) (r' : Loop) : Book d r' (X.putObj (d + 1) (.loop r')) :=
  ⟨(World.putObj_heap_other (by omega)).trans h.1, World.putObj_heap_same (Array.getElem?_eq_some_iff.1 h.2).1⟩
theorem Book.first (w : World) (r : Loop) : Book w.heap.size r ((w.alloc (.deferred (some []))).alloc (.loop r)) := by
  refine ⟨(Below.heap_alloc _ _ _ (by simp)).trans (World.alloc_heap_new w _), ?_⟩
  have := World.alloc_heap_new (w.alloc (.deferred (some []))) (.loop r)
  rwa [World.size_alloc] at this
/-- What speaks of cells, and of no block from d on that is none: it lies on through the loop's book-keeping. -/
def Calm {β : Type} (d : Nat) (J : β → World → Prop) : Prop := ∀ s X l o o', J s X → d ≤ l → X.heap[l]? = some o → o.isCells = false → J s (X.putObj l o')
theorem Calm.of {β : Type} {d : Nat} {J : β → World → Prop} (h : OwnFrom d J) : Calm d J := fun _ _ _ _ o' hs hd hl ho => h.putObj o' hs hd hl ho
/-- How a round may be left. -/
def leftBy {α : Type} (d : Nat) (I2 : List α × α → World → Prop) (Ix : Code → List α × α → World → Prop) (p : List α × α) (W : World) : Exit → Act → World → Prop
  | .normal, _, W' => KeepsFrom d W W' ∧ I2 p W'
  | .ret, _, W' => KeepsFrom d W W' ∧ Ix .ret p W'
  | .exit id, _, W' => KeepsFrom d W W' ∧ Ix (.exit id) p W'
  | .goto t, _, W' => KeepsFrom d W W' ∧ Ix (.goto t) p W'
  | .panic _, _, _ => False
  | .outgrown, _, _ => False
/-- What the iterator is to show, for this caller's own invariant: I ahead of a round, I2 behind it. R, Rx: the loop's two blocks; they lie on while only blocks below d are written. -/
def Turns {α : Type} (F : Fence) (m : Nat) (P : Program) (gf : Nat) (lb : Array Value) (encs : α → Array Value) (I : List α → World → Prop) (I2 : List α × α → World → Prop) (Ix : Code → List α × α → World → Prop) (S : List α → Prop) (Fit : List α → α → Prop) (w : World) : Prop :=
  ∀ (l : Nat) (R : World → Prop) (Rx : Code → World → Prop) (W1 : World), w.grownBy W1 none → W1.heap.size = w.heap.size + 2 →
    (∀ X Y row, R X → X.grownBy Y row → (∀ k, row = some k → k < w.heap.size) → R Y) →
    (∀ c X Y row, Rx c X → X.grownBy Y row → (∀ k, row = some k → k < w.heap.size) → Rx c Y) →
    (∀ pre x W, I pre W → R W → Fit pre x → YieldAt F (m - 1) P l (encs x) W fun e W' =>
      (e = .returned (.bool true) ∧ I2 (pre, x) W' ∧ R W') ∨ (e = .returned (.bool false) ∧ ∃ c, Ix c (pre, x) W' ∧ Rx c W')) →
    R W1 → CallsIn F m P gf (#[.func (.yield l) #[] #[]] ++ lb) W1 fun e W' => (∃ v, e = .returned v) ∧ ((∃ xs, S xs ∧ I xs W' ∧ R W') ∨ ∃ p c, Ix c p W' ∧ Rx c W')
theorem range_turns {F : Fence} {n : Nat} {P : Program} {α : Type} {g : Operand} {ps : Array Tmp} {assign body : Code} {Q : Exit → Act → World → Prop} {a : Act} {w : World}
    (hro : F.round = none) (h1 : 1 ≤ n) {gf : Nat} {lb : Array Value} (hg : a.eval g = .func (.func gf) #[] lb) (hFg : F.fn gf) (eg : ∀ args w, (callFunc gf args).run P w = .ok (.enter gf args) w)
    {encs : α → Array Value} (hps : ∀ x, (encs x).size = ps.size)
    {I : List α → World → Prop} {I2 : List α × α → World → Prop} {Ix : Code → List α × α → World → Prop} {S : List α → Prop} {Fit : List α → α → Prop}
    (hseq : Turns F (n - 1) P gf lb encs I I2 Ix S Fit w)
    (hI : Calm w.heap.size I) (hI2 : Calm w.heap.size I2) (hIx : ∀ c, Calm w.heap.size (Ix c)) (a₁ : α → Act)
    (hassign : ∀ (l : Nat) (x : α) (W : World) (K : Act → World → Prop), K (a₁ x) W →
      assign.wpIn (F.inRound l) (n - 1 - 1) P (Exit.then K (fun _ _ _ => False)) { tmps := (ps.zip (encs x)).foldl (fun t (p, v) => t.setIfInBounds p v) a.tmps, defers := [] } W)
    (hbody : ∀ (l : Nat) (pre : List α) (x : α) (W : World), I pre W → Fit pre x → body.wpIn (F.inRound l) (n - 1 - 1) P (leftBy w.heap.size I2 Ix (pre, x) W) (a₁ x) W)
    (hdone : ∀ (D : Nat) (xs : List α) (W : World), w.heap.size ≤ D → S xs → I xs W → W.heap[D]? = some (.deferred (some [])) → Q .normal { a with defers := { target := .collected D, args := #[] } :: a.defers } W)
    (hstop : ∀ (D : Nat) (c : Code) (p : List α × α) (W : World), w.heap.size ≤ D → Ix c p W → W.heap[D]? = some (.deferred (some [])) → c.wpIn F n P Q { a with defers := { target := .collected D, args := #[] } :: a.defers } W) :
    (Code.rangeFunc g ps assign body).wpIn F n P Q a w := by
  refine wpIn_rangeFunc fun fn hfn => ?_
  rw [hro]
  let d := w.heap.size
  let rd : LoopState → Option Code → Loop := fun st pe => { state := st, pending := pe, fn, tmps := a.tmps, params := ps, assign, body, defers := d }
  have hb := Book.first w (rd .ready none)
  have hgr : w.grownBy ((w.alloc (.deferred (some []))).alloc (.loop (rd .ready none))) none := (World.grownBy_alloc w _ none).andThen (World.grownBy_alloc _ _ none) (fun j e => by cases e)
  have hsz : ((w.alloc (.deferred (some []))).alloc (.loop (rd .ready none))).heap.size = w.heap.size + 2 := by simp
  refine ⟨d + 1, [{ target := .collected d, args := #[] }], _, { target := .fn (.func gf) lb, args := #[.func (.yield (d + 1)) #[] #[]] }, _, gf, #[.func (.yield (d + 1)) #[] #[]] ++ lb, _, run_enterLoop_outer _ _ _ _ _, by simp only [resolve, hg]; simp [go_sem]; rfl, fun f' hf' => by simp [Target.leads] at hf'; subst hf'; exact hFg, by simp [invoke, go_sem, eg]; rfl, fun _ => h1, ?_⟩
  refine (hseq (d + 1) (Book d (rd .ready none)) (fun c => Book d (rd .done (some c))) _ hgr hsz (fun X Y row hR hg hr => hR.grown hg hr) (fun c X Y row hR hg hr => hR.grown hg hr) ?_ hb).mono ?_
  · intro pre x W hi hR hlen
    refine ⟨fn, _, assign, body, run_yield hR.2 (hps x), roundIn_of_wpIn hfn (hassign _ x W _ ⟨_, run_beginRound hR.2 rfl, ?_⟩)⟩
    have hR2 := hR.put (rd .busy none)
    refine wpIn_mono (hbody (d + 1) pre x _ (hI pre W _ _ _ hi (by show d ≤ d + 1; omega) hR.2 rfl) hlen) ?_
    have fin : ∀ (jump : Option Code) (W3 : World), KeepsFrom d (W.putObj (d + 1) (.loop (rd .busy none))) W3 →
        (Instr.endRound (d + 1) jump).run P W3 = .ok (.bool jump.isNone) (W3.putObj (d + 1) (.loop (rd (if jump.isNone then .ready else .done) jump))) ∧ Book d (rd .busy none) W3 := fun jump W3 hk =>
      ⟨run_endRound jump (hR2.kept hk).2, hR2.kept hk⟩
    rintro e a3 W3 hp
    cases e with
    | normal => exact ⟨_, _, (fin none W3 hp.1).1, .inl ⟨rfl, hI2 _ _ _ _ _ hp.2 (by show d ≤ d + 1; omega) (fin none W3 hp.1).2.2 rfl, (fin none W3 hp.1).2.put _⟩⟩
    | ret => exact ⟨_, _, (fin (some .ret) W3 hp.1).1, .inr ⟨rfl, .ret, hIx _ _ _ _ _ _ hp.2 (by show d ≤ d + 1; omega) (fin (some .ret) W3 hp.1).2.2 rfl, (fin (some .ret) W3 hp.1).2.put _⟩⟩
    | exit id => exact ⟨_, _, (fin (some (.exit id)) W3 hp.1).1, .inr ⟨rfl, .exit id, hIx _ _ _ _ _ _ hp.2 (by show d ≤ d + 1; omega) (fin (some (.exit id)) W3 hp.1).2.2 rfl, (fin (some (.exit id)) W3 hp.1).2.put _⟩⟩
    | goto t => exact ⟨_, _, (fin (some (.goto t)) W3 hp.1).1, .inr ⟨rfl, .goto t, hIx _ _ _ _ _ _ hp.2 (by show d ≤ d + 1; omega) (fin (some (.goto t)) W3 hp.1).2.2 rfl, (fin (some (.goto t)) W3 hp.1).2.put _⟩⟩
    | panic ch => exact hp.elim
    | outgrown => exact hp.elim
  · rintro e W2 ⟨⟨v, rfl⟩, ⟨xs, hS, hi, hR⟩ | ⟨p, c, hi, hR⟩⟩
    · exact ⟨none, _, run_endLoop hR.2 (by simp [rd]), hdone d xs _ (Nat.le_refl _) hS (hI _ _ _ _ _ hi (by show d ≤ d + 1; omega) hR.2 rfl) ((World.putObj_heap_other (by omega)).trans hR.1)⟩
    · exact ⟨some c, _, run_endLoop hR.2 (by simp [rd]), hstop d c p _ (Nat.le_refl _) (hIx c _ _ _ _ _ hi (by show d ≤ d + 1; omega) hR.2 rfl) ((World.putObj_heap_other (by omega)).trans hR.1)⟩
end Go.Proofs.YtijnpkbijljnlaaDoor
