/-
  Small laws of my own on the walk: a region that draws its order, whose operations read and whose callees may lay new memory.
-/
import Derived.Test.YtijnpkbijljnlaaDoorRows
import Derived.WalkKit
import Derived.WalkLawsBesides
import Derived.WalkSpells
import Derived.Outline
import Derived.RegionTactic
import Derived.ChangeAlike
import Derived.Deep.QuietTactic
import Derived.BigQuiet
namespace Go.Proofs.YtijnpkbijljnlaaDoor
open Go.RowKit
/-- A fact kept from the walk's rewriting. -/
theorem hid {p : Prop} (h : p) : Hid p := h
/-- The lexical order's Bool, cheaper for the kernel: an operation waits for earlier ones alone, and every later one waits for it or is apart from it. -/
def lexGo (ops : Array Oper) : Nat → List Oper → Bool
  | _, [] => true
  | k, o :: rest => o.after.all (fun e => !Region.binds .any e || decide (e.on < k)) && rest.all (fun p => p.after.any (fun e => Region.binds .any e && e.on == k) || o.apart ops p) && lexGo ops (k + 1) rest
def lexQ (l : List Oper) : Bool := Region.noSelect l.toArray && lexGo l.toArray 0 l
theorem lexGo_spec (ops : Array Oper) : ∀ (l : List Oper) (k : Nat) (listed : Array Bool), k + l.length = ops.size → (∀ j, l[j]? = ops[k + j]?) → listed.size = ops.size →
    (∀ j, j < ops.size → listed[j]? = some (decide (j < k))) → lexGo ops k l = true → Region.lexFrom .any ops l.length k listed = true
  | [], k, listed, hsz, _, _, hlist, _ => by
    simp only [List.length_nil, Region.lexFrom, List.isEmpty_iff]
    unfold Region.ready
    rw [List.filter_eq_nil_iff]
    intro i hi
    rw [List.mem_range] at hi
    rw [Array.getD_eq_getD_getElem?, hlist i hi]
    simp only [List.length_nil] at hsz
    simp [show i < k by omega]
  | o :: rest, k, listed, hsz, hl, hls, hlist, h => by
    simp only [lexGo, Bool.and_eq_true] at h
    obtain ⟨⟨h1, h2⟩, h3⟩ := h
    have hko : ops[k]? = some o := by have := hl 0; simpa using this.symm
    have hk : k < ops.size := by simp only [List.length_cons] at hsz; omega
    have hget : ∀ j b, j < ops.size → listed.getD j b = decide (j < k) := fun j b hj => by rw [Array.getD_eq_getD_getElem?, hlist j hj]; rfl
    have hout : ∀ j b, ops.size ≤ j → listed.getD j b = b := fun j b hj => by rw [Array.getD_eq_getD_getElem?, Array.getElem?_eq_none (by omega)]; rfl
    simp only [List.length_cons, Region.lexFrom, Bool.and_eq_true]
    refine ⟨⟨?_, ?_⟩, ?_⟩
    · rw [List.contains_iff_mem]
      unfold Region.ready
      rw [List.mem_filter, List.mem_range]
      refine ⟨hk, ?_⟩
      rw [hget k true hk, hko]
      simp only [Nat.lt_irrefl, decide_false, Bool.not_false, Bool.true_and, Option.map_some, Option.getD_some]
      rw [Array.all_eq_true_iff_forall_mem] at h1 ⊢
      intro e he
      have := h1 e he
      simp only [Bool.or_eq_true, decide_eq_true_iff] at this ⊢
      rcases this with h | h
      · exact .inl h
      · right; rw [hget _ _ (by omega)]; simp [h]
    · unfold Region.free
      rw [hko]
      simp only [List.all_eq_true, List.mem_range]
      intro j hj
      by_cases hjk : j < k
      · rw [hget j true hj]; simp [hjk]
      · by_cases hje : j = k
        · simp [hje]
        · have hjr : rest[j - k - 1]? = ops[j]? := by
            have := hl (j - k)
            rw [show k + (j - k) = j by omega] at this
            rw [← this, List.getElem?_cons, if_neg (by omega)]
          obtain ⟨p, hp⟩ : ∃ p, ops[j]? = some p := ⟨_, Array.getElem?_eq_getElem hj⟩
          rw [hp] at hjr ⊢
          have := List.all_eq_true.1 h2 p (List.mem_of_getElem? hjr)
          simp only [Bool.or_eq_true] at this ⊢
          right
          exact this
    · refine lexGo_spec ops rest (k + 1) _ (by simp only [List.length_cons] at hsz; omega) (fun j => ?_) (by simpa using hls) (fun j hj => ?_) h3
      · have := hl (j + 1)
        rw [show k + (j + 1) = k + 1 + j by omega] at this
        simpa using this
      · rw [Array.getElem?_setIfInBounds]
        by_cases hjk : k = j
        · subst hjk; simp [hls, hk]
        · rw [if_neg hjk, hlist j hj]
          congr 1
          rw [decide_eq_decide]
          omega
theorem lexQ_lexB {l : List Oper} (h : lexQ l = true) : Region.lexB .any l.toArray = true := by
  unfold lexQ at h
  simp only [Bool.and_eq_true] at h
  unfold Region.lexB
  rw [Bool.and_eq_true]
  refine ⟨h.1, ?_⟩
  have := lexGo_spec l.toArray l 0 (Array.replicate l.toArray.size false) (by simp) (by simp) (by simp) (fun j hj => by simp at hj; simp [hj]) h.2
  simpa using this
/-- A world in which all that lay in w lies as it lay. -/
structure Cls (w : World) where
  wd : World
  below : Below w.heap.size w wd
instance (w : World) : Nonempty (Cls w) := ⟨⟨w, Below.refl _ _⟩⟩
theorem wp_region_cls {P : Program} {id : Nat} {Q : Exit → Act → World → Prop} {a : Act} {w : World} {l : List Oper} (hm : P.follows .mixedOrders = true) (hB : lexQ l = true)
    (h : wpQuiet P l.toArray (fun w' => ∃ i : Cls w, w' = i.wd) (fun a' => ∀ w', (∃ i : Cls w, w' = i.wd) → Q .normal a' w') l a) : (Code.region id l.toArray true).wp P Q a w :=
  wp_region_quiet (C := fun w' => ∃ i : Cls w, w' = i.wd) hm (lexQ_lexB hB) ⟨⟨w.drew, (Below.refl _ _).drew⟩, rfl⟩ (by simpa using h)
/-- A callee's contract, met in a world of the class. -/
theorem Calls.cls {P : Program} {f : FuncId} {args : Array Value} {w : World} (i : Cls w) {v : Value}
    (h : Calls P f args i.wd fun e w' => e = .returned v ∧ Below i.wd.heap.size i.wd w') : Calls P f args i.wd fun e w'' => e = .returned v ∧ ∃ j : Cls w, w'' = j.wd :=
  h.mono fun _ w' ⟨he, hb⟩ => ⟨he, ⟨w', i.below.trans (hb.mono i.below.size)⟩, rfl⟩
/-- Behind a call: whatever the callee left, old memory is as it was. -/
theorem Calls.below {P : Program} {f : FuncId} {args : Array Value} {w : World} {v : Value} (h : Calls P f args w fun e w' => e = .returned v ∧ w = w') :
    Calls P f args w fun e w' => e = .returned v ∧ Below w.heap.size w w' :=
  h.mono fun _ _ ⟨he, hw⟩ => ⟨he, hw ▸ Below.refl _ _⟩
theorem Calls.below1 {P : Program} {f : FuncId} {args : Array Value} {w : World} {v : Value} {o : Obj} (h : Calls P f args w fun e w' => e = .returned v ∧ w.alloc o = w') :
    Calls P f args w fun e w' => e = .returned v ∧ Below w.heap.size w w' :=
  h.mono fun _ _ ⟨he, hw⟩ => ⟨he, hw ▸ (Below.refl _ _).alloc (Nat.le_refl _) _⟩
theorem cell_lt {w : World} {a : Addr} {v : Value} (h : w.cell? a = some v) : a.block < w.heap.size := by
  unfold World.cell? at h
  rcases Nat.lt_or_ge a.block w.heap.size with h1 | h1
  · exact h1
  · rw [Array.getElem?_eq_none h1] at h; cases h
theorem Cls.cell {w : World} {a : Addr} {v : Value} (h : w.cell? a = some v) (i : Cls w) : i.wd.cell? a = some v := (i.below.cell (cell_lt h)).trans h
theorem Cls.frozen {w : World} {a : Addr} {b : Bool} (hl : a.block < w.heap.size) (h : w.frozen? a = b) (i : Cls w) : i.wd.frozen? a = b := (i.below.frozen hl).trans h
theorem Cls.cellL {w : World} {a : Addr} {v : Value} (hl : a.block < w.heap.size) (h : w.cell? a = some v) (i : Cls w) : i.wd.cell? a = some v := (i.below.cell hl).trans h
theorem below_grown {W w' : World} (h : Below W.heap.size W w') (hf : ∀ a, w'.frozen? a = W.frozen? a) : Grown W w' := ⟨h.frame _, hf, h.size⟩
end Go.Proofs.YtijnpkbijljnlaaDoor
