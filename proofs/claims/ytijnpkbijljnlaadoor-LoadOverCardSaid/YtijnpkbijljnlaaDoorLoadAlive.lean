/-
  Does a set ask for more than all time; which part is less; the chapter's example: the walks.
-/
import Derived.Test.YtijnpkbijljnlaaDoorLoadExact
namespace Go.Proofs.YtijnpkbijljnlaaDoor
open Go.RowKit Go.Shelf
def overR (g : Nat → Nat → Int) (l : List Nat) : Bool := !(exactR g l).2 || decide ((exactR g l).1.2 < (exactR g l).1.1)
set_option maxRecDepth 100000 in
set_option maxHeartbeats 1000000 in
theorem over_any (x : Img) (g : Nat → Nat → Int) (s : Nat) (w : World) (hs : s < 4294967296) (hT : Tasks w x.ao x.n g) (hTab : Tab w) :
    Calls Tryd.prog 19 #[iv x, .int .u32 s] w fun e W' => e = .returned (.bool (overR g (selT s x.n))) ∧ Below w.heap.size w W' := by
  have HE := hid fun X (h : Below w.heap.size w X) => exact_any x g s X hs (hT.below h) (hTab.below h hTab.pos)
  obtain ⟨r, ao, n, cap, mo, mn, mc, eo, en, ec⟩ := x
  unfold iv at HE ⊢
  dsimp only at hT HE ⊢
  have hb1 := (Below.refl w.heap.size w).alloc (Nat.le_refl _) (Obj.cells #[.int .i64 r, .slice ao n cap, .slice mo mn mc, .slice eo en ec] 26)
  unfold overR
  obtain ⟨⟨⟨a, b⟩, ok⟩, hx⟩ : ∃ y, exactR g (selT s n) = y := ⟨_, rfl⟩
  rw [hx] at HE ⊢
  clear hx
  have fin : ∀ X, Below (w.alloc (Obj.cells #[.int .i64 r, .slice ao n cap, .slice mo mn mc, .slice eo en ec] 26)).heap.size (w.alloc (Obj.cells #[.int .i64 r, .slice ao n cap, .slice mo mn mc, .slice eo en ec] 26)) X → Below w.heap.size w (X.alloc (Obj.cells #[.int .i64 a, .int .i64 b] 46)) := fun X h =>
    (hb1.trans (h.mono hb1.size)).alloc (Nat.le_trans hb1.size h.size) _
  cases ok
  · go_enter Tryd.func19, Tryd.ntmps19
    go_wp2_with (go_at_call 18; refine (HE.out _ hb1).mono ?_; rintro e w2 ⟨rfl, hb2⟩)
    go_ret
    exact ⟨rfl, fin _ hb2⟩
  · go_enter Tryd.func19, Tryd.ntmps19
    go_wp2_with (go_at_call 18; refine (HE.out _ hb1).mono ?_; rintro e w2 ⟨rfl, hb2⟩)
    go_ret
    exact ⟨by simp, fin _ hb2⟩
def lessP (an ad bn bd : Int) : Bool := (mulR an bd).2 && (mulR bn ad).2 && decide ((mulR an bd).1 < (mulR bn ad).1)
set_option maxRecDepth 100000 in
set_option maxHeartbeats 1000000 in
theorem less37_any (an ad bn bd : Int) (w : World) : Calls Tryd.prog 22 #[.agg #[.int .i64 an, .int .i64 ad], .agg #[.int .i64 bn, .int .i64 bd]] w fun e w' => e = .returned (.bool (lessP an ad bn bd)) ∧ Below w.heap.size w w' := by
  have hb2 : Below w.heap.size w ((w.alloc (Obj.cells #[.int .i64 an, .int .i64 ad] 46)).alloc (Obj.cells #[.int .i64 bn, .int .i64 bd] 46)) := ((Below.refl _ _).alloc (Nat.le_refl _) _).alloc (by simp) _
  cases h1 : (mulR an bd).2 <;> cases h2 : (mulR bn ad).2
  all_goals
    go_enter Tryd.func22, Tryd.ntmps22
    go_wp2_with (go_at_call 33; refine (mul_any _ _ _).mono ?_; rintro e w' ⟨rfl, rfl⟩)
    go_ret
    exact ⟨by simp [lessP, h1, h2], hb2⟩
def tA : Nat → Int := fun j => if j = 0 then 10 else if j = 1 then 10 else if j = 2 then 2 else 0
def tB : Nat → Int := fun j => if j = 0 then 20 else if j = 1 then 20 else if j = 2 then 5 else 0
def gAB : Nat → Nat → Int := fun i => if i = 0 then tA else tB
theorem aliveRound : roundR (fun i => gAB i 0) (selT 3 2) = (20, true) := by decide +kernel
theorem aliveExact : exactR gAB (selT 3 2) = ((9, 20), true) := by decide +kernel
theorem aliveOf : ofS gAB (selT 3 2) = 450 := by decide +kernel
theorem aliveOver : overR gAB (selT 3 2) = false := by decide +kernel
set_option maxRecDepth 100000 in
set_option maxHeartbeats 2000000 in
theorem alive37_any (w : World) (hTab : Tab w) : Calls Tryd.prog 17 #[] w fun e w' => e = .returned (.bool true) ∧ Below w.heap.size w w' := by
  have b1 : Below w.heap.size w (((w.alloc (Obj.cells #[.int .i64 10, .int .i64 10, .int .i64 2, .int .i64 0, .int .i64 0, .int .i64 0, .int .i64 0, .int .i64 0, .int .i64 0, .int .i64 0, .int .i64 0, .int .i64 20, .int .i64 20, .int .i64 5, .int .i64 0, .int .i64 0, .int .i64 0, .int .i64 0, .int .i64 0, .int .i64 0, .int .i64 0, .int .i64 0] 37)).alloc (Obj.cells #[.int .u32 3, .slice none 0 0] 55)).alloc (Obj.cells #[.int .i64 0, .slice (some ⟨w.heap.size, 0, none⟩) 2 2, .slice (some ⟨w.heap.size + 1, 0, none⟩) 1 1, .slice none 0 0] 26)) := (((Below.refl _ _).alloc (Nat.le_refl _) _).alloc (by simp) _).alloc (by simp; omega) _
  have bT : (((w.alloc (Obj.cells #[.int .i64 10, .int .i64 10, .int .i64 2, .int .i64 0, .int .i64 0, .int .i64 0, .int .i64 0, .int .i64 0, .int .i64 0, .int .i64 0, .int .i64 0, .int .i64 20, .int .i64 20, .int .i64 5, .int .i64 0, .int .i64 0, .int .i64 0, .int .i64 0, .int .i64 0, .int .i64 0, .int .i64 0, .int .i64 0] 37)).alloc (Obj.cells #[.int .u32 3, .slice none 0 0] 55)).alloc (Obj.cells #[.int .i64 0, .slice (some ⟨w.heap.size, 0, none⟩) 2 2, .slice (some ⟨w.heap.size + 1, 0, none⟩) 1 1, .slice none 0 0] 26)).heap[w.heap.size]? = some (Obj.cells #[.int .i64 10, .int .i64 10, .int .i64 2, .int .i64 0, .int .i64 0, .int .i64 0, .int .i64 0, .int .i64 0, .int .i64 0, .int .i64 0, .int .i64 0, .int .i64 20, .int .i64 20, .int .i64 5, .int .i64 0, .int .i64 0, .int .i64 0, .int .i64 0, .int .i64 0, .int .i64 0, .int .i64 0, .int .i64 0] 37) := (Below.heap_alloc _ _ _ (by simp only [World.size_alloc]; omega)).trans ((Below.heap_alloc _ _ _ (by simp only [World.size_alloc]; omega)).trans (heap_alloc_new w _))
  have bI : (((w.alloc (Obj.cells #[.int .i64 10, .int .i64 10, .int .i64 2, .int .i64 0, .int .i64 0, .int .i64 0, .int .i64 0, .int .i64 0, .int .i64 0, .int .i64 0, .int .i64 0, .int .i64 20, .int .i64 20, .int .i64 5, .int .i64 0, .int .i64 0, .int .i64 0, .int .i64 0, .int .i64 0, .int .i64 0, .int .i64 0, .int .i64 0] 37)).alloc (Obj.cells #[.int .u32 3, .slice none 0 0] 55)).alloc (Obj.cells #[.int .i64 0, .slice (some ⟨w.heap.size, 0, none⟩) 2 2, .slice (some ⟨w.heap.size + 1, 0, none⟩) 1 1, .slice none 0 0] 26)).heap[w.heap.size + 1 + 1]? = some (Obj.cells #[.int .i64 0, .slice (some ⟨w.heap.size, 0, none⟩) 2 2, .slice (some ⟨w.heap.size + 1, 0, none⟩) 1 1, .slice none 0 0] 26) := by have := heap_alloc_new ((w.alloc (Obj.cells #[.int .i64 10, .int .i64 10, .int .i64 2, .int .i64 0, .int .i64 0, .int .i64 0, .int .i64 0, .int .i64 0, .int .i64 0, .int .i64 0, .int .i64 0, .int .i64 20, .int .i64 20, .int .i64 5, .int .i64 0, .int .i64 0, .int .i64 0, .int .i64 0, .int .i64 0, .int .i64 0, .int .i64 0, .int .i64 0] 37)).alloc (Obj.cells #[.int .u32 3, .slice none 0 0] 55)) (Obj.cells #[.int .i64 0, .slice (some ⟨w.heap.size, 0, none⟩) 2 2, .slice (some ⟨w.heap.size + 1, 0, none⟩) 1 1, .slice none 0 0] 26); rwa [World.size_alloc, World.size_alloc] at this
  have hT3 : Tasks (((w.alloc (Obj.cells #[.int .i64 10, .int .i64 10, .int .i64 2, .int .i64 0, .int .i64 0, .int .i64 0, .int .i64 0, .int .i64 0, .int .i64 0, .int .i64 0, .int .i64 0, .int .i64 20, .int .i64 20, .int .i64 5, .int .i64 0, .int .i64 0, .int .i64 0, .int .i64 0, .int .i64 0, .int .i64 0, .int .i64 0, .int .i64 0] 37)).alloc (Obj.cells #[.int .u32 3, .slice none 0 0] 55)).alloc (Obj.cells #[.int .i64 0, .slice (some ⟨w.heap.size, 0, none⟩) 2 2, .slice (some ⟨w.heap.size + 1, 0, none⟩) 1 1, .slice none 0 0] 26)) (some ⟨w.heap.size, 0, none⟩) 2 gAB := fun i hi => ⟨w.heap.size, 0, rfl, fun j hj => by
    rw [blk_cell bT]
    rcases (show i = 0 ∨ i = 1 by omega) with rfl | rfl
    · rcases j with _ | _ | _ | _ | _ | _ | _ | _ | _ | _ | _ | j
      all_goals first | rfl | omega
    · rcases j with _ | _ | _ | _ | _ | _ | _ | _ | _ | _ | _ | j
      all_goals first | rfl | omega⟩
  have hTb3 := hTab.below b1 hTab.pos
  have HR : Hid (∀ X, Below (((w.alloc (Obj.cells #[.int .i64 10, .int .i64 10, .int .i64 2, .int .i64 0, .int .i64 0, .int .i64 0, .int .i64 0, .int .i64 0, .int .i64 0, .int .i64 0, .int .i64 0, .int .i64 20, .int .i64 20, .int .i64 5, .int .i64 0, .int .i64 0, .int .i64 0, .int .i64 0, .int .i64 0, .int .i64 0, .int .i64 0, .int .i64 0] 37)).alloc (Obj.cells #[.int .u32 3, .slice none 0 0] 55)).alloc (Obj.cells #[.int .i64 0, .slice (some ⟨w.heap.size, 0, none⟩) 2 2, .slice (some ⟨w.heap.size + 1, 0, none⟩) 1 1, .slice none 0 0] 26)).heap.size (((w.alloc (Obj.cells #[.int .i64 10, .int .i64 10, .int .i64 2, .int .i64 0, .int .i64 0, .int .i64 0, .int .i64 0, .int .i64 0, .int .i64 0, .int .i64 0, .int .i64 0, .int .i64 20, .int .i64 20, .int .i64 5, .int .i64 0, .int .i64 0, .int .i64 0, .int .i64 0, .int .i64 0, .int .i64 0, .int .i64 0, .int .i64 0] 37)).alloc (Obj.cells #[.int .u32 3, .slice none 0 0] 55)).alloc (Obj.cells #[.int .i64 0, .slice (some ⟨w.heap.size, 0, none⟩) 2 2, .slice (some ⟨w.heap.size + 1, 0, none⟩) 1 1, .slice none 0 0] 26)) X → Calls Tryd.prog 14 #[.agg #[.int .i64 0, .slice (some ⟨w.heap.size, 0, none⟩) 2 2, .slice (some ⟨w.heap.size + 1, 0, none⟩) 1 1, .slice none 0 0], .int .u32 3] X fun e W' => e = .returned (rv (20, true)) ∧ Below X.heap.size X W') := fun X h => by
    have := round_any ⟨0, some ⟨w.heap.size, 0, none⟩, 2, 2, some ⟨w.heap.size + 1, 0, none⟩, 1, 1, none, 0, 0⟩ gAB 3 X (by omega) (hT3.below h) (hTb3.below h hTb3.pos)
    rw [aliveRound] at this
    exact this
  have HE : Hid (∀ X, Below (((w.alloc (Obj.cells #[.int .i64 10, .int .i64 10, .int .i64 2, .int .i64 0, .int .i64 0, .int .i64 0, .int .i64 0, .int .i64 0, .int .i64 0, .int .i64 0, .int .i64 0, .int .i64 20, .int .i64 20, .int .i64 5, .int .i64 0, .int .i64 0, .int .i64 0, .int .i64 0, .int .i64 0, .int .i64 0, .int .i64 0, .int .i64 0] 37)).alloc (Obj.cells #[.int .u32 3, .slice none 0 0] 55)).alloc (Obj.cells #[.int .i64 0, .slice (some ⟨w.heap.size, 0, none⟩) 2 2, .slice (some ⟨w.heap.size + 1, 0, none⟩) 1 1, .slice none 0 0] 26)).heap.size (((w.alloc (Obj.cells #[.int .i64 10, .int .i64 10, .int .i64 2, .int .i64 0, .int .i64 0, .int .i64 0, .int .i64 0, .int .i64 0, .int .i64 0, .int .i64 0, .int .i64 0, .int .i64 20, .int .i64 20, .int .i64 5, .int .i64 0, .int .i64 0, .int .i64 0, .int .i64 0, .int .i64 0, .int .i64 0, .int .i64 0, .int .i64 0] 37)).alloc (Obj.cells #[.int .u32 3, .slice none 0 0] 55)).alloc (Obj.cells #[.int .i64 0, .slice (some ⟨w.heap.size, 0, none⟩) 2 2, .slice (some ⟨w.heap.size + 1, 0, none⟩) 1 1, .slice none 0 0] 26)) X → Calls Tryd.prog 18 #[.agg #[.int .i64 0, .slice (some ⟨w.heap.size, 0, none⟩) 2 2, .slice (some ⟨w.heap.size + 1, 0, none⟩) 1 1, .slice none 0 0], .int .u32 3] X fun e W' => e = .returned (pv ((9, 20), true)) ∧ Below X.heap.size X W') := fun X h => by
    have := exact_any ⟨0, some ⟨w.heap.size, 0, none⟩, 2, 2, some ⟨w.heap.size + 1, 0, none⟩, 1, 1, none, 0, 0⟩ gAB 3 X (by omega) (hT3.below h) (hTb3.below h hTb3.pos)
    rw [aliveExact] at this
    exact this
  have HO : Hid (∀ X, Below (((w.alloc (Obj.cells #[.int .i64 10, .int .i64 10, .int .i64 2, .int .i64 0, .int .i64 0, .int .i64 0, .int .i64 0, .int .i64 0, .int .i64 0, .int .i64 0, .int .i64 0, .int .i64 20, .int .i64 20, .int .i64 5, .int .i64 0, .int .i64 0, .int .i64 0, .int .i64 0, .int .i64 0, .int .i64 0, .int .i64 0, .int .i64 0] 37)).alloc (Obj.cells #[.int .u32 3, .slice none 0 0] 55)).alloc (Obj.cells #[.int .i64 0, .slice (some ⟨w.heap.size, 0, none⟩) 2 2, .slice (some ⟨w.heap.size + 1, 0, none⟩) 1 1, .slice none 0 0] 26)).heap.size (((w.alloc (Obj.cells #[.int .i64 10, .int .i64 10, .int .i64 2, .int .i64 0, .int .i64 0, .int .i64 0, .int .i64 0, .int .i64 0, .int .i64 0, .int .i64 0, .int .i64 0, .int .i64 20, .int .i64 20, .int .i64 5, .int .i64 0, .int .i64 0, .int .i64 0, .int .i64 0, .int .i64 0, .int .i64 0, .int .i64 0, .int .i64 0] 37)).alloc (Obj.cells #[.int .u32 3, .slice none 0 0] 55)).alloc (Obj.cells #[.int .i64 0, .slice (some ⟨w.heap.size, 0, none⟩) 2 2, .slice (some ⟨w.heap.size + 1, 0, none⟩) 1 1, .slice none 0 0] 26)) X → Calls Tryd.prog 15 #[.agg #[.int .i64 0, .slice (some ⟨w.heap.size, 0, none⟩) 2 2, .slice (some ⟨w.heap.size + 1, 0, none⟩) 1 1, .slice none 0 0], .int .u32 3] X fun e W' => e = .returned (.int .i64 450) ∧ Below X.heap.size X W') := fun X h => by
    have := of37_any ⟨0, some ⟨w.heap.size, 0, none⟩, 2, 2, some ⟨w.heap.size + 1, 0, none⟩, 1, 1, none, 0, 0⟩ gAB 3 X (by omega) (hT3.below h) (hTb3.below h hTb3.pos)
    rw [aliveOf] at this
    exact this
  have HV : Hid (∀ X, Below (((w.alloc (Obj.cells #[.int .i64 10, .int .i64 10, .int .i64 2, .int .i64 0, .int .i64 0, .int .i64 0, .int .i64 0, .int .i64 0, .int .i64 0, .int .i64 0, .int .i64 0, .int .i64 20, .int .i64 20, .int .i64 5, .int .i64 0, .int .i64 0, .int .i64 0, .int .i64 0, .int .i64 0, .int .i64 0, .int .i64 0, .int .i64 0] 37)).alloc (Obj.cells #[.int .u32 3, .slice none 0 0] 55)).alloc (Obj.cells #[.int .i64 0, .slice (some ⟨w.heap.size, 0, none⟩) 2 2, .slice (some ⟨w.heap.size + 1, 0, none⟩) 1 1, .slice none 0 0] 26)).heap.size (((w.alloc (Obj.cells #[.int .i64 10, .int .i64 10, .int .i64 2, .int .i64 0, .int .i64 0, .int .i64 0, .int .i64 0, .int .i64 0, .int .i64 0, .int .i64 0, .int .i64 0, .int .i64 20, .int .i64 20, .int .i64 5, .int .i64 0, .int .i64 0, .int .i64 0, .int .i64 0, .int .i64 0, .int .i64 0, .int .i64 0, .int .i64 0] 37)).alloc (Obj.cells #[.int .u32 3, .slice none 0 0] 55)).alloc (Obj.cells #[.int .i64 0, .slice (some ⟨w.heap.size, 0, none⟩) 2 2, .slice (some ⟨w.heap.size + 1, 0, none⟩) 1 1, .slice none 0 0] 26)) X → Calls Tryd.prog 19 #[.agg #[.int .i64 0, .slice (some ⟨w.heap.size, 0, none⟩) 2 2, .slice (some ⟨w.heap.size + 1, 0, none⟩) 1 1, .slice none 0 0], .int .u32 3] X fun e W' => e = .returned (.bool false) ∧ Below X.heap.size X W') := fun X h => by
    have := over_any ⟨0, some ⟨w.heap.size, 0, none⟩, 2, 2, some ⟨w.heap.size + 1, 0, none⟩, 1, 1, none, 0, 0⟩ gAB 3 X (by omega) (hT3.below h) (hTb3.below h hTb3.pos)
    rw [aliveOver] at this
    exact this
  clear hT3 bT hTb3
  have hbn := Below.refl (((w.alloc (Obj.cells #[.int .i64 10, .int .i64 10, .int .i64 2, .int .i64 0, .int .i64 0, .int .i64 0, .int .i64 0, .int .i64 0, .int .i64 0, .int .i64 0, .int .i64 0, .int .i64 20, .int .i64 20, .int .i64 5, .int .i64 0, .int .i64 0, .int .i64 0, .int .i64 0, .int .i64 0, .int .i64 0, .int .i64 0, .int .i64 0] 37)).alloc (Obj.cells #[.int .u32 3, .slice none 0 0] 55)).alloc (Obj.cells #[.int .i64 0, .slice (some ⟨w.heap.size, 0, none⟩) 2 2, .slice (some ⟨w.heap.size + 1, 0, none⟩) 1 1, .slice none 0 0] 26)).heap.size (((w.alloc (Obj.cells #[.int .i64 10, .int .i64 10, .int .i64 2, .int .i64 0, .int .i64 0, .int .i64 0, .int .i64 0, .int .i64 0, .int .i64 0, .int .i64 0, .int .i64 0, .int .i64 20, .int .i64 20, .int .i64 5, .int .i64 0, .int .i64 0, .int .i64 0, .int .i64 0, .int .i64 0, .int .i64 0, .int .i64 0, .int .i64 0] 37)).alloc (Obj.cells #[.int .u32 3, .slice none 0 0] 55)).alloc (Obj.cells #[.int .i64 0, .slice (some ⟨w.heap.size, 0, none⟩) 2 2, .slice (some ⟨w.heap.size + 1, 0, none⟩) 1 1, .slice none 0 0] 26))
  go_enter Tryd.func17, Tryd.ntmps17
  go_wp2_with (first
    | (go_at_call 14; refine (HR.out _ hbn).mono ?_; clear HR; rintro e w2 ⟨rfl, hb2⟩; have hbn2 := hbn.trans (hb2.mono hbn.size); clear hbn; have hbn := hbn2; have zI := (hbn.block _ (Array.getElem?_eq_some_iff.1 bI).1).trans bI; have c0 := blk_cell zI 0; have c1 := blk_cell zI 1; have c2 := blk_cell zI 2; have c3 := blk_cell zI 3)
    | (go_at_call 18; refine (HE.out _ hbn).mono ?_; clear HE; rintro e w3 ⟨rfl, hb3⟩; clear c0 c1 c2 c3 zI; have hbn3 := (hbn.trans (hb3.mono hbn.size)).alloc (Nat.le_trans hbn.size hb3.size) (Obj.cells #[.int .i64 9, .int .i64 20] 46); clear hbn; have hbn := hbn3; have zP := heap_alloc_new w3 (Obj.cells #[.int .i64 9, .int .i64 20] 46); have d0 := blk_cell zP 0; have d1 := blk_cell zP 1; have zI := (hbn.block _ (Array.getElem?_eq_some_iff.1 bI).1).trans bI; have c0 := blk_cell zI 0; have c1 := blk_cell zI 1; have c2 := blk_cell zI 2; have c3 := blk_cell zI 3)
    | (go_at_call 15; refine (HO.out _ hbn).mono ?_; clear HO; rintro e w4 ⟨rfl, hb4⟩; clear c0 c1 c2 c3 zI; have hbn4 := hbn.trans (hb4.mono hbn.size); clear hbn; have hbn := hbn4; have zI := (hbn.block _ (Array.getElem?_eq_some_iff.1 bI).1).trans bI; have c0 := blk_cell zI 0; have c1 := blk_cell zI 1; have c2 := blk_cell zI 2; have c3 := blk_cell zI 3)
    | (go_at_call 19; refine (HV.out _ hbn).mono ?_; clear HV; rintro e w5 ⟨rfl, hb5⟩; have hbn5 := hbn.trans (hb5.mono hbn.size)))
  go_ret
  exact ⟨rfl, b1.trans (hbn5.mono b1.size)⟩
end Go.Proofs.YtijnpkbijljnlaaDoor
