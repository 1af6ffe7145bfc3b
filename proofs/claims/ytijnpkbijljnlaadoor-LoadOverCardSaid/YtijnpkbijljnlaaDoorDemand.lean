/-
  Contracts of the package demand: one term.
-/
import Derived.Test.YtijnpkbijljnlaaDoorCheck
namespace Go.Proofs.YtijnpkbijljnlaaDoor
open Go.RowKit
theorem boxed4 {w w1 : World} {u v x y : Value} {t : TypeId} (h : Below (w.alloc (Obj.cells #[u, v, x, y] t)).heap.size (w.alloc (Obj.cells #[u, v, x, y] t)) w1) :
    w1.cell? ⟨w.heap.size, 0, none⟩ = some u ∧ w1.cell? ⟨w.heap.size, 1, none⟩ = some v ∧ w1.cell? ⟨w.heap.size, 2, none⟩ = some x ∧ w1.cell? ⟨w.heap.size, 3, none⟩ = some y :=
  ⟨(h.cell (p := ⟨w.heap.size, 0, none⟩) (by simp)).trans (World.cell?_alloc_at _ _ _ _ rfl), (h.cell (p := ⟨w.heap.size, 1, none⟩) (by simp)).trans (World.cell?_alloc_at _ _ _ _ rfl), (h.cell (p := ⟨w.heap.size, 2, none⟩) (by simp)).trans (World.cell?_alloc_at _ _ _ _ rfl), (h.cell (p := ⟨w.heap.size, 3, none⟩) (by simp)).trans (World.cell?_alloc_at _ _ _ _ rfl)⟩
theorem kept {w w1 : World} {p : Addr} {v : Value} (c : w.cell? p = some v) (h : Below w.heap.size w w1) : w1.cell? p = some v := (h.cell (cell_lt c)).trans c
def jobsR (p o t : Int) : Int × Bool := if (lessR t o).2 then upR (lessR t o).1 p else (0, false)
theorem jobs_any (p c o k t : Int) (w : World) : Calls Tryd.prog 24 #[.agg #[.int .i64 p, .int .i64 c, .int .i64 o, .int .i64 k], .int .i64 t] w fun e w' => e = .returned (rv (jobsR p o t)) ∧ Below w.heap.size w w' := by
  have HL := hid (less_any t o)
  unfold jobsR
  obtain ⟨⟨n, ok⟩, hx⟩ : ∃ x, lessR t o = x := ⟨_, rfl⟩
  rw [hx] at HL ⊢
  cases ok
  · go_enter Tryd.func24, Tryd.ntmps24
    go_wp2_with (go_at_call 36; refine (HL.out _).mono ?_; rintro e w1 ⟨rfl, rfl⟩)
    go_ret2
    exact ⟨rfl, (Below.refl _ _).alloc (Nat.le_refl _) _⟩
  · have HU := hid (up_any n p)
    simp only [if_true]
    obtain ⟨⟨m, is⟩, hy⟩ : ∃ x, upR n p = x := ⟨_, rfl⟩
    rw [hy] at HU ⊢
    go_enter Tryd.func24, Tryd.ntmps24
    go_wp2_with (first | (go_at_call 36; refine (HL.out _).mono ?_; rintro e w1 ⟨rfl, rfl⟩) | (go_at_call 29; refine (HU.out _).mono ?_; rintro e w1 ⟨rfl, rfl⟩))
    go_ret2
    exact ⟨rfl, (Below.refl _ _).alloc (Nat.le_refl _) _⟩
def workR (p c o k t : Int) : Int × Bool := if (jobsR p o t).2 then (if (mulR (jobsR p o t).1 c).2 then addR (mulR (jobsR p o t).1 c).1 k else (0, false)) else (0, false)
theorem work_any (p c o k t : Int) (w : World) : Calls Tryd.prog 25 #[.agg #[.int .i64 p, .int .i64 c, .int .i64 o, .int .i64 k], .int .i64 t] w fun e w' => e = .returned (rv (workR p c o k t)) ∧ Below w.heap.size w w' := by
  have HJ := hid (jobs_any p c o k t)
  unfold workR
  obtain ⟨⟨n, ok⟩, hx⟩ : ∃ x, jobsR p o t = x := ⟨_, rfl⟩
  rw [hx] at HJ ⊢
  cases ok
  · go_enter Tryd.func25, Tryd.ntmps25
    go_wp2_with (go_at_call 24; refine (HJ.out _).mono ?_; rintro e w1 ⟨rfl, hb1⟩; have c1 := (boxed4 hb1).2.1; have c3 := (boxed4 hb1).2.2.2)
    go_ret2
    exact ⟨rfl, ((Below.refl _ _).alloc (Nat.le_refl _) _).trans (hb1.mono (by simp))⟩
  · have HM := hid (mul_any n c)
    simp only [if_true]
    obtain ⟨⟨m, is⟩, hy⟩ : ∃ x, mulR n c = x := ⟨_, rfl⟩
    rw [hy] at HM ⊢
    cases is
    · go_enter Tryd.func25, Tryd.ntmps25
      go_wp2_with (first | (go_at_call 24; refine (HJ.out _).mono ?_; rintro e w1 ⟨rfl, hb1⟩; have c1 := (boxed4 hb1).2.1; have c3 := (boxed4 hb1).2.2.2) | (go_at_call 33; refine (HM.out _).mono ?_; rintro e w2 ⟨rfl, rfl⟩))
      go_ret2
      exact ⟨rfl, ((Below.refl _ _).alloc (Nat.le_refl _) _).trans (hb1.mono (by simp))⟩
    · have HA := hid (add_any m k)
      simp only [if_true]
      obtain ⟨⟨l, fits⟩, hz⟩ : ∃ x, addR m k = x := ⟨_, rfl⟩
      rw [hz] at HA ⊢
      go_enter Tryd.func25, Tryd.ntmps25
      go_wp2_with (first | (go_at_call 24; refine (HJ.out _).mono ?_; rintro e w1 ⟨rfl, hb1⟩; have c1 := (boxed4 hb1).2.1; have c3 := (boxed4 hb1).2.2.2) | (go_at_call 33; refine (HM.out _).mono ?_; rintro e w2 ⟨rfl, rfl⟩) | (go_at_call 37; refine (HA.out _).mono ?_; rintro e w2 ⟨rfl, rfl⟩))
      go_ret2
      exact ⟨rfl, ((Below.refl _ _).alloc (Nat.le_refl _) _).trans (hb1.mono (by simp))⟩
theorem jobs_6 (w : World) : Calls Tryd.prog 24 #[.agg #[.int .i64 5, .int .i64 2, .int .i64 1, .int .i64 0], .int .i64 6] w fun e w' => e = .returned (rv (1, true)) ∧ Below w.heap.size w w' := by
  have := jobs_any 5 2 1 0 6 w
  rwa [show jobsR 5 1 6 = (1, true) by decide] at this
theorem work_7 (w : World) : Calls Tryd.prog 25 #[.agg #[.int .i64 5, .int .i64 2, .int .i64 1, .int .i64 0], .int .i64 7] w fun e w' => e = .returned (rv (4, true)) ∧ Below w.heap.size w w' := by
  have := work_any 5 2 1 0 7 w
  rwa [show workR 5 2 1 0 7 = (4, true) by decide] at this
theorem demandAlive_any (w : World) : Calls Tryd.prog 12 #[] w fun e w' => e = .returned (.bool true) ∧ Below w.heap.size w w' := by
  go_enter Tryd.func12, Tryd.ntmps12
  go_wp2_with (first | (go_at_call 24; refine (jobs_6 _).mono ?_; rintro e w1 ⟨rfl, hb1⟩; have c0 := (boxed4 hb1).1; have c1 := (boxed4 hb1).2.1; have c2 := (boxed4 hb1).2.2.1; have c3 := (boxed4 hb1).2.2.2) | (go_at_call 25; refine (work_7 _).mono ?_; rintro e w2 ⟨rfl, hb2⟩))
  go_ret
  have b1 := ((Below.refl w.heap.size w).alloc (Nat.le_refl _) (Obj.cells #[Value.int .i64 5, Value.int .i64 2, Value.int .i64 1, Value.int .i64 0] 33)).trans (hb1.mono (by simp))
  exact ⟨rfl, b1.trans (hb2.mono b1.size)⟩
end Go.Proofs.YtijnpkbijljnlaaDoor
