/-
  Two parts of all time together: the walk.
-/
import Derived.BigRegion
import Derived.Test.YtijnpkbijljnlaaDoorLoadOf
namespace Go.Proofs.YtijnpkbijljnlaaDoor
open Go.RowKit Go.Shelf
/-- A part, and whether it is one. -/
def addP (an ad bn bd : Int) : (Int × Int) × Bool :=
  if (multR ad bd).2 then
    (if (mulR an ((multR ad bd).1 / ad)).2 && (mulR bn ((multR ad bd).1 / bd)).2 && (addR (mulR an ((multR ad bd).1 / ad)).1 (mulR bn ((multR ad bd).1 / bd)).1).2 && (comR (addR (mulR an ((multR ad bd).1 / ad)).1 (mulR bn ((multR ad bd).1 / bd)).1).1 (multR ad bd).1).2 then
      (((addR (mulR an ((multR ad bd).1 / ad)).1 (mulR bn ((multR ad bd).1 / bd)).1).1 / (comR (addR (mulR an ((multR ad bd).1 / ad)).1 (mulR bn ((multR ad bd).1 / bd)).1).1 (multR ad bd).1).1, (multR ad bd).1 / (comR (addR (mulR an ((multR ad bd).1 / ad)).1 (mulR bn ((multR ad bd).1 / bd)).1).1 (multR ad bd).1).1), true)
     else ((0, 0), false))
  else ((0, 0), false)
@[go_sem] def pv (p : (Int × Int) × Bool) : Value := .tuple #[.agg #[.int .i64 p.1.1, .int .i64 p.1.2], .bool p.2]
/-- What a common multiple tells. -/
theorem multR_pos {a b : Int} (h : (multR a b).2 = true) : 1 ≤ a ∧ a ≤ 1099511627776 ∧ 1 ≤ b ∧ b ≤ 1099511627776 ∧ 1 ≤ (multR a b).1 ∧ (multR a b).1 ≤ 1099511627776 ∧ (multR a b).1 = a / ((Int.gcd a b : Nat) : Int) * b := by
  unfold multR at h ⊢
  split
  · rename_i hc
    rw [if_pos hc] at h
    simp only [Bool.and_eq_true, Bool.not_eq_true', beq_eq_false_iff_ne] at hc
    obtain ⟨⟨⟨ha, hb⟩, ha0⟩, hb0⟩ := hc
    have h1 := inB_yes ha
    have h2 := inB_yes hb
    have hg := gcd_pos (b := b) ha0
    unfold mulR at h ⊢
    split
    · rename_i hm
      simp only [Bool.and_eq_true, decide_eq_true_iff] at hm
      have hd : ((Int.gcd a b : Nat) : Int) ∣ a := Int.gcd_dvd_left ..
      have hq : 1 ≤ a / ((Int.gcd a b : Nat) : Int) := by
        have := Int.ediv_mul_cancel hd
        rcases (show a / ((Int.gcd a b : Nat) : Int) ≤ 0 ∨ 1 ≤ a / ((Int.gcd a b : Nat) : Int) by omega) with h0 | h0
        · have := Int.mul_nonpos_of_nonpos_of_nonneg h0 (show (0 : Int) ≤ ((Int.gcd a b : Nat) : Int) by omega)
          omega
        · exact h0
      refine ⟨by omega, by omega, by omega, by omega, ?_, hm.2, rfl⟩
      have := Int.mul_le_mul hq (show (1 : Int) ≤ b by omega) (by omega) (by omega)
      simpa using this
    · rename_i hm; rw [if_neg hm] at h; cases h
  · rename_i hc; rw [if_neg hc] at h; cases h
set_option maxRecDepth 100000 in
set_option maxHeartbeats 2000000 in
theorem add37_any (an ad bn bd : Int) (w : World) : Calls Tryd.prog 30 #[.agg #[.int .i64 an, .int .i64 ad], .agg #[.int .i64 bn, .int .i64 bd]] w fun e w' => e = .returned (pv (addP an ad bn bd)) ∧ Below w.heap.size w w' := by
  have hM := hid fun X => multiple_any ad bd X
  have hb3 : Below w.heap.size w (((w.alloc (Obj.cells #[.int .i64 an, .int .i64 ad] 46)).alloc (Obj.cells #[.int .i64 bn, .int .i64 bd] 46)).alloc (Obj.cells #[.int .i64 0, .int .i64 0] 46)) := (((Below.refl _ _).alloc (Nat.le_refl _) _).alloc (by simp) _).alloc (by simp; omega) _
  have bA : (((w.alloc (Obj.cells #[.int .i64 an, .int .i64 ad] 46)).alloc (Obj.cells #[.int .i64 bn, .int .i64 bd] 46)).alloc (Obj.cells #[.int .i64 0, .int .i64 0] 46)).heap[w.heap.size]? = some (Obj.cells #[.int .i64 an, .int .i64 ad] 46) := (Below.heap_alloc _ _ _ (by simp; omega)).trans ((Below.heap_alloc _ _ _ (by simp)).trans (heap_alloc_new w _))
  have bB : (((w.alloc (Obj.cells #[.int .i64 an, .int .i64 ad] 46)).alloc (Obj.cells #[.int .i64 bn, .int .i64 bd] 46)).alloc (Obj.cells #[.int .i64 0, .int .i64 0] 46)).heap[w.heap.size + 1]? = some (Obj.cells #[.int .i64 bn, .int .i64 bd] 46) := (Below.heap_alloc _ _ _ (by simp)).trans (by have := heap_alloc_new (w.alloc (Obj.cells #[.int .i64 an, .int .i64 ad] 46)) (Obj.cells #[.int .i64 bn, .int .i64 bd] 46); rwa [World.size_alloc] at this)
  have bR : (((w.alloc (Obj.cells #[.int .i64 an, .int .i64 ad] 46)).alloc (Obj.cells #[.int .i64 bn, .int .i64 bd] 46)).alloc (Obj.cells #[.int .i64 0, .int .i64 0] 46)).heap[w.heap.size + 1 + 1]? = some (Obj.cells #[.int .i64 0, .int .i64 0] 46) := by have := heap_alloc_new ((w.alloc (Obj.cells #[.int .i64 an, .int .i64 ad] 46)).alloc (Obj.cells #[.int .i64 bn, .int .i64 bd] 46)) (Obj.cells #[.int .i64 0, .int .i64 0] 46); rwa [World.size_alloc, World.size_alloc] at this
  obtain ⟨⟨D, ok⟩, hx⟩ : ∃ y, multR ad bd = y := ⟨_, rfl⟩
  cases ok
  · have hp : addP an ad bn bd = ((0, 0), false) := by unfold addP; rw [hx]; rfl
    rw [hx] at hM
    rw [hp]
    clear hp hx
    go_enter Tryd.func30, Tryd.ntmps30
    go_wp2_with (go_at_call 28; refine (hM.out _).mono ?_; rintro e w' ⟨rfl, hb'⟩; have zA := (hb'.block _ (Array.getElem?_eq_some_iff.1 bA).1).trans bA; have zB := (hb'.block _ (Array.getElem?_eq_some_iff.1 bB).1).trans bB; have zR := (hb'.block _ (Array.getElem?_eq_some_iff.1 bR).1).trans bR; have cA0 := blk_cell zA 0; have cA1 := blk_cell zA 1; have cB0 := blk_cell zB 0; have cB1 := blk_cell zB 1; have cR0 := blk_cell zR 0; have cR1 := blk_cell zR 1; have fR0 := blk_frozen zR 0; have fR1 := blk_frozen zR 1)
    exact bodyPost_ret (v := pv ((0, 0), false)) (by simp [results, Tryd.results30, go_sem, cR0, cR1]) rfl ⟨rfl, ((hb3.trans (hb'.mono hb3.size)).setCell (p := ⟨w.heap.size + 1 + 1, 0, none⟩) (by show w.heap.size ≤ w.heap.size + 1 + 1; omega) _).setCell (p := ⟨w.heap.size + 1 + 1, 1, none⟩) (by show w.heap.size ≤ w.heap.size + 1 + 1; omega) _⟩
  · have hpos := multR_pos (a := ad) (b := bd) (by rw [hx])
    have hp : addP an ad bn bd = (if (mulR an (D / ad)).2 && (mulR bn (D / bd)).2 && (addR (mulR an (D / ad)).1 (mulR bn (D / bd)).1).2 && (comR (addR (mulR an (D / ad)).1 (mulR bn (D / bd)).1).1 D).2 then
      (((addR (mulR an (D / ad)).1 (mulR bn (D / bd)).1).1 / (comR (addR (mulR an (D / ad)).1 (mulR bn (D / bd)).1).1 D).1, D / (comR (addR (mulR an (D / ad)).1 (mulR bn (D / bd)).1).1 D).1), true)
     else ((0, 0), false)) := by unfold addP; rw [hx]; rfl
    rw [hx] at hM hpos
    dsimp only at hpos
    obtain ⟨p1, p2, p3, p4, p5, p6, -⟩ := hpos
    have hX := hid fun X => mul_any an (D / ad) X
    have hY := hid fun X => mul_any bn (D / bd) X
    obtain ⟨⟨xv, xo⟩, ex⟩ : ∃ y, mulR an (D / ad) = y := ⟨_, rfl⟩
    obtain ⟨⟨yv, yo⟩, ey⟩ : ∃ y, mulR bn (D / bd) = y := ⟨_, rfl⟩
    rw [ex, ey] at hp
    rw [ex] at hX
    rw [ey] at hY
    dsimp only at hp
    have hS := hid fun X => add_any xv yv X
    obtain ⟨⟨sv, so⟩, es⟩ : ∃ y, addR xv yv = y := ⟨_, rfl⟩
    rw [es] at hp hS
    dsimp only at hp
    have hC := hid fun X => common_any sv D X
    obtain ⟨⟨gv, go⟩, eg⟩ : ∃ y, comR sv D = y := ⟨_, rfl⟩
    rw [eg] at hp hC
    dsimp only at hp
    have q1 : (ad == 0) = false := by simp; omega
    have q2 : (bd == 0) = false := by simp; omega
    have q3 : D.tdiv ad = D / ad := Int.tdiv_eq_ediv_of_nonneg (by omega)
    have q4 : D.tdiv bd = D / bd := Int.tdiv_eq_ediv_of_nonneg (by omega)
    have q5 : ad ≠ 0 := by omega
    have l1 : 0 ≤ D / ad := Int.ediv_nonneg (by omega) (by omega)
    have l2 : 0 ≤ D / bd := Int.ediv_nonneg (by omega) (by omega)
    have l3 : D / ad ≤ D := Int.ediv_le_self _ (by omega)
    have l4 : D / bd ≤ D := Int.ediv_le_self _ (by omega)
    have q7 : IntKind.i64.wrap (D / ad) = D / ad := IntWalk.i64_in _ (by omega)
    have q8 : IntKind.i64.wrap (D / bd) = D / bd := IntWalk.i64_in _ (by omega)
    have q6 : bd ≠ 0 := by omega
    rw [hp]
    have HS := hid es
    have HG := hid eg
    clear hx ex ey es eg hp
    go_enter Tryd.func30, Tryd.ntmps30
    go_wp2_with (go_at_call 28; refine (hM.out _).mono ?_; rintro e w' ⟨rfl, hb'⟩; have zA := (hb'.block _ (Array.getElem?_eq_some_iff.1 bA).1).trans bA; have zB := (hb'.block _ (Array.getElem?_eq_some_iff.1 bB).1).trans bB; have zR := (hb'.block _ (Array.getElem?_eq_some_iff.1 bR).1).trans bR; have cA0 := blk_cell zA 0; have cA1 := blk_cell zA 1; have cB0 := blk_cell zB 0; have cB1 := blk_cell zB 1; have cR0 := blk_cell zR 0; have cR1 := blk_cell zR 1; have fR0 := blk_frozen zR 0; have fR1 := blk_frozen zR 1)
    go_quiet ((go_at_call 33; exact Calls.drawn (hX.out _)))
    go_wp2
    have hbw : Below w.heap.size w (w'.drewN nq) := (hb3.trans (hb'.mono hb3.size)).trans ⟨rfl, rfl, rfl, Nat.le_refl _, fun _ _ => rfl⟩
    obtain ⟨w6, hw6⟩ : ∃ X, X = w'.drewN nq := ⟨_, rfl⟩
    have yB : w6.heap[w.heap.size + 1]? = some (Obj.cells #[.int .i64 bn, .int .i64 bd] 46) := by rw [hw6]; exact zB
    have yR : w6.heap[w.heap.size + 1 + 1]? = some (Obj.cells #[.int .i64 0, .int .i64 0] 46) := by rw [hw6]; exact zR
    rw [← hw6] at hbw ⊢
    clear hw6 zA zB zR cA0 cA1 cB0 cB1 cR0 cR1 fR0 fR1 hb' hb3 bA bB bR
    have cB0 := blk_cell yB 0
    have cB1 := blk_cell yB 1
    have cR0 := blk_cell yR 0
    have cR1 := blk_cell yR 1
    have fR0 := blk_frozen yR 0
    have fR1 := blk_frozen yR 1
    go_quiet ((go_at_call 33; exact Calls.drawn (hY.out _)))
    have hgd : go = true → 1 ≤ gv ∧ sv.tdiv gv = sv / gv ∧ D.tdiv gv = D / gv ∧ IntKind.i64.wrap (sv / gv) = sv / gv ∧ IntKind.i64.wrap (D / gv) = D / gv := fun hg => by
      have e := HG.out
      subst hg
      unfold comR at e
      split at e
      · rename_i hc
        simp only [Bool.and_eq_true] at hc
        have hs := inB_yes hc.1
        simp only [Prod.mk.injEq, and_true] at e
        have h1 : 1 ≤ gv := by
          rw [← e]
          have : Int.gcd sv D ≠ 0 := fun h0 => by have := Int.eq_zero_of_gcd_eq_zero_right h0; omega
          omega
        have m1 : 0 ≤ sv / gv := Int.ediv_nonneg (by omega) (by omega)
        have m2 : 0 ≤ D / gv := Int.ediv_nonneg (by omega) (by omega)
        have m3 : sv / gv ≤ sv := Int.ediv_le_self _ (by omega)
        have m4 : D / gv ≤ D := Int.ediv_le_self _ (by omega)
        exact ⟨h1, Int.tdiv_eq_ediv_of_nonneg (by omega), Int.tdiv_eq_ediv_of_nonneg (by omega), IntWalk.i64_in _ (by omega), IntWalk.i64_in _ (by omega)⟩
      · cases e
    clear HS HG q1 q2 q3 q4 q7 q8 l1 l2 l3 l4
    have HBW := hid hbw
    cases xo <;> cases yo <;> cases so <;> cases go
    case true.true.true.true =>
      obtain ⟨h1, h2, h3, h4, h5⟩ := hgd rfl
      have h6 : gv ≠ 0 := by omega
      have h7 : (gv == 0) = false := by simp; omega
      clear hgd
      go_wp2_with (first | (go_at_call 37; refine (hS.out _).mono ?_; rintro e w4 ⟨rfl, rfl⟩) | (go_at_call 43; refine (hC.out _).mono ?_; rintro e w5 ⟨rfl, hb5⟩; have zR5 := (hb5.block _ (Array.getElem?_eq_some_iff.1 yR).1).trans yR; have c50 := blk_cell zR5 0; have c51 := blk_cell zR5 1; have f50 := blk_frozen zR5 0; have f51 := blk_frozen zR5 1))
      have hb6 : Below w6.heap.size w6 w5 := ⟨hb5.os, hb5.tape, hb5.output, hb5.size, hb5.block⟩
      go_region
      go_wp2
      exact bodyPost_ret (v := pv ((sv / gv, D / gv), true)) (by simp [results, Tryd.results30, go_sem, c50, c51]) rfl ⟨rfl, (((HBW.out.trans (hb6.mono HBW.out.size)).setCell (p := ⟨w.heap.size + 1 + 1, 0, none⟩) (by show w.heap.size ≤ w.heap.size + 1 + 1; omega) _).setCell (p := ⟨w.heap.size + 1 + 1, 1, none⟩) (by show w.heap.size ≤ w.heap.size + 1 + 1; omega) _).drew⟩
    all_goals
      clear hgd
      go_wp2_with (first | (go_at_call 37; refine (hS.out _).mono ?_; rintro e w4 ⟨rfl, rfl⟩) | (go_at_call 43; refine (hC.out _).mono ?_; rintro e w5 ⟨rfl, hb5⟩; have zR5 := (hb5.block _ (Array.getElem?_eq_some_iff.1 yR).1).trans yR; have c50 := blk_cell zR5 0; have c51 := blk_cell zR5 1; have f50 := blk_frozen zR5 0; have f51 := blk_frozen zR5 1))
      have hb6 : Below w6.heap.size w6 w5 := ⟨hb5.os, hb5.tape, hb5.output, hb5.size, hb5.block⟩
      exact bodyPost_ret (v := pv ((0, 0), false)) (by simp [results, Tryd.results30, go_sem, c50, c51]) rfl ⟨rfl, ((HBW.out.trans (hb6.mono HBW.out.size)).setCell (p := ⟨w.heap.size + 1 + 1, 0, none⟩) (by show w.heap.size ≤ w.heap.size + 1 + 1; omega) _).setCell (p := ⟨w.heap.size + 1 + 1, 1, none⟩) (by show w.heap.size ≤ w.heap.size + 1 + 1; omega) _⟩
end Go.Proofs.YtijnpkbijljnlaaDoor
