/-
  The walk of the law PairKeeps.
-/
import Derived.Test.YtgcpfmdldgmbnaaPairLaws
import Derived.Test.YtgcpfmdldgmbnaaStage
namespace Go.Proofs.Ytgcpfmdldgmbnaa
open Go.RowKit
section
attribute [local go_sem high] run_eql_pair
attribute [local go_sem] B_and B_or B_xor B_andNot B_not B_inj B_zero
attribute [local go_sem] Oper.quietS Oper.effS effUpon Drawn
theorem ones_B (x : BitVec 32) : bits .and .u32 4294967295 (B x) = B x := by
  rw [show (4294967295 : Int) = B (BitVec.allOnes 32) by decide, B_and, BitVec.allOnes_and]
attribute [local go_sem] ones_B
theorem keeps_fell (a b c : BitVec 32) : (((~~~a ||| c) == ~~~(a ||| b)) = false) ∨ ((a ||| b) = a ∧ (~~~a ||| c) = ~~~a) := by
  by_cases h : (~~~a ||| c) = ~~~(a ||| b)
  · right
    have key : ∀ i, i < 32 → (a.getLsbD i = false → b.getLsbD i = false) ∧ (a.getLsbD i = true → c.getLsbD i = false) := fun i hi => by
      have := congrArg (fun x => x.getLsbD i) h
      simp only [BitVec.getLsbD_or, BitVec.getLsbD_not, hi, decide_true, Bool.true_and] at this
      revert this
      cases a.getLsbD i <;> cases b.getLsbD i <;> cases c.getLsbD i <;> simp
    constructor
    · refine BitVec.eq_of_getLsbD_eq fun i hi => ?_
      have := key i hi
      simp only [BitVec.getLsbD_or]
      revert this
      cases a.getLsbD i <;> cases b.getLsbD i <;> simp
    · refine BitVec.eq_of_getLsbD_eq fun i hi => ?_
      have := key i hi
      simp only [BitVec.getLsbD_or, BitVec.getLsbD_not, hi, decide_true, Bool.true_and]
      revert this
      cases a.getLsbD i <;> cases c.getLsbD i <;> simp
  · left; simp [h]
theorem fellB_ones (a b : BitVec 32) : fellB (BitVec.allOnes 32) a (a ||| b) = true := by
  refine fellB_all fun i hi => ?_
  simp only [fellAt, bt, BitVec.getLsbD_or, BitVec.getLsbD_allOnes, hi, decide_true]
  cases a.getLsbD i <;> cases b.getLsbD i <;> rfl
theorem roseB_or (a b : BitVec 32) : roseB a (a ||| b) = true := by
  refine roseB_all fun i hi => ?_
  simp only [roseAt, bt, BitVec.getLsbD_or]
  cases a.getLsbD i <;> cases b.getLsbD i <;> rfl
theorem fell_blank (a b : BitVec 32) (w : World) : Calls Try.prog 18 #[.int .u32 4294967295, .int .u32 (B a), .int .u32 (B (a ||| b))] w fun e w' => e = .returned (.bool true) ∧ w = w' := by
  have := fell_any (BitVec.allOnes 32) a (a ||| b) w
  rw [fellB_ones] at this
  exact this
theorem rose_or (a b : BitVec 32) (w : World) : Calls Try.prog 19 #[.int .u32 (B a), .int .u32 (B (a ||| b))] w fun e w' => e = .returned (.bool true) ∧ w = w' := by
  have := rose_any a (a ||| b) w
  rw [roseB_or] at this
  exact this
theorem fell_blank_self (a : BitVec 32) (w : World) : Calls Try.prog 18 #[.int .u32 4294967295, .int .u32 (B a), .int .u32 (B a)] w fun e w' => e = .returned (.bool true) ∧ w = w' := by
  have := fell_blank a a w
  rwa [BitVec.or_self] at this
theorem rose_self (a : BitVec 32) (w : World) : Calls Try.prog 19 #[.int .u32 (B a), .int .u32 (B a)] w fun e w' => e = .returned (.bool true) ∧ w = w' := by
  have := rose_or a a w
  rwa [BitVec.or_self] at this
set_option maxHeartbeats 1000000 in
theorem keeps_walk (a b c : BitVec 32) (w : World) :
    Calls Try.prog 3 #[.int .u32 (B a), .int .u32 (B b), .int .u32 (B c)] w fun e w' => e = .returned (.bool true) ∧ Below w.heap.size w w' := by
  obtain ⟨W0, hW0⟩ : ∃ W0, W0 = ((w.alloc (Obj.cells #[Value.int IntKind.u32 (B a), Value.int IntKind.u32 (B (~~~a))] 24)).alloc
        (Obj.cells #[Value.int IntKind.u32 (B a), Value.int IntKind.u32 (B (~~~a))] 24)) := ⟨_, rfl⟩
  have z0 : W0.heap.size = w.heap.size + 1 + 1 := by subst hW0; simp [go_sem]
  have b0 : Below w.heap.size w W0 := by rw [hW0]; exact ((Below.refl _ _).alloc (Nat.le_refl _) _).alloc (by simp) _
  have p0 : W0.cell? ⟨w.heap.size + 1, 0, none⟩ = some (.int .u32 (B a)) := by subst hW0; simp [go_sem]
  have p1 : W0.cell? ⟨w.heap.size + 1, 1, none⟩ = some (.int .u32 (B (~~~a))) := by subst hW0; simp [go_sem]
  have H0 := hid hW0
  clear hW0
  go_enter Try.func3, Try.ntmps3
  go_wp2_with (first | (go_at_call 15; refine (of_any _ _).mono ?_; rintro e w' ⟨rfl, rfl⟩))
  rw [← H0.out]
  clear H0
  obtain ⟨Ws, hWs⟩ : ∃ Ws, Ws = two W0 (Obj.cells #[Value.int IntKind.u32 0, Value.int IntKind.u32 0] 24) := ⟨_, rfl⟩
  have c0 : ∀ s, (Ws s).cell? ⟨w.heap.size + 1, 0, none⟩ = some (.int .u32 (B a)) := fun s => by rw [hWs]; exact cell_two p0 _ _
  have c1 : ∀ s, (Ws s).cell? ⟨w.heap.size + 1, 1, none⟩ = some (.int .u32 (B (~~~a))) := fun s => by rw [hWs]; exact cell_two p1 _ _
  have z : (Ws 0).heap.size = w.heap.size + 1 + 1 := by rw [hWs]; exact z0
  have HW := hid hWs
  clear hWs
  refine wp_region_stage 10 (Drawn Ws) (by kernel_rfl) (by kernel_rfl) (Drawn.start _ _ (by rw [HW.out]; rfl)) ?_
  simp only [List.take_succ_cons, List.take_zero, List.drop_succ_cons, List.drop_zero]
  repeat (refine wpStg_quiet (by rfl) (by rfl) (fun K hK => ?_); go_simp; first | (refine hK _ ?_; clear hK K) | (apply Exists.intro; refine ⟨fun _ _ => ?_, hK _ ?_⟩; ((go_at_call 16; refine Calls.drawn (falls_raw _ _ _ _))); clear hK K))
  refine wpStg_eff (by rfl) (by rfl) (fun K hK => ?_)
  go_simp
  refine ⟨_, fun n => ⟨rfl, n, by rw [HW.out]; rfl⟩, hK _ ?_⟩
  clear hK K
  refine wpStg_nil ?_
  rintro _ ⟨nq, rfl⟩
  rw [show Ws 1 = W0.alloc (Obj.cells #[Value.int IntKind.u32 0, Value.int IntKind.u32 0] 24) by rw [HW.out]; rfl]
  clear HW c0 c1 z Ws
  go_wp2_with fail
  rw [two_filled z0]
  obtain ⟨W1, hW1⟩ : ∃ W1, W1 = (W0.alloc (Obj.cells #[Value.int IntKind.u32 (B (a ||| b)), Value.int IntKind.u32 (B (~~~a ||| c))] 24)).drewN nq := ⟨_, rfl⟩
  have z1 : W1.heap.size = w.heap.size + 1 + 1 + 1 := by rw [hW1, ← z0]; show (W0.heap.push _).size = _; simp
  have b1 : Below w.heap.size w W1 := by rw [hW1]; exact b0.trans (((Below.refl _ _).alloc (by omega) _).drew (w := _) |> fun h => ⟨h.os, h.tape, h.output, h.size, h.block⟩)
  have q0 : W1.cell? ⟨w.heap.size + 1, 0, none⟩ = some (.int .u32 (B a)) := by rw [hW1]; exact cell_alloc p0 _
  have q1 : W1.cell? ⟨w.heap.size + 1, 1, none⟩ = some (.int .u32 (B (~~~a))) := by rw [hW1]; exact cell_alloc p1 _
  have f0 : W1.cell? ⟨w.heap.size + 1 + 1, 0, none⟩ = some (.int .u32 (B (a ||| b))) := by rw [hW1]; exact (cell_two_new z0 _ _ _ _).1
  have f1 : W1.cell? ⟨w.heap.size + 1 + 1, 1, none⟩ = some (.int .u32 (B (~~~a ||| c))) := by rw [hW1]; exact (cell_two_new z0 _ _ _ _).2
  rw [← hW1]
  clear hW1 p0 p1 b0 z0 W0
  obtain ⟨Ws, hWs⟩ : ∃ Ws, Ws = two W1 (Obj.cells #[Value.int IntKind.u32 0, Value.int IntKind.u32 0] 24) := ⟨_, rfl⟩
  have c0 : ∀ s, (Ws s).cell? ⟨w.heap.size + 1, 0, none⟩ = some (.int .u32 (B a)) := fun s => by rw [hWs]; exact cell_two q0 _ _
  have c1 : ∀ s, (Ws s).cell? ⟨w.heap.size + 1, 1, none⟩ = some (.int .u32 (B (~~~a))) := fun s => by rw [hWs]; exact cell_two q1 _ _
  have z : (Ws 0).heap.size = w.heap.size + 1 + 1 + 1 := by rw [hWs]; exact z1
  have HW := hid hWs
  clear hWs
  refine wp_region_stage 10 (Drawn Ws) (by kernel_rfl) (by kernel_rfl) (Drawn.start _ _ (by rw [HW.out]; rfl)) ?_
  simp only [List.take_succ_cons, List.take_zero, List.drop_succ_cons, List.drop_zero]
  repeat (refine wpStg_quiet (by rfl) (by rfl) (fun K hK => ?_); go_simp; first | (refine hK _ ?_; clear hK K) | (apply Exists.intro; refine ⟨fun _ _ => ?_, hK _ ?_⟩; ((go_at_call 17; refine Calls.drawn (rises_any _ _ _))); clear hK K))
  refine wpStg_eff (by rfl) (by rfl) (fun K hK => ?_)
  go_simp
  refine ⟨_, fun n => ⟨rfl, n, by rw [HW.out]; rfl⟩, hK _ ?_⟩
  clear hK K
  refine wpStg_nil ?_
  rintro _ ⟨nq, rfl⟩
  rw [show Ws 1 = W1.alloc (Obj.cells #[Value.int IntKind.u32 0, Value.int IntKind.u32 0] 24) by rw [HW.out]; rfl]
  clear HW c0 c1 z Ws
  go_wp2_with fail
  rw [two_filled z1]
  obtain ⟨W2, hW2⟩ : ∃ W2, W2 = (W1.alloc (Obj.cells #[Value.int IntKind.u32 (B (a ||| b)), Value.int IntKind.u32 (B (~~~a ||| c))] 24)).drewN nq := ⟨_, rfl⟩
  have b2 : Below w.heap.size w W2 := by rw [hW2]; exact b1.trans (((Below.refl _ _).alloc (by omega) _).drew (w := _) |> fun h => ⟨h.os, h.tape, h.output, h.size, h.block⟩)
  have r0 : W2.cell? ⟨w.heap.size + 1, 0, none⟩ = some (.int .u32 (B a)) := by rw [hW2]; exact cell_alloc q0 _
  have r1 : W2.cell? ⟨w.heap.size + 1, 1, none⟩ = some (.int .u32 (B (~~~a))) := by rw [hW2]; exact cell_alloc q1 _
  have s0 : W2.cell? ⟨w.heap.size + 1 + 1, 0, none⟩ = some (.int .u32 (B (a ||| b))) := by rw [hW2]; exact cell_alloc f0 _
  have s1 : W2.cell? ⟨w.heap.size + 1 + 1, 1, none⟩ = some (.int .u32 (B (~~~a ||| c))) := by rw [hW2]; exact cell_alloc f1 _
  have t0 : W2.cell? ⟨w.heap.size + 1 + 1 + 1, 0, none⟩ = some (.int .u32 (B (a ||| b))) := by rw [hW2]; exact (cell_two_new z1 _ _ _ _).1
  have t1 : W2.cell? ⟨w.heap.size + 1 + 1 + 1, 1, none⟩ = some (.int .u32 (B (~~~a ||| c))) := by rw [hW2]; exact (cell_two_new z1 _ _ _ _).2
  rw [← hW2]
  clear hW2 q0 q1 b1 z1 f0 f1 W1
  rcases keeps_fell a b c with hf | ⟨e1, e2⟩
  ·
    have r0' : ∀ o, (W2.alloc o).cell? _ = some _ := fun o => cell_alloc r0 o
    have r0'' : ∀ o o', ((W2.alloc o).alloc o').cell? _ = some _ := fun o o' => cell_alloc (cell_alloc r0 o) o'
    have r1' : ∀ o, (W2.alloc o).cell? _ = some _ := fun o => cell_alloc r1 o
    have r1'' : ∀ o o', ((W2.alloc o).alloc o').cell? _ = some _ := fun o o' => cell_alloc (cell_alloc r1 o) o'
    have s0' : ∀ o, (W2.alloc o).cell? _ = some _ := fun o => cell_alloc s0 o
    have s0'' : ∀ o o', ((W2.alloc o).alloc o').cell? _ = some _ := fun o o' => cell_alloc (cell_alloc s0 o) o'
    have s1' : ∀ o, (W2.alloc o).cell? _ = some _ := fun o => cell_alloc s1 o
    have s1'' : ∀ o o', ((W2.alloc o).alloc o').cell? _ = some _ := fun o o' => cell_alloc (cell_alloc s1 o) o'
    have t0' : ∀ o, (W2.alloc o).cell? _ = some _ := fun o => cell_alloc t0 o
    have t0'' : ∀ o o', ((W2.alloc o).alloc o').cell? _ = some _ := fun o o' => cell_alloc (cell_alloc t0 o) o'
    have t1' : ∀ o, (W2.alloc o).cell? _ = some _ := fun o => cell_alloc t1 o
    have t1'' : ∀ o o', ((W2.alloc o).alloc o').cell? _ = some _ := fun o o' => cell_alloc (cell_alloc t1 o) o'
    go_wp2_with (first | (go_at_call 18; refine (fell_blank _ _ _).mono ?_; rintro e w' ⟨rfl, rfl⟩) | (go_at_call 19; refine (rose_or _ _ _).mono ?_; rintro e w' ⟨rfl, rfl⟩) | (go_at_call 20; refine (right_any _ _ _).mono ?_; rintro e w' ⟨rfl, rfl⟩) | (go_at_call 21; refine (pairAlive_below _).mono ?_; rintro e w' ⟨rfl, hb⟩))
    go_ret
    exact ⟨rfl, b2.trans (((((Below.refl _ _).alloc (Nat.le_refl _) _).alloc (by simp) _).mono b2.size).trans (hb.mono (by simp; have := b2.size; omega)))⟩
  · rw [e1] at s0 t0
    rw [e2] at s1 t1
    rw [e1, e2]
    clear e1 e2
    have r0' : ∀ o, (W2.alloc o).cell? _ = some _ := fun o => cell_alloc r0 o
    have r0'' : ∀ o o', ((W2.alloc o).alloc o').cell? _ = some _ := fun o o' => cell_alloc (cell_alloc r0 o) o'
    have r1' : ∀ o, (W2.alloc o).cell? _ = some _ := fun o => cell_alloc r1 o
    have r1'' : ∀ o o', ((W2.alloc o).alloc o').cell? _ = some _ := fun o o' => cell_alloc (cell_alloc r1 o) o'
    have s0' : ∀ o, (W2.alloc o).cell? _ = some _ := fun o => cell_alloc s0 o
    have s0'' : ∀ o o', ((W2.alloc o).alloc o').cell? _ = some _ := fun o o' => cell_alloc (cell_alloc s0 o) o'
    have s1' : ∀ o, (W2.alloc o).cell? _ = some _ := fun o => cell_alloc s1 o
    have s1'' : ∀ o o', ((W2.alloc o).alloc o').cell? _ = some _ := fun o o' => cell_alloc (cell_alloc s1 o) o'
    have t0' : ∀ o, (W2.alloc o).cell? _ = some _ := fun o => cell_alloc t0 o
    have t0'' : ∀ o o', ((W2.alloc o).alloc o').cell? _ = some _ := fun o o' => cell_alloc (cell_alloc t0 o) o'
    have t1' : ∀ o, (W2.alloc o).cell? _ = some _ := fun o => cell_alloc t1 o
    have t1'' : ∀ o o', ((W2.alloc o).alloc o').cell? _ = some _ := fun o o' => cell_alloc (cell_alloc t1 o) o'
    go_wp2_with (first | (go_at_call 18; refine (fell_blank_self _ _).mono ?_; rintro e w' ⟨rfl, rfl⟩) | (go_at_call 19; refine (rose_self _ _).mono ?_; rintro e w' ⟨rfl, rfl⟩) | (go_at_call 20; refine (right_any _ _ _).mono ?_; rintro e w' ⟨rfl, rfl⟩) | (go_at_call 21; refine (pairAlive_below _).mono ?_; rintro e w' ⟨rfl, hb⟩))
    go_ret
    exact ⟨rfl, b2.trans (((((Below.refl _ _).alloc (Nat.le_refl _) _).alloc (by simp) _).mono b2.size).trans (hb.mono (by simp; have := b2.size; omega)))⟩
end
end Go.Proofs.Ytgcpfmdldgmbnaa
