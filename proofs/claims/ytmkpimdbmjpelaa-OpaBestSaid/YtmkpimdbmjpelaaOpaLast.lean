/-
  Contracts of layer 38: is a task never late, if it goes behind others (the program's and the document's)?
-/
import Derived.Test.YtmkpimdbmjpelaaTask
import Derived.Test.YtmkpimdbmjpelaaFixLeast
namespace Go.Proofs.Ytmkpimdbmjpelaa
open Go.RowKit
theorem infoD : (Try.prog.info? 84).map (fun i => (i.zero, i.size, i.bytes)) = some (some (.agg #[.int .i64 0, .int .i64 0, .int .i64 0, .int .i64 0]), 4, 32) := by kernel_rfl
theorem termOf_cells (g : Nat → Nat → Int) (k : Nat) : cellsT (fun i => termOf (g i)) (k + 1) = cellsT (fun i => termOf (g i)) k ++ [.int .i64 (g k 0), .int .i64 (g k 2), .int .i64 0, .int .i64 0] := cellsT_succ _ _
/-- Is a task never late behind others? -/
def lastR (x : Nat → Int) (g : Nat → Nat → Int) (n : Nat) : Bool := (leastR (x 2) (x 1) (fun i => termOf (g i)) n).2
set_option maxRecDepth 100000 in
set_option maxHeartbeats 2000000 in
theorem opaLast_any (ao : Option Addr) (n cap : Nat) (x : Nat → Int) (g : Nat → Nat → Int) (w : World) (hn : n ≤ 20) (hT : Tasks w ao n g) (hx : OkT x) :
    Calls Try.prog 27 #[tv x, .slice ao n cap] w fun e w' => e = .returned (.bool (lastR x g n)) ∧ Below w.heap.size w w' := by
  obtain ⟨i0, hi, hz0, hz1, hz2⟩ := info_parts infoD
  obtain ⟨x1, x2, x3, x4, x5, x6⟩ := hx
  have HE : Hid (lastR x g n = (leastR (x 2) (x 1) (fun i => termOf (g i)) n).2) := rfl
  unfold tv
  go_enter Try.func27, Try.ntmps27
  go_wp2
  have B0 : Below w.heap.size w (w.alloc (Obj.cells #[Value.int .i64 (x 0), Value.int .i64 (x 1), Value.int .i64 (x 2), Value.int .i64 (x 3), Value.int .i64 (x 4), Value.int .i64 (x 5), Value.int .i64 (x 6), Value.int .i64 (x 7), Value.int .i64 (x 8), Value.int .i64 (x 9), Value.int .i64 (x 10)] 64)) := (Below.refl _ _).alloc (Nat.le_refl _) _
  obtain ⟨W2, hW2⟩ : ∃ W, W = w.alloc (Obj.cells #[Value.int .i64 (x 0), Value.int .i64 (x 1), Value.int .i64 (x 2), Value.int .i64 (x 3), Value.int .i64 (x 4), Value.int .i64 (x 5), Value.int .i64 (x 6), Value.int .i64 (x 7), Value.int .i64 (x 8), Value.int .i64 (x 9), Value.int .i64 (x 10)] 64) := ⟨_, rfl⟩
  have t1 : W2.cell? ⟨w.heap.size, 1, none⟩ = some (.int .i64 (x 1)) := by rw [hW2]; exact World.cell?_alloc_at _ _ _ _ rfl
  have t2 : W2.cell? ⟨w.heap.size, 2, none⟩ = some (.int .i64 (x 2)) := by rw [hW2]; exact World.cell?_alloc_at _ _ _ _ rfl
  have hsz2 : W2.heap.size = w.heap.size + 1 := by rw [hW2]; simp
  rw [← hW2] at B0 ⊢
  clear hW2
  go_loopw [5, 7, 12] (fun v _ i wr => ∃ k : Nat, k ≤ n ∧ i = .int .i64 k ∧ wr.ownsRow W2.heap.size 84 4 v k (cellsT (fun i => termOf (g i)) k) ∧ Below W2.heap.size W2 wr) (fun _ _ i _ => n - (intOf i).toNat)
  case atStart => exact ⟨0, by omega, rfl, World.ownsRow_nil _ _ 84 4, Below.refl _ _⟩
  case round =>
    obtain ⟨k, hk, rfl, hown, hbr⟩ := hrel
    by_cases hlt : k < n
    · obtain ⟨bb, oo, rfl, hbl⟩ := hT.form hlt
      obtain ⟨⟨c0, c1, c2, c3⟩, ⟨c4, c5, c6, c7⟩, c8, c9, c10⟩ := ((hT.below B0).below hbr).at_ hlt
      have HS := hid (termOf_cells g k)
      clear HE
      go_wp2_with (first | (go_at_call 37; refine (of_any (g k) 0 _).mono ?_; rintro e w1 ⟨rfl, hb1'⟩; have hb1 := ((Below.refl wr.heap.size wr).alloc (Nat.le_refl _) (Obj.cells #[Value.int .i64 (g k 0), Value.int .i64 (g k 1), Value.int .i64 (g k 2), Value.int .i64 (g k 3), Value.int .i64 (g k 4), Value.int .i64 (g k 5), Value.int .i64 (g k 6), Value.int .i64 (g k 7), Value.int .i64 (g k 8), Value.int .i64 (g k 9), Value.int .i64 (g k 10)] 64)).trans (hb1'.mono (by simp)); clear hb1'; have hown1 := (hown.kept (below_grownBy hb1) (ownBlock_any _)).alloc (Obj.cells #[Value.int .i64 (g k 0), Value.int .i64 (g k 2), Value.int .i64 0, Value.int .i64 0] 84); have hbw := (hbr.trans (hb1.mono hbr.size)).alloc (Nat.le_trans hbr.size hb1.size) (Obj.cells #[Value.int .i64 (g k 0), Value.int .i64 (g k 2), Value.int .i64 0, Value.int .i64 0] 84); have hnews : ∀ (j : Nat) (u : Value), [Value.int .i64 (g k 0), Value.int .i64 (g k 2), Value.int .i64 0, Value.int .i64 0][j]? = some u → (w1.alloc (Obj.cells #[Value.int .i64 (g k 0), Value.int .i64 (g k 2), Value.int .i64 0, Value.int .i64 0] 84)).cell? ((⟨w1.heap.size, 0, none⟩ : Addr).add j) = some u := (fun j u hj => by rw [add_off, Nat.zero_add, World.cell?_alloc_at _ _ _ _ rfl]; simpa using hj); have hsz := hid hbw.size) | (at_builtin; refine wpList_append_own _ rfl _ _ 82 rfl W2.heap.size 84 i0 (.agg #[.int .i64 0, .int .i64 0, .int .i64 0, .int .i64 0]) 4 32 Try.underlying82 hi hz0 hz1 hz2 rfl (by decide) _ _ _ rfl hown1 ⟨w1.heap.size, 0, none⟩ 1 1 [Value.int .i64 (g k 0), Value.int .i64 (g k 2), Value.int .i64 0, Value.int .i64 0] rfl (by simp) hnews (by simp [Value.oneCell']) (by unfold maxLen; omega) (by omega) hsz.out ?_; intro v' w2 hown2 hgrow _))
      go_roundw
      case rel => exact ⟨k + 1, by omega, by go_num, by rw [HS.out]; exact hown2, hbw.grown hgrow hsz.out fun j hj => (hown1.lt j hj).1⟩
      case measure => simp [intOf]; omega
    · obtain rfl : k = n := by omega
      obtain ⟨xo, xc, rfl, hX⟩ := terms_of_own hown
      clear hown
      have t1' := kept t1 hbr
      have t2' := kept t2 hbr
      have B1 := B0.trans (hbr.mono (by omega))
      have HL := hid (fixLeast_any xo k xc (fun i => termOf (g i)) (x 2) (x 1) wr (by omega) hX (by omega))
      obtain ⟨⟨r, ok⟩, hr⟩ : ∃ y, leastR (x 2) (x 1) (fun i => termOf (g i)) k = y := ⟨_, rfl⟩
      rw [hr] at HL HE
      go_wp2_with (go_at_call 38; refine HL.out.mono ?_; rintro e w1 ⟨rfl, hb1⟩)
      go_ret
      exact ⟨by rw [HE.out]; rfl, B1.trans (hb1.mono B1.size)⟩
section
attribute [local go_sem] Oper.quietS Oper.effS effUpon Drawn
set_option maxRecDepth 100000 in
set_option maxHeartbeats 2000000 in
theorem refLast_any (ao : Option Addr) (n cap : Nat) (x : Nat → Int) (g : Nat → Nat → Int) (w : World) (hn : n ≤ 20) (hT : Tasks w ao n g) (hG : ∀ i, i < n → OkT (g i)) (hx : OkT x) :
    Calls Try.prog 29 #[tv x, .slice ao n cap] w fun e w' => e = .returned (.bool (lastR x g n)) ∧ Below w.heap.size w w' := by
  obtain ⟨i0, hi, hz0, hz1, hz2⟩ := info_parts infoT
  have hF : Hid (∀ i, i < n → Fit (termOf (g i))) := fun i hi => (hG i hi).fit
  clear hG
  obtain ⟨x1, x2, x3, x4, x5, x6⟩ := hx
  have HE : Hid (lastR x g n = (leastR (x 2) (x 1) (fun i => termOf (g i)) n).2) := rfl
  unfold tv
  go_enter Try.func29, Try.ntmps29
  go_wp2
  have B0 : Below w.heap.size w (w.alloc (Obj.cells #[Value.int .i64 (x 0), Value.int .i64 (x 1), Value.int .i64 (x 2), Value.int .i64 (x 3), Value.int .i64 (x 4), Value.int .i64 (x 5), Value.int .i64 (x 6), Value.int .i64 (x 7), Value.int .i64 (x 8), Value.int .i64 (x 9), Value.int .i64 (x 10)] 64)) := (Below.refl _ _).alloc (Nat.le_refl _) _
  obtain ⟨W2, hW2⟩ : ∃ W, W = w.alloc (Obj.cells #[Value.int .i64 (x 0), Value.int .i64 (x 1), Value.int .i64 (x 2), Value.int .i64 (x 3), Value.int .i64 (x 4), Value.int .i64 (x 5), Value.int .i64 (x 6), Value.int .i64 (x 7), Value.int .i64 (x 8), Value.int .i64 (x 9), Value.int .i64 (x 10)] 64) := ⟨_, rfl⟩
  have t1 : W2.cell? ⟨w.heap.size, 1, none⟩ = some (.int .i64 (x 1)) := by rw [hW2]; exact World.cell?_alloc_at _ _ _ _ rfl
  have t2 : W2.cell? ⟨w.heap.size, 2, none⟩ = some (.int .i64 (x 2)) := by rw [hW2]; exact World.cell?_alloc_at _ _ _ _ rfl
  have hsz2 : W2.heap.size = w.heap.size + 1 := by rw [hW2]; simp
  rw [← hW2] at B0 ⊢
  clear hW2
  go_loopw [5, 6] (fun v i wr => ∃ k : Nat, k ≤ n ∧ i = .int .i64 k ∧ wr.ownsRow W2.heap.size 88 4 v k (cellsT (fun i => termOf (g i)) k) ∧ Below W2.heap.size W2 wr) (fun _ i _ => n - (intOf i).toNat)
  case atStart => exact ⟨0, by omega, rfl, World.ownsRow_nil _ _ 88 4, Below.refl _ _⟩
  case round =>
    obtain ⟨k, hk, rfl, hown, hbr⟩ := hrel
    by_cases hlt : k < n
    · obtain ⟨bb, oo, rfl, hbl⟩ := hT.form hlt
      obtain ⟨⟨h0, _, h2, _⟩, _⟩ := ((hT.below B0).below hbr).at_ hlt
      have hs := hid (termOf_cells g k)
      clear HE
      generalize g k 0 = z0 at h0 hs
      generalize g k 2 = z2 at h2 hs
      obtain ⟨Ws, hWs⟩ : ∃ Ws, Ws = two wr (Obj.cells #[Value.int .i64 z0, Value.int .i64 z2, Value.int .i64 0, Value.int .i64 0] 88) := ⟨_, rfl⟩
      have c0 : ∀ s, (Ws s).cell? ⟨bb, oo + k * 11, none⟩ = some (.int .i64 z0) := fun s => by rw [hWs]; exact cell_two h0 _ _
      have c2 : ∀ s, (Ws s).cell? ⟨bb, oo + k * 11 + 2, none⟩ = some (.int .i64 z2) := fun s => by rw [hWs]; exact cell_two h2 _ _
      have HQ := hid hWs
      clear hWs h0 h2
      go_wp2
      refine wp_region_stage 13 (Drawn Ws) (by kernel_rfl) (by kernel_rfl) (Drawn.start _ _ (by rw [HQ.out]; rfl)) ?_
      simp only [List.take_succ_cons, List.take_zero, List.drop_succ_cons, List.drop_zero]
      repeat (refine wpStg_quiet (by rfl) (by rfl) (fun K hK => ?_); go_simp; (refine hK _ ?_; clear hK K))
      refine wpStg_eff (by rfl) (by rfl) (fun K hK => ?_)
      go_simp
      refine ⟨_, fun n => ⟨rfl, n, by rw [HQ.out]; rfl⟩, hK _ ?_⟩
      clear hK K
      refine wpStg_nil ?_
      rintro _ ⟨nq, rfl⟩
      rw [show Ws 1 = wr.alloc _ by rw [HQ.out]; rfl, show Ws 0 = wr by rw [HQ.out]; rfl]
      obtain ⟨W, hW⟩ : ∃ W, W = (wr.alloc (Obj.cells #[Value.int .i64 z0, Value.int .i64 z2, Value.int .i64 0, Value.int .i64 0] 88)).drewN nq := ⟨_, rfl⟩
      have hownW : W.ownsRow W2.heap.size 88 4 u5 k (cellsT (fun i => termOf (g i)) k) := by rw [hW]; exact hown.alloc _
      have hbW : Below W2.heap.size W2 W := by rw [hW]; exact (hbr.alloc hbr.size _).trans ⟨rfl, rfl, rfl, Nat.le_refl _, fun _ _ => rfl⟩
      have hnews : ∀ (j : Nat) (u : Value), [Value.int .i64 z0, Value.int .i64 z2, Value.int .i64 0, Value.int .i64 0][j]? = some u → W.cell? ((⟨wr.heap.size, 0, none⟩ : Addr).add j) = some u := fun j u hj => by
        rw [add_off, hW, Nat.zero_add]
        show (wr.alloc _).cell? _ = _
        rw [World.cell?_alloc_at _ _ _ _ rfl]; simpa using hj
      rw [← hW]
      have hsz := hid hbW.size
      clear hW HQ c0 c2 Ws
      go_wp2_with (at_builtin; refine wpList_append_own _ rfl _ _ 87 rfl W2.heap.size 88 i0 (.agg #[.int .i64 0, .int .i64 0, .int .i64 0, .int .i64 0]) 4 32 Try.underlying87 hi hz0 hz1 hz2 rfl (by decide) _ _ _ rfl hownW ⟨wr.heap.size, 0, none⟩ 1 1 _ rfl (by simp) hnews (by simp [Value.oneCell']) (by unfold maxLen; omega) (by omega) hsz.out ?_; intro v' w1 hown1 hgrow _; rw [← hs.out] at hown1)
      go_roundw
      case rel => exact ⟨k + 1, by omega, by go_num, hown1, hbW.grown hgrow hsz.out fun j hj => (hownW.lt j hj).1⟩
      case measure => simp [intOf]; omega
    · obtain rfl : k = n := by omega
      obtain ⟨xo, xc, rfl, hX⟩ := terms_of_own hown
      clear hown
      have t1' := kept t1 hbr
      have t2' := kept t2 hbr
      have B1 := B0.trans (hbr.mono (by omega))
      have HL := hid (ref16Least_any xo k xc (fun i => termOf (g i)) (x 2) (x 1) wr hn hX hF.out (by omega) (by omega))
      obtain ⟨⟨r, ok⟩, hr⟩ : ∃ y, leastR (x 2) (x 1) (fun i => termOf (g i)) k = y := ⟨_, rfl⟩
      rw [hr] at HL HE
      go_wp2_with (go_at_call 39; refine HL.out.mono ?_; rintro e w1 ⟨rfl, hb1⟩)
      go_ret
      exact ⟨by rw [HE.out]; rfl, B1.trans (hb1.mono B1.size)⟩
end
end Go.Proofs.Ytmkpimdbmjpelaa
