/-
  Contract of the document's layer 56: within how many ticks a task's jobs are done on a server.
-/
import Derived.Test.YtcjdfgfnpmmcnaaServerResp
namespace Go.Proofs.Ytcjdfgfnpmmcnaa
open Go.RowKit
theorem sWr_nonneg {p b k : Int} (h : sR p b = true) (h0 : 0 ≤ k) : 0 ≤ (sWr p b k).1 := by
  unfold sWr
  split
  · exact Int.le_refl _
  · split
    · rename_i h1 h2
      have := (sN_spec h (show 1 ≤ k by omega)).1
      show 0 ≤ sN p b k
      omega
    · exact Int.le_refl _
section
attribute [local go_sem] Oper.quietS Oper.effS effUpon Drawn
set_option maxRecDepth 100000 in
set_option maxHeartbeats 2000000 in
theorem refResponse_any (ao : Option Addr) (n cap : Nat) (p b : Int) (x : Nat → Int) (g : Nat → Nat → Int) (w : World) (hn : n ≤ 20) (hT : Tasks w ao n g) (hG : ∀ i, i < n → OkT (g i)) (hx : OkT x) (hR : sR p b = true) :
    Calls Try.prog 37 #[.int .i64 p, .int .i64 b, tv x, .slice ao n cap] w fun e w' => e = .returned (rv (respW p b x (fun i => termOf (g i)) n)) ∧ Below w.heap.size w w' := by
  obtain ⟨i0, hi, hz0, hz1, hz2⟩ := info_parts infoT
  have hF : Hid (∀ i, i < n → Fit (termOf (g i))) := fun i hi => (hG i hi).fit
  clear hG
  obtain ⟨x1, x2, x3, x4, x5, x6⟩ := hx
  have HW0 := hid (sWr_nonneg (k := x 2) hR (by omega))
  have HW : Hid (∀ q W, 0 ≤ q → q ≤ 65536 → Calls Try.prog 21 #[.int .i64 p, .int .i64 b, .int .i64 q] W fun e w' => e = .returned (rv (sWr p b q)) ∧ W = w') := fun q W h0 h1 => refWithin_any p b q W hR h0 h1
  clear hR
  have HE : Hid (respW p b x (fun i => termOf (g i)) n = respG (fun y => sWr p b (min (total y (fun i => termOf (g i)) n + x 2) 65536)) (sWr p b (x 2)) (x 1)) := rfl
  have HV := hid (fun W => HW.out (x 2) W (by omega) (by omega))
  obtain ⟨⟨n0, ok0⟩, hw0⟩ : ∃ y, sWr p b (x 2) = y := ⟨_, rfl⟩
  rw [hw0] at HV HE HW0
  clear hw0
  unfold tv
  go_enter Try.func37, Try.ntmps37
  go_wp2
  have B0 : Below w.heap.size w (w.alloc (Obj.cells #[Value.int .i64 (x 0), Value.int .i64 (x 1), Value.int .i64 (x 2), Value.int .i64 (x 3), Value.int .i64 (x 4), Value.int .i64 (x 5), Value.int .i64 (x 6), Value.int .i64 (x 7), Value.int .i64 (x 8), Value.int .i64 (x 9), Value.int .i64 (x 10)] 33)) := (Below.refl _ _).alloc (Nat.le_refl _) _
  obtain ⟨W2, hW2⟩ : ∃ W, W = w.alloc (Obj.cells #[Value.int .i64 (x 0), Value.int .i64 (x 1), Value.int .i64 (x 2), Value.int .i64 (x 3), Value.int .i64 (x 4), Value.int .i64 (x 5), Value.int .i64 (x 6), Value.int .i64 (x 7), Value.int .i64 (x 8), Value.int .i64 (x 9), Value.int .i64 (x 10)] 33) := ⟨_, rfl⟩
  have t1 : W2.cell? ⟨w.heap.size, 1, none⟩ = some (.int .i64 (x 1)) := by rw [hW2]; exact World.cell?_alloc_at _ _ _ _ rfl
  have t2 : W2.cell? ⟨w.heap.size, 2, none⟩ = some (.int .i64 (x 2)) := by rw [hW2]; exact World.cell?_alloc_at _ _ _ _ rfl
  have hsz2 : W2.heap.size = w.heap.size + 1 := by rw [hW2]; simp
  rw [← hW2] at B0 ⊢
  clear hW2
  go_loopw [10, 11] (fun v i wr => ∃ k : Nat, k ≤ n ∧ i = .int .i64 k ∧ wr.ownsRow W2.heap.size 44 4 v k (cellsT (fun i => termOf (g i)) k) ∧ Below W2.heap.size W2 wr) (fun _ i _ => n - (intOf i).toNat)
  case atStart => exact ⟨0, by omega, rfl, World.ownsRow_nil _ _ 44 4, Below.refl _ _⟩
  case round =>
    obtain ⟨k, hk, rfl, hown, hbr⟩ := hrel
    by_cases hlt : k < n
    · obtain ⟨bb, oo, rfl, hbl⟩ := hT.form hlt
      obtain ⟨⟨h0, _, h2, _⟩, _⟩ := ((hT.below B0).below hbr).at_ hlt
      have hs := hid (termOf_cells g k)
      clear HW HV HE HW0
      generalize g k 0 = z0 at h0 hs
      generalize g k 2 = z2 at h2 hs
      obtain ⟨Ws, hWs⟩ : ∃ Ws, Ws = two wr (Obj.cells #[Value.int .i64 z0, Value.int .i64 z2, Value.int .i64 0, Value.int .i64 0] 44) := ⟨_, rfl⟩
      have c0 : ∀ s, (Ws s).cell? ⟨bb, oo + k * 11, none⟩ = some (.int .i64 z0) := fun s => by rw [hWs]; exact cell_two h0 _ _
      have c2 : ∀ s, (Ws s).cell? ⟨bb, oo + k * 11 + 2, none⟩ = some (.int .i64 z2) := fun s => by rw [hWs]; exact cell_two h2 _ _
      have HQ := hid hWs
      clear hWs h0 h2
      go_wp2
      refine wp_region_stage 13 (Drawn Ws) (by kernel_rfl) (by kernel_rfl) (Drawn.start _ _ (by rw [HQ.out]; rfl)) ?_
      simp only [List.take_succ_cons, List.take_zero, List.drop_succ_cons, List.drop_zero]
      repeat (refine wpStg_quiet (by rfl) (by rfl) (fun K hK => ?_); go_simp; (refine hK _ ?_; clear hK K))
      refine wpStg_eff (by rfl) (by rfl) (fun K hK => ?_)
      go_simp
      refine ⟨_, fun n => ⟨rfl, n, by rw [HQ.out]; rfl⟩, hK _ ?_⟩
      clear hK K
      refine wpStg_nil ?_
      rintro _ ⟨nq, rfl⟩
      rw [show Ws 1 = wr.alloc _ by rw [HQ.out]; rfl, show Ws 0 = wr by rw [HQ.out]; rfl]
      obtain ⟨W, hW⟩ : ∃ W, W = (wr.alloc (Obj.cells #[Value.int .i64 z0, Value.int .i64 z2, Value.int .i64 0, Value.int .i64 0] 44)).drewN nq := ⟨_, rfl⟩
      have hownW : W.ownsRow W2.heap.size 44 4 u10 k (cellsT (fun i => termOf (g i)) k) := by rw [hW]; exact hown.alloc _
      have hbW : Below W2.heap.size W2 W := by rw [hW]; exact (hbr.alloc hbr.size _).trans ⟨rfl, rfl, rfl, Nat.le_refl _, fun _ _ => rfl⟩
      have hnews : ∀ (j : Nat) (u : Value), [Value.int .i64 z0, Value.int .i64 z2, Value.int .i64 0, Value.int .i64 0][j]? = some u → W.cell? ((⟨wr.heap.size, 0, none⟩ : Addr).add j) = some u := fun j u hj => by
        rw [add_off, hW, Nat.zero_add]
        show (wr.alloc _).cell? _ = _
        rw [World.cell?_alloc_at _ _ _ _ rfl]; simpa using hj
      rw [← hW]
      have hsz := hid hbW.size
      clear hW HQ c0 c2 Ws
      go_wp2_with (at_builtin; refine wpList_append_own _ rfl _ _ 41 rfl W2.heap.size 44 i0 (.agg #[.int .i64 0, .int .i64 0, .int .i64 0, .int .i64 0]) 4 32 Try.underlying41 hi hz0 hz1 hz2 rfl (by decide) _ _ _ rfl hownW ⟨wr.heap.size, 0, none⟩ 1 1 _ rfl (by simp) hnews (by simp [Value.oneCell']) (by unfold maxLen; omega) (by omega) hsz.out ?_; intro v' w1 hown1 hgrow _; rw [← hs.out] at hown1)
      go_roundw
      case rel => exact ⟨k + 1, by omega, by go_num, hown1, hbW.grown hgrow hsz.out fun j hj => (hownW.lt j hj).1⟩
      case measure => simp [intOf]; omega
    · obtain rfl : k = n := by omega
      obtain ⟨xo, xc, rfl, hX⟩ := terms_of_own hown
      clear hown
      have t2' := kept t2 hbr
      have B1 := B0.trans (hbr.mono (by omega))
      cases ok0
      · have HE2 : Hid (respW p b x (fun i => termOf (g i)) k = (0, false)) := HE.out
        clear HE HW0 HW
        go_wp2_with (go_at_call 21; refine (HV.out _).mono ?_; rintro e w1 ⟨rfl, rfl⟩)
        go_loopw [12, 14, 15, 16, 17] (fun _ _ _ _ _ w2 => w2 = wr) (fun _ _ _ _ _ _ => 0)
        case atStart => rfl
        case round =>
          subst hrel
          go_wp2
          go_ret2
          exact ⟨by rw [HE2.out]; rfl, B1⟩
      · obtain ⟨G, hG⟩ : ∃ G, G = fun y => sWr p b (min (total y (fun i => termOf (g i)) k + x 2) 65536) := ⟨_, rfl⟩
        have HE2 : Hid (respW p b x (fun i => termOf (g i)) k = match run G (x 1) n0 0 with | some (x, _) => (x, true) | none => (0, false)) := by show _ = _; rw [HE.out, hG]; rfl
        have HG0 : Hid (∀ y, G y = sWr p b (min (total y (fun i => termOf (g i)) k + x 2) 65536)) := fun y => by rw [hG]
        have hn0 : 0 ≤ n0 := HW0.out
        clear HE HW0 hG
        go_wp2_with (go_at_call 21; refine (HV.out _).mono ?_; rintro e w1 ⟨rfl, rfl⟩)
        clear HV
        go_loopw [12, 14, 15, 16, 17] (fun a _ _ _ _ wq => ∃ y : Int, ∃ many : Nat, a = .int .i64 y ∧ 0 ≤ y ∧ Hid (run G (x 1) n0 0 = run G (x 1) y many) ∧ Below wr.heap.size wr wq) (fun a _ _ _ _ _ => (x 1 + 1 - intOf a).toNat)
        case atStart => exact ⟨n0, 0, rfl, hn0, rfl, Below.refl _ _⟩
        case round =>
          obtain ⟨y, many, rfl, hy0, HRun, hbq⟩ := hrel
          rw [HRun.out] at HE2
          have HRn := HRun
          clear HRun
          have hbr2 := hbr.trans (hbq.mono hbr.size)
          have B2 := B0.trans (hbr2.mono (by omega))
          have t1'' := kept t1 hbr2
          have t2'' := kept t2 hbr2
          by_cases hle : y ≤ x 1
          · have hd : decide (y ≤ x 1) = true := by simp; omega
            have HG := hid (HG0.out y)
            have hbnd := total_bound hF.out hy0 (show y ≤ 3000 by omega)
            have HD := rall_any xo k xc (fun i => termOf (g i)) y _ (hX.below hbq) (by omega)
            rw [allR_total hF.out hy0 (by omega) hn] at HD
            have HD := hid HD
            generalize total y (fun i => termOf (g i)) k = s at HG hbnd HD
            have HN : Hid ((G y).2 = false → run G (x 1) y many = none) := fun h => run_none hle h
            have HF : Hid ((G y).2 = true → (G y).1 ≤ y → run G (x 1) y many = some (y, many + 1)) := fun h h2 => run_some hle h h2
            have HO : Hid ((G y).2 = true → y < (G y).1 → run G (x 1) y many = run G (x 1) (G y).1 (many + 1)) := fun h h2 => run_on hle h h2
            obtain ⟨⟨r, there⟩, hgy⟩ : ∃ z, G y = z := ⟨_, rfl⟩
            rw [hgy] at HG HN HF HO
            clear hgy HG0
            have HQ : Hid (∀ q, min (s + x 2) 65536 = q → ∀ W, Calls Try.prog 21 #[.int .i64 p, .int .i64 b, .int .i64 q] W fun e w' => e = .returned (rv (r, there)) ∧ W = w') := fun q hq W => by
              rw [HG.out, hq]; exact HW.out q W (by omega) (by omega)
            clear HG HW
            have u1 : wrap64 (s + x 2) = s + x 2 := IntWalk.wrap64_in _ ⟨by omega, by omega⟩
            rcases (show min (s + x 2) 65536 = s + x 2 ∧ s + x 2 ≤ 65536 ∨ min (s + x 2) 65536 = 65536 ∧ 65536 < s + x 2 by omega) with ⟨e, e2⟩ | ⟨e, e2⟩
            all_goals
              cases there
              · have HN2 : Hid (run G (x 1) y many = none) := HN.out rfl
                clear HN HF HO
                go_wp2_with (first | (go_at_call 28; refine HD.out.mono ?_; rintro e' w3 ⟨rfl, hb3⟩; have hbr3 := hbr2.trans (hb3.mono hbr2.size); have t2''' := kept t2 hbr3) | (go_at_call 21; refine (HQ.out _ e _).mono ?_; rintro e' w5 ⟨rfl, rfl⟩))
                go_ret2
                have B3 := B2.trans (hb3.mono B2.size)
                exact ⟨by rw [HE2.out, HN2.out]; rfl, B3⟩
              · by_cases hle2 : r ≤ y
                · have HF2 : Hid (run G (x 1) y many = some (y, many + 1)) := HF.out rfl hle2
                  have hd2 : decide (r ≤ y) = true := by simp; omega
                  clear HN HF HO
                  go_wp2_with (first | (go_at_call 28; refine HD.out.mono ?_; rintro e' w3 ⟨rfl, hb3⟩; have hbr3 := hbr2.trans (hb3.mono hbr2.size); have t2''' := kept t2 hbr3) | (go_at_call 21; refine (HQ.out _ e _).mono ?_; rintro e' w5 ⟨rfl, rfl⟩))
                  go_ret2
                  have B3 := B2.trans (hb3.mono B2.size)
                  exact ⟨by rw [HE2.out, HF2.out]; rfl, B3⟩
                · have HO2 : Hid (run G (x 1) y many = run G (x 1) r (many + 1)) := HO.out rfl (by show y < r; omega)
                  have hd2 : decide (r ≤ y) = false := by simp; omega
                  clear HN HF HO
                  go_wp2_with (first | (go_at_call 28; refine HD.out.mono ?_; rintro e' w3 ⟨rfl, hb3⟩; have hbr3 := hbr2.trans (hb3.mono hbr2.size); have t2''' := kept t2 hbr3) | (go_at_call 21; refine (HQ.out _ e _).mono ?_; rintro e' w5 ⟨rfl, rfl⟩))
                  go_roundw
                  case rel => exact ⟨r, many + 1, rfl, by omega, hid (by rw [HRn.out, HO2.out]), hbq.trans (hb3.mono hbq.size)⟩
                  case measure => simp [intOf]; omega
          · have hd : decide (y ≤ x 1) = false := by simp; omega
            have HN2 : Hid (run G (x 1) y many = none) := run_over (by omega)
            go_wp2
            go_ret2
            exact ⟨by rw [HE2.out, HN2.out]; rfl, B2⟩
end
end Go.Proofs.Ytcjdfgfnpmmcnaa
