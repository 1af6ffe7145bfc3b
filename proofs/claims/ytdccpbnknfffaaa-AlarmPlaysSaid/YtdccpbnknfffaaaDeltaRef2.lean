/-
  Contracts of the document's layer 23: Add, Tick.
-/
import Derived.Test.YtdccpbnknfffaaaDeltaRef
namespace Go.Proofs.Ytdccpbnknfffaaa
open Go.RowKit
set_option maxRecDepth 100000 in
set_option maxHeartbeats 1000000 in
theorem radd_any (B : Nat) (v : Value) (r : TL) (id t : Int) (w : World) (hown : w.ownsRow B 43 2 v r.length (cells2 r)) (hB : B ≤ w.heap.size) (hn : r.length ≤ 64) :
    Calls Try.prog 14 #[v, .int .i64 id, .int .i64 t] w fun e w' => ∃ v', e = .returned (.tuple #[v', .bool (okR id t r)]) ∧ w'.ownsRow B 43 2 v' (addR id t r).length (cells2 (addR id t r)) ∧ Below w.heap.size w w' := by
  obtain ⟨i0, hi, hz0, hz1, hz2⟩ := info_parts infoT2
  obtain ⟨ao, cap, rfl, hT⟩ := tat_of_own hown rfl
  obtain ⟨n, hnn⟩ : ∃ n, r.length = n := ⟨_, rfl⟩
  rw [hnn] at hn hown ⊢
  have HN := hid hnn
  have HDR := hid (rdrop_any ao cap n r hnn id w hT hn)
  have HO := hid hown
  have HOK : Hid (okR id t r = (decide (1 ≤ t ∧ t ≤ 65536) && ((look id r).isSome || decide (n < 64)))) := by
    show _ = _
    unfold okR
    rw [hnn]
  have HAD : Hid (addR id t r = if okR id t r then dropR id r ++ [(id, t)] else r) := rfl
  obtain ⟨D, hD⟩ : ∃ D, dropR id r = D := ⟨_, rfl⟩
  have hDl : D.length ≤ n := by
    rw [← hD, ← hnn]
    exact List.length_filter_le _ _
  obtain ⟨F, hF⟩ : ∃ F, (look id r).isSome = F := ⟨_, rfl⟩
  rw [hD, hF] at HDR
  rw [hF] at HOK
  rw [hD] at HAD
  clear hown hT hnn hD hF
  go_enter Try.func14, Try.ntmps14
  go_wp2_with fail
  refine HDR.out.mono ?_
  rintro e w1 ⟨vd, rfl, o1, b1⟩
  have HO1 : Hid (w1.ownsRow B 43 2 (.slice ao n cap) n (cells2 r)) := own_save HO.out (Save.of_below b1 (fun _ => False)) fun _ _ h => h
  have O1 := hid o1
  have B1 := hid b1
  clear o1 b1 HDR HO
  have key : (decide (t < 1) = true ∧ okR id t r = false) ∨ (decide (t < 1) = false ∧ decide (65536 < t) = true ∧ okR id t r = false) ∨ (decide (t < 1) = false ∧ decide (65536 < t) = false ∧ F = true ∧ okR id t r = true) ∨ (decide (t < 1) = false ∧ decide (65536 < t) = false ∧ F = false ∧ decide ((64 : Int) ≤ (n : Int)) = true ∧ okR id t r = false) ∨ (decide (t < 1) = false ∧ decide (65536 < t) = false ∧ F = false ∧ decide ((64 : Int) ≤ (n : Int)) = false ∧ okR id t r = true) := by
    rw [HOK.out]
    cases F <;> simp <;> omega
  rcases key with ⟨t1, hok⟩ | ⟨t1, t2, hok⟩ | ⟨t1, t2, rfl, hok⟩ | ⟨t1, t2, rfl, t3, hok⟩ | ⟨t1, t2, rfl, t3, hok⟩
  all_goals first | (have HA2 : Hid (addR id t r = r) := HAD.out.trans (if_neg (by rw [hok]; decide))) | (have HA2 : Hid (addR id t r = D ++ [(id, t)]) := HAD.out.trans (if_pos hok))
  all_goals have HOKK := hid hok
  all_goals clear hok HOK HAD
  iterate 2
    · go_wp2
      go_ret2
      exact ⟨.slice ao n cap, by rw [HOKK.out] <;> rfl, by rw [HA2.out, HN.out]; exact HO1.out, B1.out⟩
  rotate_left
  · go_wp2
    go_ret2
    exact ⟨.slice ao n cap, by rw [HOKK.out] <;> rfl, by rw [HA2.out, HN.out]; exact HO1.out, B1.out⟩
  all_goals
    have hsz := hid (Nat.le_trans (Nat.le_refl _) B1.out.size)
    have hownA := O1.out.alloc (Obj.cells #[Value.int .i64 id, Value.int .i64 t] 43)
    have hszA : w.heap.size ≤ (w1.alloc (Obj.cells #[Value.int .i64 id, Value.int .i64 t] 43)).heap.size := by have := hsz.out; simp; omega
    have hnews : ∀ (j : Nat) (u : Value), [Value.int .i64 id, Value.int .i64 t][j]? = some u → (w1.alloc (Obj.cells #[Value.int .i64 id, Value.int .i64 t] 43)).cell? ((⟨w1.heap.size, 0, none⟩ : Addr).add j) = some u := fun j u hj => by
      rw [add_off, Nat.zero_add, World.cell?_alloc_at _ _ _ _ rfl]; simpa using hj
    go_wp2_with (at_builtin; refine wpList_append_own _ rfl _ _ 27 rfl w.heap.size 43 i0 (.agg #[.int .i64 0, .int .i64 0]) 2 16 Try.underlying27 hi hz0 hz1 hz2 rfl (by decide) vd D.length _ rfl hownA ⟨w1.heap.size, 0, none⟩ 1 1 _ rfl (by simp) hnews (by simp [Value.oneCell']) (by unfold maxLen; omega) (by omega) hszA ?_; intro v' w2 hown2 hgrow _; rw [← cells2_snoc D (id, t)] at hown2)
    go_ret2
    exact ⟨_, by rw [HOKK.out] <;> rfl, by rw [HA2.out, List.length_append]; exact own_base hown2 hB, (B1.out.alloc hsz.out _).grown hgrow hszA fun j hj => (hownA.lt j hj).1⟩
/-! ### Tick -/
theorem leftR_snoc (l : TL) (x : Int × Int) : leftR (l ++ [x]) = if x.2 = 1 then leftR l else leftR l ++ [(x.1, x.2 - 1)] := by
  unfold leftR
  rw [List.filter_append]
  by_cases h : x.2 = 1
  · rw [if_pos h, List.filter_cons_of_neg (by simpa using h)]; simp
  · rw [if_neg h, List.filter_cons_of_pos (by simpa using h)]; simp [dec]
theorem dueR_snoc (l : TL) (x : Int × Int) : dueR (l ++ [x]) = if x.2 = 1 then dueR l ++ [x.1] else dueR l := by
  unfold dueR
  rw [List.filter_append]
  by_cases h : x.2 = 1
  · rw [if_pos h, List.filter_cons_of_pos (by simpa using h)]; simp
  · rw [if_neg h, List.filter_cons_of_neg (by simpa using h)]; simp
section
attribute [local go_sem] Oper.quietS Oper.effS effUpon Drawn
set_option maxRecDepth 100000 in
set_option maxHeartbeats 1000000 in
theorem rtick_any (ao : Option Addr) (cap n : Nat) (r : TL) (hrn : r.length = n) (w : World) (hT : TAt w ao r) (hn : n ≤ 64) (hb : ∀ x ∈ r, 1 ≤ x.2 ∧ x.2 ≤ 65536) :
    Calls Try.prog 11 #[.slice ao n cap] w fun e w' => ∃ v u, e = .returned (.tuple #[v, u]) ∧ w'.ownsRow w.heap.size 43 2 v (leftR r).length (cells2 (leftR r)) ∧ w'.ownsRow w.heap.size 3 1 u (dueR r).length (iv (dueR r)) ∧ Below w.heap.size w w' := by
  obtain ⟨i0, hi, hz0, hz1, hz2⟩ := info_parts infoT2
  obtain ⟨j0, gi, gz0, gz1, gz2⟩ := info_parts infoN
  have HN := hid hrn
  have HT := hid hT
  have HB := hid hb
  clear hT hrn hb
  go_enter Try.func11, Try.ntmps11
  go_wp2
  go_loopw [4, 5, 6] (fun v u i wr => ∃ k : Nat, k ≤ n ∧ i = .int .i64 k ∧ wr.ownsRow w.heap.size 43 2 v (leftR (r.take k)).length (cells2 (leftR (r.take k))) ∧ wr.ownsRow w.heap.size 3 1 u (dueR (r.take k)).length (iv (dueR (r.take k))) ∧ Below w.heap.size w wr) (fun _ _ i _ => n - (intOf i).toNat)
  case atStart => exact ⟨0, by omega, rfl, World.ownsRow_nil w w.heap.size 43 2, World.ownsRow_nil w w.heap.size 3 1, Below.refl _ _⟩
  case round =>
    obtain ⟨k, hk, rfl, hown, hownD, hbr⟩ := hrel
    by_cases hlt : k < n
    · obtain ⟨b, o, rfl, c1, c2⟩ := HT.out.below hbr k (by rw [HN.out]; exact hlt)
      have hts := take_snoc (r := r) (k := k) (by rw [HN.out]; exact hlt)
      have HLS := hid (leftR_snoc (r.take k) (r.getD k (0, 0)))
      have HDS := hid (dueR_snoc (r.take k) (r.getD k (0, 0)))
      have hbx : 1 ≤ (r.getD k (0, 0)).2 ∧ (r.getD k (0, 0)).2 ≤ 65536 := by
        have hkr : k < r.length := by rw [HN.out]; exact hlt
        have e : r.getD k (0, 0) = r[k] := by simp [hkr]
        rw [e]
        exact HB.out _ (List.getElem_mem hkr)
      rw [← hts] at HDS HLS
      have i0' : (0 : Int) ≤ (k : Int) := by omega
      have i1 : (k : Int) < (n : Int) := by omega
      generalize r.getD k (0, 0) = x at c1 c2 HDS HLS hbx
      obtain ⟨xi, xt⟩ := x
      dsimp only at c1 c2 HDS HLS hbx
      have htkl : (r.take k).length ≤ k := by rw [List.length_take]; omega
      have hll : (leftR (r.take k)).length ≤ 64 := by
        unfold leftR
        rw [List.length_map]
        have := List.length_filter_le (fun x : Int × Int => decide (x.2 ≠ 1)) (r.take k)
        omega
      have hdl : (dueR (r.take k)).length ≤ 64 := by
        unfold dueR
        rw [List.length_map]
        have := List.length_filter_le (fun x : Int × Int => decide (x.2 = 1)) (r.take k)
        omega
      generalize hLL : leftR (r.take k) = A at hown HLS hll
      generalize hDD : dueR (r.take k) = D at hownD HDS hdl
      have hsz := hid hbr.size
      clear hts hLL hDD htkl
      by_cases hx : xt = 1
      · subst hx
        rw [if_pos rfl] at HLS HDS
        have HL2 := hid (congrArg List.length HDS.out)
        have HC2 := hid ((congrArg iv HDS.out).trans (iv_append _ _))
        rw [List.length_append] at HL2
        have hownA := hownD.alloc (Obj.cells #[Value.int .i64 xi] 3)
        have hLA := hown.alloc (Obj.cells #[Value.int .i64 xi] 3)
        have hnews : ∀ (j : Nat) (u : Value), (iv [xi])[j]? = some u → (wr.alloc (Obj.cells #[Value.int .i64 xi] 3)).cell? ((⟨wr.heap.size, 0, none⟩ : Addr).add j) = some u := fun j u hj => by
          rw [add_off, Nat.zero_add, World.cell?_alloc_at _ _ _ _ rfl]
          rw [show iv [xi] = [Value.int .i64 xi] by rfl] at hj
          simpa using hj
        have hbW := hbr.alloc hbr.size (Obj.cells #[Value.int .i64 xi] 3)
        have hszA := hid hbW.size
        have HNQ := hid (own_neq hLA hownA (by decide))
        clear HDS hown hownD
        go_wp2_with (at_builtin; refine wpList_append_own _ rfl _ _ 33 rfl w.heap.size 3 j0 (.int .i64 0) 1 8 Try.underlying33 gi gz0 gz1 gz2 rfl (by decide) u5 D.length _ rfl hownA ⟨wr.heap.size, 0, none⟩ 1 1 (iv [xi]) rfl (by simp [iv]) hnews (by simp [Value.oneCell', iv]) (by unfold maxLen; omega) (by omega) hszA.out ?_; intro v' w1 hown1 hgrow _; rw [← HC2.out] at hown1)
        go_roundw
        case rel => exact ⟨k + 1, by omega, by go_num, by rw [HLS.out]; exact own_save hLA (Save.of_grown hgrow) fun g hg e => HNQ.out g hg e, by rw [HL2.out]; exact hown1, hbW.grown hgrow hszA.out fun j hj => (hownA.lt j hj).1⟩
        case measure => simp [intOf]; omega
      · have t1 : (xt == 1) = false := by simpa using hx
        rw [if_neg hx] at HLS HDS
        have HL2 := hid (congrArg List.length HLS.out)
        have HC2 := hid ((congrArg cells2 HLS.out).trans (cells2_snoc _ _))
        rw [List.length_append] at HL2
        obtain ⟨Ws, hWs⟩ : ∃ Ws, Ws = two wr (Obj.cells #[Value.int .i64 xi, Value.int .i64 (xt - 1)] 43) := ⟨_, rfl⟩
        have d0 : ∀ s, (Ws s).cell? ⟨b, o + k * 2, none⟩ = some (.int .i64 xi) := fun s => by rw [hWs]; exact cell_two c1 _ _
        have d1 : ∀ s, (Ws s).cell? ⟨b, o + k * 2 + 1, none⟩ = some (.int .i64 xt) := fun s => by rw [hWs]; exact cell_two c2 _ _
        have HW := hid hWs
        have HO := hid hown
        have HOD := hid hownD
        clear hWs hown hownD c1
        go_wp2
        refine wp_region_stage 14 (Drawn Ws) (by kernel_rfl) (by kernel_rfl) (Drawn.start _ _ (by rw [HW.out]; rfl)) ?_
        simp only [List.take_succ_cons, List.take_zero, List.drop_succ_cons, List.drop_zero]
        repeat (refine wpStg_quiet (by rfl) (by rfl) (fun K hK => ?_); go_simp; (refine hK _ ?_; clear hK K))
        refine wpStg_eff (by rfl) (by rfl) (fun K hK => ?_)
        go_simp
        have hw1 : IntKind.i64.wrap (xt - 1) = xt - 1 := IntWalk.i64_in _ (by omega)
        refine ⟨_, fun n => ⟨rfl, n, by rw [HW.out]; first | rfl | (rw [hw1]; rfl)⟩, hK _ ?_⟩
        clear hK K
        refine wpStg_nil ?_
        rintro _ ⟨nq, rfl⟩
        rw [show Ws 1 = wr.alloc _ by rw [HW.out]; rfl, show Ws 0 = wr by rw [HW.out]; rfl]
        obtain ⟨W, hW⟩ : ∃ W, W = (wr.alloc (Obj.cells #[Value.int .i64 xi, Value.int .i64 (xt - 1)] 43)).drewN nq := ⟨_, rfl⟩
        have hownA : W.ownsRow w.heap.size 43 2 u4 A.length (cells2 A) := by rw [hW]; exact HO.out.alloc _
        have hDA : W.ownsRow w.heap.size 3 1 u5 D.length (iv D) := by rw [hW]; exact HOD.out.alloc _
        have hbW : Below w.heap.size w W := by rw [hW]; exact (hbr.alloc hbr.size _).trans ⟨rfl, rfl, rfl, Nat.le_refl _, fun _ _ => rfl⟩
        have hnews : ∀ (j : Nat) (u : Value), [Value.int .i64 xi, Value.int .i64 (xt - 1)][j]? = some u → W.cell? ((⟨wr.heap.size, 0, none⟩ : Addr).add j) = some u := fun j u hj => by
          rw [add_off, hW, Nat.zero_add]
          show (wr.alloc _).cell? _ = _
          rw [World.cell?_alloc_at _ _ _ _ rfl]; simpa using hj
        rw [← hW]
        have hszA := hid hbW.size
        have HNQ := hid (own_neq hDA hownA (by decide))
        clear hW HW d0 d1 Ws HO HOD
        go_wp2_with (at_builtin; refine wpList_append_own _ rfl _ _ 27 rfl w.heap.size 43 i0 (.agg #[.int .i64 0, .int .i64 0]) 2 16 Try.underlying27 hi hz0 hz1 hz2 rfl (by decide) u4 A.length _ rfl hownA ⟨wr.heap.size, 0, none⟩ 1 1 _ rfl (by simp) hnews (by simp [Value.oneCell']) (by unfold maxLen; omega) (by omega) hszA.out ?_; intro v' w1 hown1 hgrow _; rw [← HC2.out] at hown1)
        go_roundw
        case rel => exact ⟨k + 1, by omega, by go_num, by rw [HL2.out]; exact hown1, by rw [HDS.out]; exact own_save hDA (Save.of_grown hgrow) fun g hg e => HNQ.out g hg e, hbW.grown hgrow hszA.out fun j hj => (hownA.lt j hj).1⟩
        case measure => simp [intOf]; omega
    · obtain rfl : k = n := by omega
      have htk : r.take k = r := List.take_of_length_le (by rw [HN.out]; exact Nat.le_refl _)
      rw [htk] at hown hownD
      go_wp2
      go_ret2
      exact ⟨_, _, rfl, hown, hownD, hbr⟩
end
end Go.Proofs.Ytdccpbnknfffaaa
