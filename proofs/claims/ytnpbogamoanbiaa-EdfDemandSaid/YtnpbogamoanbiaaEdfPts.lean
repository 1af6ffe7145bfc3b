/-
  Contracts: the iterator over the ticks at which a deadline may be, and the last of them.
-/
import Derived.Test.YtnpbogamoanbiaaEdf
namespace Go.Proofs.Ytnpbogamoanbiaa
open Go.RowKit Go.Shelf
attribute [local go_sem] Oper.semAt_some
theorem pts_zero {f : Nat → TK} {n : Nat} {a : Int} (h : nextP a f n = 0) (k : Nat) : pts f n k a = [] := by
  cases k with
  | zero => rfl
  | succ k => simp only [pts, h, if_true]
theorem pts_succ {f : Nat → TK} {n : Nat} {a : Int} (h : nextP a f n ≠ 0) (k : Nat) : pts f n (k + 1) a = nextP a f n :: pts f n k (nextP a f n - 1) := by
  simp only [pts, h, if_false]
set_option maxRecDepth 100000 in
set_option maxHeartbeats 2000000 in
theorem points1_in (m : Nat) (hm : 3 ≤ m) (ao : Option Addr) (n cap : Nat) (g : Nat → Nat → Int) (most : Int) (F : Nat) (w : World) (hn : n ≤ 100) (hG : ∀ i, i < n → OkK (tkOf (g i))) (h0m : 0 ≤ most) (hmm : most ≤ 65536) (hF : most ≤ F) (Bm Bl : Nat) (hl : w.cell? ⟨Bl, 0, none⟩ = some (.slice ao n cap)) (ht : w.cell? ⟨Bm, 0, none⟩ = some (.int .i64 most)) (hT : Tasks w ao n g) :
    SeqStopsK Fence.wide m Try.prog 32 #[.pointer (some ⟨Bm, 0, none⟩), .pointer (some ⟨Bl, 0, none⟩)] (fun x : Int => #[.int .i64 x]) (Below w.heap.size) (fun ys => ys = pts (fun i => tkOf (g i)) n F most) (fun pre => pre <+: pts (fun i => tkOf (g i)) n F most) F w := by
  intro l J Jx W hW hJ hJx hY h0
  refine callsIn_of_wp Try.func32 rfl trivial ?_ rfl
  simp only [Try.ntmps32, List.size_toArray, List.length_cons, List.length_nil, Nat.reduceAdd, Nat.reduceSub, Array.replicate_succ, Array.replicate_zero, List.push_toArray, List.append_toArray, List.nil_append, List.cons_append]
  have h1 : 1 ≤ m := by omega
  have hl' := kept hl hW
  have ht' := kept ht hW
  obtain ⟨f, hf⟩ : ∃ f : Nat → TK, f = fun i => tkOf (g i) := ⟨_, rfl⟩
  rw [← hf]
  have HFK := hid (show ∀ k, f k = tkOf (g k) from fun k => by rw [hf])
  have HO : Hid (∀ i, i < n → OkK (f i)) := fun i hi => by rw [HFK.out]; exact hG i hi
  clear hf hG
  gi_wp2
  gi_loopw [4] (fun v wr => ∃ (a : Int) (k : Nat) (pre : List Int), v = .int .i64 a ∧ 0 ≤ a ∧ a ≤ most ∧ a ≤ k ∧ Hid (pts f n F most = pre ++ pts f n k a) ∧ pre.length + k = F ∧ J pre wr ∧ Below w.heap.size w wr ∧ W.heap.size ≤ wr.heap.size) (fun v _ => (intOf v).toNat)
  case atStart => exact ⟨most, F, [], rfl, h0m, Int.le_refl _, hF, rfl, by simp, h0, hW, Nat.le_refl _⟩
  case round =>
    obtain ⟨a, k, pre, rfl, ha0, ham, hak, HP, hpl, hJs, hnx, hsz⟩ := hrel
    have HPL := hid hpl
    clear hpl
    have hl2 := kept hl hnx
    have HNN := hid (fun (j : Nat) (hj : j ≤ n) => nextP_nonneg (a := a) (fun i hi => HO.out i (by omega) : ∀ i, i < j → OkK (f i)))
    have HNL := hid (fun (j : Nat) (hj : j ≤ n) => nextP_le (a := a) (fun i hi => HO.out i (by omega) : ∀ i, i < j → OkK (f i)) ha0)
    gi_wp2
    gi_loopw [5, 11] (fun v i wr => ∃ j : Nat, j ≤ n ∧ i = .int .i64 j ∧ v = .int .i64 (nextP a f j) ∧ J pre wr ∧ Below w.heap.size w wr ∧ W.heap.size ≤ wr.heap.size) (fun _ i _ => n - (intOf i).toNat)
    case atStart => exact ⟨0, Nat.zero_le _, rfl, rfl, hJs, hnx, hsz⟩
    case round =>
      obtain ⟨j, hj, rfl, rfl, hJs, hnx, hsz⟩ := hrel
      by_cases hlt : j < n
      · obtain ⟨b, o, rfl, hbl⟩ := hT.form hlt
        obtain ⟨⟨c0, c1, c2, c3⟩, ⟨c4, c5, c6, c7⟩, c8, c9, c10⟩ := (hT.below hnx).at_ hlt
        have hok := HO.out j hlt
        rw [HFK.out] at hok
        obtain ⟨p1, p2, d1, d2, q1, q2⟩ := hok
        have HS := hid (show nextP a f (j + 1) = if g j 1 ≤ a then max (nextP a f j) (g j 1 + (a - g j 1) / g j 0 * g j 0) else nextP a f j by
          show (if (f j).d ≤ a then max (nextP a f j) ((f j).d + (a - (f j).d) / (f j).p * (f j).p) else nextP a f j) = _
          rw [HFK.out]; rfl)
        have hz1 := HNN.out j hj
        have hz2 := HNL.out j hj
        dsimp only [tkOf] at p1 p2 d1 d2 q1 q2
        obtain ⟨z, hz⟩ : ∃ z, nextP a f j = z := ⟨_, rfl⟩
        rw [hz] at HS hz1 hz2 ⊢
        clear hz
        have hb3 := (Below.refl wr.heap.size wr).alloc (Nat.le_refl _) (Obj.cells #[Value.int .i64 (g j 0), Value.int .i64 (g j 1), Value.int .i64 (g j 2), Value.int .i64 (g j 3), Value.int .i64 (g j 4), Value.int .i64 (g j 5), Value.int .i64 (g j 6), Value.int .i64 (g j 7), Value.int .i64 (g j 8), Value.int .i64 (g j 9), Value.int .i64 (g j 10)] 24)
        have hJ3 := hJ _ _ _ none hJs (below_grownBy hb3) (fun r e => by cases e)
        by_cases hd : g j 1 ≤ a
        · have t1 : decide (a < g j 1) = false := by simpa using hd
          obtain ⟨g1, g2, _, _⟩ := floor_pt p1 hd
          rw [if_pos hd] at HS
          have hq0 : 0 ≤ (a - g j 1) / g j 0 := Int.ediv_nonneg (by omega) (by omega)
          have hq1 : (a - g j 1) / g j 0 ≤ a - g j 1 := Int.ediv_le_self _ (by omega)
          have hq2 : (a - g j 1).tdiv (g j 0) = (a - g j 1) / g j 0 := Int.tdiv_eq_ediv_of_nonneg (by omega)
          obtain ⟨q, hq⟩ : ∃ q, (a - g j 1) / g j 0 = q := ⟨_, rfl⟩
          rw [hq] at HS g1 g2 hq0 hq1 hq2
          clear hq
          obtain ⟨r, hr⟩ : ∃ r, q * g j 0 = r := ⟨_, rfl⟩
          rw [hr] at HS g1 g2
          have e1 : IntKind.i64.wrap (a - g j 1) = a - g j 1 := IntWalk.i64_in _ (by omega)
          have e2 : IntKind.i64.wrap q = q := IntWalk.i64_in _ (by omega)
          have e3 : IntKind.i64.wrap r = r := IntWalk.i64_in _ (by omega)
          have e4 : IntKind.i64.wrap (g j 1 + r) = g j 1 + r := IntWalk.i64_in _ (by omega)
          have e5 : g j 0 ≠ 0 := by omega
          gi_wp2
          refine wpIn_wide.2 ?_
          go_quiet (fail)
          have hb4 : Below wr.heap.size wr ((wr.alloc (Obj.cells #[Value.int .i64 (g j 0), Value.int .i64 (g j 1), Value.int .i64 (g j 2), Value.int .i64 (g j 3), Value.int .i64 (g j 4), Value.int .i64 (g j 5), Value.int .i64 (g j 6), Value.int .i64 (g j 7), Value.int .i64 (g j 8), Value.int .i64 (g j 9), Value.int .i64 (g j 10)] 24)).drewN nq) := hb3.trans ⟨rfl, rfl, rfl, Nat.le_refl _, fun _ _ => rfl⟩
          have hJ4 := hJ _ _ _ none hJs (below_grownBy hb4) (fun r e => by cases e)
          have hmx : (if z < g j 1 + r then g j 1 + r else z) = max z (g j 1 + r) := by split <;> omega
          rw [hmx]
          clear hmx e1 e2 e3 e4 hr hq2
          gi_wp2
          go_roundw
          case rel => exact ⟨j + 1, by omega, by go_num, by rw [HS.out], hJ4, hnx.trans (hb4.mono hnx.size), Nat.le_trans hsz hb4.size⟩
          case measure => simp [intOf]; omega
        · have t1 : decide (a < g j 1) = true := by simpa using hd
          rw [if_neg hd] at HS
          gi_wp2
          go_roundw
          case rel => exact ⟨j + 1, by omega, by go_num, by rw [HS.out], hJ3, hnx.alloc hnx.size _, Nat.le_trans hsz (by simp)⟩
          case measure => simp [intOf]; omega
      · obtain rfl : j = n := by omega
        have t1 : decide ((j : Int) < (j : Int)) = false := by simp
        have hz1 := HNN.out j (Nat.le_refl _)
        have hz2 := HNL.out j (Nat.le_refl _)
        by_cases hz0 : nextP a f j = 0
        · have HN := hid (pts_zero hz0 k)
          gi_wp2
          all_goals
            refine ⟨fun _ h => (by cases h), ?_⟩
            gi_wp2
            refine bodyPost_ret (results_none rfl _ _ _) rfl ?_
            exact ⟨⟨_, rfl⟩, .inl ⟨_, rfl, by rw [HP.out, HN.out, List.append_nil]; exact hJs⟩⟩
        · obtain ⟨k', rfl⟩ : ∃ k', k = k' + 1 := ⟨k - 1, by omega⟩
          have HN := hid (pts_succ hz0 k')
          have tz : (nextP a f j == 0) = false := beq_eq_false_iff_ne.2 hz0
          obtain ⟨z, hz⟩ : ∃ z, nextP a f j = z := ⟨_, rfl⟩
          rw [hz] at HN hz1 hz2 hz0 tz ⊢
          clear hz
          obtain ⟨fn, tmps, assign, body, hy, hR⟩ := hY pre z wr hJs (by have := HPL.out; omega)
          gi_wp2
          refine hR.mono ?_
          have HP2 : Hid (pts f j F most = (pre ++ [z]) ++ pts f j k' (z - 1)) := by
            show _ = _
            rw [HP.out, HN.out, List.append_assoc]; rfl
          have HL2 := hid (show (pre ++ [z]).length + k' = F by have := HPL.out; simp; omega)
          rintro e W3 (⟨rfl, hJ3, hk3⟩ | ⟨rfl, hJx3⟩)
          · gi_wp2
            go_roundw
            case rel => exact ⟨z - 1, k', pre ++ [z], rfl, by omega, by omega, by omega, HP2, HL2.out, hJ3, hnx.trans hk3, Nat.le_trans hsz hk3.size⟩
            case measure => simp [intOf]; omega
          · gi_wp2
            refine bodyPost_ret (results_none rfl _ _ _) rfl ?_
            exact ⟨⟨_, rfl⟩, .inr ⟨_, by rw [HP2.out]; exact List.prefix_append _ _, hJx3⟩⟩
theorem points_any (ao : Option Addr) (n cap : Nat) (t : Int) (w : World) : Calls Try.prog 25 #[.int .i64 t, .slice ao n cap] w fun e w' => e = .returned (.func (.func 32) #[] #[.pointer (some ⟨w.heap.size, 0, none⟩), .pointer (some ⟨w.heap.size + 1, 0, none⟩)]) ∧ (w.alloc (.cells #[.int .i64 t] 3)).alloc (.cells #[.slice ao n cap] 30) = w' := by
  go_enter Try.func25, Try.ntmps25
  go_wp2
  go_ret
  exact ⟨rfl, rfl⟩
set_option maxRecDepth 100000 in
set_option maxHeartbeats 2000000 in
theorem edfLast_any (ao : Option Addr) (n cap : Nat) (g : Nat → Nat → Int) (most : Int) (w : World) (hn : n ≤ 100) (hT : Tasks w ao n g) (hG : ∀ i, i < n → OkK (tkOf (g i))) (h0m : 0 ≤ most) (hmm : most ≤ 65536) :
    Calls Try.prog 26 #[.int .i64 most, .slice ao n cap] w fun e w' => e = .returned (.int .i64 (nextP most (fun i => tkOf (g i)) n)) ∧ Below w.heap.size w w' := by
  obtain ⟨f, hf⟩ : ∃ f : Nat → TK, f = fun i => tkOf (g i) := ⟨_, rfl⟩
  rw [← hf]
  have c0 := cell_new_l w (.int .i64 0) 3
  have c1 := cell_new_l (w.alloc (.cells #[.int .i64 0] 3)) (.int .i64 most) 3
  have c2 := cell_new_l ((w.alloc (.cells #[.int .i64 0] 3)).alloc (.cells #[.int .i64 most] 3)) (.slice ao n cap) 30
  simp only [World.size_alloc] at c1 c2
  have hB0 : Below w.heap.size w (((w.alloc (.cells #[.int .i64 0] 3)).alloc (.cells #[.int .i64 most] 3)).alloc (.cells #[.slice ao n cap] 30)) := (((Below.refl _ w).alloc (Nat.le_refl _) _).alloc (by simp) _).alloc (by simp; omega) _
  have hseq := points1_in 9 (by omega) ao n cap g most most.toNat (((w.alloc (.cells #[.int .i64 0] 3)).alloc (.cells #[.int .i64 most] 3)).alloc (.cells #[.slice ao n cap] 30)) hn hG h0m hmm (by omega) (w.heap.size + 1) (w.heap.size + 1 + 1) c2.1 (cell_alloc_l _ c1.1) (hT.below hB0)
  rw [← hf] at hseq
  have hnil : nextP most f n ≠ 0 → 0 < most.toNat ∧ ∃ t, pts f n most.toNat most = nextP most f n :: t := fun h => by
    have hO : ∀ i, i < n → OkK (f i) := fun i hi => by rw [hf]; exact hG i hi
    have h1 := nextP_nonneg (a := most) hO
    have h2 := nextP_le hO h0m
    obtain ⟨k, hk⟩ : ∃ k, most.toNat = k + 1 := ⟨most.toNat - 1, by omega⟩
    rw [hk, pts_succ h]
    exact ⟨by omega, _, rfl⟩
  have HNIL := hid hnil
  have HZ := hid (fun h => pts_zero (f := f) (n := n) (a := most) h most.toNat)
  clear hnil hf hG
  obtain ⟨z, hz⟩ : ∃ z, nextP most f n = z := ⟨_, rfl⟩
  rw [hz] at HNIL HZ ⊢
  obtain ⟨L, hL⟩ : ∃ L, pts f n most.toNat most = L := ⟨_, rfl⟩
  rw [hL] at HNIL HZ hseq
  clear hz hL
  refine (callsIn_wide (n := 10)).1 ?_
  refine callsIn_of_wp_marks Try.func26 rfl trivial ?_ rfl
  simp only [Try.ntmps26, List.size_toArray, List.length_cons, List.length_nil, Nat.reduceAdd, Nat.reduceSub, Array.replicate_succ, Array.replicate_zero, List.push_toArray, List.append_toArray, List.nil_append, List.cons_append]
  gi_wp2_with (refine ⟨trivial, ?_⟩; gi_at_call 25; refine (callsIn_wide.2 (points_any _ _ _ _ _)).mono ?_; rintro e w' ⟨rfl, rfl⟩)
  refine wpIn_rangeFunc_ownF rfl (by omega) (gf := 32) (lb := #[.pointer (some ⟨w.heap.size + 1, 0, none⟩), .pointer (some ⟨w.heap.size + 1 + 1, 0, none⟩)]) rfl trivial (enters_of Try.func32 (by kernel_rfl) rfl) hseq belowK_t (belowK_b (Nat.le_refl _)) (Below.refl _ _) (fun _ => rfl)
    (fun pre W => (pre = [] ∧ W.cell? ⟨w.heap.size, 0, none⟩ = some (.int .i64 0) ∧ W.frozen? ⟨w.heap.size, 0, none⟩ = false) ∧ Below w.heap.size w W)
    (fun c pre W => (∃ x, c = .ret ∧ pre = [x] ∧ W.cell? ⟨w.heap.size, 0, none⟩ = some (.int .i64 x)) ∧ Below w.heap.size w W)
    (OwnFrom.and (Own.from (fun s A B row hs hg hr => ⟨hs.1, cell_kept hs.2.1 hg hr, (frozen_kept hs.2.1 hg hr).trans hs.2.2⟩) _) (ownFrom_below (Nat.le_refl _) (by simp; omega)))
    (fun c => OwnFrom.and (Own.from (fun s A B row hs hg hr => by
      obtain ⟨x, h1, h2, h3⟩ := hs
      exact ⟨x, h1, h2, cell_kept h3 hg hr⟩) _) (ownFrom_below (Nat.le_refl _) (by simp; omega)))
    ⟨⟨rfl, cell_alloc_l _ (cell_alloc_l _ c0.1), frozen_alloc_l _ (cell_alloc_l _ c0.1) (frozen_alloc_l _ c0.1 c0.2)⟩, hB0⟩
    (fun x => { tmps := #[.int .i64 most, .slice ao n cap, undef, undef, .pointer (some ⟨w.heap.size, 0, none⟩), .int .i64 x, .int .i64 most, .slice ao n cap, .func (.func 32) #[] #[.pointer (some ⟨w.heap.size + 1, 0, none⟩), .pointer (some ⟨w.heap.size + 1 + 1, 0, none⟩)], .int .i64 x, undef], defers := [] }) ?assign ?body ?done ?stop
  case assign =>
    intro l x W K hK
    gi_wp2
    exact hK
  case body =>
    rintro l pre x W ⟨⟨rfl, h1, h2⟩, hB⟩ _
    gi_wp2
    exact ⟨KeepsOthers.setCell _ _ _, ⟨x, rfl, rfl, World.cell?_setCell_same' _ _ _ (by rw [h1]; rfl)⟩, hB.setCell (p := ⟨w.heap.size, 0, none⟩) (Nat.le_refl _) _⟩
  case done =>
    rintro D ys W hD rfl ⟨⟨hy, h1, h2⟩, hB⟩ hK
    have hz0 : z = 0 := by
      rcases Classical.em (z = 0) with h | h
      · exact h
      · obtain ⟨_, t, ht⟩ := HNIL.out h
        rw [hy] at ht; cases ht
    subst hz0
    gi_wp2
    have hK' := (KeepsOthers.setCell W ⟨w.heap.size, 0, none⟩ (.int .i64 0)).same D _ hK rfl
    refine ⟨by simp, .inl ⟨_, _, rfl, run_takeDeferred hK', ?_⟩⟩
    have e0 : (W.setCell ⟨w.heap.size, 0, none⟩ (.int .i64 0)).cell? ⟨w.heap.size, 0, none⟩ = some (.int .i64 0) := by simp [go_sem, h1]
    have g0 := cell_kept e0 (grownBy_putObj' _ D (.deferred none)) (fun r e => by cases e; exact ⟨_, hK', rfl⟩)
    refine ⟨_, ?_, rfl, (hB.setCell (p := ⟨w.heap.size, 0, none⟩) (Nat.le_refl _) _).trans (belowK_b (w := w) (Nat.le_refl _) _ D _ _ (by simp at hD; omega) hK' rfl rfl)⟩
    simp [results, Try.f26, go_sem, g0]
  case stop =>
    rintro D c pre W hD hpre ⟨⟨x, rfl, rfl, h1⟩, hB⟩ hK
    have hzx : x = z := by
      obtain ⟨t, ht⟩ := hpre
      rcases Classical.em (z = 0) with h | h
      · rw [HZ.out h] at ht; cases ht
      · obtain ⟨_, t', ht'⟩ := HNIL.out h
        rw [ht'] at ht
        simpa using (List.cons.inj ht).1
    subst hzx
    gi_wp2
    refine ⟨by simp, .inl ⟨_, _, rfl, run_takeDeferred hK, ?_⟩⟩
    have g0 := cell_kept h1 (grownBy_putObj' _ D (.deferred none)) (fun r e => by cases e; exact ⟨_, hK, rfl⟩)
    refine ⟨_, ?_, rfl, hB.trans (belowK_b (w := w) (Nat.le_refl _) W D _ _ (by simp at hD; omega) hK rfl rfl)⟩
    simp [results, Try.f26, go_sem, g0]
end Go.Proofs.Ytnpbogamoanbiaa
