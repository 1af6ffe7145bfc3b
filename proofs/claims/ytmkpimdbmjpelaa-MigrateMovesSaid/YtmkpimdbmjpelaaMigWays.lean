/-
  Layer 29: the iterator ways: which old queue becomes which new one.
-/
import Derived.Test.YtmkpimdbmjpelaaMigGreat
import Derived.RangeFuncWrites
namespace Go.Proofs.Ytmkpimdbmjpelaa
open Go.RowKit Go.Shelf
attribute [local go_sem] Oper.semAt_some
/-- An old queue's number and the new one's. -/
abbrev Way (m : Nat → Int) (n to : Nat) := { x : Nat × Nat // bec m to x.1 = some x.2 ∧ x.1 < n }
theorem bec_four {m : Nat → Int} {to i j : Nat} (h : bec m to i = some j) : i < 4 := by
  unfold bec at h
  split at h
  · rename_i h1; exact h1.1
  · cases h
/-- The ways of the first k. -/
def waysU (m : Nat → Int) (n to : Nat) : Nat → List (Way m n to)
  | 0 => []
  | k + 1 => waysU m n to k ++ (if h : k < n ∧ (bec m to k).isSome then [⟨(k, (bec m to k).get h.2), by simp, h.1⟩] else [])
theorem waysU_yes {m : Nat → Int} {n to k j : Nat} (hk : k < n) (hj : bec m to k = some j) : waysU m n to (k + 1) = waysU m n to k ++ [⟨(k, j), hj, hk⟩] := by
  rw [waysU, dif_pos ⟨hk, by rw [hj]; rfl⟩]
  congr
  simp [hj]
theorem waysU_no {m : Nat → Int} {n to k : Nat} (h : ¬ (k < n ∧ (bec m to k).isSome)) : waysU m n to (k + 1) = waysU m n to k := by
  rw [waysU, dif_neg h, List.append_nil]
theorem mem_ways {m : Nat → Int} {n to : Nat} (x : Way m n to) (k : Nat) : x ∈ waysU m n to k ↔ x.1.1 < k := by
  induction k with
  | zero => simp [waysU]
  | succ k ih =>
    by_cases h : k < n ∧ (bec m to k).isSome
    · obtain ⟨hk, hs⟩ := h
      obtain ⟨j, hj⟩ := Option.isSome_iff_exists.1 hs
      rw [waysU_yes hk hj, List.mem_append, ih, List.mem_singleton]
      constructor
      · rintro (h | rfl)
        · omega
        · exact Nat.lt_succ_self _
      · intro h
        rcases (show x.1.1 < k ∨ x.1.1 = k by omega) with h1 | h1
        · exact .inl h1
        · right
          obtain ⟨⟨a, b⟩, hx1, hx2⟩ := x
          simp only at h1 hx1
          subst h1
          rw [hj] at hx1
          cases hx1
          rfl
    · rw [waysU_no h, ih]
      constructor
      · omega
      · intro h1
        rcases (show x.1.1 < k ∨ x.1.1 = k by omega) with h2 | h2
        · exact h2
        · exfalso
          refine h ⟨by have := x.2.2; omega, ?_⟩
          rw [← h2, x.2.1]; rfl
theorem ways_len (m : Nat → Int) (n to k : Nat) : (waysU m n to k).length ≤ k := by
  induction k with
  | zero => exact Nat.le_refl _
  | succ k ih =>
    rw [waysU, List.length_append]
    split <;> simp <;> omega
theorem ways_sorted (m : Nat → Int) (n to k : Nat) : (waysU m n to k).Pairwise fun a b => a.1.1 < b.1.1 := by
  induction k with
  | zero => exact List.Pairwise.nil
  | succ k ih =>
    by_cases h : k < n ∧ (bec m to k).isSome
    · obtain ⟨j, hj⟩ := Option.isSome_iff_exists.1 h.2
      rw [waysU_yes h.1 hj]
      refine List.pairwise_append.2 ⟨ih, List.pairwise_singleton _ _, fun a ha b hb => ?_⟩
      rw [List.mem_singleton] at hb
      subst hb
      exact (mem_ways a k).1 ha
    · rw [waysU_no h]; exact ih
theorem ways_prefix (m : Nat → Int) (n to : Nat) {k l : Nat} (h : k ≤ l) : waysU m n to k <+: waysU m n to l := by
  induction l with
  | zero => obtain rfl : k = 0 := by omega
            exact List.prefix_refl _
  | succ l ih =>
    rcases (show k ≤ l ∨ k = l + 1 by omega) with h1 | rfl
    · exact (ih h1).trans (by rw [waysU]; exact List.prefix_append _ _)
    · exact List.prefix_refl _
/-- Some blocks of cells lie as they lay. -/
def KpB (bs : List Nat) (W W' : World) : Prop := W.heap.size ≤ W'.heap.size ∧ ∀ b, b ∈ bs → ∀ o, W.heap[b]? = some o → o.isCells = true → W'.heap[b]? = some o
theorem KpB.t {bs : List Nat} {A B C : World} (h : KpB bs A B) (k : KpB bs B C) : KpB bs A C := ⟨Nat.le_trans h.1 k.1, fun a e o ho hc => k.2 a e o (h.2 a e o ho hc) hc⟩
theorem KpB.boxed {bs : List Nat} {A B : World} {b : Nat} {t : TypeId} {v : Value} (k : KpB bs A B) (hb : b ∈ bs) (h : Boxed A b t v) : Boxed B b t v := k.2 b hb _ h rfl
theorem kpB_b {n₀ : Nat} {bs : List Nat} (W : World) (l : Nat) (o o' : Obj) (_hl : n₀ ≤ l) (h : W.heap[l]? = some o) (hc : o.isCells = false) (_hw : o.isWalk = false) : KpB bs W (W.putObj l o') := by
  refine ⟨by simp [World.putObj], fun b _ x hx hxc => ?_⟩
  by_cases e : b = l
  · subst e; rw [h] at hx; cases hx; rw [hc] at hxc; cases hxc
  · exact (World.putObj_heap_other e).trans hx
theorem ways_any (m : Nat → Int) (n to : Nat) (w : World) : Calls Try.prog 36 #[arr4 m, .int .i64 n, .int .i64 to] w fun e w' => e = .returned (.func (.func 44) #[] #[.pointer (some ⟨w.heap.size, 0, none⟩), .pointer (some ⟨w.heap.size + 1, 0, none⟩), .pointer (some ⟨w.heap.size + 1 + 1, 0, none⟩)]) ∧ ((w.alloc (box4 m)).alloc (.cells #[.int .i64 n] 3)).alloc (.cells #[.int .i64 to] 3) = w' := by
  unfold arr4 box4
  go_enter Try.func36, Try.ntmps36
  go_wp2
  go_ret
  exact ⟨rfl, rfl⟩
theorem run_index4 (m : Nat → Int) (k : Nat) (X : World) (h : k < 4) : Sem.run Try.prog (Instr.index 48 (.agg #[.int .i64 (m 0), .int .i64 (m 1), .int .i64 (m 2), .int .i64 (m 3)]) (.int .i64 (k : Int))) X = .ok (.int .i64 (m k)) X := by
  rcases k with _ | _ | _ | _ | k
  all_goals first | (exfalso; omega) | kernel_rfl
set_option maxRecDepth 100000 in
set_option maxHeartbeats 1000000 in
theorem ways1_in (f : Nat) (hf : 2 ≤ f) (B0 B1 B2 : Nat) (m : Nat → Int) (n to : Nat) (w : World) (hn : n ≤ 1000) (hto : to ≤ 1000) (hm : ∀ i, (Lit.int .i64 (m i)).wf = true) (h0 : w.heap[B0]? = some (box4 m)) (h1 : Boxed w B1 3 (.int .i64 n)) (h2 : Boxed w B2 3 (.int .i64 to)) :
    SeqStopsK Fence.wide f Try.prog 44 #[.pointer (some ⟨B0, 0, none⟩), .pointer (some ⟨B1, 0, none⟩), .pointer (some ⟨B2, 0, none⟩)] (fun x : Way m n to => #[.int .i64 x.1.1, .int .i64 x.1.2]) (KpB [B0, B1, B2]) (fun ys => ys = waysU m n to 4) (fun pre => pre <+: waysU m n to 4) 4 w := by
  intro l J Jx W hW hJ hJx hY hs0
  refine callsIn_of_wp Try.func44 rfl trivial ?_ rfl
  simp only [Try.ntmps44, List.size_toArray, List.length_cons, List.length_nil, Nat.reduceAdd, Nat.reduceSub, Array.replicate_succ, Array.replicate_zero, List.push_toArray, List.append_toArray, List.nil_append, List.cons_append]
  have hf1 : 1 ≤ f := by omega
  have g0 : W.heap[B0]? = some (box4 m) := blk_save h0 (Save.of_below hW fun _ => False) id
  have g1 : Boxed W B1 3 (.int .i64 n) := blk_save h1 (Save.of_below hW fun _ => False) id
  have g2 : Boxed W B2 3 (.int .i64 to) := blk_save h2 (Save.of_below hW fun _ => False) id
  have HJ0 : Hid (J (waysU m n to 0) W) := hs0
  have G0 := hid g0
  have G1 := hid g1
  have G2 := hid g2
  have a0 := blk_cell g0 0
  have a1 := blk_cell g0 1
  have a2 := blk_cell g0 2
  have a3 := blk_cell g0 3
  have a0 : W.cell? ⟨B0, 0, none⟩ = some (.int .i64 (m 0)) := a0
  have a1 : W.cell? ⟨B0, 1, none⟩ = some (.int .i64 (m 1)) := a1
  have a2 : W.cell? ⟨B0, 2, none⟩ = some (.int .i64 (m 2)) := a2
  have a3 : W.cell? ⟨B0, 3, none⟩ = some (.int .i64 (m 3)) := a3
  clear g0 g1 g2 hs0 h0 h1 h2
  gi_wp2
  clear a0 a1 a2 a3
  gi_loopw [5, 6, 8] (fun _ _ i wr => ∃ k : Nat, k ≤ 4 ∧ i = .int .i64 k ∧ Hid (J (waysU m n to k) wr) ∧ Hid (Boxed wr B1 3 (.int .i64 n)) ∧ Hid (Boxed wr B2 3 (.int .i64 to)) ∧ W.heap.size ≤ wr.heap.size) (fun _ _ i _ => 4 - (intOf i).toNat)
  case atStart => exact ⟨0, Nat.zero_le _, rfl, HJ0, G1, G2, Nat.le_refl _⟩
  case round =>
    clear HJ0 G1 G2
    obtain ⟨k, hk, rfl, HJ, G1, G2, hsz⟩ := hrel
    by_cases hlt : k < 4
    · have t0 : decide ((k : Int) < 4) = true := by simp; omega
      have c1 := G1.out.cell
      have c2 := G2.out.cell
      have hidx := run_index4 m k wr hlt
      have hwf := hm k
      have i0' : (0 : Int) ≤ (k : Int) := by omega
      by_cases hkn : k < n
      · have t1 : decide ((k : Int) < (n : Int)) = true := by simp; omega
        by_cases hm1 : 1 ≤ m k
        · by_cases hm2 : m k ≤ (to : Int)
          · have t3 : decide (m k ≤ (to : Int)) = true := by simp; omega
            have hb := (bec_some (m := m) (to := to) (i := k) ⟨hlt, hm1, hm2⟩).1
            have HU := hid (waysU_yes (n := n) hkn hb)
            have HP : Hid (waysU m n to (k + 1) <+: waysU m n to 4) := ways_prefix m n to (by omega)
            have HL : (waysU m n to k).length < 4 := by have := ways_len m n to k; omega
            obtain ⟨x, hx⟩ : ∃ x : Way m n to, x = ⟨(k, (m k - 1).toNat), hb, hkn⟩ := ⟨_, rfl⟩
            have hx1 : x.1.1 = k := by rw [hx]
            have hx2 : ((x.1.2 : Nat) : Int) = m k - 1 := by rw [hx]; show (((m k - 1).toNat : Nat) : Int) = _; omega
            rw [← hx] at HU
            obtain ⟨fn, tmps, assign, body, hy, hR⟩ := hY _ x wr HJ.out HL
            rw [hx1, hx2] at hy
            have hw1 : wrap64 (m k - 1) = m k - 1 := by unfold wrap64; omega
            clear hx hb hx1 hx2
            gi_wp2
            refine hR.mono ?_
            rintro e W3 (⟨rfl, hJ3, hk3⟩ | ⟨rfl, hJx3⟩)
            · have G1' := hid (hk3.boxed (by simp) G1.out)
              have G2' := hid (hk3.boxed (by simp) G2.out)
              gi_wp2
              go_roundw
              case rel => exact ⟨k + 1, by omega, by go_num, by rw [HU.out]; exact hJ3, G1', G2', Nat.le_trans hsz hk3.1⟩
              case measure => simp [intOf]; omega
            · gi_wp2
              refine bodyPost_ret (results_none rfl _ _ _) rfl ?_
              exact ⟨⟨_, rfl⟩, .inr ⟨_, by rw [← HU.out]; exact HP.out, hJx3⟩⟩
          · have t3 : decide (m k ≤ (to : Int)) = false := by simp; omega
            have HU : Hid (waysU m n to (k + 1) = waysU m n to k) := waysU_no (by rintro ⟨_, h⟩; rw [(bec_none (m := m) (to := to) (i := k) (fun h => hm2 h.2.2)).1] at h; cases h)
            clear hm2
            gi_wp2
            refine ⟨fun f h => (by cases h), ?_⟩
            gi_wp2
            go_roundw
            case rel => exact ⟨k + 1, by omega, by go_num, by rw [HU.out]; exact HJ, G1, G2, hsz⟩
            case measure => simp [intOf]; omega
        · have hm1' : m k < 1 := by omega
          have t3 : decide (1 ≤ m k) = false := by simp; omega
          have HU : Hid (waysU m n to (k + 1) = waysU m n to k) := waysU_no (by rintro ⟨_, h⟩; rw [(bec_none (m := m) (to := to) (i := k) (fun h => hm1 h.2.1)).1] at h; cases h)
          clear hm1
          gi_wp2
          refine ⟨fun f h => (by cases h), ?_⟩
          gi_wp2
          go_roundw
          case rel => exact ⟨k + 1, by omega, by go_num, by rw [HU.out]; exact HJ, G1, G2, hsz⟩
          case measure => simp [intOf]; omega
      · have t1 : decide ((k : Int) < (n : Int)) = false := by simp; omega
        have HU : Hid (waysU m n to (k + 1) = waysU m n to k) := waysU_no (by rintro ⟨h, _⟩; exact hkn h)
        gi_wp2
        refine ⟨fun f h => (by cases h), ?_⟩
        gi_wp2
        go_roundw
        case rel => exact ⟨k + 1, by omega, by go_num, by rw [HU.out]; exact HJ, G1, G2, hsz⟩
        case measure => simp [intOf]; omega
    · have HJ4 : Hid (J (waysU m n to 4) wr) := by
        obtain rfl : k = 4 := by omega
        exact HJ
      have t0 : decide ((k : Int) < 4) = false := by simp; omega
      gi_wp2
      go_end0
      exact ⟨⟨_, rfl⟩, .inl ⟨_, rfl, HJ4.out⟩⟩
end Go.Proofs.Ytmkpimdbmjpelaa
