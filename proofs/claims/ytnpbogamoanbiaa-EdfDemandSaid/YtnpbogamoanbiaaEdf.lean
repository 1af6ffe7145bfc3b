/-
  Contracts of the package edf: Demand, the iterator over all tasks' work, All.
-/
import Derived.Test.YtnpbogamoanbiaaEdfLaw2
import Derived.Test.YtnpbogamoanbiaaTask
import Derived.Test.YtnpbogamoanbiaaStage
import Derived.IntWalk
namespace Go.Proofs.Ytnpbogamoanbiaa
open Go.RowKit Go.Shelf
attribute [local go_sem] Oper.semAt_some
def tkOf (x : Nat → Int) : TK := ⟨x 0, x 1, x 2⟩
set_option maxHeartbeats 1000000 in
theorem edfDemand_any (x : Nat → Int) (t : Int) (w : World) : Calls Try.prog 7 #[tv x, .int .i64 t] w fun e w' => e = .returned (rv (dR (x 0) (x 1) (x 2) t)) ∧ Below w.heap.size w w' := by
  have b0 : Below w.heap.size w (w.alloc (Obj.cells #[Value.int .i64 (x 0), Value.int .i64 (x 1), Value.int .i64 (x 2), Value.int .i64 (x 3), Value.int .i64 (x 4), Value.int .i64 (x 5), Value.int .i64 (x 6), Value.int .i64 (x 7), Value.int .i64 (x 8), Value.int .i64 (x 9), Value.int .i64 (x 10)] 24)) := (Below.refl _ _).alloc (Nat.le_refl _) _
  unfold tv
  by_cases hbad : x 0 < 1 ∨ x 1 < 1 ∨ x 2 < 0 ∨ t < 0 ∨ 1099511627776 < t
  · have HE := hid (show dR (x 0) (x 1) (x 2) t = (0, false) from if_pos hbad)
    rcases (show x 0 < 1 ∨ (1 ≤ x 0 ∧ x 1 < 1) ∨ (1 ≤ x 0 ∧ 1 ≤ x 1 ∧ x 2 < 0) ∨ (1 ≤ x 0 ∧ 1 ≤ x 1 ∧ 0 ≤ x 2 ∧ t < 0) ∨ (1 ≤ x 0 ∧ 1 ≤ x 1 ∧ 0 ≤ x 2 ∧ 0 ≤ t ∧ 1099511627776 < t) by omega) with h | h | h | h | h
    all_goals
      clear hbad
      go_enter Try.func7, Try.ntmps7
      go_wp2
      go_ret2
      exact ⟨by rw [HE.out]; rfl, b0⟩
  · have h : 1 ≤ x 0 ∧ 1 ≤ x 1 ∧ 0 ≤ x 2 ∧ 0 ≤ t ∧ t ≤ 1099511627776 := by omega
    obtain ⟨h1, h2, h3, h4, h5⟩ := h
    by_cases hd : t < x 1
    · have HE := hid (show dR (x 0) (x 1) (x 2) t = (0, true) by unfold dR; rw [if_neg hbad, if_pos hd])
      have d1 : decide (t < x 1) = true := by simpa using hd
      clear hbad
      go_enter Try.func7, Try.ntmps7
      go_wp2
      go_ret2
      exact ⟨by rw [HE.out]; rfl, b0⟩
    · have HE := hid (show dR (x 0) (x 1) (x 2) t = mulR ((t - x 1) / x 0 + 1) (x 2) by unfold dR; rw [if_neg hbad, if_neg hd])
      have d1 : decide (t < x 1) = false := by simpa using hd
      clear hbad
      go_enter Try.func7, Try.ntmps7
      go_wp2
      have hq0 : 0 ≤ (t - x 1) / x 0 := Int.ediv_nonneg (by omega) (by omega)
      have hq1 : (t - x 1) / x 0 ≤ t - x 1 := Int.ediv_le_self _ (by omega)
      have hq2 : (t - x 1).tdiv (x 0) = (t - x 1) / x 0 := Int.tdiv_eq_ediv_of_nonneg (by omega)
      have HM := hid (mul_any ((t - x 1) / x 0 + 1) (x 2))
      obtain ⟨q, hq⟩ : ∃ q, (t - x 1) / x 0 = q := ⟨_, rfl⟩
      rw [hq] at HE HM hq0 hq1 hq2
      obtain ⟨⟨r1, r2⟩, hr⟩ : ∃ y, mulR (q + 1) (x 2) = y := ⟨_, rfl⟩
      rw [hr] at HE HM
      have he1 : IntKind.i64.wrap (t - x 1) = t - x 1 := IntWalk.i64_in _ (by omega)
      have he3 : IntKind.i64.wrap q = q := IntWalk.i64_in _ (by omega)
      have he4 : IntKind.i64.wrap (q + 1) = q + 1 := IntWalk.i64_in _ (by omega)
      have hx0 : x 0 ≠ 0 := by omega
      clear hq hr
      go_quiet ((go_at_call 18; exact Calls.drawn (HM.out _)))
      go_wp2
      go_ret2
      exact ⟨by rw [HE.out]; rfl, b0.trans ⟨rfl, rfl, rfl, Nat.le_refl _, fun _ _ => rfl⟩⟩
theorem tasks_cell_lt {w : World} {b o n : Nat} {g : Nat → Nat → Int} (h : Tasks w (some ⟨b, o, none⟩) n g) (hn : 0 < n) : b < w.heap.size := by
  obtain ⟨b', o', e, hc⟩ := h 0 hn
  cases e
  exact cell_lt (hc 0 (by decide))
set_option maxRecDepth 100000 in
set_option maxHeartbeats 2000000 in
theorem demands1_in (m : Nat) (hm : 3 ≤ m) (ao : Option Addr) (n cap : Nat) (g : Nat → Nat → Int) (t : Int) (w : World) (hn : n ≤ 100) (Bl Bt : Nat) (hl : w.cell? ⟨Bl, 0, none⟩ = some (.slice ao n cap)) (ht : w.cell? ⟨Bt, 0, none⟩ = some (.int .i64 t)) (hT : Tasks w ao n g) :
    SeqStopsK Fence.wide m Try.prog 30 #[.pointer (some ⟨Bl, 0, none⟩), .pointer (some ⟨Bt, 0, none⟩)] (fun x : Int => #[.int .i64 x]) (Below w.heap.size) (fun ys => ys = uptoK t (fun i => tkOf (g i)) n) (fun pre => pre <+: uptoK t (fun i => tkOf (g i)) n) n w := by
  intro l J Jx W hW hJ hJx hY h0
  refine callsIn_of_wp Try.func30 rfl trivial ?_ rfl
  simp only [Try.ntmps30, List.size_toArray, List.length_cons, List.length_nil, Nat.reduceAdd, Nat.reduceSub, Array.replicate_succ, Array.replicate_zero, List.push_toArray, List.append_toArray, List.nil_append, List.cons_append]
  have h1 : 1 ≤ m := by omega
  have hl' := kept hl hW
  have ht' := kept ht hW
  obtain ⟨f, hf⟩ : ∃ f : Nat → TK, f = fun i => tkOf (g i) := ⟨_, rfl⟩
  rw [← hf]
  have HFK := hid (show ∀ k, f k = tkOf (g k) from fun k => by rw [hf])
  clear hf
  gi_wp2
  gi_loopw [6, 7, 10] (fun _ _ i wr => ∃ k : Nat, k ≤ n ∧ i = .int .i64 k ∧ J (uptoK t f k) wr ∧ Below w.heap.size w wr ∧ W.heap.size ≤ wr.heap.size) (fun _ _ i _ => n - (intOf i).toNat)
  case atStart => exact ⟨0, Nat.zero_le _, rfl, h0, hW, Nat.le_refl _⟩
  case round =>
    obtain ⟨k, hk, rfl, hJs, hnx, hsz⟩ := hrel
    by_cases hlt : k < n
    · obtain ⟨b, o, rfl, hbl⟩ := hT.form hlt
      obtain ⟨⟨c0, c1, c2, c3⟩, ⟨c4, c5, c6, c7⟩, c8, c9, c10⟩ := (hT.below hnx).at_ hlt
      have ht2 := kept ht hnx
      have ht3 : ∀ o, (wr.alloc o).cell? ⟨Bt, 0, none⟩ = some (.int .i64 t) := fun o => cell_alloc_l o ht2
      have hwk := hid (show dwk t (f k) = if (dR (g k 0) (g k 1) (g k 2) t).2 then (dR (g k 0) (g k 1) (g k 2) t).1 else -1 by rw [HFK.out]; rfl)
      obtain ⟨x, hx⟩ : ∃ x, g k = x := ⟨_, rfl⟩
      rw [hx] at c0 c1 c2 c3 c4 c5 c6 c7 c8 c9 c10 hwk
      have hD := hid (edfDemand_any x t)
      obtain ⟨⟨v, ok⟩, hv⟩ : ∃ y, dR (x 0) (x 1) (x 2) t = y := ⟨_, rfl⟩
      rw [hv] at hD hwk
      clear hx hv
      cases ok
      all_goals
        gi_wp2_with (refine ⟨trivial, ?_⟩; gi_at_call 7; refine (callsIn_wide.2 (hD.out _)).mono ?_; rintro e w2 ⟨rfl, hb2⟩; have hb3 := ((Below.refl wr.heap.size wr).alloc (Nat.le_refl _) (Obj.cells #[Value.int .i64 (x 0), Value.int .i64 (x 1), Value.int .i64 (x 2), Value.int .i64 (x 3), Value.int .i64 (x 4), Value.int .i64 (x 5), Value.int .i64 (x 6), Value.int .i64 (x 7), Value.int .i64 (x 8), Value.int .i64 (x 9), Value.int .i64 (x 10)] 24)).trans (hb2.mono (by simp)); obtain ⟨fn, tmps, assign, body, hy, hR⟩ := hY _ (dwk t (f k)) w2 (hJ _ _ _ none hJs (below_grownBy hb3) (fun r e => by cases e)) (by rw [uptoK_length]; exact hlt); rw [hwk.out] at hy hR; simp only [if_true, Bool.false_eq_true, if_false] at hy hR)
        refine hR.mono ?_
        have hs := uptoK_succ t f k
        rw [hwk.out] at hs
        simp only [if_true, Bool.false_eq_true, if_false] at hs
        have HS := hid hs
        have HP := hid (uptoK_prefix t f (show k + 1 ≤ n by omega))
        clear hs
        rintro e W3 (⟨rfl, hJ3, hk3⟩ | ⟨rfl, hJx3⟩)
        · gi_wp2
          go_roundw
          case rel => exact ⟨k + 1, by omega, by simp, by rw [HS.out]; exact hJ3, (hnx.trans (hb3.mono hnx.size)).trans hk3, Nat.le_trans hsz (Nat.le_trans hb3.size hk3.size)⟩
          case measure => simp [intOf]; omega
        · gi_wp2
          refine bodyPost_ret (results_none rfl _ _ _) rfl ?_
          exact ⟨⟨_, rfl⟩, .inr ⟨_, by rw [← HS.out]; exact HP.out, hJx3⟩⟩
    · obtain rfl : k = n := by omega
      gi_wp2
      go_end0
      exact ⟨⟨_, rfl⟩, .inl ⟨_, rfl, hJs⟩⟩
theorem demands_any (ao : Option Addr) (n cap : Nat) (t : Int) (w : World) : Calls Try.prog 21 #[.slice ao n cap, .int .i64 t] w fun e w' => e = .returned (.func (.func 30) #[] #[.pointer (some ⟨w.heap.size, 0, none⟩), .pointer (some ⟨w.heap.size + 1, 0, none⟩)]) ∧ (w.alloc (.cells #[.slice ao n cap] 30)).alloc (.cells #[.int .i64 t] 3) = w' := by
  go_enter Try.func21, Try.ntmps21
  go_wp2
  go_ret
  exact ⟨rfl, rfl⟩
theorem edfAll_any (ao : Option Addr) (n cap : Nat) (g : Nat → Nat → Int) (t : Int) (w : World) (hn : n ≤ 100) (hT : Tasks w ao n g) :
    Calls Try.prog 11 #[.int .i64 t, .slice ao n cap] w fun e w' => e = .returned (rv (allK t (fun i => tkOf (g i)) n)) ∧ Below w.heap.size w w' := by
  have hb : Below w.heap.size w ((w.alloc (.cells #[.slice ao n cap] 30)).alloc (.cells #[.int .i64 t] 3)) := ((Below.refl _ _).alloc (Nat.le_refl _) _).alloc (by simp) _
  have c0 := cell_new_l w (.slice ao n cap) 30
  have c1 := cell_new_l (w.alloc (.cells #[.slice ao n cap] 30)) (.int .i64 t) 3
  simp only [World.size_alloc] at c1
  have hseq := demands1_in 9 (by omega) ao n cap g t ((w.alloc (.cells #[.slice ao n cap] 30)).alloc (.cells #[.int .i64 t] 3)) hn w.heap.size (w.heap.size + 1) (cell_alloc_l _ c0.1) c1.1 (hT.below hb)
  have hsum := sum_in 10 (by omega) 30 _ (uptoK t (fun i => tkOf (g i)) n) n _ (enters_of Try.func30 (by kernel_rfl) rfl) hseq
  have HS := hid hsum
  clear hseq hsum c0 c1
  unfold allK
  generalize rSum (uptoK t (fun i => tkOf (g i)) n) = r at HS
  obtain ⟨r1, r2⟩ := r
  go_enter Try.func11, Try.ntmps11
  go_wp2_with (first | (go_at_call 21; refine (demands_any _ _ _ _ _).mono ?_; rintro e w1 ⟨rfl, rfl⟩) | (go_at_call 20; refine HS.out.mono ?_; rintro e w2 ⟨rfl, hb2⟩))
  go_ret2
  exact ⟨rfl, hb.trans (hb2.mono hb.size)⟩
end Go.Proofs.Ytnpbogamoanbiaa
