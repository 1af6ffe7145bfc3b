/-
  Contract of the law's own List: the messages that All goes through.
-/
import Derived.RangeFuncNested
import Derived.RangeFuncBound
import Derived.RangeFuncCalls
import Derived.RangeFuncLeaves
import Derived.RangeFuncFrom
import Derived.RangeFuncBox
import Derived.Shelf.Abstract
import Derived.Shelf.RegionOpen
import Derived.WalkKit
import Derived.OwnWalkIn
import Derived.TacticsInMore
import Derived.LoopNIn
import Derived.LoopIn
import Derived.ProofKit
import Derived.Maps.AppendAt
import Derived.Test.YtmkpimdbmjpelaaQueueTake
namespace Go.Proofs.Ytmkpimdbmjpelaa
open Go.RowKit Go.Shelf
attribute [local go_sem] Oper.semAt_some
theorem below_grownQ {w w' : World} (h : Below w.heap.size w w') : w.grownBy w' none := ⟨h.os, h.tape, h.output, h.size, fun k hk _ => h.block k hk⟩
theorem take_snoc {xs : List Int} {k : Nat} (h : k < xs.length) : xs.take (k + 1) = xs.take k ++ [xs.getD k 0] := by
  rw [List.take_succ_eq_append_getElem h]; simp [List.getD, h]
set_option maxRecDepth 100000 in
set_option maxHeartbeats 400000 in
theorem all1_in (m : Nat) (hm : 2 ≤ m) (Bq p : Nat) (ao : Option Addr) (c : Nat) (xs : List Int) (w0 w : World) (hn : xs.length ≤ 1000) (hb0 : Below w0.heap.size w0 w) (hl : Boxed w Bq 39 (.pointer (some ⟨p, 0, none⟩))) (h2 : w0.cell? ⟨p, 2, none⟩ = some (.slice ao xs.length c)) (hT : Row w0 ao xs.length (fun i => .int .i64 (xs.getD i 0))) :
    SeqStopsK Fence.wide m Try.prog 43 #[.pointer (some ⟨Bq, 0, none⟩)] (fun x : Int => #[.int .i64 x]) (Below w0.heap.size) (fun ys => ys = xs) (fun pre => pre <+: xs) xs.length w := by
  intro l J Jx W hW hJ hJx hY h0
  refine callsIn_of_wp Try.func43 rfl trivial ?_ rfl
  simp only [Try.ntmps43, List.size_toArray, List.length_cons, List.length_nil, Nat.reduceAdd, Nat.reduceSub, Array.replicate_succ, Array.replicate_zero, List.push_toArray, List.append_toArray, List.nil_append, List.cons_append]
  have h1 : 1 ≤ m := by omega
  have hl' := (hW.cell (cell_lt hl.cell)).trans hl.cell
  have hbW := hb0.trans (hW.mono hb0.size)
  have h2' := (hbW.cell (cell_lt h2)).trans h2
  obtain ⟨n, hnn⟩ : ∃ n, xs.length = n := ⟨_, rfl⟩
  have HN := hid hnn
  rw [hnn] at h2' hT hn hY
  clear hnn
  gi_wp2
  gi_loopw [4, 10] (fun _ i wr => ∃ k : Nat, k ≤ n ∧ i = .int .i64 k ∧ J (xs.take k) wr ∧ Below w0.heap.size w0 wr ∧ W.heap.size ≤ wr.heap.size) (fun _ i _ => n - (intOf i).toNat)
  case atStart => exact ⟨0, Nat.zero_le _, rfl, h0, hbW, Nat.le_refl _⟩
  case round =>
    obtain ⟨k, hk, rfl, hJs, hnx, hsz⟩ := hrel
    by_cases hlt : k < n
    · have t0 : decide ((k : Int) < (n : Int)) = true := by simp; omega
      obtain ⟨b, o, rfl, c00⟩ := hT k hlt
      have c0 : w0.cell? ⟨b, o + k, none⟩ = some (.int .i64 (xs.getD k 0)) := c00
      clear c00
      have c1 := (hnx.cell (cell_lt c0)).trans c0
      have HS := hid (take_snoc (xs := xs) (k := k) (by have := HN.out; omega))
      obtain ⟨x, hx⟩ : ∃ x, xs.getD k 0 = x := ⟨_, rfl⟩
      rw [hx] at HS c1
      clear hx c0
      have HP := hid (show xs.take (k + 1) <+: xs from List.take_prefix _ _)
      obtain ⟨fn, tmps, assign, body, hy, hR⟩ := hY _ x wr hJs (by rw [List.length_take]; have := HN.out; omega)
      gi_wp2
      refine hR.mono ?_
      rintro e W3 (⟨rfl, hJ3, hk3⟩ | ⟨rfl, hJx3⟩)
      · gi_wp2
        go_roundw
        case rel => exact ⟨k + 1, by omega, by simp, by rw [HS.out]; exact hJ3, hnx.trans hk3, Nat.le_trans hsz hk3.size⟩
        case measure => simp [intOf]; omega
      · gi_wp2
        refine bodyPost_ret (results_none rfl _ _ _) rfl ?_
        exact ⟨⟨_, rfl⟩, .inr ⟨_, by rw [← HS.out]; exact HP.out, hJx3⟩⟩
    · obtain rfl : k = n := by omega
      have t0 : decide ((k : Int) < (k : Int)) = false := by simp
      gi_wp2
      go_end0
      exact ⟨⟨_, rfl⟩, .inl ⟨_, rfl, by rw [List.take_of_length_le (by have := HN.out; omega)] at hJs; exact hJs⟩⟩
theorem qall_any (p : Nat) (w : World) : Calls Try.prog 35 #[.pointer (some ⟨p, 0, none⟩)] w fun e w' => e = .returned (.func (.func 43) #[] #[.pointer (some ⟨w.heap.size, 0, none⟩)]) ∧ w.alloc (.cells #[.pointer (some ⟨p, 0, none⟩)] 39) = w' := by
  go_enter Try.func35, Try.ntmps35
  go_wp2
  go_ret
  exact ⟨rfl, rfl⟩
set_option maxRecDepth 100000 in
set_option maxHeartbeats 400000 in
theorem qlist_any (base p : Nat) (cap pol d : Int) (v : Value) (xs : List Int) (w : World) (hq : QAt w base p cap pol v xs d) (hlen : xs.length ≤ 1000) :
    Calls Try.prog 21 #[.pointer (some ⟨p, 0, none⟩)] w fun e w' => ∃ u, e = .returned u ∧ w'.ownsRow w.heap.size 3 1 u xs.length (vi xs) ∧ Below w.heap.size w w' := by
  obtain ⟨ao, c, rfl, _, _, hrow, _⟩ := vi_view hq.row
  obtain ⟨i0, hi, hz0, hz1, hz2⟩ := info_parts infoInt
  have hv1 := Boxed.new w 24 (.slice none 0 0)
  have hv2 := Boxed.new (w.alloc (.cells #[.slice none 0 0] 24)) 39 (.pointer (some ⟨p, 0, none⟩))
  rw [World.size_alloc] at hv2
  have hB0 : Below w.heap.size w ((w.alloc (.cells #[.slice none 0 0] 24)).alloc (.cells #[.pointer (some ⟨p, 0, none⟩)] 39)) := (((Below.refl _ w).alloc (Nat.le_refl _) _).alloc (by simp) _)
  have hseq := all1_in 7 (by omega) (w.heap.size + 1) p ao c xs w _ hlen hB0 hv2 hq.c2 hrow
  refine (callsIn_wide (n := 8)).1 ?_
  refine callsIn_of_wp_marks Try.func21 rfl trivial ?_ rfl
  simp only [Try.ntmps21, List.size_toArray, List.length_cons, List.length_nil, Nat.reduceAdd, Nat.reduceSub, Array.replicate_succ, Array.replicate_zero, List.push_toArray, List.append_toArray, List.nil_append, List.cons_append]
  have hnil : ∀ X, (binOp .neq 72 (.func (.func 43) #[] #[.pointer (some ⟨w.heap.size + 1, 0, none⟩)])   .nilFunc).run Try.prog X = .ok (.bool true) X := fun _ => by first | kernel_rfl | rfl
  gi_wp2_with (refine ⟨trivial, ?_⟩; gi_at_call 35; refine (callsIn_wide.2 (qall_any p _)).mono ?_; rintro e w1 ⟨rfl, rfl⟩)
  have g4 : ∀ a b : Nat, a ≤ a + b := fun a b => Nat.le_add_right a b
  refine wpIn_rangeFunc_ownF rfl (by omega) (gf := 43) (lb := #[.pointer (some ⟨w.heap.size + 1, 0, none⟩)]) rfl trivial (enters_of Try.func43 (by kernel_rfl) rfl) hseq belowK_t (belowK_b (by simp; omega)) (Below.refl _ _) (fun _ => rfl)
    (fun pre W => (∃ v, Boxed W w.heap.size 24 v ∧ W.ownsRow w.heap.size 3 1 v pre.length (vi pre) ∧ True) ∧ Below w.heap.size w W)
    (fun _ _ _ => False)
    (OwnFrom.and (Own.from (holdsRow_own w.heap.size w.heap.size 24 3 1 (fun pre : List Int => pre.length) vi (fun _ _ => True)) _) (ownFrom_below (Nat.le_refl _) (by simp; omega)))
    (fun _ _ _ _ _ hs _ _ => hs)
    ⟨⟨_, hv1.alloc _, World.ownsRow_nil _ _ _ _, trivial⟩, hB0⟩
    (fun x => { tmps := #[.pointer (some ⟨p, 0, none⟩), undef, .slice none 0 0, .pointer (some ⟨w.heap.size, 0, none⟩), .func (.func 43) #[] #[.pointer (some ⟨w.heap.size + 1, 0, none⟩)], .int .i64 x, .pointer (some ⟨p, 0, none⟩), .func (.func 43) #[] #[.pointer (some ⟨w.heap.size + 1, 0, none⟩)], .func (.func 43) #[] #[.pointer (some ⟨w.heap.size + 1, 0, none⟩)], .bool true, .func (.func 43) #[] #[.pointer (some ⟨w.heap.size + 1, 0, none⟩)], .int .i64 x, undef, undef, undef, undef, undef], defers := [] }) ?assign ?body ?done ?stop
  case assign =>
    intro l x W K hK
    gi_wp2
    exact hK
  case body =>
    rintro l pre x W ⟨⟨v, hv, hrow, _⟩, hB⟩ hlt
    have hc := hv.cell
    gi_wp2_with (gi_at_builtin; refine wpListIn_append_own _ rfl _ _ 24 rfl w.heap.size 3 i0 (.int .i64 0) 1 8 Try.underlying24 hi hz0 hz1 hz2 rfl (by decide) _ _ _ rfl (hrow.alloc _) ⟨W.heap.size, 0, none⟩ 1 1 [.int .i64 x] rfl rfl (cell_one_new _ _ _) (by simp [Value.oneCell']) (by unfold maxLen; omega) (by omega) (by have := hB.size; simp; omega) ?_; intro v' w1 hown' hgrow _; obtain ⟨g', cap', rfl⟩ := ownsRow_succ hown'; obtain ⟨hv1, hv2, hr2, hk2, hb2⟩ := hv.appended (by decide) hrow hB.size (Nat.le_refl _) hown' hgrow; have hc1 := hv1.cell; have hf1 := hv1.frozen)
    exact ⟨hk2, hb2, ⟨_, hv2, by rw [vi_append, List.length_append]; exact hr2, trivial⟩, hB.trans hb2⟩
  case done =>
    rintro D ys W hD rfl ⟨⟨v, hv, hrow, _⟩, hB⟩ hK
    have hc := hv.cell
    gi_wp2
    refine ⟨by simp, .inl ⟨_, _, rfl, run_takeDeferred hK, ?_⟩⟩
    exact ⟨_, results_tmp rfl _ _ _, v, rfl, ownsRow_putObj hrow _ hK rfl, hB.trans (belowK_b (w := w) (Nat.le_refl _) W D _ _ (by simp at hD; omega) hK rfl rfl)⟩
  case stop =>
    rintro D c pre W _ _ h _
    exact h.elim
end Go.Proofs.Ytmkpimdbmjpelaa
