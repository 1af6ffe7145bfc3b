/-
  The walk of the law PairMasks.
-/
import Derived.Test.YtgcpfmdldgmbnaaPairKeeps
import Derived.Deep.RegionWith
namespace Go.Proofs.Ytgcpfmdldgmbnaa
open Go.RowKit
theorem ne_self (x : Int) : (x != x) = false := by simp
set_option maxHeartbeats 1000000 in
theorem masks_walk (a n : Int) (h0 : 0 ≤ a) (w : World) :
    Calls Try.prog 5 #[.int .u32 a, .int .i64 n] w fun e w' => e = .returned (.bool true) ∧ Below w.heap.size w w' := by
  rcases Int.lt_or_le 500 n with hn | hn
  · go_enter Try.func5, Try.ntmps5
    go_wp2
    go_ret
    exact ⟨rfl, Below.refl _ _⟩
  · go_enter Try.func5, Try.ntmps5
    go_wp2_with (first | (go_at_call 28; refine (seeded_any _ _).mono ?_; rintro e w' ⟨rfl, rfl⟩) | (go_at_call 29; refine (masksRef_any _ _ h0 hn _).mono ?_; rintro e w' ⟨v, rfl, hown, hb⟩))
    generalize hW : (w.alloc (Obj.cells #[Value.int IntKind.u32 (sd a)] 37)).alloc (Obj.cells #[Value.int IntKind.u32 (sd a)] 37) = W at hb hown
    have hsz : W.heap.size = w.heap.size + 1 + 1 := by rw [← hW]; simp [go_sem]
    have hbW : Below w.heap.size w W := by rw [← hW]; exact ((Below.refl _ _).alloc (Nat.le_refl _) _).alloc (by simp) _
    have hm0 : w'.cell? ⟨w.heap.size + 1, 0, none⟩ = some (.int .u32 (mk (sd a) 0)) := by
      rw [hb.cell (by simp; omega), ← hW]; simp [go_sem, mk]
    have hf0 : w'.frozen? ⟨w.heap.size + 1, 0, none⟩ = false := by
      rw [hb.frozen (by simp; omega), ← hW]; simp [go_sem]
    have hbw : Below w.heap.size w w' := hbW.trans (hb.mono (by omega))
    have hrow : ∃ g cap, ∀ j, j < n.toNat → w'.cell? ⟨g, j, none⟩ = some (.int .u32 (mk (sd a) j)) ∧ w.heap.size + 1 < g ∧ v = .slice (some ⟨g, 0, none⟩) n.toNat cap := by
      rcases hown.2 with ⟨rfl, hn0⟩ | ⟨g, cap, cur, rfl, hg, _⟩
      · exact ⟨0, 0, fun j hj => by omega⟩
      · refine ⟨g, cap, fun j hj => ⟨?_, by omega, rfl⟩⟩
        rw [hown.cellAt j (by omega)]
        simp [mks, hj]
    have hlen : v = .slice none 0 0 ∧ n.toNat = 0 ∨ ∃ g cap, v = .slice (some ⟨g, 0, none⟩) n.toNat cap := by
      rcases hown.2 with ⟨rfl, hn0⟩ | ⟨g, cap, cur, rfl, _⟩
      · exact .inl ⟨rfl, hn0⟩
      · exact .inr ⟨g, cap, rfl⟩
    clear hown hb hbW hsz hW W
    rcases hlen with ⟨rfl, hz⟩ | ⟨g, cap, rfl⟩
    · clear hz hrow
      refine wp_loop_rounds 1 ?_
      rw [rounds_succ]
      go_wp2_with (go_at_call 21; refine (pairAlive_below _).mono ?_; rintro e w'' ⟨rfl, hb⟩)
      go_ret
      exact ⟨rfl, hbw.trans (hb.mono hbw.size)⟩
    · obtain ⟨N, hN⟩ : ∃ N, N = n.toNat := ⟨_, rfl⟩
      rw [← hN] at hrow ⊢
      have hN5 : N ≤ 500 := by omega
      have hrow' : Hid (∀ j, j < N → w'.cell? ⟨g, j, none⟩ = some (.int .u32 (mk (sd a) j)) ∧ w.heap.size + 1 < g) := fun j hj => by
        obtain ⟨g', cap', h⟩ := hrow
        obtain ⟨h1, h2, h3⟩ := h j hj
        cases h3
        exact ⟨h1, h2⟩
      clear hrow hN
      go_loopw [7] (fun i wr => ∃ k : Nat, k ≤ N ∧ i = .int .i64 k ∧ wr.cell? ⟨w.heap.size + 1, 0, none⟩ = some (.int .u32 (mk (sd a) k)) ∧ wr.frozen? ⟨w.heap.size + 1, 0, none⟩ = false ∧ Hid (∀ j, j < N → wr.cell? ⟨g, j, none⟩ = some (.int .u32 (mk (sd a) j)) ∧ w.heap.size + 1 < g) ∧ Below w.heap.size w wr) (fun i _ => N - (intOf i).toNat)
      case atStart => exact ⟨0, by omega, rfl, hm0, hf0, hrow', hbw⟩
      case round =>
        clear hm0 hf0 hrow' hbw
        obtain ⟨k, hk, rfl, hm, hf, hrows, hbr⟩ := hrel
        by_cases hlt : k < N
        · have hc := (hrows.out k hlt).1
          have hg := (hrows.out k hlt).2
          have hnz : (mk (sd a) k != mk (sd a) k) = false := ne_self _
          go_wp2_with fail
          go_region_with (first | (go_at_call 30; refine (next_any (mk (sd a) k) ⟨w.heap.size + 1, 0, none⟩ _ (by simp [hm]) (by simp [hf])).mono ?_; rintro e w1 ⟨rfl, hm1, hf1, hgr⟩; have hc1 : w1.cell? ⟨g, k, none⟩ = some (.int .u32 (mk (sd a) k)) := hgr.cell (by simpa using hc) (by simp; omega)))
          all_goals go_wp2_with fail
          all_goals
            go_roundw
            case rel =>
              refine ⟨k + 1, by omega, by go_num, hm1, hf1, fun j hj => ⟨hgr.cell (by simpa using (hrows.out j hj).1) (by simp; omega), hg⟩, ?_⟩
              exact hbr.drew.grown hgr hbr.size (fun i hi => by cases hi; simp)
            case measure => simp [intOf]; omega
        · go_wp2_with (go_at_call 21; refine (pairAlive_below _).mono ?_; rintro e w'' ⟨rfl, hb⟩)
          go_ret
          exact ⟨rfl, hbr.trans (hb.mono hbr.size)⟩
end Go.Proofs.Ytgcpfmdldgmbnaa
