/-
  The law on the terms of a set of an image's tasks.
-/
import Derived.Test.YtijnpkbijljnlaaDoorTerms
import Derived.Test.YtijnpkbijljnlaaDoorDemandComes
import Derived.Test.YtijnpkbijljnlaaDoorChain
namespace Go.Proofs.YtijnpkbijljnlaaDoor
open Go.RowKit Go.Shelf
attribute [local go_sem] stillAt
/-- How many of a set lie ahead of a number. -/
def cntB (s n i : Nat) : Nat := ((List.range i).filter fun j => s.testBit j && decide (j < n)).length
theorem selOf_eq (s n : Nat) : selOf s n = (List.range 32).filter fun j => s.testBit j && decide (j < n) := by
  simp [selOf, bitsOf, List.filter_filter, Bool.and_comm]
theorem range_cut (i n : Nat) (h : i < n) : List.range n = List.range i ++ (i :: List.range' (i + 1) (n - i - 1)) := by
  have h1 := List.range'_append_1 (s := 0) (m := i) (n := n - i)
  rw [show i + (n - i) = n by omega, Nat.zero_add, show n - i = (n - i - 1) + 1 by omega, List.range'_succ] at h1
  rw [List.range_eq_range', List.range_eq_range', ← h1]
theorem cnt_succ (s n i : Nat) : cntB s n (i + 1) = cntB s n i + (if s.testBit i && decide (i < n) then 1 else 0) := by
  simp only [cntB, List.range_succ, List.filter_append, List.length_append, List.filter_cons, List.filter_nil]
  split <;> simp
theorem sel_at (s n i : Nat) (hi : i < 32) (hb : s.testBit i = true) (hn : i < n) : (selOf s n)[cntB s n i]? = some i := by
  unfold cntB
  rw [selOf_eq, range_cut i 32 hi, List.filter_append, List.getElem?_append_right (Nat.le_refl _), Nat.sub_self, List.filter_cons, if_pos (by simp [hb, hn])]
  rfl
theorem sel_end (s n : Nat) : cntB s n (min n 32) = (selOf s n).length := by
  rw [selOf_eq]
  unfold cntB
  congr 1
  rcases Nat.lt_or_ge n 32 with h | h
  · have h0 : ((n :: List.range' (n + 1) (32 - n - 1)).filter fun j => s.testBit j && decide (j < n)) = [] := by
      rw [List.filter_eq_nil_iff]
      intro j hj
      have : n ≤ j := by
        rcases List.mem_cons.1 hj with rfl | hj
        · omega
        · have := List.mem_range'_1.1 hj; omega
      simp; omega
    rw [Nat.min_eq_left (by omega), range_cut n 32 h, List.filter_append, h0, List.append_nil]
  · rw [Nat.min_eq_right (by omega)]
theorem cnt_le (s n i : Nat) (hi : i ≤ 32) : cntB s n i ≤ 32 := by
  unfold cntB
  exact Nat.le_trans (List.length_filter_le _ _) (by simp; omega)
theorem termCells_at (g : Nat → Nat → Int) : ∀ (l : List Nat) (k i : Nat), l[k]? = some i → (termCells g l)[k * 4]? = some (.int .i64 (g i 0)) ∧ (termCells g l)[k * 4 + 1]? = some (.int .i64 (g i 2)) ∧ (termCells g l)[k * 4 + 2]? = some (.int .i64 0) ∧ (termCells g l)[k * 4 + 3]? = some (.int .i64 0)
  | [], k, i, h => by simp at h
  | x :: l, 0, i, h => by
    simp only [List.getElem?_cons_zero, Option.some.injEq] at h
    subst h
    exact ⟨rfl, rfl, rfl, rfl⟩
  | x :: l, k + 1, i, h => by
    have := termCells_at g l k i (by simpa using h)
    rw [show (k + 1) * 4 = k * 4 + 4 by omega]
    simpa [termCells] using this
theorem termCells_length (g : Nat → Nat → Int) (l : List Nat) : (termCells g l).length = l.length * 4 := by
  induction l with
  | nil => rfl
  | cons x l ih => simp only [termCells, List.flatMap_cons, List.length_append, List.length_cons, List.length_nil] at ih ⊢; omega
set_option maxRecDepth 100000 in
set_option maxHeartbeats 2000000 in
theorem demandTerms_any (x : Img) (g : Nat → Nat → Int) (M : Nat → ModeR) (s : Nat) (off : Int) (w : World) (hs : s < 4294967296) (hn : x.n ≤ maxLen) (hmx : x.mn ≤ maxLen) (hM : ModesAt w x.mo x.mn M) (hT : Tasks w x.ao x.n g) (hTab : Tab w) :
    Calls Tryd.prog 3 #[iv x, .int .u32 s, .int .i64 off] w fun e W' => e = .returned (.bool true) ∧ Below w.heap.size w W' := by
  have HG := hid fun X (h : Below w.heap.size w X) => great10_any x M X hmx (hM.below h)
  have HT := hid fun X (h : Below w.heap.size w X) => terms_any x g s X hs hn (hT.below h) (hTab.below h hTab.pos)
  have HTK := hid hT
  clear hM hT hTab
  obtain ⟨r, ao, n, cap, mo, mn, mc, eo, en, ec⟩ := x
  unfold iv at HG HT ⊢
  dsimp only at hn HTK HG HT ⊢
  go_enter Tryd.func3, Tryd.ntmps3
  have hb1 := (Below.refl w.heap.size w).alloc (Nat.le_refl _) (Obj.cells #[.int .i64 r, .slice ao n cap, .slice mo mn mc, .slice eo en ec] 26)
  have hblk : (w.alloc (Obj.cells #[.int .i64 r, .slice ao n cap, .slice mo mn mc, .slice eo en ec] 26)).heap[w.heap.size]? = some (Obj.cells #[.int .i64 r, .slice ao n cap, .slice mo mn mc, .slice eo en ec] 26 (0, 0)) := heap_alloc_new w _
  go_wp2_with (first
    | (go_at_call 8; refine (HG.out _ hb1).mono ?_; rintro e w2 ⟨rr, rfl, hr, hb2⟩; cases rr <;> (have hblk2 := (hb2.block _ (Array.getElem?_eq_some_iff.1 hblk).1).trans hblk; have c0 := blk_cell hblk2 0; have c1 := blk_cell hblk2 1; have c2 := blk_cell hblk2 2; have c3 := blk_cell hblk2 3; have hbw2 := hb1.trans (hb2.mono hb1.size); clear hblk))
    | (go_at_call 9; refine (HT.out _ hbw2).mono ?_; rintro e w3 ⟨v, rfl, hown, hb3⟩))
  · have hn40 : n ≤ 40 := (hr trivial).1
    have hblk3 := (hb3.block _ (Array.getElem?_eq_some_iff.1 hblk2).1).trans hblk2
    have hbw3 := hbw2.trans (hb3.mono hbw2.size)
    obtain ⟨L, hL⟩ : ∃ L, (selOf s n).length = L := ⟨_, rfl⟩
    rw [hL] at hown
    have hform : ∃ vo vc, v = .slice vo L vc ∧ (0 < L → ∃ g', vo = some ⟨g', 0, none⟩ ∧ g' < w3.heap.size ∧ ∀ j, j < L * 4 → w3.cell? ⟨g', j, none⟩ = (termCells g (selOf s n))[j]?) := by
      rcases hown.2 with ⟨rfl, h0⟩ | ⟨g', vc, cur, rfl, _⟩
      · exact ⟨none, 0, by rw [h0], fun h => by omega⟩
      · exact ⟨_, vc, rfl, fun _ => ⟨g', rfl, (hown.lt g' rfl).2, fun j hj => hown.cellAt j (by omega)⟩⟩
    obtain ⟨vo, vc, rfl, hv⟩ := hform
    have HV := hid hv
    have HL := hid hL
    have HB3 := hid hbw3
    have HK3 := hid hblk3
    have hst : (0 : Int) = (cntB s n 0 : Int) := by simp [cntB]
    clear hown hv hL hbw3 hblk3 hblk2 c0 c1 c2 c3 hbw2 hb2 hb3 hr hb1
    go_loopw [8, 9] (fun k_ i_ wr => ∃ i : Nat, i ≤ min n 32 ∧ k_ = .int .i64 (cntB s n i) ∧ i_ = .int .i64 i ∧ Below w3.heap.size w3 wr) (fun _ i_ _ => 32 - (intOf i_).toNat)
    case atStart => exact ⟨0, by omega, by rw [← hst], rfl, Below.refl _ _⟩
    case round =>
      clear hst
      obtain ⟨i, hi, rfl, rfl, hbr⟩ := hrel
      have hblkr := (hbr.block _ (Array.getElem?_eq_some_iff.1 HK3.out).1).trans HK3.out
      have c1 := blk_cell hblkr 1
      by_cases hin : i < n
      · have t0 : decide ((i : Int) < (n : Int)) = true := by simp; omega
        by_cases hi32 : i < 32
        · have t1 : decide ((i : Int) < 32) = true := by simp; omega
          obtain ⟨b, o, rfl, hbb⟩ := (HTK.out.below HB3.out).form hin
          have hTr := (HTK.out.below HB3.out).below hbr
          obtain ⟨⟨g0, g1, g2, g3⟩, ⟨g4, g5, g6, g7⟩, g8, g9, g10⟩ := hTr.at_ hin
          have i0' : (0 : Int) ≤ (i : Int) := by omega
          have i1 : (i : Int) < (n : Int) := by omega
          go_wp2_with (go_at_call 10; refine (of_any (g i) off _).mono ?_; rintro e w4 ⟨rfl, hb4⟩; have d1 := kept c1 hb4; have q0 := kept g0 hb4; have q1 := kept g1 hb4; have q2 := kept g2 hb4; have q3 := kept g3 hb4; have q4 := kept g4 hb4; have q5 := kept g5 hb4; have q6 := kept g6 hb4; have q7 := kept g7 hb4; have q8 := kept g8 hb4; have q9 := kept g9 hb4; have q10 := kept g10 hb4; clear c1 g0 g1 g2 g3 g4 g5 g6 g7 g8 g9 g10)
          have hb5 : Below wr.heap.size wr (w4.alloc (Obj.cells #[.int .i64 (g i 0), .int .i64 (g i 2), .int .i64 off, .int .i64 0] 33)) := hb4.alloc hb4.size _
          have k5 : Below w4.heap.size w4 (w4.alloc (Obj.cells #[.int .i64 (g i 0), .int .i64 (g i 2), .int .i64 off, .int .i64 0] 33)) := (Below.refl _ _).alloc (Nat.le_refl _) _
          have hblk5 : (w4.alloc (Obj.cells #[.int .i64 (g i 0), .int .i64 (g i 2), .int .i64 off, .int .i64 0] 33)).heap[w4.heap.size]? = some (Obj.cells #[.int .i64 (g i 0), .int .i64 (g i 2), .int .i64 off, .int .i64 0] 33 (0, 0)) := heap_alloc_new w4 _
          obtain ⟨w5, hw5⟩ : ∃ X, X = w4.alloc (Obj.cells #[.int .i64 (g i 0), .int .i64 (g i 2), .int .i64 off, .int .i64 0] 33) := ⟨_, rfl⟩
          rw [← hw5] at hb5 k5 hblk5 ⊢
          clear hw5
          have e0 := blk_cell hblk5 0
          have e1 := blk_cell hblk5 1
          have e2 := blk_cell hblk5 2
          have e3 := blk_cell hblk5 3
          have d1' := kept d1 k5
          have p0 := kept q0 k5
          have p1 := kept q1 k5
          have p2 := kept q2 k5
          have p3 := kept q3 k5
          have p4 := kept q4 k5
          have p5 := kept q5 k5
          have p6 := kept q6 k5
          have p7 := kept q7 k5
          have p8 := kept q8 k5
          have p9 := kept q9 k5
          have p10 := kept q10 k5
          clear d1 q0 q1 q2 q3 q4 q5 q6 q7 q8 q9 q10 hblk5 k5
          go_quiet (fail)
          have HH : Hid (∀ X, Calls Tryd.prog 11 #[.int .u32 s, .int .i64 i] X fun e w' => e = .returned (.bool (s.testBit i)) ∧ w' = X) := fun X => by
            have := has10_any s i (by unfold maxLen; omega) X
            simpa only [decide_eq_true hi32, Bool.true_and] using this
          have hbn := HB3.out.trans ((hbr.trans (hb5.mono hbr.size)).mono HB3.out.size)
          have hcs := cnt_succ s n i
          obtain ⟨bit, hbit⟩ : ∃ bt, s.testBit i = bt := ⟨_, rfl⟩
          rw [hbit] at HH hcs
          cases bit
          · have hcs' : cntB s n (i + 1) = cntB s n i := by rw [hcs]; simp
            clear hcs
            go_wp2_with (go_at_call 11; refine (HH.out _).mono ?_; rintro e w6 ⟨rfl, rfl⟩)
            go_roundw
            case rel => exact ⟨i + 1, by omega, by rw [hcs'], by go_num, hbr.trans ((show Below wr.heap.size wr (w5.drewN _) from hb5.trans ⟨rfl, rfl, rfl, Nat.le_refl _, fun _ _ => rfl⟩).mono hbr.size)⟩
            case measure => simp [intOf]; omega
          · have hcs' : cntB s n (i + 1) = cntB s n i + 1 := by rw [hcs]; simp [hin]
            have hat := sel_at s n i hi32 hbit hin
            have hcl := cnt_le s n (i + 1) (by omega)
            clear hcs hbit
            have hkL : cntB s n i < L := by
              have := (List.getElem?_eq_some_iff.1 hat).1
              rw [HL.out] at this; exact this
            obtain ⟨g', rfl, hg', hgc⟩ := HV.out (by omega)
            obtain ⟨f0, f1, f2, f3⟩ := termCells_at g _ _ _ hat
            have hbx : Below w3.heap.size w3 w5 := hbr.trans (hb5.mono hbr.size)
            have y0 := (hbx.cell (p := ⟨g', cntB s n i * 4, none⟩) hg').trans ((hgc _ (by omega)).trans f0)
            have y1 := (hbx.cell (p := ⟨g', cntB s n i * 4 + 1, none⟩) hg').trans ((hgc _ (by omega)).trans f1)
            have y2 := (hbx.cell (p := ⟨g', cntB s n i * 4 + 2, none⟩) hg').trans ((hgc _ (by omega)).trans f2)
            have y3 := (hbx.cell (p := ⟨g', cntB s n i * 4 + 3, none⟩) hg').trans ((hgc _ (by omega)).trans f3)
            have HC := hid hcs'
            clear f0 f1 f2 f3 hat hgc hcs'
            have hk32 : cntB s n i < 32 := by rw [HC.out] at hcl; omega
            generalize cntB s n i = k at *
            have t2 : decide ((L : Int) ≤ (k : Int)) = false := by simp; omega
            have k0 : (0 : Int) ≤ (k : Int) := by omega
            have k1 : (k : Int) < (L : Int) := by omega
            go_wp2_with (go_at_call 11; refine (HH.out _).mono ?_; rintro e w6 ⟨rfl, rfl⟩)
            refine wp_region_chain [14, 15, 16] (fun X => Below w5.heap.size w5 X) (by kernel_rfl) (by kernel_rfl) (by exact ⟨rfl, rfl, rfl, Nat.le_refl _, fun _ _ => rfl⟩) ?_
            iterate 3 (first | refine wpFl_chain (by rfl) ?_ | (refine wpFl_still (by rfl) (by rfl) (fun K hK => ?_); go_simp; (refine ⟨_, fun _ _ => rfl, hK _ ?_⟩; clear hK K)))
            refine wpFl_still (by rfl) (by rfl) (fun K hK => ?_)
            go_simp
            refine ⟨.bool false, fun X hX => by rw [show decide (L ≤ k) = false by simp; omega], hK _ ?_⟩
            clear hK K
            repeat (first | refine wpFl_chain (by rfl) ?_ | (refine wpFl_still (by rfl) (by rfl) (fun K hK => ?_); go_simp; (refine ⟨_, fun _ _ => rfl, hK _ ?_⟩; clear hK K)))
            refine wpFl_still (by rfl) (by rfl) (fun K hK => ?_)
            go_simp
            refine ⟨.agg #[.int .i64 (g i 0), .int .i64 (g i 2), .int .i64 0, .int .i64 0], fun X hX => ?_, hK _ ?_⟩
            · have z0 := kept y0 hX
              have z1 := kept y1 hX
              have z2 := kept y2 hX
              have z3 := kept y3 hX
              go_simp
            clear hK K
            repeat (first | refine wpFl_chain (by rfl) ?_ | (refine wpFl_still (by rfl) (by rfl) (fun K hK => ?_); go_simp; (refine ⟨_, fun _ _ => rfl, hK _ ?_⟩; clear hK K)))
            refine wpFl_still (by rfl) (by rfl) (fun K hK => ?_)
            go_simp
            refine ⟨.slice (some ⟨b, o, none⟩) n cap, fun X hX => ?_, hK _ ?_⟩
            · have z1 := kept d1' hX
              go_simp
            clear hK K
            repeat (first | refine wpFl_chain (by rfl) ?_ | (refine wpFl_still (by rfl) (by rfl) (fun K hK => ?_); go_simp; (refine ⟨_, fun _ _ => rfl, hK _ ?_⟩; clear hK K)))
            refine wpFl_still (by rfl) (by rfl) (fun K hK => ?_)
            go_simp
            refine ⟨tv (g i), fun X hX => ?_, hK _ ?_⟩
            · have z0 := kept p0 hX
              have z1 := kept p1 hX
              have z2 := kept p2 hX
              have z3 := kept p3 hX
              have z4 := kept p4 hX
              have z5 := kept p5 hX
              have z6 := kept p6 hX
              have z7 := kept p7 hX
              have z8 := kept p8 hX
              have z9 := kept p9 hX
              have z10 := kept p10 hX
              go_simp
            clear hK K
            repeat (first | refine wpFl_chain (by rfl) ?_ | (refine wpFl_still (by rfl) (by rfl) (fun K hK => ?_); go_simp; (refine ⟨_, fun _ _ => rfl, hK _ ?_⟩; clear hK K)))
            refine wpFl_nil ?_
            refine wpTl_on (by rfl) (fun K hK => ?_)
            go_wp2_with fail
            refine (of_any (g i) 0 _).mono ?_
            rintro e w7 ⟨rfl, hb7⟩
            go_wp2_with fail
            have hb7' : Below w5.heap.size w5 w7 := ⟨hb7.os, hb7.tape, hb7.output, hb7.size, hb7.block⟩
            refine hK _ _ hb7' ?_
            clear hK K
            refine wpTl_on (by rfl) (fun K hK => ?_)
            go_wp2_with fail
            refine hK _ _ hb7' ?_
            clear hK K
            refine wpTl_on (by rfl) (fun K hK => ?_)
            go_wp2_with fail
            refine hK _ _ hb7' ?_
            clear hK K
            refine wpTl_nil ?_
            go_wp2_with fail
            go_roundw
            case rel => exact ⟨i + 1, by omega, by rw [HC.out]; go_num, by go_num, hbr.trans ((hb5.trans (hb7'.mono hb5.size)).mono hbr.size)⟩
            case measure => simp [intOf]; omega
        · have t1 : decide ((i : Int) < 32) = false := by simp; omega
          obtain rfl : i = min n 32 := by omega
          have he : cntB s n (min n 32) = L := (sel_end s n).trans HL.out
          rw [he]
          go_wp2_with (go_at_call 12; refine (demandAlive_any _).mono ?_; rintro e w4 ⟨rfl, hb4⟩)
          go_ret
          exact ⟨rfl, HB3.out.trans ((hbr.trans (hb4.mono hbr.size)).mono HB3.out.size)⟩
      · have t0 : decide ((i : Int) < (n : Int)) = false := by simp; omega
        obtain rfl : i = min n 32 := by omega
        have he : cntB s n (min n 32) = L := (sel_end s n).trans HL.out
        rw [he]
        go_wp2_with (go_at_call 12; refine (demandAlive_any _).mono ?_; rintro e w4 ⟨rfl, hb4⟩)
        go_ret
        exact ⟨rfl, HB3.out.trans ((hbr.trans (hb4.mono hbr.size)).mono HB3.out.size)⟩
  · go_ret
    exact ⟨rfl, hbw2⟩
end Go.Proofs.YtijnpkbijljnlaaDoor
