/-
  The walk of HeaderCut.
-/
import Derived.Test.YtgcpfmdldgmbnaaHeaderWrites
import Derived.Test.YtgcpfmdldgmbnaaHeaderCutLaw
import Derived.Test.YtgcpfmdldgmbnaaPairRef
import Derived.Deep.RegionHeld3
namespace Go.Proofs.Ytgcpfmdldgmbnaa
open Go.RowKit Go.Shelf
/-- Thirteen words. -/
def rowF (f : Nat → BitVec 32) : List Value := (List.range 13).map fun i => wU (f i)
def updF (f : Nat → BitVec 32) (k : Nat) (x : BitVec 32) : Nat → BitVec 32 := fun i => if i = k then x else f i
theorem rowF_set (f : Nat → BitVec 32) (k : Nat) (x : BitVec 32) : (rowF f).set k (wU x) = rowF (updF f k x) := by
  refine List.ext_getElem? fun i => ?_
  unfold rowF updF
  rw [List.getElem?_set]
  by_cases hk : k = i
  · subst hk
    by_cases hi : k < 13
    · simp [hi]
    · simp [hi]
  · rw [if_neg hk]
    by_cases hi : i < 13
    · simp [hi, Ne.symm hk]
    · simp [hi]
theorem rowF_congr {f g : Nat → BitVec 32} (h : ∀ i, i < 13 → f i = g i) : rowF f = rowF g := by
  unfold rowF
  refine List.map_congr_left fun i hi => ?_
  rw [h i (List.mem_range.1 hi)]
theorem rowF_words (s l c : BitVec 32) (cm cf : Bool) : wordsL s l c cm cf = rowF (wordsF s l c cm cf) := rfl
theorem rowF_at (f : Nat → BitVec 32) {k : Nat} (h : k < 13) : (rowF f)[k]? = some (.int .u32 (B (f k))) := by simp [rowF, wU, h]
theorem wds_rowF {w : World} {base g cap : Nat} {f : Nat → BitVec 32} (h : w.ownsRow base 22 1 (.slice (some ⟨g, 0, none⟩) 13 cap) 13 (rowF f)) (hr : ∀ i, 13 ≤ i → f i = blankW) : Wds w (some ⟨g, 0, none⟩) 13 f :=
  ⟨(row_of_own h).congr fun i hi => by simp [List.getD, rowF_at f hi], hr⟩
theorem place_any (z : Int) : ∃ q : Nat, q ≤ 10 ∧ (wrap64 (z.tmod 11 + 11)).tmod 11 = q := by
  have h1 := Int.tmod_lt_of_pos z (show (0 : Int) < 11 by omega)
  have h2 := Int.lt_tmod_of_pos z (show (0 : Int) < 11 by omega)
  generalize z.tmod 11 = y at h1 h2
  rw [IntWalk.wrap64_in _ ⟨by omega, by omega⟩, Int.tmod_eq_emod_of_nonneg (by omega)]
  exact ⟨((y + 11) % 11).toNat, by omega, by omega⟩
theorem allL_cells2 (s l c : BitVec 32) : cellsW (headL s l c) ++ cellsW (pairL 6 commW) ++ cellsW (pairL 8 confW) = cellsW (allL s l c) := by simp [allL, cellsW, List.flatMap_append]
def partF (s l c : BitVec 32) (k : Nat) (i : Nat) : BitVec 32 := if i < k then wordsF s l c true true i else blankW
theorem partF_succ (s l c : BitVec 32) (k : Nat) : rowF (updF (partF s l c k) k (wordsF s l c true true k)) = rowF (partF s l c (k + 1)) := rowF_congr fun i _ => by
  unfold updF partF
  by_cases h : i = k
  · subst h; rw [if_pos rfl, if_pos (by omega)]
  · rw [if_neg h]
    by_cases h2 : i < k
    · rw [if_pos h2, if_pos (by omega)]
    · rw [if_neg h2, if_neg (by omega)]
theorem partF_cut (s l c m : BitVec 32) {q : Nat} (hq : q < 10) : rowF (updF (partF s l c q) q (wordsF s l c true true q ||| m)) = rowF (cutF s l c m q) := rowF_congr fun i _ => by
  unfold updF partF cutF
  by_cases h : i = q
  · subst h; rw [if_pos rfl, if_neg (by omega), if_pos ⟨rfl, hq⟩]
  · rw [if_neg h]
    by_cases h2 : i < q
    · rw [if_pos h2, if_pos h2]
    · rw [if_neg h2, if_neg h2, if_neg (fun g => h g.1)]
theorem partF_ten (s l c m : BitVec 32) : rowF (partF s l c 10) = rowF (cutF s l c m 10) := rowF_congr fun i _ => by
  unfold partF cutF
  by_cases h2 : i < 10
  · rw [if_pos h2, if_pos h2]
  · rw [if_neg h2, if_neg h2, if_neg (by omega)]
theorem cutF_rest (s l c m : BitVec 32) {q : Nat} (hq : q ≤ 10) (i : Nat) (hi : 13 ≤ i) : cutF s l c m q i = blankW := by
  unfold cutF
  rw [if_neg (by omega), if_neg (by omega)]
theorem blank_falls (x m : BitVec 32) : blankW &&& (x ||| m) = x ||| m := by
  unfold blankW
  rw [show (4294967295#32 : BitVec 32) = BitVec.allOnes 32 by decide, BitVec.allOnes_and]
set_option maxRecDepth 100000 in
set_option maxHeartbeats 8000000 in
theorem headerCut_walk (s l c m : BitVec 32) (z : Int) (hz : -9223372036854775808 ≤ z ∧ z ≤ 9223372036854775807) (w : World) :
    Calls Try.prog 14 #[.agg #[.int .u32 (B s), .int .u32 (B l), .int .u32 (B c)], .int .i64 z, .int .u32 (B m)] w fun e w' => e = .returned (.bool true) ∧ Below w.heap.size w w' := by
  obtain ⟨i0, hi, hz0, hz1, hz2⟩ := info_parts infoW
  have HE := run_eql_head (B s) (B l) (B c)
  obtain ⟨hza, hzb⟩ := hz
  go_enter Try.func14, Try.ntmps14
  go_wp2_with fail
  refine (hWrites_any s l c _).mono ?_
  rintro e w1 ⟨rfl, rfl⟩
  have B0 : Below w.heap.size w ((w.alloc (Obj.cells #[.int .u32 (B s), .int .u32 (B l), .int .u32 (B c)] 73)).alloc (Obj.cells #[.int .u32 (B s), .int .u32 (B l), .int .u32 (B c)] 73)) := ((Below.refl _ _).alloc (Nat.le_refl _) _).alloc (by simp) _
  have k0 : ((w.alloc (Obj.cells #[.int .u32 (B s), .int .u32 (B l), .int .u32 (B c)] 73)).alloc (Obj.cells #[.int .u32 (B s), .int .u32 (B l), .int .u32 (B c)] 73)).cell? ⟨w.heap.size, 0, none⟩ = some (.int .u32 (B s)) := cellA _ (World.cell?_alloc_at _ _ _ _ rfl)
  have k1 : ((w.alloc (Obj.cells #[.int .u32 (B s), .int .u32 (B l), .int .u32 (B c)] 73)).alloc (Obj.cells #[.int .u32 (B s), .int .u32 (B l), .int .u32 (B c)] 73)).cell? ⟨w.heap.size, 1, none⟩ = some (.int .u32 (B l)) := cellA _ (World.cell?_alloc_at _ _ _ _ rfl)
  have k2 : ((w.alloc (Obj.cells #[.int .u32 (B s), .int .u32 (B l), .int .u32 (B c)] 73)).alloc (Obj.cells #[.int .u32 (B s), .int .u32 (B l), .int .u32 (B c)] 73)).cell? ⟨w.heap.size, 2, none⟩ = some (.int .u32 (B c)) := cellA _ (World.cell?_alloc_at _ _ _ _ rfl)
  have HL1 := listWrites_any (w.heap.size + 1) s l c _ (show ((w.alloc (Obj.cells #[.int .u32 (B s), .int .u32 (B l), .int .u32 (B c)] 73)).alloc (Obj.cells #[.int .u32 (B s), .int .u32 (B l), .int .u32 (B c)] 73)).cell? ⟨w.heap.size + 1, 0, none⟩ = some (.int .u32 (B s)) from World.cell?_alloc_at _ _ _ _ (by simp)) (World.cell?_alloc_at _ _ _ _ (by simp)) (World.cell?_alloc_at _ _ _ _ (by simp))
  generalize (w.alloc (Obj.cells #[.int .u32 (B s), .int .u32 (B l), .int .u32 (B c)] 73)).alloc (Obj.cells #[.int .u32 (B s), .int .u32 (B l), .int .u32 (B c)] 73) = W1 at B0 k0 k1 k2 HL1 ⊢
  go_wp2_with fail
  refine HL1.mono ?_
  rintro e W2 ⟨va, rfl, ra, hb2⟩
  go_wp2_with (go_at_call 63; refine (commits_any _).mono ?_; rintro e w' ⟨rfl, rfl⟩)
  refine (listCommits_any _).mono ?_
  rintro e W3 ⟨vb, rfl, rb, hb3⟩
  have ra := row_below ra hb3
  rw [show (headL s l c).length = 6 from rfl] at ra
  rw [show (pairL 6 commW).length = 2 from rfl] at rb
  obtain ⟨ga, ca, rfl, ga1, ga2, _, _, _, _⟩ := own2_form ra (by omega)
  obtain ⟨gb, cb, rfl, gb1, gb2, _, _, _, _⟩ := own2_form rb (by omega)
  have B3 := hb2.trans (hb3.mono hb2.size)
  have hs3 := hid B3.size
  clear hb2 hb3 HL1
  go_wp2_with (first
    | (at_builtin; refine wpList_append_own _ rfl _ _ 81 rfl W1.heap.size 88 i0 (.agg #[.int .i64 0, .int .u32 0]) 2 16 Try.underlying81 hi hz0 hz1 hz2 rfl (by decide) _ _ _ rfl ra ⟨gb, 0, none⟩ 2 cb (cellsW (pairL 6 commW)) rfl rfl (news2 rb) (cellsW_one _) (by unfold maxLen; omega) (by omega) hs3.out ?_; intro v1 W4 r1 g1 _; have B4 := B3.grown g1 hs3.out (fun k e => (ra.lt k e).1); clear ra rb)
    | (go_at_call 64; refine (confirms_any _).mono ?_; rintro e w' ⟨rfl, rfl⟩))
  refine (listConfirms_any _).mono ?_
  rintro e W5 ⟨vc, rfl, rc, hb5⟩
  have r1 := row_below r1 hb5
  rw [show (pairL 8 confW).length = 2 from rfl] at rc
  obtain ⟨gc, cc, rfl, gc1, gc2, _, _, _, _⟩ := own2_form rc (by omega)
  have B5 := B4.trans (hb5.mono B4.size)
  have hs5 := hid B5.size
  have HW : Hid (∀ W, Calls Try.prog 65 #[.int .u32 0, .int .u32 0, .int .u32 0, .bool false, .bool false] W fun e w' => WordsPost 0#32 0#32 0#32 false false W e w') := words_any 0#32 0#32 0#32 false false
  clear hb5
  go_wp2_with (at_builtin; refine wpList_append_own _ rfl _ _ 81 rfl W1.heap.size 88 i0 (.agg #[.int .i64 0, .int .u32 0]) 2 16 Try.underlying81 hi hz0 hz1 hz2 rfl (by decide) _ _ _ rfl r1 ⟨gc, 0, none⟩ 2 cc (cellsW (pairL 8 confW)) rfl rfl (news2 rc) (cellsW_one _) (by unfold maxLen; omega) (by omega) hs5.out ?_; intro v2 W6 r2 g2 _; have B6 := B5.grown g2 hs5.out (fun k e => (r1.lt k e).1); clear r1 rc; obtain ⟨g, cp, rfl, hg1, hg2, _, _, _, _⟩ := own2_form r2 (by omega))
  obtain ⟨q, hq, he⟩ := place_any z
  rw [he]
  clear he hza hzb
  have r2' : W6.ownsRow W1.heap.size 88 2 (.slice (some ⟨g, 0, none⟩) 10 cp) 10 (cellsW (allL s l c)) := by
    rw [← allL_cells2]; exact r2
  clear r2
  refine (HW.out W6).mono ?_
  rintro e W7 ⟨gw, cw, rfl, rw7, hb7⟩
  have hgw : W6.heap.size ≤ gw := (rw7.lt gw rfl).1
  have r7 := row_below r2' hb7
  have B7 := B6.trans (hb7.mono B6.size)
  have hs7 := hb7.size
  have hs6 := B6.size
  have k0 := (B7.cell (cell_lt k0)).trans k0
  have k1 := (B7.cell (cell_lt k1)).trans k1
  have k2 := (B7.cell (cell_lt k2)).trans k2
  have hw1 := B0.size
  have hlw : w.heap.size < W6.heap.size := by
    have := cell_lt k0
    rcases Nat.lt_or_ge w.heap.size W6.heap.size with h | h
    · exact h
    · exfalso
      have h3 : w.heap.size < W1.heap.size := by
        rcases Nat.lt_or_ge w.heap.size W1.heap.size with h4 | h4
        · exact h4
        · omega
      omega
  have hall := allL_at s l c
  rw [rowF_words] at rw7
  clear hb7 r2' B6 B5 B4 B3 HW g1 g2 hs5 hs3
  go_wp2
  go_loopw [9] (fun i wr => ∃ (k : Nat) (f : Nat → BitVec 32), k ≤ 6 ∧ i = .int .i64 k ∧ wr.ownsRow W6.heap.size 22 1 (.slice (some ⟨gw, 0, none⟩) 13 cw) 13 (rowF f) ∧ Hid (∀ i, i < 13 → i < k ∨ 6 ≤ i → f i = blankW) ∧ Below W6.heap.size W7 wr) (fun i _ => 6 - (intOf i).toNat)
  case atStart => exact ⟨0, _, by omega, rfl, rw7, (fun i h1 h2 => by
    match i, h1, h2 with
    | 6, _, _ => rfl | 7, _, _ => rfl | 8, _, _ => rfl | 9, _, _ => rfl | 10, _, _ => rfl | 11, _, _ => rfl | 12, _, _ => rfl), Below.refl _ _⟩
  case round =>
    clear rw7
    obtain ⟨k, f, hk, rfl, hr, hf, hbr⟩ := hrel
    by_cases hlt : k < 6
    · have d0 : _ = some (Value.int .u32 (B (f k))) := (hr.cellAt k (by omega)).trans (rowF_at f (by omega))
      have z0 := hr.frozenAt k
      have hr2 := (hr.stored k (.int .u32 4294967295)).1
      have hset : (rowF f).set k (.int .u32 4294967295) = rowF (updF f k blankW) := rowF_set f k blankW
      rw [hset] at hr2
      clear hset hr hall HE
      go_wp2
      go_roundw
      case rel => exact ⟨k + 1, updF f k blankW, by omega, by go_num, hr2, (fun i h1 h2 => by
        unfold updF
        by_cases h : i = k
        · rw [if_pos h]
        · rw [if_neg h]; exact hf.out i h1 (by omega)), hbr.setCell (p := ⟨gw, k, none⟩) hgw _⟩
      case measure => simp [intOf]; omega
    · obtain rfl : k = 6 := by omega
      rw [show ((6 : Nat) : Int) = 6 from rfl]
      have hr0 : _ := hr
      rw [rowF_congr (g := partF s l c 0) (fun i hi => by rw [hf.out i hi (by omega)]; unfold partF; rw [if_neg (by omega)])] at hr0
      clear hr hf
      go_wp2
      go_loopw [10] (fun i wq => ∃ k : Nat, k ≤ q ∧ i = .int .i64 k ∧ wq.ownsRow W6.heap.size 22 1 (.slice (some ⟨gw, 0, none⟩) 13 cw) 13 (rowF (partF s l c k)) ∧ Below W6.heap.size W7 wq) (fun i _ => q - (intOf i).toNat)
      case atStart => exact ⟨0, by omega, rfl, hr0, hbr⟩
      case round =>
        clear hr0 hbr
        obtain ⟨k, hk, rfl, hr, hbq⟩ := hrel
        by_cases hlt : k < q
        · obtain ⟨h1, h2⟩ := hall k (by omega)
          have hd : decide ((k : Int) < (q : Int)) = true := by simp; omega
          have j0 : (0 : Int) ≤ (k : Int) := by omega
          have j1 : (k : Int) < 10 := by omega
          have j2 : (k : Int) < 13 := by omega
          have c0 : wr.cell? ⟨g, k * 2, none⟩ = some (.int .i64 k) := (hbq.cell (p := ⟨g, k * 2, none⟩) hg2).trans ((r7.cellAt (k * 2) (by omega)).trans h1)
          have c1 : wr.cell? ⟨g, k * 2 + 1, none⟩ = some (.int .u32 (B (wordsF s l c true true k))) := (hbq.cell (p := ⟨g, k * 2 + 1, none⟩) hg2).trans ((r7.cellAt (k * 2 + 1) (by omega)).trans h2)
          have d0 : wr.cell? ⟨gw, k, none⟩ = some (.int .u32 (B (partF s l c k k))) := (hr.cellAt k (by omega)).trans (rowF_at _ (by omega))
          have z0 := hr.frozenAt k
          have hr2 := (hr.stored k (wU (wordsF s l c true true k))).1
          rw [rowF_set, partF_succ] at hr2
          have hr2 := hid hr2
          unfold wU at hr2
          generalize wordsF s l c true true k = x at c1 hr2
          have c0' : (wr.setCell ⟨gw, k, none⟩ (.int .u32 (B x))).cell? ⟨g, k * 2, none⟩ = some (.int .i64 k) := (World.cell?_setCell_far wr ⟨gw, k, none⟩ ⟨g, k * 2, none⟩ _ (by show gw ≠ g; omega)).trans c0
          have c1' : (wr.setCell ⟨gw, k, none⟩ (.int .u32 (B x))).cell? ⟨g, k * 2 + 1, none⟩ = some (.int .u32 (B x)) := (World.cell?_setCell_far wr ⟨gw, k, none⟩ ⟨g, k * 2 + 1, none⟩ _ (by show gw ≠ g; omega)).trans c1
          clear hr hall HE h1 h2 r7
          go_wp2
          go_region_held3 (fun w' => w'.cell? ⟨g, k * 2, none⟩ = some (.int .i64 k) ∧ w'.cell? ⟨g, k * 2 + 1, none⟩ = some (.int .u32 (B x))) (go_keep) (fail)
          all_goals
            go_wp2
            go_roundw
            case rel => exact ⟨k + 1, by omega, by go_num, by exact hr2.out, (hbq.setCell (p := ⟨gw, k, none⟩) hgw (.int .u32 (B x))).trans ⟨rfl, rfl, rfl, Nat.le_refl _, fun _ _ => rfl⟩⟩
            case measure => simp [intOf]; omega
        · obtain rfl : k = q := by omega
          have hd : decide ((k : Int) < (k : Int)) = false := by simp
          by_cases hq10 : k < 10
          · obtain ⟨h1, h2⟩ := hall k (by omega)
            have hdq : decide ((k : Int) < 10) = true := by simp; omega
            have j0 : (0 : Int) ≤ (k : Int) := by omega
            have j1 : (k : Int) < 10 := by omega
            have j2 : (k : Int) < 13 := by omega
            have c0 : wr.cell? ⟨g, k * 2, none⟩ = some (.int .i64 k) := (hbq.cell (p := ⟨g, k * 2, none⟩) hg2).trans ((r7.cellAt (k * 2) (by omega)).trans h1)
            have c1 : wr.cell? ⟨g, k * 2 + 1, none⟩ = some (.int .u32 (B (wordsF s l c true true k))) := (hbq.cell (p := ⟨g, k * 2 + 1, none⟩) hg2).trans ((r7.cellAt (k * 2 + 1) (by omega)).trans h2)
            have d0 : wr.cell? ⟨gw, k, none⟩ = some (.int .u32 (B (partF s l c k k))) := (hr.cellAt k (by omega)).trans (rowF_at _ (by omega))
            have z0 := hr.frozenAt k
            have HFa : Hid (∀ W, Calls Try.prog 26 #[.int .u32 4294967295, .int .u32 (B (wordsF s l c true true k)), .int .u32 (B m)] W fun e w' => e = .returned (.int .u32 (B (wordsF s l c true true k ||| m))) ∧ W = w') := fun W => by
              have := fallsRef_any blankW (wordsF s l c true true k) m W
              rwa [show B blankW = 4294967295 by decide, blank_falls] at this
            have hr2 := (hr.stored k (wU (wordsF s l c true true k ||| m))).1
            rw [rowF_set, partF_cut s l c m hq10] at hr2
            have hr2 := hid hr2
            unfold wU at hr2
            have HWh : Hid (wholeN s l c m k = if (wordsF s l c true true k ||| m) = wordsF s l c true true k then k + 1 else k) := by
              show _ = _
              unfold wholeN
              by_cases h : (wordsF s l c true true k ||| m) = wordsF s l c true true k
              · rw [if_pos ⟨hq10, h⟩, if_pos h]
              · rw [if_neg (fun g => h g.2), if_neg h]
            have hgne : g ≠ gw := by omega
            generalize wordsF s l c true true k ||| m = y at HFa hr2 HWh
            generalize wordsF s l c true true k = x at c1 HFa hr2 HWh
            have c0' : (wr.setCell ⟨gw, k, none⟩ (.int .u32 (B y))).cell? ⟨g, k * 2, none⟩ = some (.int .i64 k) := (World.cell?_setCell_far wr ⟨gw, k, none⟩ ⟨g, k * 2, none⟩ _ (by show gw ≠ g; omega)).trans c0
            have c1' : (wr.setCell ⟨gw, k, none⟩ (.int .u32 (B y))).cell? ⟨g, k * 2 + 1, none⟩ = some (.int .u32 (B x)) := (World.cell?_setCell_far wr ⟨gw, k, none⟩ ⟨g, k * 2 + 1, none⟩ _ (by show gw ≠ g; omega)).trans c1
            have d0' : (wr.setCell ⟨gw, k, none⟩ (.int .u32 (B y))).cell? ⟨gw, k, none⟩ = some (.int .u32 (B y)) := csS d0
            have hbz0 := hbq.setCell (p := ⟨gw, k, none⟩) hgw (.int .u32 (B y))
            clear hr hall h1 h2 r7 hbq
            cases hxy : (B y == B x)
            · have hyx : y ≠ x := fun e => by rw [e] at hxy; simp at hxy
              have hwh : wholeN s l c m k = k := by rw [HWh.out]; exact if_neg hyx
              clear HWh hyx
              go_wp2
              go_region_held3 (fun w' => w'.cell? ⟨g, k * 2, none⟩ = some (.int .i64 k) ∧ w'.cell? ⟨g, k * 2 + 1, none⟩ = some (.int .u32 (B x))) (go_keep) (first | (go_at_call 26; refine (HFa.out _).mono ?_; rintro e w' ⟨rfl, rfl⟩))
              all_goals
                go_wp2
                go_quiet (fail)
                go_wp2_with fail
                have hrz : ((wr.setCell ⟨gw, k, none⟩ (.int .u32 (B y))).drewN (1 + nq)).ownsRow W6.heap.size 22 1 (.slice (some ⟨gw, 0, none⟩) 13 cw) 13 (rowF (cutF s l c m k)) := hr2.out
                have hbz : Below W6.heap.size W7 ((wr.setCell ⟨gw, k, none⟩ (.int .u32 (B y))).drewN (1 + nq)) := hbz0.trans ⟨rfl, rfl, rfl, Nat.le_refl _, fun _ _ => rfl⟩
                clear c0 c1 d0 z0 c0' c1' d0' hbz0 hr2 HFa
                generalize (wr.setCell ⟨gw, k, none⟩ (.int .u32 (B y))).drewN (1 + nq) = WZ at hrz hbz ⊢
                have HR := read_any (some ⟨gw, 0, none⟩) 13 cw _ WZ (wds_rowF hrz (cutF_rest s l c m hq))
                have hsp := cut_spec s l c m k hq
                obtain ⟨hv, hcf, hhd⟩ := hsp
                have k0z := (hbz.cell (p := ⟨w.heap.size, 0, none⟩) hlw).trans k0
                have k1z := (hbz.cell (p := ⟨w.heap.size, 1, none⟩) hlw).trans k1
                have k2z := (hbz.cell (p := ⟨w.heap.size, 2, none⟩) hlw).trans k2
                have BZ : Below w.heap.size w WZ := (B0.trans (B7.mono hw1)).trans (hbz.mono (by omega))
                clear hrz hbz
                obtain ⟨T, hT⟩ : ∃ T, trialsN (cutF s l c m k) 3 = T := ⟨_, rfl⟩
                rcases (show wholeN s l c m k < 8 ∨ 8 ≤ wholeN s l c m k ∧ wholeN s l c m k < 10 ∨ 10 ≤ wholeN s l c m k by omega) with h8 | ⟨h8, h10⟩ | h10
                · have e8 : decide (8 ≤ (k : Int)) = false := by simp; omega
                  have e10 : decide (10 ≤ (k : Int)) = false := by simp; omega
                  rw [decide_eq_false (by omega)] at hv
                  rw [stV_not hv, hT] at HR
                  have HR := hid HR
                  clear hv hcf hhd hT h8
                  go_wp2_with fail
                  refine HR.out.mono ?_
                  rintro e w9 ⟨rfl, hb9⟩
                  have b10 := (BZ.trans (hb9.mono BZ.size)).alloc (Nat.le_trans BZ.size hb9.size) (Obj.cells #[.int .u32 0, .int .u32 0, .int .u32 0, .bool false, .bool false, .int .i64 T] 75)
                  go_wp2_with fail
                  refine (headerAlive_any _).mono ?_
                  rintro e w10 ⟨rfl, hb10⟩
                  go_wp2
                  go_ret
                  exact ⟨rfl, b10.trans (hb10.mono b10.size)⟩
                · have e8 : decide (8 ≤ (k : Int)) = true := by simp; omega
                  have e10 : decide (10 ≤ (k : Int)) = false := by simp; omega
                  rw [decide_eq_true h8] at hv
                  rw [decide_eq_false (by omega)] at hcf
                  obtain ⟨x0, x2, x4⟩ := hhd hv
                  rw [stV_is false hv hcf, x0, x2, x4, hT] at HR
                  have HR := hid HR
                  clear hv hcf hhd hT h8 h10 x0 x2 x4
                  go_wp2_with fail
                  refine HR.out.mono ?_
                  rintro e w9 ⟨rfl, hb9⟩
                  have b10 := (BZ.trans (hb9.mono BZ.size)).alloc (Nat.le_trans BZ.size hb9.size) (Obj.cells #[.int .u32 (B s), .int .u32 (B l), .int .u32 (B c), .bool true, .bool false, .int .i64 T] 75)
                  have k0s := cellA (Obj.cells #[.int .u32 (B s), .int .u32 (B l), .int .u32 (B c), .bool true, .bool false, .int .i64 T] 75) ((hb9.cell (cell_lt k0z)).trans k0z)
                  have k1s := cellA (Obj.cells #[.int .u32 (B s), .int .u32 (B l), .int .u32 (B c), .bool true, .bool false, .int .i64 T] 75) ((hb9.cell (cell_lt k1z)).trans k1z)
                  have k2s := cellA (Obj.cells #[.int .u32 (B s), .int .u32 (B l), .int .u32 (B c), .bool true, .bool false, .int .i64 T] 75) ((hb9.cell (cell_lt k2z)).trans k2z)
                  go_wp2_with fail
                  refine (headerAlive_any _).mono ?_
                  rintro e w10 ⟨rfl, hb10⟩
                  go_wp2
                  go_ret
                  exact ⟨rfl, b10.trans (hb10.mono b10.size)⟩
                · have e8 : decide (8 ≤ (k : Int)) = true := by simp; omega
                  have e10 : decide (10 ≤ (k : Int)) = true := by simp; omega
                  rw [decide_eq_true (by omega)] at hv
                  rw [decide_eq_true h10] at hcf
                  obtain ⟨x0, x2, x4⟩ := hhd hv
                  rw [stV_is true hv hcf, x0, x2, x4, hT] at HR
                  have HR := hid HR
                  clear hv hcf hhd hT h10 x0 x2 x4
                  go_wp2_with fail
                  refine HR.out.mono ?_
                  rintro e w9 ⟨rfl, hb9⟩
                  have b10 := (BZ.trans (hb9.mono BZ.size)).alloc (Nat.le_trans BZ.size hb9.size) (Obj.cells #[.int .u32 (B s), .int .u32 (B l), .int .u32 (B c), .bool true, .bool true, .int .i64 T] 75)
                  have k0s := cellA (Obj.cells #[.int .u32 (B s), .int .u32 (B l), .int .u32 (B c), .bool true, .bool true, .int .i64 T] 75) ((hb9.cell (cell_lt k0z)).trans k0z)
                  have k1s := cellA (Obj.cells #[.int .u32 (B s), .int .u32 (B l), .int .u32 (B c), .bool true, .bool true, .int .i64 T] 75) ((hb9.cell (cell_lt k1z)).trans k1z)
                  have k2s := cellA (Obj.cells #[.int .u32 (B s), .int .u32 (B l), .int .u32 (B c), .bool true, .bool true, .int .i64 T] 75) ((hb9.cell (cell_lt k2z)).trans k2z)
                  go_wp2_with fail
                  refine (headerAlive_any _).mono ?_
                  rintro e w10 ⟨rfl, hb10⟩
                  go_wp2
                  go_ret
                  exact ⟨rfl, b10.trans (hb10.mono b10.size)⟩
            · have hyx : y = x := B_eq.1 (by simpa using hxy)
              have hwh : wholeN s l c m k = k + 1 := by rw [HWh.out]; exact if_pos hyx
              clear HWh hyx
              go_wp2
              go_region_held3 (fun w' => w'.cell? ⟨g, k * 2, none⟩ = some (.int .i64 k) ∧ w'.cell? ⟨g, k * 2 + 1, none⟩ = some (.int .u32 (B x))) (go_keep) (first | (go_at_call 26; refine (HFa.out _).mono ?_; rintro e w' ⟨rfl, rfl⟩))
              all_goals
                go_wp2
                go_quiet (fail)
                go_wp2_with fail
                have hrz : ((wr.setCell ⟨gw, k, none⟩ (.int .u32 (B y))).drewN (1 + nq)).ownsRow W6.heap.size 22 1 (.slice (some ⟨gw, 0, none⟩) 13 cw) 13 (rowF (cutF s l c m k)) := hr2.out
                have hbz : Below W6.heap.size W7 ((wr.setCell ⟨gw, k, none⟩ (.int .u32 (B y))).drewN (1 + nq)) := hbz0.trans ⟨rfl, rfl, rfl, Nat.le_refl _, fun _ _ => rfl⟩
                clear c0 c1 d0 z0 c0' c1' d0' hbz0 hr2 HFa
                generalize (wr.setCell ⟨gw, k, none⟩ (.int .u32 (B y))).drewN (1 + nq) = WZ at hrz hbz ⊢
                have HR := read_any (some ⟨gw, 0, none⟩) 13 cw _ WZ (wds_rowF hrz (cutF_rest s l c m hq))
                have hsp := cut_spec s l c m k hq
                obtain ⟨hv, hcf, hhd⟩ := hsp
                have k0z := (hbz.cell (p := ⟨w.heap.size, 0, none⟩) hlw).trans k0
                have k1z := (hbz.cell (p := ⟨w.heap.size, 1, none⟩) hlw).trans k1
                have k2z := (hbz.cell (p := ⟨w.heap.size, 2, none⟩) hlw).trans k2
                have BZ : Below w.heap.size w WZ := (B0.trans (B7.mono hw1)).trans (hbz.mono (by omega))
                clear hrz hbz
                obtain ⟨T, hT⟩ : ∃ T, trialsN (cutF s l c m k) 3 = T := ⟨_, rfl⟩
                rcases (show wholeN s l c m k < 8 ∨ 8 ≤ wholeN s l c m k ∧ wholeN s l c m k < 10 ∨ 10 ≤ wholeN s l c m k by omega) with h8 | ⟨h8, h10⟩ | h10
                · have e8 : decide (8 ≤ (k : Int) + 1) = false := by simp; omega
                  have e10 : decide (10 ≤ (k : Int) + 1) = false := by simp; omega
                  rw [decide_eq_false (by omega)] at hv
                  rw [stV_not hv, hT] at HR
                  have HR := hid HR
                  clear hv hcf hhd hT h8
                  go_wp2_with fail
                  refine HR.out.mono ?_
                  rintro e w9 ⟨rfl, hb9⟩
                  have b10 := (BZ.trans (hb9.mono BZ.size)).alloc (Nat.le_trans BZ.size hb9.size) (Obj.cells #[.int .u32 0, .int .u32 0, .int .u32 0, .bool false, .bool false, .int .i64 T] 75)
                  go_wp2_with fail
                  refine (headerAlive_any _).mono ?_
                  rintro e w10 ⟨rfl, hb10⟩
                  go_wp2
                  go_ret
                  exact ⟨rfl, b10.trans (hb10.mono b10.size)⟩
                · have e8 : decide (8 ≤ (k : Int) + 1) = true := by simp; omega
                  have e10 : decide (10 ≤ (k : Int) + 1) = false := by simp; omega
                  rw [decide_eq_true h8] at hv
                  rw [decide_eq_false (by omega)] at hcf
                  obtain ⟨x0, x2, x4⟩ := hhd hv
                  rw [stV_is false hv hcf, x0, x2, x4, hT] at HR
                  have HR := hid HR
                  clear hv hcf hhd hT h8 h10 x0 x2 x4
                  go_wp2_with fail
                  refine HR.out.mono ?_
                  rintro e w9 ⟨rfl, hb9⟩
                  have b10 := (BZ.trans (hb9.mono BZ.size)).alloc (Nat.le_trans BZ.size hb9.size) (Obj.cells #[.int .u32 (B s), .int .u32 (B l), .int .u32 (B c), .bool true, .bool false, .int .i64 T] 75)
                  have k0s := cellA (Obj.cells #[.int .u32 (B s), .int .u32 (B l), .int .u32 (B c), .bool true, .bool false, .int .i64 T] 75) ((hb9.cell (cell_lt k0z)).trans k0z)
                  have k1s := cellA (Obj.cells #[.int .u32 (B s), .int .u32 (B l), .int .u32 (B c), .bool true, .bool false, .int .i64 T] 75) ((hb9.cell (cell_lt k1z)).trans k1z)
                  have k2s := cellA (Obj.cells #[.int .u32 (B s), .int .u32 (B l), .int .u32 (B c), .bool true, .bool false, .int .i64 T] 75) ((hb9.cell (cell_lt k2z)).trans k2z)
                  go_wp2_with fail
                  refine (headerAlive_any _).mono ?_
                  rintro e w10 ⟨rfl, hb10⟩
                  go_wp2
                  go_ret
                  exact ⟨rfl, b10.trans (hb10.mono b10.size)⟩
                · have e8 : decide (8 ≤ (k : Int) + 1) = true := by simp; omega
                  have e10 : decide (10 ≤ (k : Int) + 1) = true := by simp; omega
                  rw [decide_eq_true (by omega)] at hv
                  rw [decide_eq_true h10] at hcf
                  obtain ⟨x0, x2, x4⟩ := hhd hv
                  rw [stV_is true hv hcf, x0, x2, x4, hT] at HR
                  have HR := hid HR
                  clear hv hcf hhd hT h10 x0 x2 x4
                  go_wp2_with fail
                  refine HR.out.mono ?_
                  rintro e w9 ⟨rfl, hb9⟩
                  have b10 := (BZ.trans (hb9.mono BZ.size)).alloc (Nat.le_trans BZ.size hb9.size) (Obj.cells #[.int .u32 (B s), .int .u32 (B l), .int .u32 (B c), .bool true, .bool true, .int .i64 T] 75)
                  have k0s := cellA (Obj.cells #[.int .u32 (B s), .int .u32 (B l), .int .u32 (B c), .bool true, .bool true, .int .i64 T] 75) ((hb9.cell (cell_lt k0z)).trans k0z)
                  have k1s := cellA (Obj.cells #[.int .u32 (B s), .int .u32 (B l), .int .u32 (B c), .bool true, .bool true, .int .i64 T] 75) ((hb9.cell (cell_lt k1z)).trans k1z)
                  have k2s := cellA (Obj.cells #[.int .u32 (B s), .int .u32 (B l), .int .u32 (B c), .bool true, .bool true, .int .i64 T] 75) ((hb9.cell (cell_lt k2z)).trans k2z)
                  go_wp2_with fail
                  refine (headerAlive_any _).mono ?_
                  rintro e w10 ⟨rfl, hb10⟩
                  go_wp2
                  go_ret
                  exact ⟨rfl, b10.trans (hb10.mono b10.size)⟩
          · obtain rfl : k = 10 := by omega
            have hwh : wholeN s l c m 10 = 10 := by unfold wholeN; rw [if_neg (by omega)]
            rw [partF_ten s l c m] at hr
            have hrz := hr
            have hbz := hbq
            clear hr hbq hall r7
            have HR := read_any (some ⟨gw, 0, none⟩) 13 cw _ wr (wds_rowF hrz (cutF_rest s l c m hq))
            have hsp := cut_spec s l c m 10 hq
            obtain ⟨hv, hcf, hhd⟩ := hsp
            have k0z := (hbz.cell (p := ⟨w.heap.size, 0, none⟩) hlw).trans k0
            have k1z := (hbz.cell (p := ⟨w.heap.size, 1, none⟩) hlw).trans k1
            have k2z := (hbz.cell (p := ⟨w.heap.size, 2, none⟩) hlw).trans k2
            have BZ : Below w.heap.size w wr := (B0.trans (B7.mono hw1)).trans (hbz.mono (by omega))
            clear hrz hbz
            have h10 : 10 ≤ wholeN s l c m 10 := by omega
            obtain ⟨T, hT⟩ : ∃ T, trialsN (cutF s l c m 10) 3 = T := ⟨_, rfl⟩
            rw [decide_eq_true (by omega)] at hv
            rw [decide_eq_true h10] at hcf
            obtain ⟨x0, x2, x4⟩ := hhd hv
            rw [stV_is true hv hcf, x0, x2, x4, hT] at HR
            have HR := hid HR
            clear hv hcf hhd hT h10 x0 x2 x4
            go_wp2_with fail
            refine HR.out.mono ?_
            rintro e w9 ⟨rfl, hb9⟩
            have b10 := (BZ.trans (hb9.mono BZ.size)).alloc (Nat.le_trans BZ.size hb9.size) (Obj.cells #[.int .u32 (B s), .int .u32 (B l), .int .u32 (B c), .bool true, .bool true, .int .i64 T] 75)
            have k0s := cellA (Obj.cells #[.int .u32 (B s), .int .u32 (B l), .int .u32 (B c), .bool true, .bool true, .int .i64 T] 75) ((hb9.cell (cell_lt k0z)).trans k0z)
            have k1s := cellA (Obj.cells #[.int .u32 (B s), .int .u32 (B l), .int .u32 (B c), .bool true, .bool true, .int .i64 T] 75) ((hb9.cell (cell_lt k1z)).trans k1z)
            have k2s := cellA (Obj.cells #[.int .u32 (B s), .int .u32 (B l), .int .u32 (B c), .bool true, .bool true, .int .i64 T] 75) ((hb9.cell (cell_lt k2z)).trans k2z)
            go_wp2_with fail
            refine (headerAlive_any _).mono ?_
            rintro e w10 ⟨rfl, hb10⟩
            go_wp2
            go_ret
            exact ⟨rfl, b10.trans (hb10.mono b10.size)⟩
end Go.Proofs.Ytgcpfmdldgmbnaa
