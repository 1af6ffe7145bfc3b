/-
  Who goes ahead of a task: the walk.
-/
import Derived.Test.YtijnpkbijljnlaaDoorLoadSteady
namespace Go.Proofs.YtijnpkbijljnlaaDoor
open Go.RowKit Go.Shelf
attribute [local go_sem] stillAt
theorem infoT16 : (Tryd.prog.info? 89).map (fun i => (i.zero, i.size, i.bytes)) = some (some (.agg #[.int .i64 0, .int .i64 0, .int .i64 0, .int .i64 0]), 4, 32) := by kernel_rfl
theorem termCells_cellsT (g : Nat → Nat → Int) (l : List Nat) : termCells g l = cellsT (fOf g l) l.length := by
  have h : l = (List.range l.length).map fun k => l.getD k 0 := by
    apply List.ext_getElem
    · simp
    · intro k h1 h2
      simp [List.getD, List.getElem?_eq_getElem h1]
  unfold termCells cellsT fOf
  conv => lhs; rw [h]
  rw [List.flatMap_map]
theorem below_drew1 {n : Nat} {w X : World} (h : Below n w X) : Below n w X.drew := ⟨h.os, h.tape, h.output, h.size, h.block⟩
set_option maxRecDepth 100000 in
set_option maxHeartbeats 2000000 in
theorem ahead_any (x : Img) (g : Nat → Nat → Int) (u t : Nat) (w : World) (hn : x.n ≤ 16) (ht : t < x.n) (hT : Tasks w x.ao x.n g) :
    Calls Tryd.prog 47 #[iv x, .int .u32 u, .int .i64 t] w fun e W' => ∃ v, e = .returned v ∧ W'.ownsRow (w.heap.size + 1) 89 4 v (selT u t).length (termCells g (selT u t)) ∧ Below w.heap.size w W' := by
  obtain ⟨i0, hi, hz0, hz1, hz2⟩ := info_parts infoT16
  obtain ⟨rr, ao, n, cap, mo, mn, mc, eo, en, ec⟩ := x
  unfold iv
  dsimp only at hT hn ht ⊢
  have hb1 : Below w.heap.size w (w.alloc (Obj.cells #[.int .i64 rr, .slice ao n cap, .slice mo mn mc, .slice eo en ec] 26)) := (Below.refl _ _).alloc (Nat.le_refl _) _
  have HI := hid (heap_alloc_new w (Obj.cells #[.int .i64 rr, .slice ao n cap, .slice mo mn mc, .slice eo en ec] 26))
  have HTW := hid (hT.below hb1)
  have HF := hid fun (b o : Nat) (h : ao = some ⟨b, o, none⟩) => (show b < w.heap.size from by
    obtain ⟨b', o', e, hb⟩ := hT.form ht
    rw [e] at h; cases h; exact hb)
  have HB := hid hb1
  have hs1 : (w.alloc (Obj.cells #[.int .i64 rr, .slice ao n cap, .slice mo mn mc, .slice eo en ec] 26)).heap.size = w.heap.size + 1 := by simp
  clear hT hb1
  go_enter Tryd.func47, Tryd.ntmps47
  go_wp2
  obtain ⟨W1, hW1⟩ : ∃ X, X = w.alloc (Obj.cells #[.int .i64 rr, .slice ao n cap, .slice mo mn mc, .slice eo en ec] 26) := ⟨_, rfl⟩
  rw [← hW1] at HTW HI HB hs1 ⊢
  clear hW1
  have HS1 := hid hs1
  clear hs1
  go_loopw [7, 8] (fun v_ i_ wr => ∃ (v : Value) (i : Nat), i ≤ t ∧ v = v_ ∧ i_ = .int .i64 i ∧ wr.ownsRow (w.heap.size + 1) 89 4 v (selT u i).length (termCells g (selT u i)) ∧ Below (w.heap.size + 1) W1 wr) (fun _ i_ _ => t - (intOf i_).toNat)
  case atStart => exact ⟨_, 0, by omega, rfl, rfl, by rw [selT_zero]; exact World.ownsRow_nil _ _ _ _, Below.refl _ _⟩
  case round =>
    obtain ⟨v, i, hit, rfl, rfl, hown, hbr⟩ := hrel
    have bI := (hbr.block _ (by omega)).trans HI.out
    have c1 := blk_cell bI 1
    by_cases hlt : i < t
    · have hin : i < n := by omega
      have t0 : decide ((i : Int) < (n : Int)) = true := by simp; omega
      have t1 : decide ((i : Int) < (t : Int)) = true := by simp; omega
      have HH := hid fun X => has_bit u i (by omega) X
      have HSEL := hid (selT_succ u i (by omega))
      have hL16 : (selT u i).length ≤ i := selT_length u i (by omega)
      obtain ⟨b, o, rfl, _⟩ := HTW.out i hin
      have hbl := HF.out b o rfl
      have hTr := HTW.out.below (by rw [HS1.out]; exact hbr)
      obtain ⟨⟨p0, _, p2, _⟩, _⟩ := hTr.at_ hin
      have i0' : (0 : Int) ≤ (i : Int) := by omega
      have i1 : (i : Int) < (n : Int) := by omega
      generalize u.testBit i = bt at HH HSEL
      cases bt
      · have hsel : selT u (i + 1) = selT u i := by rw [HSEL.out]; rfl
        have HO2 : Hid (wr.ownsRow (w.heap.size + 1) 89 4 v (selT u (i + 1)).length (termCells g (selT u (i + 1)))) := by rw [hsel]; exact hown
        clear HSEL hsel
        go_wp2_with (go_at_call 11; refine (HH.out _).mono ?_; rintro e w' ⟨rfl, rfl⟩)
        go_roundw
        case rel => exact ⟨v, i + 1, by omega, rfl, by go_num, HO2.out, hbr⟩
        case measure => simp [intOf]; omega
      · have hsel := hid (show selT u (i + 1) = selT u i ++ [i] from by rw [HSEL.out]; rfl)
        clear HSEL
        go_wp2_with (go_at_call 11; refine (HH.out _).mono ?_; rintro e w' ⟨rfl, hw⟩; obtain rfl := hw.symm)
        refine wp_region_chain [14, 15, 16] (fun X => Below (w.heap.size + 1) wr X) (by kernel_rfl) (by kernel_rfl) (by exact ⟨rfl, rfl, rfl, Nat.le_refl _, fun _ _ => rfl⟩) ?_
        refine wpFl_still (by rfl) (by rfl) (fun K hK => ?_)
        go_simp
        refine ⟨_, fun _ _ => rfl, hK _ ?_⟩
        clear hK K
        refine wpFl_still (by rfl) (by rfl) (fun K hK => ?_)
        go_simp
        refine ⟨_, fun _ _ => rfl, hK _ ?_⟩
        clear hK K
        refine wpFl_still (by rfl) (by rfl) (fun K hK => ?_)
        go_simp
        refine ⟨.slice (some ⟨b, o, none⟩) n cap, fun X hX => ?_, hK _ ?_⟩
        · have z0 := (hX.cell (p := ⟨w.heap.size, 1, none⟩) (by show w.heap.size < _; omega)).trans c1
          go_simp
        clear hK K
        refine wpFl_still (by rfl) (by rfl) (fun K hK => ?_)
        go_simp
        refine ⟨_, fun _ _ => rfl, hK _ ?_⟩
        clear hK K
        refine wpFl_still (by rfl) (by rfl) (fun K hK => ?_)
        go_simp
        refine ⟨_, fun _ _ => rfl, hK _ ?_⟩
        clear hK K
        refine wpFl_still (by rfl) (by rfl) (fun K hK => ?_)
        go_simp
        refine ⟨_, fun _ _ => rfl, hK _ ?_⟩
        clear hK K
        refine wpFl_still (by rfl) (by rfl) (fun K hK => ?_)
        go_simp
        refine ⟨.int .i64 (g i 0), fun X hX => ?_, hK _ ?_⟩
        · have z0 := (hX.cell (p := ⟨b, o + i * 11, none⟩) (by show b < _; omega)).trans p0
          go_simp
        clear hK K
        refine wpFl_still (by rfl) (by rfl) (fun K hK => ?_)
        go_simp
        refine ⟨_, fun _ _ => rfl, hK _ ?_⟩
        clear hK K
        refine wpFl_still (by rfl) (by rfl) (fun K hK => ?_)
        go_simp
        refine ⟨.slice (some ⟨b, o, none⟩) n cap, fun X hX => ?_, hK _ ?_⟩
        · have z0 := (hX.cell (p := ⟨w.heap.size, 1, none⟩) (by show w.heap.size < _; omega)).trans c1
          go_simp
        clear hK K
        refine wpFl_still (by rfl) (by rfl) (fun K hK => ?_)
        go_simp
        refine ⟨_, fun _ _ => rfl, hK _ ?_⟩
        clear hK K
        refine wpFl_still (by rfl) (by rfl) (fun K hK => ?_)
        go_simp
        refine ⟨_, fun _ _ => rfl, hK _ ?_⟩
        clear hK K
        refine wpFl_still (by rfl) (by rfl) (fun K hK => ?_)
        go_simp
        refine ⟨_, fun _ _ => rfl, hK _ ?_⟩
        clear hK K
        refine wpFl_still (by rfl) (by rfl) (fun K hK => ?_)
        go_simp
        refine ⟨.int .i64 (g i 2), fun X hX => ?_, hK _ ?_⟩
        · have z0 := (hX.cell (p := ⟨b, o + i * 11 + 2, none⟩) (by show b < _; omega)).trans p2
          go_simp
        clear hK K
        refine wpFl_still (by rfl) (by rfl) (fun K hK => ?_)
        refine ⟨.agg #[.int .i64 (g i 0), .int .i64 (g i 2), .int .i64 0, .int .i64 0], fun X hX => ?_, hK _ ?_⟩
        · kernel_rfl
        clear hK K
        repeat (refine wpFl_chain (by rfl) ?_)
        refine wpFl_nil ?_
        have hsz : w.heap.size + 1 ≤ wr.heap.size := by have := hbr.size; rw [HS1.out] at this; exact this
        have HSZ := hid hsz
        obtain ⟨tmp, htmp⟩ : ∃ q : Obj, q = Obj.cells #[.int .i64 (g i 0), .int .i64 (g i 2), .int .i64 0, .int .i64 0] 89 := ⟨_, rfl⟩
        refine wpTl_on (by rfl) (fun K hK => ?_)
        go_wp2_with fail
        rw [← htmp]
        have b1 : Below (w.heap.size + 1) wr (wr.alloc tmp).drew := below_drew1 ((Below.refl _ _).alloc hsz _)
        have hnews : ∀ (j : Nat) (y : Value), [Value.int .i64 (g i 0), .int .i64 (g i 2), .int .i64 0, .int .i64 0][j]? = some y → (wr.alloc tmp).drew.cell? ((⟨wr.heap.size, 0, none⟩ : Addr).add j) = some y := fun j y hj => by
          show (wr.alloc tmp).cell? _ = _
          rw [add_off, Nat.zero_add, htmp, World.cell?_alloc_at _ _ _ _ rfl]; simpa using hj
        have hown1 : (wr.alloc tmp).drew.ownsRow (w.heap.size + 1) 89 4 v (selT u i).length (termCells g (selT u i)) := hown.alloc tmp
        have hsz1 : w.heap.size + 1 ≤ (wr.alloc tmp).drew.heap.size := Nat.le_trans hsz b1.size
        obtain ⟨X1, hX1⟩ : ∃ X, X = (wr.alloc tmp).drew := ⟨_, rfl⟩
        rw [← hX1] at b1 hnews hown1 hsz1 ⊢
        clear hX1 htmp hsz
        refine hK _ _ b1 ?_
        clear hK K
        refine wpTl_on (by rfl) (fun K hK => ?_)
        refine wpList_append_own _ rfl _ _ 76 rfl (w.heap.size + 1) 89 i0 _ 4 32 Tryd.underlying76 hi hz0 hz1 hz2 rfl (by decide) _ _ _ rfl hown1 ⟨wr.heap.size, 0, none⟩ 1 1 _ rfl rfl hnews (by simp [Value.oneCell']) (by unfold maxLen; omega) (by omega) hsz1 ?_
        intro v' X3 hown' hgrow _
        have b3 := b1.grown hgrow hsz1 fun k e => (hown1.lt k e).1
        refine hK _ _ b3 ?_
        go_simp
        clear hK K
        refine wpTl_on (by rfl) (fun K hK => ?_)
        go_wp2_with fail
        refine hK _ _ b3 ?_
        clear hK K
        refine wpTl_nil ?_
        have HO3 : Hid (X3.ownsRow (w.heap.size + 1) 89 4 v' (selT u (i + 1)).length (termCells g (selT u (i + 1)))) := by
          rw [hsel.out, List.length_append, termCells_snoc]; exact hown'
        have HB3 := hid (hbr.trans b3)
        clear hown' hgrow b3 hown1 hnews b1
        go_wp2
        go_roundw
        case rel => exact ⟨v', i + 1, by omega, rfl, by go_num, HO3.out, HB3.out⟩
        case measure => simp [intOf]; omega
    · obtain rfl : i = t := by omega
      have t0 : decide ((i : Int) < (n : Int)) = true := by simp; omega
      have t1 : decide ((i : Int) < (i : Int)) = false := by simp
      go_wp2
      go_ret
      exact ⟨_, rfl, hown, HB.out.trans (hbr.mono (by omega))⟩
end Go.Proofs.YtijnpkbijljnlaaDoor
