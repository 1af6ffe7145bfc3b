/-
  Contracts of layer 7's writes, and the walk of HeaderWrites.
-/
import Derived.Test.YtgcpfmdldgmbnaaHeaderList
import Derived.Test.YtgcpfmdldgmbnaaHeaderReads
namespace Go.Proofs.Ytgcpfmdldgmbnaa
open Go.RowKit Go.Shelf
/-- A list of what is to be programmed, the call's own. -/
def ListPost (xs : List (Int × BitVec 32)) (w : World) (e : Ending) (w' : World) : Prop := ∃ v, e = .returned v ∧ w'.ownsRow w.heap.size 88 2 v xs.length (cellsW xs) ∧ Below w.heap.size w w'
theorem listWrites_any (bh : Nat) (s l c : BitVec 32) (w : World) (h0 : w.cell? ⟨bh, 0, none⟩ = some (.int .u32 (B s))) (h1 : w.cell? ⟨bh, 1, none⟩ = some (.int .u32 (B l))) (h2 : w.cell? ⟨bh, 2, none⟩ = some (.int .u32 (B c))) :
    Calls Try.prog 61 #[.func (.func 75) #[] #[.pointer (some ⟨bh, 0, none⟩)]] w fun e w' => ListPost (headL s l c) w e w' :=
  list_in 9 (by omega) 75 _ (headL s l c) w (by simp [headL, pairL]) (enters_of Try.func75 (by kernel_rfl) rfl) (writes_stops 8 (by omega) bh s l c w h0 h1 h2)
theorem listCommits_any (w : World) : Calls Try.prog 61 #[.func (.func 77) #[] #[]] w fun e w' => ListPost (pairL 6 commW) w e w' :=
  list_in 9 (by omega) 77 _ (pairL 6 commW) w (by simp [pairL]) (enters_of Try.func77 (by kernel_rfl) rfl) (commits_stops 8 (by omega) commW (by decide) w)
theorem listConfirms_any (w : World) : Calls Try.prog 61 #[.func (.func 78) #[] #[]] w fun e w' => ListPost (pairL 8 confW) w e w' :=
  list_in 9 (by omega) 78 _ (pairL 8 confW) w (by simp [pairL]) (enters_of Try.func78 (by kernel_rfl) rfl) (confirms_stops 8 (by omega) confW (by decide) w)
theorem hWrites_any (s l c : BitVec 32) (w : World) : Calls Try.prog 62 #[.agg #[.int .u32 (B s), .int .u32 (B l), .int .u32 (B c)]] w fun e w' => e = .returned (.func (.func 75) #[] #[.pointer (some ⟨w.heap.size, 0, none⟩)]) ∧ w.alloc (Obj.cells #[.int .u32 (B s), .int .u32 (B l), .int .u32 (B c)] 73) = w' := by
  go_enter Try.func62, Try.ntmps62
  go_wp2
  go_ret
  exact ⟨rfl, rfl⟩
theorem commits_any (w : World) : Calls Try.prog 63 #[] w fun e w' => e = .returned (.func (.func 77) #[] #[]) ∧ w = w' := by
  go_enter Try.func63, Try.ntmps63
  go_wp2
  go_ret
  exact ⟨rfl, rfl⟩
theorem confirms_any (w : World) : Calls Try.prog 64 #[] w fun e w' => e = .returned (.func (.func 78) #[] #[]) ∧ w = w' := by
  go_enter Try.func64, Try.ntmps64
  go_wp2
  go_ret
  exact ⟨rfl, rfl⟩
/-- All that is to be programmed. -/
def allL (s l c : BitVec 32) : List (Int × BitVec 32) := headL s l c ++ pairL 6 commW ++ pairL 8 confW
theorem own2_form {w : World} {base : Nat} {e : TypeId} {v : Value} {n : Nat} {xs : List Value} (h : w.ownsRow base e 2 v n xs) (hn : 0 < n) :
    ∃ g cap, v = .slice (some ⟨g, 0, none⟩) n cap ∧ base ≤ g ∧ g < w.heap.size ∧ n ≤ cap ∧ cap ≤ maxLen ∧ (∀ j, j < n * 2 → w.cell? ⟨g, j, none⟩ = xs[j]?) ∧ (∀ j u, xs[j]? = some u → w.cell? ((⟨g, 0, none⟩ : Addr).add j) = some u) := by
  rcases h.2 with ⟨_, h2⟩ | ⟨g, cap, cur, rfl, hb, hh, hc, hm, _⟩
  · omega
  · exact ⟨g, cap, rfl, hb, (h.lt g rfl).2, hc, hm, fun j hj => h.cellAt j hj, h.cells rfl⟩
theorem below_grown0 {w w' : World} (h : Below w.heap.size w w') : w.grownBy w' none := ⟨h.os, h.tape, h.output, h.size, fun k hk _ => h.block k hk⟩
theorem block_any (v : Value) : v.ownBlock = none ∨ v.ownBlock ≠ none := by cases v.ownBlock <;> simp
/-- A row lies on behind a call. -/
theorem row_below {w w' : World} {base : Nat} {e : TypeId} {size : Nat} {v : Value} {n : Nat} {xs : List Value} (h : w.ownsRow base e size v n xs) (hb : Below w.heap.size w w') : w'.ownsRow base e size v n xs := h.kept (below_grown0 hb) (block_any _)
/-- The words that are to be programmed are those of the header. -/
theorem allL_at (s l c : BitVec 32) : ∀ k, k < 10 → (cellsW (allL s l c))[k * 2]? = some (.int .i64 k) ∧ (cellsW (allL s l c))[k * 2 + 1]? = some (.int .u32 (B (wordsF s l c true true k))) := fun k hk => by
  match k, hk with
  | 0, _ => exact ⟨rfl, rfl⟩
  | 1, _ => exact ⟨rfl, rfl⟩
  | 2, _ => exact ⟨rfl, rfl⟩
  | 3, _ => exact ⟨rfl, rfl⟩
  | 4, _ => exact ⟨rfl, rfl⟩
  | 5, _ => exact ⟨rfl, rfl⟩
  | 6, _ => exact ⟨rfl, rfl⟩
  | 7, _ => exact ⟨rfl, rfl⟩
  | 8, _ => exact ⟨rfl, rfl⟩
  | 9, _ => exact ⟨rfl, rfl⟩
theorem stV_words (s l c : BitVec 32) : stV (wordsF s l c true true) = .agg #[.int .u32 (B s), .int .u32 (B l), .int .u32 (B c), .bool true, .bool true, .int .i64 0] := by
  have h1 : validB (wordsF s l c true true) = true := by
    unfold validB okPairs twoB
    simp [wordsF]
  have h2 : confB (wordsF s l c true true) = true := by
    unfold confB
    rw [h1]
    simp [wordsF]
  rw [stV_is true h1 h2]
  rfl
theorem run_eql_head (s l c : Int) (w : World) : (binOp .eql 73 (.agg #[.int .u32 s, .int .u32 l, .int .u32 c]) (.agg #[.int .u32 s, .int .u32 l, .int .u32 c])).run Try.prog w = .ok (.bool true) w := by
  simp [go_sem]
/-- The literal with no elements. -/
theorem row_empty (w : World) : (w.alloc (Obj.cells #[] 88)).ownsRow w.heap.size 88 2 (.slice (some ⟨w.heap.size, 0, none⟩) 0 0) 0 [] := World.ownsRow_lit w #[] 0 (Nat.le_refl _) (by unfold maxLen; omega) (by simp)
theorem news2 {w : World} {base g cap n : Nat} {e : TypeId} {xs : List Value} (h : w.ownsRow base e 2 (.slice (some ⟨g, 0, none⟩) n cap) n xs) : ∀ (j : Nat) (u : Value), xs[j]? = some u → w.cell? ((⟨g, 0, none⟩ : Addr).add j) = some u := h.cells rfl
theorem cellsW_one (xs : List (Int × BitVec 32)) : ∀ u ∈ cellsW xs, u.oneCell' = true := fun u hu => by
  obtain ⟨x, _, hx⟩ := List.mem_flatMap.1 hu
  simp only [List.mem_cons, List.not_mem_nil, or_false] at hx
  rcases hx with rfl | rfl <;> rfl
/-- A row lies on where another one beyond it has grown. -/
theorem row_far {w w' : World} {base g n cap : Nat} {e : TypeId} {xs : List Value} {row : Option Nat} (h : w.ownsRow base e 2 (.slice (some ⟨g, 0, none⟩) n cap) n xs) (hg : w.grownBy w' row) {m : Nat} (hne : ∀ k, row = some k → m ≤ k) (hlt : g < m) : w'.ownsRow base e 2 (.slice (some ⟨g, 0, none⟩) n cap) n xs :=
  h.kept hg (.inr fun e => by
    have := hne g e.symm
    omega)
theorem allL_cells (s l c : BitVec 32) : [] ++ cellsW (headL s l c) ++ cellsW (pairL 6 commW) ++ cellsW (pairL 8 confW) = cellsW (allL s l c) := by simp [allL, cellsW, List.flatMap_append]
set_option maxRecDepth 100000 in
set_option maxHeartbeats 4000000 in
theorem headerWrites_walk (s l c : BitVec 32) (w : World) :
    Calls Try.prog 13 #[.agg #[.int .u32 (B s), .int .u32 (B l), .int .u32 (B c)]] w fun e w' => e = .returned (.bool true) ∧ Below w.heap.size w w' := by
  obtain ⟨i0, hi, hz0, hz1, hz2⟩ := info_parts infoW
  have HE := run_eql_head (B s) (B l) (B c)
  go_enter Try.func13, Try.ntmps13
  go_wp2_with fail
  refine (hWrites_any s l c _).mono ?_
  rintro e w1 ⟨rfl, rfl⟩
  have B0 : Below w.heap.size w ((w.alloc (Obj.cells #[.int .u32 (B s), .int .u32 (B l), .int .u32 (B c)] 73)).alloc (Obj.cells #[.int .u32 (B s), .int .u32 (B l), .int .u32 (B c)] 73)) := ((Below.refl _ _).alloc (Nat.le_refl _) _).alloc (by simp) _
  have k0 : ((w.alloc (Obj.cells #[.int .u32 (B s), .int .u32 (B l), .int .u32 (B c)] 73)).alloc (Obj.cells #[.int .u32 (B s), .int .u32 (B l), .int .u32 (B c)] 73)).cell? ⟨w.heap.size, 0, none⟩ = some (.int .u32 (B s)) := cellA _ (World.cell?_alloc_at _ _ _ _ rfl)
  have k1 : ((w.alloc (Obj.cells #[.int .u32 (B s), .int .u32 (B l), .int .u32 (B c)] 73)).alloc (Obj.cells #[.int .u32 (B s), .int .u32 (B l), .int .u32 (B c)] 73)).cell? ⟨w.heap.size, 1, none⟩ = some (.int .u32 (B l)) := cellA _ (World.cell?_alloc_at _ _ _ _ rfl)
  have k2 : ((w.alloc (Obj.cells #[.int .u32 (B s), .int .u32 (B l), .int .u32 (B c)] 73)).alloc (Obj.cells #[.int .u32 (B s), .int .u32 (B l), .int .u32 (B c)] 73)).cell? ⟨w.heap.size, 2, none⟩ = some (.int .u32 (B c)) := cellA _ (World.cell?_alloc_at _ _ _ _ rfl)
  have HL1 := listWrites_any (w.heap.size + 1) s l c _ (show ((w.alloc (Obj.cells #[.int .u32 (B s), .int .u32 (B l), .int .u32 (B c)] 73)).alloc (Obj.cells #[.int .u32 (B s), .int .u32 (B l), .int .u32 (B c)] 73)).cell? ⟨w.heap.size + 1, 0, none⟩ = some (.int .u32 (B s)) from World.cell?_alloc_at _ _ _ _ (by simp)) (World.cell?_alloc_at _ _ _ _ (by simp)) (World.cell?_alloc_at _ _ _ _ (by simp))
  generalize (w.alloc (Obj.cells #[.int .u32 (B s), .int .u32 (B l), .int .u32 (B c)] 73)).alloc (Obj.cells #[.int .u32 (B s), .int .u32 (B l), .int .u32 (B c)] 73) = W1 at B0 k0 k1 k2 HL1 ⊢
  go_wp2_with fail
  refine HL1.mono ?_
  rintro e W2 ⟨va, rfl, ra, hb2⟩
  have B2 := B0.trans (hb2.mono B0.size)
  go_wp2_with (go_at_call 63; refine (commits_any _).mono ?_; rintro e w' ⟨rfl, rfl⟩)
  refine (listCommits_any _).mono ?_
  rintro e W3 ⟨vb, rfl, rb, hb3⟩
  have B3 := B2.trans (hb3.mono B2.size)
  go_wp2_with (go_at_call 64; refine (confirms_any _).mono ?_; rintro e w' ⟨rfl, rfl⟩)
  refine (listConfirms_any _).mono ?_
  rintro e W4 ⟨vc, rfl, rc, hb4⟩
  have B4 := B3.trans (hb4.mono B3.size)
  have ra := row_below (row_below ra hb3) hb4
  have rb := row_below rb hb4
  have k0 := (((hb2.trans (hb3.mono hb2.size)).trans (hb4.mono (Nat.le_trans hb2.size hb3.size))).cell (cell_lt k0)).trans k0
  have k1 := (((hb2.trans (hb3.mono hb2.size)).trans (hb4.mono (Nat.le_trans hb2.size hb3.size))).cell (cell_lt k1)).trans k1
  have k2 := (((hb2.trans (hb3.mono hb2.size)).trans (hb4.mono (Nat.le_trans hb2.size hb3.size))).cell (cell_lt k2)).trans k2
  rw [show (headL s l c).length = 6 from rfl] at ra
  rw [show (pairL 6 commW).length = 2 from rfl] at rb
  rw [show (pairL 8 confW).length = 2 from rfl] at rc
  obtain ⟨ga, ca, rfl, ga1, ga2, _, _, _, _⟩ := own2_form ra (by omega)
  obtain ⟨gb, cb, rfl, gb1, gb2, _, _, _, _⟩ := own2_form rb (by omega)
  obtain ⟨gc, cc, rfl, gc1, gc2, _, _, _, _⟩ := own2_form rc (by omega)
  clear hb2 hb3 hb4 B0 B2 B3 HL1
  have r0 := row_empty W4
  have ra5 := ra.alloc (Obj.cells #[] 88)
  have rb5 := rb.alloc (Obj.cells #[] 88)
  have rc5 := rc.alloc (Obj.cells #[] 88)
  have B5 := (Below.refl W4.heap.size W4).alloc (Nat.le_refl _) (Obj.cells #[] 88)
  have hs5 : Hid (W4.heap.size ≤ (W4.alloc (Obj.cells #[] 88)).heap.size) := B5.size
  have HW := hid (words_any s l c true true)
  clear ra rb rc
  go_wp2_with (first
    | (at_builtin; refine wpList_append_own _ rfl _ _ 81 rfl W4.heap.size 88 i0 (.agg #[.int .i64 0, .int .u32 0]) 2 16 Try.underlying81 hi hz0 hz1 hz2 rfl (by decide) _ _ _ rfl r0 ⟨ga, 0, none⟩ 6 ca (cellsW (headL s l c)) rfl rfl (news2 ra5) (cellsW_one _) (by unfold maxLen; omega) (by omega) hs5.out ?_; clear r0; intro v1 W5 r1 g1 _; have rb6 := row_far rb5 g1 (fun k e => (by cases e; exact Nat.le_refl _)) gb2; have rc6 := row_far rc5 g1 (fun k e => (by cases e; exact Nat.le_refl _)) gc2; have B6 := B5.grown g1 hs5.out (fun k e => (by cases e; exact Nat.le_refl _)); have hs6 := hid B6.size)
    | (at_builtin; refine wpList_append_own _ rfl _ _ 81 rfl W4.heap.size 88 i0 (.agg #[.int .i64 0, .int .u32 0]) 2 16 Try.underlying81 hi hz0 hz1 hz2 rfl (by decide) _ _ _ rfl r1 ⟨gb, 0, none⟩ 2 cb (cellsW (pairL 6 commW)) rfl rfl (news2 rb6) (cellsW_one _) (by unfold maxLen; omega) (by omega) hs6.out ?_; intro v2 W6 r2 g2 _; have rc7 := row_far rc6 g2 (fun k e => (r1.lt k e).1) gc2; have B7 := B6.grown g2 hs6.out (fun k e => (r1.lt k e).1); have hs7 := hid B7.size; clear r1)
    | (at_builtin; refine wpList_append_own _ rfl _ _ 81 rfl W4.heap.size 88 i0 (.agg #[.int .i64 0, .int .u32 0]) 2 16 Try.underlying81 hi hz0 hz1 hz2 rfl (by decide) _ _ _ rfl r2 ⟨gc, 0, none⟩ 2 cc (cellsW (pairL 8 confW)) rfl rfl (news2 rc7) (cellsW_one _) (by unfold maxLen; omega) (by omega) hs7.out ?_; intro v3 W7 r3 g3 _; have B8 := B7.grown g3 hs7.out (fun k e => (r2.lt k e).1); have k0' := (B8.cell (cell_lt k0)).trans k0; have k1' := (B8.cell (cell_lt k1)).trans k1; have k2' := (B8.cell (cell_lt k2)).trans k2; clear r2))
  have r3' : W7.ownsRow W4.heap.size 88 2 v3 10 (cellsW (allL s l c)) := by
    rw [← allL_cells]; exact r3
  clear r3
  obtain ⟨g, cp, rfl, hg1, hg2, _, _, _, _⟩ := own2_form r3' (by omega)
  refine (HW.out W7).mono ?_
  rintro e W8 ⟨gw, cw, rfl, rw8, hb8⟩
  have r8 := row_below r3' hb8
  have k0 := (hb8.cell (cell_lt k0')).trans k0'
  have k1 := (hb8.cell (cell_lt k1')).trans k1'
  have k2 := (hb8.cell (cell_lt k2')).trans k2'
  have B9 := (B4.trans (B8.mono B4.size)).trans (hb8.mono (Nat.le_trans B4.size B8.size))
  have hwd := wds_of_words rw8
  have hall := allL_at s l c
  clear hb8 r3' k0' k1' k2' B8 B7 B6 B5 B4 rw8 HW g1 g2 g3
  go_wp2
  go_loopw [8] (fun i wr => ∃ k : Nat, k ≤ 10 ∧ i = .int .i64 k ∧ Below W8.heap.size W8 wr) (fun i _ => 10 - (intOf i).toNat)
  case atStart => exact ⟨0, by omega, rfl, Below.refl _ _⟩
  case round =>
    obtain ⟨k, hk, rfl, hbr⟩ := hrel
    by_cases hlt : k < 10
    · obtain ⟨h1, h2⟩ := hall k hlt
      have c0 : wr.cell? ⟨g, k * 2, none⟩ = some (.int .i64 k) := (hbr.cell (cell_lt ((r8.cellAt (k * 2) (by omega)).trans h1))).trans ((r8.cellAt (k * 2) (by omega)).trans h1)
      have c1 : wr.cell? ⟨g, k * 2 + 1, none⟩ = some (.int .u32 (B (wordsF s l c true true k))) := (hbr.cell (cell_lt ((r8.cellAt (k * 2 + 1) (by omega)).trans h2))).trans ((r8.cellAt (k * 2 + 1) (by omega)).trans h2)
      obtain ⟨b', o', e', d0⟩ := (hwd.below hbr).row k (by omega)
      cases e'
      have d1 : wr.cell? ⟨gw, k, none⟩ = some (.int .u32 (B (wordsF s l c true true k))) := by rw [Nat.zero_add] at d0; exact d0
      generalize wordsF s l c true true k = x at c1 d1
      clear d0 h1 h2 hall HE
      go_wp2
      go_quiet (fail)
      go_wp2
      go_roundw
      case rel => exact ⟨k + 1, by omega, by go_num, hbr.trans ⟨rfl, rfl, rfl, Nat.le_refl _, fun _ _ => rfl⟩⟩
      case measure => simp [intOf]; omega
    · obtain rfl : k = 10 := by omega
      have HR := read_any (some ⟨gw, 0, none⟩) 13 cw _ wr (hwd.below hbr)
      rw [stV_words] at HR
      have k0r := (hbr.cell (cell_lt k0)).trans k0
      have k1r := (hbr.cell (cell_lt k1)).trans k1
      have k2r := (hbr.cell (cell_lt k2)).trans k2
      clear hall hwd r8
      go_wp2_with fail
      refine HR.mono ?_
      rintro e w9 ⟨rfl, hb9⟩
      have k0s := cellA (Obj.cells #[.int .u32 (B s), .int .u32 (B l), .int .u32 (B c), .bool true, .bool true, .int .i64 0] 75) ((hb9.cell (cell_lt k0r)).trans k0r)
      have k1s := cellA (Obj.cells #[.int .u32 (B s), .int .u32 (B l), .int .u32 (B c), .bool true, .bool true, .int .i64 0] 75) ((hb9.cell (cell_lt k1r)).trans k1r)
      have k2s := cellA (Obj.cells #[.int .u32 (B s), .int .u32 (B l), .int .u32 (B c), .bool true, .bool true, .int .i64 0] 75) ((hb9.cell (cell_lt k2r)).trans k2r)
      go_wp2_with fail
      refine (headerAlive_any _).mono ?_
      rintro e w10 ⟨rfl, hb10⟩
      go_wp2
      go_ret
      have b9 := B9.trans (hbr.mono B9.size)
      have b10 := b9.trans (hb9.mono b9.size)
      have b11 := b10.alloc b10.size (Obj.cells #[.int .u32 (B s), .int .u32 (B l), .int .u32 (B c), .bool true, .bool true, .int .i64 0] 75)
      exact ⟨rfl, b11.trans (hb10.mono b11.size)⟩
end Go.Proofs.Ytgcpfmdldgmbnaa
