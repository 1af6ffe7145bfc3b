/-
  Within how many ticks a task's jobs are done, and the first task that may be late: the walks.
-/
import Derived.Test.YtijnpkbijljnlaaDoorLoadAhead
import Derived.Test.YtijnpkbijljnlaaDoorFree
namespace Go.Proofs.YtijnpkbijljnlaaDoor
open Go.RowKit Go.Shelf
attribute [local go_sem] stillAt
/-- What a search that found something tells. -/
def LeastP (own most : Int) (g : Nat → Nat → Int) (l : List Nat) (r : Int) (ok : Bool) : Prop := ok = true → 1 ≤ r ∧ r ≤ most ∧ own + ceilS g r l ≤ r
set_option maxRecDepth 100000 in
set_option maxHeartbeats 1000000 in
theorem leastW_any (ao : Option Addr) (cap : Nat) (g : Nat → Nat → Int) (l : List Nat) (own most : Int) (w : World) (hl : l.length ≤ 16) (hT : Terms w ao l.length (fOf g l)) (ho : 1 ≤ own) (ho2 : own ≤ 100000) (hm : most ≤ 4096) :
    Calls Tryd.prog 45 #[.int .i64 own, .int .i64 most, .slice ao l.length cap] w fun e w' => ∃ (r : Int) (ok : Bool), e = .returned (.tuple #[.int .i64 r, .bool ok]) ∧ LeastP own most g l r ok ∧ Below w.heap.size w w' := by
  have HA := hid fun (t : Int) X (hX : Below w.heap.size w X) => rall_any ao l.length cap (fOf g l) t X (hT.below hX) (by omega)
  have HLaw := hid fun (t : Int) (h1 : 1 ≤ t) => allR_list (t := t) (g := g) (l := l) h1
  have t0 : decide (own < 0) = false := by simp; omega
  have t1 : decide (own < 1) = false := by simp; omega
  clear hT
  generalize l.length = n at HA HLaw hl ⊢
  go_enter Tryd.func45, Tryd.ntmps45
  go_wp2
  go_loopw [8] (fun t_ wr => ∃ t : Int, 1 ≤ t ∧ t ≤ 100000 ∧ t_ = .int .i64 t ∧ Below w.heap.size w wr) (fun t_ _ => (100000 - intOf t_).toNat)
  case atStart => exact ⟨own, by omega, by omega, rfl, Below.refl _ _⟩
  case round =>
    obtain ⟨t, ht1, ht2, rfl, hbr⟩ := hrel
    by_cases hlt : t ≤ most
    · have t2 : decide (t ≤ most) = true := by simp [hlt]
      have HAt := hid (HA.out t wr hbr)
      have HLt := hid (HLaw.out t ht1)
      obtain ⟨⟨s, ok⟩, hx⟩ : ∃ y, allR t (fOf g l) n = y := ⟨_, rfl⟩
      rw [hx] at HAt HLt
      clear hx
      have HBr := hid hbr
      clear hbr
      cases ok
      · go_wp2_with (go_at_call 48; refine HAt.out.mono ?_; rintro e w1 ⟨rfl, hb1⟩)
        go_ret2
        exact ⟨_, _, rfl, (fun hh => nomatch hh), HBr.out.trans (hb1.mono HBr.out.size)⟩
      · have hs : s = ceilS g t l := HLt.out rfl
        have HS := hid hs
        clear hs HLt
        have HAd := hid fun X => addRef_any own s X
        cases hok : (addR own s).2
        · have e1 : addR own s = (0, false) := by
            unfold addR at hok ⊢
            split
            · rename_i h; rw [if_pos h] at hok; cases hok
            · rfl
          rw [e1] at HAd
          clear hok e1
          go_wp2_with (first | (go_at_call 48; refine HAt.out.mono ?_; rintro e w1 ⟨rfl, hb1⟩) | (go_at_call 49; refine (HAd.out _).mono ?_; rintro e w2 ⟨rfl, rfl⟩))
          go_ret2
          exact ⟨_, _, rfl, (fun hh => nomatch hh), HBr.out.trans (hb1.mono HBr.out.size)⟩
        · have e1 : addR own s = (own + s, true) := by
            unfold addR at hok ⊢
            split
            · rfl
            · rename_i h; rw [if_neg h] at hok; cases hok
          rw [e1] at HAd
          clear hok e1
          by_cases hle : own + s ≤ t
          · have t3 : decide (own + s ≤ t) = true := by simp [hle]
            have HP : Hid (LeastP own most g l t true) := fun _ => ⟨ht1, hlt, by rw [← HS.out]; exact hle⟩
            go_wp2_with (first | (go_at_call 48; refine HAt.out.mono ?_; rintro e w1 ⟨rfl, hb1⟩) | (go_at_call 49; refine (HAd.out _).mono ?_; rintro e w2 ⟨rfl, rfl⟩))
            go_ret2
            exact ⟨_, _, rfl, HP.out, HBr.out.trans (hb1.mono HBr.out.size)⟩
          · have t3 : decide (own + s ≤ t) = false := by simp [hle]
            go_wp2_with (first | (go_at_call 48; refine HAt.out.mono ?_; rintro e w1 ⟨rfl, hb1⟩) | (go_at_call 49; refine (HAd.out _).mono ?_; rintro e w2 ⟨rfl, rfl⟩))
            go_roundw
            case rel => exact ⟨t + 1, by omega, by omega, rfl, HBr.out.trans (hb1.mono HBr.out.size)⟩
            case measure => simp [intOf]; omega
    · have t2 : decide (t ≤ most) = false := by simp [hlt]
      have HBr := hid hbr
      clear hbr
      go_wp2
      go_ret2
      exact ⟨_, .inl ⟨rfl, (fun hh => nomatch hh), HBr.out⟩⟩
/-- What an answer on a task tells. -/
def RespP (g : Nat → Nat → Int) (l : List Nat) (i : Nat) (ok : Bool) : Prop := ok = true → RespOk g l i
set_option maxRecDepth 100000 in
set_option maxHeartbeats 2000000 in
theorem response_any (x : Img) (g : Nat → Nat → Int) (u i : Nat) (w : World) (hi : i < x.n) (hF : RightF x g) (hT : Tasks w x.ao x.n g) :
    Calls Tryd.prog 31 #[iv x, .int .u32 u, .int .u32 u, .int .u32 u, .int .i64 i] w fun e W' => ∃ (r : Int) (ok : Bool), e = .returned (.tuple #[.int .i64 r, .bool ok]) ∧ RespP g (selT u i) i ok ∧ Below w.heap.size w W' := by
  have hn := hF.n2
  have hO := hF.tasks i hi
  have hc1 := hO.c1
  have hc2 : g i 2 ≤ 4096 := by have := hO.c2; have := hO.d2; have := hO.p2; omega
  have hd2 : g i 1 ≤ 4096 := by have := hO.d2; have := hO.p2; omega
  have HBl := hid fun X (hX : Below w.heap.size w X) => block_any x g u i X (by omega) hF (hT.below hX)
  have HAh := hid fun X (hX : Below w.heap.size w X) => ahead_any x g u i X hn hi (hT.below hX)
  have HLe := hid fun (B : Int) ao cap X (h0 : 0 ≤ B) (h1 : B ≤ 32768) (hX : Terms X ao (selT u i).length (fOf g (selT u i))) => leastW_any ao cap g (selT u i) (g i 2 + B) (g i 1) X (by have := selT_length u i (by omega); omega) hX (by omega) (by omega) hd2
  have HT := hid hT
  clear hF hT hO
  obtain ⟨rr, ao, n, cap, mo, mn, mc, eo, en, ec⟩ := x
  unfold iv at HBl HAh ⊢
  dsimp only at HBl HAh HT hn hi ⊢
  have hb1 : Below w.heap.size w (w.alloc (Obj.cells #[.int .i64 rr, .slice ao n cap, .slice mo mn mc, .slice eo en ec] 26)) := (Below.refl _ _).alloc (Nat.le_refl _) _
  have bI := heap_alloc_new w (Obj.cells #[.int .i64 rr, .slice ao n cap, .slice mo mn mc, .slice eo en ec] 26)
  have c1 := blk_cell bI 1
  obtain ⟨b, o, rfl, _⟩ := HT.out i hi
  obtain ⟨⟨p0, p1, p2, p3⟩, ⟨p4, p5, p6, p7⟩, p8, p9, p10⟩ := (HT.out.below hb1).at_ hi
  have i0' : (0 : Int) ≤ (i : Int) := by omega
  have i1 : (i : Int) < (n : Int) := by omega
  go_enter Tryd.func31, Tryd.ntmps31
  go_wp2
  have bI2 := blk_alloc (heap_alloc_new w (Obj.cells #[.int .i64 rr, .slice (some ⟨b, o, none⟩) n cap, .slice mo mn mc, .slice eo en ec] 26)) (Obj.cells #[.int .i64 (g i 0), .int .i64 (g i 1), .int .i64 (g i 2), .int .i64 (g i 3), .int .i64 (g i 4), .int .i64 (g i 5), .int .i64 (g i 6), .int .i64 (g i 7), .int .i64 (g i 8), .int .i64 (g i 9), .int .i64 (g i 10)] 37)
  have bT2 := heap_alloc_new (w.alloc (Obj.cells #[.int .i64 rr, .slice (some ⟨b, o, none⟩) n cap, .slice mo mn mc, .slice eo en ec] 26)) (Obj.cells #[.int .i64 (g i 0), .int .i64 (g i 1), .int .i64 (g i 2), .int .i64 (g i 3), .int .i64 (g i 4), .int .i64 (g i 5), .int .i64 (g i 6), .int .i64 (g i 7), .int .i64 (g i 8), .int .i64 (g i 9), .int .i64 (g i 10)] 37)
  rw [World.size_alloc] at bT2
  have hb2 := hb1.alloc hb1.size (Obj.cells #[.int .i64 (g i 0), .int .i64 (g i 1), .int .i64 (g i 2), .int .i64 (g i 3), .int .i64 (g i 4), .int .i64 (g i 5), .int .i64 (g i 6), .int .i64 (g i 7), .int .i64 (g i 8), .int .i64 (g i 9), .int .i64 (g i 10)] 37)
  obtain ⟨W2, hW2⟩ : ∃ X, X = (w.alloc (Obj.cells #[.int .i64 rr, .slice (some ⟨b, o, none⟩) n cap, .slice mo mn mc, .slice eo en ec] 26)).alloc (Obj.cells #[.int .i64 (g i 0), .int .i64 (g i 1), .int .i64 (g i 2), .int .i64 (g i 3), .int .i64 (g i 4), .int .i64 (g i 5), .int .i64 (g i 6), .int .i64 (g i 7), .int .i64 (g i 8), .int .i64 (g i 9), .int .i64 (g i 10)] 37) := ⟨_, rfl⟩
  rw [← hW2] at bI2 bT2 hb2 ⊢
  clear hW2 p0 p1 p2 p3 p4 p5 p6 p7 p8 p9 p10 c1 bI hb1
  have c0 := blk_cell bI2 0
  have c1 := blk_cell bI2 1
  have c2 := blk_cell bI2 2
  have c3 := blk_cell bI2 3
  have d1 := blk_cell bT2 1
  have d2 := blk_cell bT2 2
  have HB2 := hid hb2
  clear hb2
  refine wp_region_free [6, 7, 13, 14, 15, 16, 17, 18] (fun X => Below W2.heap.size W2 X) (by kernel_rfl) (by kernel_rfl) (by exact ⟨rfl, rfl, rfl, Nat.le_refl _, fun _ _ => rfl⟩) ?_
  refine wpFl_still (by rfl) (by rfl) (fun K hK => ?_)
  go_simp
  refine ⟨_, fun _ _ => rfl, hK _ ?_⟩
  clear hK K
  refine wpFl_still (by rfl) (by rfl) (fun K hK => ?_)
  go_simp
  refine ⟨.int .i64 (g i 2), fun X hX => ?_, hK _ ?_⟩
  · have z0 := kept d2 hX
    go_simp
  clear hK K
  refine wpFl_still (by rfl) (by rfl) (fun K hK => ?_)
  go_simp
  refine ⟨.agg #[.int .i64 rr, .slice (some ⟨b, o, none⟩) n cap, .slice mo mn mc, .slice eo en ec], fun X hX => ?_, hK _ ?_⟩
  · have z0 := kept c0 hX
    have z1 := kept c1 hX
    have z2 := kept c2 hX
    have z3 := kept c3 hX
    go_simp
  clear hK K
  refine wpFl_still (by rfl) (by rfl) (fun K hK => ?_)
  go_simp
  refine ⟨_, fun _ _ => rfl, hK _ ?_⟩
  clear hK K
  refine wpFl_still (by rfl) (by rfl) (fun K hK => ?_)
  go_simp
  refine ⟨_, fun _ _ => rfl, hK _ ?_⟩
  clear hK K
  refine wpFl_still (by rfl) (by rfl) (fun K hK => ?_)
  go_simp
  refine ⟨_, fun _ _ => rfl, hK _ ?_⟩
  clear hK K
  refine wpFl_chain (by rfl) ?_
  refine wpFl_chain (by rfl) ?_
  refine wpFl_still (by rfl) (by rfl) (fun K hK => ?_)
  go_simp
  refine ⟨_, fun _ _ => rfl, hK _ ?_⟩
  clear hK K
  refine wpFl_still (by rfl) (by rfl) (fun K hK => ?_)
  go_simp
  refine ⟨.int .i64 (g i 1), fun X hX => ?_, hK _ ?_⟩
  · have z0 := kept d1 hX
    go_simp
  clear hK K
  refine wpFl_still (by rfl) (by rfl) (fun K hK => ?_)
  go_simp
  refine ⟨.agg #[.int .i64 rr, .slice (some ⟨b, o, none⟩) n cap, .slice mo mn mc, .slice eo en ec], fun X hX => ?_, hK _ ?_⟩
  · have z0 := kept c0 hX
    have z1 := kept c1 hX
    have z2 := kept c2 hX
    have z3 := kept c3 hX
    go_simp
  clear hK K
  refine wpFl_still (by rfl) (by rfl) (fun K hK => ?_)
  go_simp
  refine ⟨_, fun _ _ => rfl, hK _ ?_⟩
  clear hK K
  refine wpFl_still (by rfl) (by rfl) (fun K hK => ?_)
  go_simp
  refine ⟨_, fun _ _ => rfl, hK _ ?_⟩
  clear hK K
  refine wpFl_chain (by rfl) ?_
  refine wpFl_chain (by rfl) ?_
  refine wpFl_chain (by rfl) ?_
  refine wpFl_chain (by rfl) ?_
  refine wpFl_chain (by rfl) ?_
  refine wpFl_chain (by rfl) ?_
  refine wpFl_nil ?_
  have HW := hid (below_drew1 (Below.refl W2.heap.size W2))
  refine wpTs_1 (i := 6) (rem1 := [7, 13, 14, 15, 16, 17, 18]) (by kernel_rfl) (by rfl) (by rfl) (fun K hK => ?_)
  go_wp2_with fail
  refine (HBl.out _ (HB2.out.trans (HW.out.mono HB2.out.size))).mono ?_
  rintro e w3 ⟨B, rfl, hB0, hB1, hb3⟩
  have B3 := HW.out.trans (hb3.mono HW.out.size)
  have hwB : IntKind.i64.wrap (g i 2 + B) = g i 2 + B := IntWalk.i64_in _ (by omega)
  go_wp2_with fail
  refine hK _ _ B3 ?_
  clear hK K
  refine wpTs_2 (i := 7) (j := 13) (rem1 := [13, 14, 15, 16, 17, 18]) (rem2 := [7, 14, 15, 16, 17, 18]) (by kernel_rfl) (by rfl) (by rfl) (by rfl) (by rfl) (fun K hK => ?_) (fun K hK => ?_)
  · go_wp2_with fail
    refine hK _ _ B3 ?_
    clear hK K
    refine wpTs_1 (i := 13) (rem1 := [14, 15, 16, 17, 18]) (by kernel_rfl) (by rfl) (by rfl) (fun K hK => ?_)
    have HAw := hid (HAh.out w3 (HB2.out.trans (B3.mono HB2.out.size)))
    go_wp2_with fail
    refine HAw.out.mono ?_
    rintro e w4 ⟨v, rfl, hown, hb4⟩
    have B4 := B3.trans (hb4.mono B3.size)
    rw [termCells_cellsT] at hown
    obtain ⟨qo, qc, rfl, hTm⟩ := terms_of_own hown
    have HLw := hid (HLe.out B qo qc w4 hB0 hB1 hTm)
    clear hown hTm HAw
    go_wp2_with fail
    refine hK _ _ B4 ?_
    clear hK K
    refine wpTs_1 (i := 14) (rem1 := [15, 16, 17, 18]) (by kernel_rfl) (by rfl) (by rfl) (fun K hK => ?_)
    go_wp2_with fail
    refine HLw.out.mono ?_
    rintro e w5 ⟨r, ok, rfl, hp, hb5⟩
    have B5 := B4.trans (hb5.mono B4.size)
    have HP : Hid (RespP g (selT u i) i ok) := fun hk => by
      obtain ⟨h1, h2, h3⟩ := hp hk
      exact ⟨r, B, hB0, h1, h2, h3⟩
    have HBF := hid (HB2.out.trans (B5.mono HB2.out.size))
    clear hp HLw
    go_wp2_with fail
    refine hK _ _ B5 ?_
    clear hK K
    refine wpTs_2 (i := 15) (j := 16) (rem1 := [16, 17, 18]) (rem2 := [15, 17, 18]) (by kernel_rfl) (by rfl) (by rfl) (by rfl) (by rfl) (fun K hK => ?_) (fun K hK => ?_)
    · go_wp2_with fail
      refine hK _ _ B5 ?_
      clear hK K
      refine wpTs_1 (i := 16) (rem1 := [17, 18]) (by kernel_rfl) (by rfl) (by rfl) (fun K hK => ?_)
      go_wp2_with fail
      refine hK _ _ B5 ?_
      clear hK K
      refine wpTs_1 (i := 17) (rem1 := [18]) (by kernel_rfl) (by rfl) (by rfl) (fun K hK => ?_)
      go_wp2_with fail
      refine hK _ _ B5 ?_
      clear hK K
      refine wpTs_1 (i := 18) (rem1 := []) (by kernel_rfl) (by rfl) (by rfl) (fun K hK => ?_)
      go_wp2_with fail
      refine hK _ _ B5 ?_
      clear hK K
      refine wpTs_0 ?_
      go_wp2
      go_ret2
      exact ⟨r, ok, rfl, HP.out, HBF.out⟩
    · go_wp2_with fail
      refine hK _ _ B5 ?_
      clear hK K
      refine wpTs_1 (i := 15) (rem1 := [17, 18]) (by kernel_rfl) (by rfl) (by rfl) (fun K hK => ?_)
      go_wp2_with fail
      refine hK _ _ B5 ?_
      clear hK K
      refine wpTs_1 (i := 17) (rem1 := [18]) (by kernel_rfl) (by rfl) (by rfl) (fun K hK => ?_)
      go_wp2_with fail
      refine hK _ _ B5 ?_
      clear hK K
      refine wpTs_1 (i := 18) (rem1 := []) (by kernel_rfl) (by rfl) (by rfl) (fun K hK => ?_)
      go_wp2_with fail
      refine hK _ _ B5 ?_
      clear hK K
      refine wpTs_0 ?_
      go_wp2
      go_ret2
      exact ⟨r, ok, rfl, HP.out, HBF.out⟩
  · have HAw := hid (HAh.out w3 (HB2.out.trans (B3.mono HB2.out.size)))
    go_wp2_with fail
    refine HAw.out.mono ?_
    rintro e w4 ⟨v, rfl, hown, hb4⟩
    have B4 := B3.trans (hb4.mono B3.size)
    rw [termCells_cellsT] at hown
    obtain ⟨qo, qc, rfl, hTm⟩ := terms_of_own hown
    have HLw := hid (HLe.out B qo qc w4 hB0 hB1 hTm)
    clear hown hTm HAw
    go_wp2_with fail
    refine hK _ _ B4 ?_
    clear hK K
    refine wpTs_1 (i := 7) (rem1 := [14, 15, 16, 17, 18]) (by kernel_rfl) (by rfl) (by rfl) (fun K hK => ?_)
    go_wp2_with fail
    refine hK _ _ B4 ?_
    clear hK K
    refine wpTs_1 (i := 14) (rem1 := [15, 16, 17, 18]) (by kernel_rfl) (by rfl) (by rfl) (fun K hK => ?_)
    go_wp2_with fail
    refine HLw.out.mono ?_
    rintro e w5 ⟨r, ok, rfl, hp, hb5⟩
    have B5 := B4.trans (hb5.mono B4.size)
    have HP : Hid (RespP g (selT u i) i ok) := fun hk => by
      obtain ⟨h1, h2, h3⟩ := hp hk
      exact ⟨r, B, hB0, h1, h2, h3⟩
    have HBF := hid (HB2.out.trans (B5.mono HB2.out.size))
    clear hp HLw
    go_wp2_with fail
    refine hK _ _ B5 ?_
    clear hK K
    refine wpTs_2 (i := 15) (j := 16) (rem1 := [16, 17, 18]) (rem2 := [15, 17, 18]) (by kernel_rfl) (by rfl) (by rfl) (by rfl) (by rfl) (fun K hK => ?_) (fun K hK => ?_)
    · go_wp2_with fail
      refine hK _ _ B5 ?_
      clear hK K
      refine wpTs_1 (i := 16) (rem1 := [17, 18]) (by kernel_rfl) (by rfl) (by rfl) (fun K hK => ?_)
      go_wp2_with fail
      refine hK _ _ B5 ?_
      clear hK K
      refine wpTs_1 (i := 17) (rem1 := [18]) (by kernel_rfl) (by rfl) (by rfl) (fun K hK => ?_)
      go_wp2_with fail
      refine hK _ _ B5 ?_
      clear hK K
      refine wpTs_1 (i := 18) (rem1 := []) (by kernel_rfl) (by rfl) (by rfl) (fun K hK => ?_)
      go_wp2_with fail
      refine hK _ _ B5 ?_
      clear hK K
      refine wpTs_0 ?_
      go_wp2
      go_ret2
      exact ⟨r, ok, rfl, HP.out, HBF.out⟩
    · go_wp2_with fail
      refine hK _ _ B5 ?_
      clear hK K
      refine wpTs_1 (i := 15) (rem1 := [17, 18]) (by kernel_rfl) (by rfl) (by rfl) (fun K hK => ?_)
      go_wp2_with fail
      refine hK _ _ B5 ?_
      clear hK K
      refine wpTs_1 (i := 17) (rem1 := [18]) (by kernel_rfl) (by rfl) (by rfl) (fun K hK => ?_)
      go_wp2_with fail
      refine hK _ _ B5 ?_
      clear hK K
      refine wpTs_1 (i := 18) (rem1 := []) (by kernel_rfl) (by rfl) (by rfl) (fun K hK => ?_)
      go_wp2_with fail
      refine hK _ _ B5 ?_
      clear hK K
      refine wpTs_0 ?_
      go_wp2
      go_ret2
      exact ⟨r, ok, rfl, HP.out, HBF.out⟩
/-- What the first task that may be late tells. -/
def ModeP (g : Nat → Nat → Int) (u n : Nat) (r : Int) : Prop := r < 0 → ∀ i, i < n → u.testBit i = true → RespOk g (selT u i) i
set_option maxRecDepth 100000 in
set_option maxHeartbeats 1000000 in
theorem mode_any (x : Img) (g : Nat → Nat → Int) (u : Nat) (w : World) (hF : RightF x g) (hT : Tasks w x.ao x.n g) :
    Calls Tryd.prog 20 #[iv x, .int .u32 u] w fun e W' => ∃ r : Int, e = .returned (.int .i64 r) ∧ ModeP g u x.n r ∧ Below w.heap.size w W' := by
  have hn := hF.n2
  have HRe := hid fun (i : Nat) X (hX : Below w.heap.size w X) (hi : i < x.n) => response_any x g u i X hi hF (hT.below hX)
  clear hF hT
  obtain ⟨rr, ao, n, cap, mo, mn, mc, eo, en, ec⟩ := x
  unfold iv at HRe ⊢
  dsimp only at HRe hn ⊢
  have hb1 : Below w.heap.size w (w.alloc (Obj.cells #[.int .i64 rr, .slice ao n cap, .slice mo mn mc, .slice eo en ec] 26)) := (Below.refl _ _).alloc (Nat.le_refl _) _
  have HI := hid (heap_alloc_new w (Obj.cells #[.int .i64 rr, .slice ao n cap, .slice mo mn mc, .slice eo en ec] 26))
  have HB := hid hb1
  clear hb1
  go_enter Tryd.func20, Tryd.ntmps20
  go_wp2
  obtain ⟨W1, hW1⟩ : ∃ X, X = w.alloc (Obj.cells #[.int .i64 rr, .slice ao n cap, .slice mo mn mc, .slice eo en ec] 26) := ⟨_, rfl⟩
  rw [← hW1] at HI HB ⊢
  clear hW1
  have HA0 : Hid (∀ j, j < 0 → u.testBit j = true → RespOk g (selT u j) j) := fun j hj => by omega
  go_loopw [5] (fun i_ wr => ∃ i : Nat, i ≤ n ∧ i_ = .int .i64 i ∧ Hid (∀ j, j < i → u.testBit j = true → RespOk g (selT u j) j) ∧ Below W1.heap.size W1 wr) (fun i_ _ => n - (intOf i_).toNat)
  case atStart => exact ⟨0, by omega, rfl, HA0, Below.refl _ _⟩
  case round =>
    clear HA0
    obtain ⟨i, hi, rfl, HA, hbr⟩ := hrel
    have bI := (hbr.block _ (Array.getElem?_eq_some_iff.1 HI.out).1).trans HI.out
    have HBX := hid (HB.out.trans (hbr.mono HB.out.size))
    have c0 := blk_cell bI 0
    have c1 := blk_cell bI 1
    have c2 := blk_cell bI 2
    have c3 := blk_cell bI 3
    by_cases hlt : i < n
    · have t0 : decide ((i : Int) < (n : Int)) = true := by simp; omega
      have HH := hid fun X => has_bit u i (by omega) X
      have HA2 : Hid ((u.testBit i = true → RespOk g (selT u i) i) → ∀ j, j < i + 1 → u.testBit j = true → RespOk g (selT u j) j) := fun h j hj hb => by
        rcases (show j < i ∨ j = i by omega) with h1 | rfl
        · exact HA.out j h1 hb
        · exact h hb
      have HRi := hid (HRe.out i wr HBX.out hlt)
      generalize u.testBit i = bt at HH HA2
      cases bt
      · have HA3 := hid (HA2.out fun h => by cases h)
        go_wp2_with (go_at_call 11; refine (HH.out _).mono ?_; rintro e w' ⟨rfl, rfl⟩)
        go_roundw
        case rel => exact ⟨i + 1, by omega, by go_num, HA3, hbr⟩
        case measure => simp [intOf]; omega
      · go_wp2_with fail
        refine (HH.out _).mono ?_
        rintro e w' ⟨rfl, hw⟩
        obtain rfl := hw.symm
        go_wp2_with fail
        refine HRi.out.mono ?_
        rintro e w2 ⟨r, ok, rfl, hp, hb2⟩
        have HP2 := hid (hbr.trans (hb2.mono hbr.size))
        cases ok
        · have HMP : Hid (ModeP g u n (i : Int)) := fun h => by omega
          go_wp2
          go_ret
          exact ⟨_, rfl, HMP.out, HB.out.trans (HP2.out.mono HB.out.size)⟩
        · have HA3 := hid (HA2.out fun _ => hp rfl)
          clear hp HA2 HRi
          go_wp2
          go_roundw
          case rel => exact ⟨i + 1, by omega, by go_num, HA3, HP2.out⟩
          case measure => simp [intOf]; omega
    · obtain rfl : i = n := by omega
      have t0 : decide ((i : Int) < (i : Int)) = false := by simp
      have HMP : Hid (ModeP g u i (-1)) := fun _ => HA.out
      go_wp2
      go_ret
      exact ⟨_, rfl, HMP.out, HBX.out⟩
end Go.Proofs.YtijnpkbijljnlaaDoor
