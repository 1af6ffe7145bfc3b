/-
  Layer 29: the walk of MigrateMoves.
-/
import Derived.Test.YtmkpimdbmjpelaaMigDrops
import Derived.Test.YtmkpimdbmjpelaaFreeStill
namespace Go.Proofs.Ytmkpimdbmjpelaa
open Go.RowKit Go.Shelf
attribute [local go_sem] stillAt
def oldV (so mo : Option Addr) (sn sc mn mc : Nat) : Value := .agg #[.slice so sn sc, .slice mo mn mc]
/-- Rows of numbers of one's own, one a value. -/
def mrows (U : Nat → MRow) (n : Nat) : List Value := (List.range n).map fun i => mv (U i)
theorem mrows_at (U : Nat → MRow) {n i : Nat} (h : i < n) : (mrows U n)[i]? = some (mv (U i)) := by simp [mrows, h]
theorem mrows_length (U : Nat → MRow) (n : Nat) : (mrows U n).length = n := by simp [mrows]
theorem mrows_snoc (U : Nat → MRow) (n : Nat) (r : MRow) : mrows (putN U n r) (n + 1) = mrows U n ++ [mv r] := by
  unfold mrows
  rw [List.range_succ, List.map_append]
  congr 1
  · refine List.map_congr_left fun i hi => ?_
    rw [putN_other _ _ (by have := List.mem_range.1 hi; omega)]
  · simp [putN_same]
theorem mrows_set (V : Nat → MRow) {n j : Nat} {r : MRow} (h : j < n) : (mrows V n).set j (mv r) = mrows (putN V j r) n := by
  apply List.ext_getElem?
  intro i
  rcases Nat.lt_or_ge i n with hi | hi
  · rw [mrows_at _ hi]
    by_cases e : i = j
    · subst e
      rw [List.getElem?_set_self (by rw [mrows_length]; exact hi), putN_same]
    · rw [List.getElem?_set_ne (by omega), mrows_at _ hi, putN_other _ _ e]
  · rw [List.getElem?_eq_none (by rw [List.length_set, mrows_length]; exact hi), List.getElem?_eq_none (by rw [mrows_length]; exact hi)]
theorem mof_of_own {w : World} {b : Nat} {r : MRow} (h : w.ownsRow b 3 1 (mv r) r.xs.length (vi r.xs)) : MOf w r := by
  obtain ⟨ao, c, e, h1, h2, h3, h4⟩ := vi_view h
  unfold mv at e
  injection e with e1 e2 e3
  subst e1 e3
  refine ⟨h3, h1, h2, fun e => ?_⟩
  rcases h.2 with ⟨e2, _⟩ | ⟨g, cap, cur, e2, _⟩
  · unfold mv at e2
    injection e2
  · unfold mv at e2
    injection e2 with e3
    rw [e] at e3
    cases e3
theorem msgs_of_own {w : World} {b n : Nat} {v : Value} {U : Nat → MRow} (h : w.ownsRow b 24 1 v n (mrows U n)) (hU : ∀ j, j < n → MOf w (U j)) : ∃ ao cap, v = .slice ao n cap ∧ Msgs w ao n U := by
  rcases h.2 with ⟨e, h2⟩ | ⟨g, cap, cur, e, _, _, h3, h4, _⟩
  · have h2 : n = 0 := h2
    exact ⟨none, 0, by rw [h2]; exact e, fun i hi => by omega⟩
  · refine ⟨_, cap, e, fun i hi => ⟨g, 0, rfl, ?_, hU i hi⟩⟩
    rw [e] at h
    rw [Nat.zero_add]
    exact (h.cellAt i (by omega)).trans (mrows_at U hi)
set_option maxRecDepth 100000 in
set_option maxHeartbeats 2000000 in
theorem move_bad (oo lo : Option Addr) (n oc to lc : Nat) (g : Nat → Nat → Int) (m : Nat → Int) (w : World) (hto : to ≤ 100) (hS : Sets w lo to g) (hR : ¬ RightS to g) :
    Calls Try.prog 22 #[.slice oo n oc, .slice lo to lc, arr4 m] w fun e w' => e = moveBad ∧ Below w.heap.size w w' := by
  refine (callsIn_wide (n := 8)).1 ?_
  refine callsIn_of_wp_marks Try.func22 rfl trivial ?_ rfl
  unfold arr4
  simp only [Try.ntmps22, List.size_toArray, List.length_cons, List.length_nil, Nat.reduceAdd, Nat.reduceSub, Array.replicate_succ, Array.replicate_zero, List.push_toArray, List.append_toArray, List.nil_append, List.cons_append]
  have HR := hid hR
  have HS := hid hS
  clear hR hS
  refine wpIn_wide.2 ?_
  go_wp2_with fail
  obtain ⟨W4, hW4⟩ : ∃ W, W = ((((w.alloc (Obj.cells #[Value.int .i64 (m 0), Value.int .i64 (m 1), Value.int .i64 (m 2), Value.int .i64 (m 3)] 48)).alloc (Obj.cells #[Value.slice none 0 0] 34)).alloc (Obj.cells #[Value.slice none 0 0] 52)).alloc (Obj.cells #[Value.int .i64 0] 35)) := ⟨_, rfl⟩
  have hB4 : Below w.heap.size w W4 := by rw [hW4]; exact ((((Below.refl _ w).alloc (Nat.le_refl _) _).alloc (by simp) _).alloc (by simp; omega) _).alloc (by simp; omega) _
  have k1 : Boxed W4 (w.heap.size + 1) 34 (.slice none 0 0) := by
    rw [hW4]
    have h := Boxed.new (w.alloc (Obj.cells #[Value.int .i64 (m 0), Value.int .i64 (m 1), Value.int .i64 (m 2), Value.int .i64 (m 3)] 48)) 34 (.slice none 0 0)
    rw [World.size_alloc] at h
    exact (h.alloc _).alloc _
  have k2 : Boxed W4 (w.heap.size + 1 + 1) 52 (.slice none 0 0) := by
    rw [hW4]
    have h := Boxed.new ((w.alloc (Obj.cells #[Value.int .i64 (m 0), Value.int .i64 (m 1), Value.int .i64 (m 2), Value.int .i64 (m 3)] 48)).alloc (Obj.cells #[Value.slice none 0 0] 34)) 52 (.slice none 0 0)
    rw [World.size_alloc, World.size_alloc] at h
    exact h.alloc _
  have k3 : Boxed W4 (w.heap.size + 1 + 1 + 1) 35 (.int .i64 0) := by
    rw [hW4]
    have h := Boxed.new (((w.alloc (Obj.cells #[Value.int .i64 (m 0), Value.int .i64 (m 1), Value.int .i64 (m 2), Value.int .i64 (m 3)] 48)).alloc (Obj.cells #[Value.slice none 0 0] 34)).alloc (Obj.cells #[Value.slice none 0 0] 52)) 35 (.int .i64 0)
    rw [World.size_alloc, World.size_alloc, World.size_alloc] at h
    exact h
  rw [← hW4]
  clear hW4
  refine (make_bad lo to lc g W4 hto (HS.out.below hB4) HR.out).mono ?_
  rintro e w1 ⟨rfl, b1⟩
  have HB1 := hid (hB4.trans (b1.mono hB4.size))
  have r1 : Boxed w1 (w.heap.size + 1) 34 (.slice none 0 0) := blk_save k1 (Save.of_below b1 fun _ => False) id
  have r2 : Boxed w1 (w.heap.size + 1 + 1) 52 (.slice none 0 0) := blk_save k2 (Save.of_below b1 fun _ => False) id
  have r3 : Boxed w1 (w.heap.size + 1 + 1 + 1) 35 (.int .i64 0) := blk_save k3 (Save.of_below b1 fun _ => False) id
  have c1 := r1.cell
  have c2 := r2.cell
  have c3 := r3.cell
  have f1 := r1.frozen
  have f2 := r2.frozen
  have f3 := r3.frozen
  have R1 := hid r1
  have R2 := hid r2
  have R3 := hid r3
  clear b1 k1 k2 k3 hB4 r1 r2 r3
  go_wp2
  have q1 := boxed_set_other (boxed_set_other (boxed_set R1.out (.slice none 0 0)) (b' := w.heap.size + 1 + 1) (.slice none 0 0) (by omega)) (b' := w.heap.size + 1 + 1 + 1) (.int .i64 104) (by omega)
  have q2 := boxed_set_other (boxed_set (boxed_set_other R2.out (b' := w.heap.size + 1) (.slice none 0 0) (by omega)) (.slice none 0 0)) (b' := w.heap.size + 1 + 1 + 1) (.int .i64 104) (by omega)
  have q3 := boxed_set (boxed_set_other (boxed_set_other R3.out (b' := w.heap.size + 1) (.slice none 0 0) (by omega)) (b' := w.heap.size + 1 + 1) (.slice none 0 0) (by omega)) (.int .i64 104)
  have g1 := q1.cell
  have g2 := q2.cell
  have g3 := q3.cell
  refine ⟨.tuple #[.slice none 0 0, .slice none 0 0, .int .i64 104], ?_, rfl, ((HB1.out.setCell (p := ⟨w.heap.size + 1, 0, none⟩) (by simp) _).setCell (p := ⟨w.heap.size + 1 + 1, 0, none⟩) (by simp; omega) _).setCell (p := ⟨w.heap.size + 1 + 1 + 1, 0, none⟩) (by simp; omega) _⟩
  simp [results, Try.f22, go_sem, g1, g2, g3]
theorem filled_len {g : Nat → Nat → Int} {m : Nat → Int} {to n j : Nat} {xs : Nat → List Int} (h : ∀ i, i < n → (xs i).length ≤ 100) : (filledF g m to xs n j).length ≤ 1000 := by
  induction n with
  | zero => exact Nat.zero_le _
  | succ n ih =>
    unfold filledF
    split
    · rw [lastF_len]
      have := h n (Nat.lt_succ_self _)
      omega
    · exact ih fun i hi => h i (by omega)
theorem infoSl : (Try.prog.info? 24).map (fun i => (i.zero, i.size, i.bytes)) = some (some (.slice none 0 0), 1, 24) := by kernel_rfl
set_option maxRecDepth 100000 in
set_option maxHeartbeats 2000000 in
theorem migMoves_walk (so mo lo : Option Addr) (sn sc mn mc ln lc : Nat) (gs gl : Nat → Nat → Int) (M : Nat → MRow) (m : Nat → Int) (w : World) (hS : Sets w so sn gs) (hSl : Sets w lo ln gl) (hM : Msgs w mo mn M) (hmx : mn ≤ maxLen) (hm : ∀ i, (Lit.int .i64 (m i)).wf = true) :
    Calls Try.prog 5 #[.agg #[.slice so sn sc, .slice mo mn mc], .slice lo ln lc, arr4 m] w fun e w' => e = .returned (.bool true) ∧ Below w.heap.size w w' := by
  obtain ⟨i0, hi, hz0, hz1, hz2⟩ := info_parts infoSl
  have bA := (Below.refl w.heap.size w).alloc (Nat.le_refl _) (Obj.cells #[.slice so sn sc, .slice mo mn mc] 47)
  have hk1 : (w.alloc (Obj.cells #[.slice so sn sc, .slice mo mn mc] 47)).heap[w.heap.size]? = some (Obj.cells #[.slice so sn sc, .slice mo mn mc] 47) := heap_alloc_new w _
  have hk2 := heap_alloc_new (w.alloc (Obj.cells #[.slice so sn sc, .slice mo mn mc] 47)) (box4 m)
  rw [World.size_alloc] at hk2
  have hk1' := blk_save hk1 (Save.of_below ((Below.refl _ _).alloc (Nat.le_refl _) (box4 m)) fun _ => False) id
  have bB := bA.alloc bA.size (box4 m)
  have HS := hid hS
  have HSL := hid hSl
  have HM := hid hM
  have HWF := hid hm
  obtain ⟨W2, hW2⟩ : ∃ W, W = (w.alloc (Obj.cells #[.slice so sn sc, .slice mo mn mc] 47)).alloc (box4 m) := ⟨_, rfl⟩
  rw [← hW2] at hk2 hk1' bB
  have HW2 : Hid (W2 = (w.alloc (Obj.cells #[.slice so sn sc, .slice mo mn mc] 47)).alloc (Obj.cells #[.int .i64 (m 0), .int .i64 (m 1), .int .i64 (m 2), .int .i64 (m 3)] 48)) := hW2
  have HB2 := hid bB
  have HK1 := hid hk1'
  have HK2 := hid hk2
  have HGR := hid (great29_any so mo lo sn sc mn mc ln lc M W2 hmx (hM.below bB))
  have c0 : ((w.alloc (Obj.cells #[.slice so sn sc, .slice mo mn mc] 47)).alloc (Obj.cells #[.int .i64 (m 0), .int .i64 (m 1), .int .i64 (m 2), .int .i64 (m 3)] 48)).cell? ⟨w.heap.size, 0, none⟩ = some (.slice so sn sc) := by rw [← HW2.out]; exact blk_cell hk1' 0
  have c1 : ((w.alloc (Obj.cells #[.slice so sn sc, .slice mo mn mc] 47)).alloc (Obj.cells #[.int .i64 (m 0), .int .i64 (m 1), .int .i64 (m 2), .int .i64 (m 3)] 48)).cell? ⟨w.heap.size, 1, none⟩ = some (.slice mo mn mc) := by rw [← HW2.out]; exact blk_cell hk1' 1
  unfold arr4
  clear hS hSl hM hm bA bB hk1 hk1' hk2 hW2
  go_enter Try.func5, Try.ntmps5
  go_wp2_with fail
  rw [← HW2.out]
  clear c0 c1
  refine HGR.out.mono ?_
  rintro e w3 ⟨r, rfl, hr, b3⟩
  have HB3 := hid (HB2.out.trans (b3.mono HB2.out.size))
  have HK13 := hid (blk_save HK1.out (Save.of_below b3 fun _ => False) id)
  have HK23 := hid (blk_save HK2.out (Save.of_below b3 fun _ => False) id)
  have d0 : w3.cell? ⟨w.heap.size, 0, none⟩ = some (.slice so sn sc) := blk_cell HK13.out 0
  have d1 : w3.cell? ⟨w.heap.size, 1, none⟩ = some (.slice mo mn mc) := blk_cell HK13.out 1
  clear HGR b3 HW2 HK1 HK2 HB2
  cases r with
  | true =>
    go_wp2
    go_ret
    exact ⟨rfl, HB3.out⟩
  | false =>
    obtain ⟨hsn, hln, hmn, hml⟩ := hr rfl
    have HML := hid hml
    have HRT := hid (right29_any so sn sc gs w3 (by omega) (HS.out.below HB3.out))
    clear hr hml
    go_wp2_with fail
    refine HRT.out.mono ?_
    rintro e w4 ⟨r, rfl, hr, b4⟩
    have HB4 := hid (HB3.out.trans (b4.mono HB3.out.size))
    have HK14 := hid (blk_save HK13.out (Save.of_below b4 fun _ => False) id)
    have HK24 := hid (blk_save HK23.out (Save.of_below b4 fun _ => False) id)
    have d0 : w4.cell? ⟨w.heap.size, 0, none⟩ = some (.slice so sn sc) := blk_cell HK14.out 0
    have d1 : w4.cell? ⟨w.heap.size, 1, none⟩ = some (.slice mo mn mc) := blk_cell HK14.out 1
    clear HRT b4 HK13 HK23
    cases r with
    | false =>
      go_wp2_with fail
      refine (migAlive_any _).mono ?_
      rintro e w9 ⟨rfl, b9⟩
      have HB9 := hid (HB4.out.trans (b9.mono HB4.out.size))
      go_wp2
      go_ret
      exact ⟨rfl, HB9.out⟩
    | true =>
      have HRS := hid (hr.1 rfl)
      have HMM := HM.out.below HB4.out
      have HFI := hid (fill29_any so mo sn sc mn mc gs M w4 (HS.out.below HB4.out) HRS.out HMM (by omega) HML.out (fun i hi b o e h => by
        obtain ⟨_, _, _, _, h2⟩ := HMM i hi
        obtain ⟨b', o', e', c⟩ := h2.1 0 h
        rw [e] at e'
        cases e'
        exact cell_lt c))
      clear hr HMM
      go_wp2_with fail
      refine HFI.out.mono ?_
      rintro e w5 ⟨v5, Po, qo, rfl, own5, qs5, hst5, b5⟩
      have HB5 := hid (HB4.out.trans (b5.mono HB4.out.size))
      have HK15 := hid (blk_save HK14.out (Save.of_below b5 fun _ => False) id)
      have HK25 := hid (blk_save HK24.out (Save.of_below b5 fun _ => False) id)
      have d0 : w5.cell? ⟨w.heap.size, 0, none⟩ = some (.slice so sn sc) := blk_cell HK15.out 0
      obtain ⟨oo, oc, rfl, _, hPO⟩ := prow_of_own own5
      have HPO := hid hPO.out
      have HQO := hid qs5
      have HLX : Hid (∀ i, i < sn → (qo i).xs.length ≤ 100) := fun i hi => by
        rw [(hst5 i hi).2.2]
        unfold wasF
        split
        · rename_i h
          have := HML.out i h
          rw [lastF_len]
          omega
        · exact Nat.zero_le _
      have tn : ((sn : Int) != (sn : Int)) = false := by simp
      have HU0 : Hid (∀ j, j < 0 → w5.ownsRow w5.heap.size 3 1 (mv ((fun _ => ⟨none, 0, []⟩ : Nat → MRow) j)) ((fun _ => ⟨none, 0, []⟩ : Nat → MRow) j).xs.length (vi ((fun _ => ⟨none, 0, []⟩ : Nat → MRow) j).xs) ∧ ((fun _ => ⟨none, 0, []⟩ : Nat → MRow) j).xs = (qo j).xs) := fun j hj => by omega
      have hsn4 : sn ≤ 4 := HRS.out.1
      clear HFI b5 own5 qs5 hst5 hPO HK14 HK24
      go_wp2
      clear d0
      go_loopw [8, 9] (fun v i_ wr => ∃ (i : Nat) (U : Nat → MRow), i_ = .int .i64 i ∧ i ≤ sn ∧ Hid (wr.ownsRow w5.heap.size 24 1 v i (mrows U i)) ∧ Hid (∀ j, j < i → wr.ownsRow w5.heap.size 3 1 (mv (U j)) (U j).xs.length (vi (U j).xs) ∧ (U j).xs = (qo j).xs) ∧ Hid (Below w5.heap.size w5 wr)) (fun _ i_ _ => sn - (intOf i_).toNat)
      case atStart => exact ⟨0, _, rfl, Nat.zero_le _, World.ownsRow_nil _ _ _ _, HU0, Below.refl _ _⟩
      case round =>
        clear HU0
        obtain ⟨i, U, rfl, hin, HO, HU, HW⟩ := hrel
        by_cases hlt : i < sn
        · have t0 : decide ((i : Int) < (sn : Int)) = true := by simp; omega
          obtain ⟨fb, fo, rfl, cF0⟩ := (HPO.out.below HW.out) i hlt
          have cF : wr.cell? ⟨fb, fo + i, none⟩ = some (.pointer (some ⟨Po i, 0, none⟩)) := cF0
          have j0' : (0 : Int) ≤ (i : Int) := by omega
          have j1 : (i : Int) < (sn : Int) := by omega
          have hq := (HQO.out.below HW.out).at_ i hlt
          have HLI := hid (qlist_any _ (Po i) _ _ _ _ _ wr hq (by have := HLX.out i hlt; omega))
          have hw5 := HW.out.size
          clear cF0 hq
          go_wp2_with fail
          refine HLI.out.mono ?_
          rintro e w8 ⟨u8, rfl, o8, b8⟩
          obtain ⟨ua, uc, rfl, _, _, _, _⟩ := vi_view o8
          have HB8 := hid (HW.out.trans (b8.mono HW.out.size))
          have HO8 := hid (HO.out.kept (below_grownQ b8) (by cases e : u8.ownBlock <;> simp))
          have HU8 : Hid (∀ j, j < i + 1 → w8.ownsRow w5.heap.size 3 1 (mv (putN U i ⟨ua, uc, (qo i).xs⟩ j)) (putN U i ⟨ua, uc, (qo i).xs⟩ j).xs.length (vi (putN U i ⟨ua, uc, (qo i).xs⟩ j).xs) ∧ (putN U i ⟨ua, uc, (qo i).xs⟩ j).xs = (qo j).xs) := fun j hj => by
            by_cases e : j = i
            · subst e
              rw [putN_same]
              exact ⟨own_base o8 hw5, rfl⟩
            · rw [putN_other _ _ e]
              obtain ⟨h1, h2⟩ := HU.out j (by omega)
              exact ⟨own_save2 h1 (Save.of_below b8 fun _ => False) fun _ _ => id, h2⟩
          obtain ⟨L, hL⟩ : ∃ L, (qo i).xs.length = L := ⟨_, rfl⟩
          have HMV : Hid (mv ⟨ua, uc, (qo i).xs⟩ = .slice ua L uc) := by show Value.slice _ _ _ = _; rw [hL]
          rw [hL]
          have hsz8 := HB8.out.size
          clear HLI o8 b8 HO HU HW hL
          go_wp2_with (at_builtin; refine wpList_append_own _ rfl _ _ 45 rfl w5.heap.size 24 i0 (.slice none 0 0) 1 24 Try.underlying45 hi hz0 hz1 hz2 rfl (by decide) u8 i _ rfl (HO8.out.alloc _) ⟨w8.heap.size, 0, none⟩ 1 1 [.slice ua L uc] rfl rfl (one_val _ _ _) (by simp [Value.oneCell']) (by unfold maxLen; omega) (by omega) (by simp; omega) ?_; intro v' w9 hown9 hgrow9 _; have HO9 := hid hown9; have HG9 := hid hgrow9; clear hown9 hgrow9)
          have bA := (Below.refl w8.heap.size w8).alloc (Nat.le_refl _) (Obj.cells #[.slice ua L uc] 24)
          have HU9 : Hid (∀ j, j < i + 1 → w9.ownsRow w5.heap.size 3 1 (mv (putN U i ⟨ua, uc, (qo i).xs⟩ j)) (putN U i ⟨ua, uc, (qo i).xs⟩ j).xs.length (vi (putN U i ⟨ua, uc, (qo i).xs⟩ j).xs) ∧ (putN U i ⟨ua, uc, (qo i).xs⟩ j).xs = (qo j).xs) := fun j hj => by
            obtain ⟨h1, h2⟩ := HU8.out j hj
            refine ⟨own_save2 (h1.alloc _) (Save.of_grown HG9.out) fun gg hgg hk => ?_, h2⟩
            obtain ⟨cur, hc⟩ := own_typ (h1.alloc (Obj.cells #[.slice ua L uc] 24)) hgg
            obtain ⟨cur', hc'⟩ := own_typ (HO8.out.alloc (Obj.cells #[.slice ua L uc] 24)) hk
            rw [hc] at hc'
            cases hc'
          have HB9 := hid ((HB8.out.alloc HB8.out.size _).grown HG9.out (by simp; omega) fun j hj => (HO8.out.lt j hj).1)
          go_roundw
          case rel => exact ⟨i + 1, putN U i ⟨ua, uc, (qo i).xs⟩, by go_num, by omega, by rw [mrows_snoc, HMV.out]; exact HO9, HU9, HB9⟩
          case measure => simp [intOf]; omega
        · obtain rfl : i = sn := by omega
          have t0 : decide ((i : Int) < (i : Int)) = false := by simp
          obtain ⟨wo, wc, rfl, hms⟩ := msgs_of_own HO.out fun j hj => mof_of_own (HU.out j hj).1
          have HMS := hid hms
          have HUX : Hid (∀ j, j < i → (U j).xs = (qo j).xs) := fun j hj => (HU.out j hj).2
          have hk := blk_save HK25.out (Save.of_below HW.out fun _ => False) id
          have d0 : wr.cell? ⟨w.heap.size + 1, 0, none⟩ = some (.int .i64 (m 0)) := blk_cell hk 0
          have d1 : wr.cell? ⟨w.heap.size + 1, 1, none⟩ = some (.int .i64 (m 1)) := blk_cell hk 1
          have d2 : wr.cell? ⟨w.heap.size + 1, 2, none⟩ = some (.int .i64 (m 2)) := blk_cell hk 2
          have d3 : wr.cell? ⟨w.heap.size + 1, 3, none⟩ = some (.int .i64 (m 3)) := blk_cell hk 3
          have HPM := HPO.out.below HW.out
          have HQM := HQO.out.below HW.out
          have HBW := hid (HB5.out.trans (HW.out.mono HB5.out.size))
          have HKW := hid hk
          have HSM := HSL.out.below HBW.out
          clear HO HU hms hk
          by_cases hRL : RightS ln gl
          · have HMO := hid (move_any oo lo i oc ln lc _ gl m Po qo wr hsn4 HWF.out HPM HQM HLX.out HSM hRL)
            have HRL := hid hRL
            unfold arr4 at HMO
            clear HPM HQM HSM hRL
            go_wp2_with fail
            refine HMO.out.mono ?_
            rintro e w6 (⟨hdup, rfl, b6⟩ | ⟨hnd, P, v6, dv, q', rfl, own6, qs6, hst6, dr6, b6⟩)
            · have HB6 := hid (HBW.out.trans (b6.mono HBW.out.size))
              have HRT2 := hid (right29_any lo ln lc gl w6 (by omega) (HSL.out.below HB6.out))
              have HDUP := hid hdup
              have hk6 := blk_save HKW.out (Save.of_below b6 fun _ => False) id
              have HK6 := hid hk6
              unfold moveBad
              clear b6 HMO hdup d0 d1 d2 d3 hk6
              go_wp2_with fail
              refine HRT2.out.mono ?_
              rintro e w7 ⟨r, rfl, hr, b7⟩
              obtain rfl : r = true := hr.2 HRL.out
              have HB7 := hid (HB6.out.trans (b7.mono HB6.out.size))
              have hk := blk_save HK6.out (Save.of_below b7 fun _ => False) id
              have d0 : w7.cell? ⟨w.heap.size + 1, 0, none⟩ = some (.int .i64 (m 0)) := blk_cell hk 0
              have d1 : w7.cell? ⟨w.heap.size + 1, 1, none⟩ = some (.int .i64 (m 1)) := blk_cell hk 1
              have d2 : w7.cell? ⟨w.heap.size + 1, 2, none⟩ = some (.int .i64 (m 2)) := blk_cell hk 2
              have d3 : w7.cell? ⟨w.heap.size + 1, 3, none⟩ = some (.int .i64 (m 3)) := blk_cell hk 3
              have HTW := hid (twice_any m i ln w7 (by omega) (by omega) HWF.out)
              unfold arr4 at HTW
              clear HRT2 hr b7 hk
              go_wp2_with fail
              refine HTW.out.mono ?_
              rintro e w8 ⟨r, rfl, hr, b8⟩
              obtain rfl : r = true := hr.2 HDUP.out
              have HB8 := hid (HB7.out.trans (b8.mono HB7.out.size))
              clear HTW hr b8 d0 d1 d2 d3
              go_wp2_with fail
              refine (migAlive_any _).mono ?_
              rintro e w9 ⟨rfl, b9⟩
              have HB9 := hid (HB8.out.trans (b9.mono HB8.out.size))
              go_wp2
              go_ret
              exact ⟨rfl, HB9.out⟩
            · have HB6 := hid (HBW.out.trans (b6.mono HBW.out.size))
              have HRT2 := hid (right29_any lo ln lc gl w6 (by omega) (HSL.out.below HB6.out))
              have HND := hid hnd
              have hk6 := blk_save HKW.out (Save.of_below b6 fun _ => False) id
              have HK6 := hid hk6
              obtain ⟨vo, vc, rfl, _, hPN⟩ := prow_of_own own6
              have HPN := hid hPN.out
              have HQN := hid qs6
              have HST6 := hid hst6
              have HDR6 := hid dr6
              have HMS6 := hid (HMS.out.below b6)
              have HPO6 : Hid (PRow w6 oo i Po) := (HPO.out.below HW.out).below b6
              have HQO6 := hid ((HQO.out.below HW.out).below b6)
              clear b6 HMO hnd d0 d1 d2 d3 hk6 own6 qs6 hst6 dr6 hPN
              go_wp2_with fail
              refine HRT2.out.mono ?_
              rintro e w7 ⟨r, rfl, hr, b7⟩
              obtain rfl : r = true := hr.2 HRL.out
              have HB7 := hid (HB6.out.trans (b7.mono HB6.out.size))
              have hk := blk_save HK6.out (Save.of_below b7 fun _ => False) id
              have d0 : w7.cell? ⟨w.heap.size + 1, 0, none⟩ = some (.int .i64 (m 0)) := blk_cell hk 0
              have d1 : w7.cell? ⟨w.heap.size + 1, 1, none⟩ = some (.int .i64 (m 1)) := blk_cell hk 1
              have d2 : w7.cell? ⟨w.heap.size + 1, 2, none⟩ = some (.int .i64 (m 2)) := blk_cell hk 2
              have d3 : w7.cell? ⟨w.heap.size + 1, 3, none⟩ = some (.int .i64 (m 3)) := blk_cell hk 3
              have HTW := hid (twice_any m i ln w7 (by omega) (by omega) HWF.out)
              have HB67 := hid b7
              unfold arr4 at HTW
              clear HRT2 hr b7 hk
              go_wp2_with fail
              refine HTW.out.mono ?_
              rintro e w8 ⟨r, rfl, hr, b8⟩
              have hrf : r = false := by
                cases r with
                | false => rfl
                | true => exact absurd (hr.1 rfl) HND.out
              subst hrf
              have HB68 := hid (HB67.out.trans (b8.mono HB67.out.size))
              have tl : ((ln : Int) != (ln : Int)) = false := by simp
              have hln4 : ln ≤ 4 := HRL.out.1
              clear HTW hr b8 d0 d1 d2 d3 HB67 HB7
              obtain ⟨W9, hmk, hownW, hgrW⟩ := run_make_full (P := Try.prog) w8 w8.heap.size 45 24 i0 (.slice none 0 0) 1 Try.underlying45 hi hz0 hz1 .i64 .i64 ln (by rw [hz2]; omega) (by unfold maxLen; omega) (Nat.le_refl _)
              go_wp2_with fail
              have HV0 : Hid (∀ j, j < ln → MOf w6 ((fun _ => ⟨none, 0, []⟩ : Nat → MRow) j) ∧ ((fun _ => ⟨none, 0, []⟩ : Nat → MRow) j).xs = filledF gl m ln (fun k => (qo k).xs) 0 j) := fun j _ => ⟨⟨fun i hi => (by cases hi), Nat.le_refl _, Nat.zero_le _, fun _ => rfl⟩, rfl⟩
              have HWT0 : Hid (W9.ownsRow w8.heap.size 24 1 (.slice (some ⟨w8.heap.size, 0, none⟩) ln ln) ln (mrows (fun _ => ⟨none, 0, []⟩) ln)) := by
                have e : (madeCells (Value.slice none 0 0).cells (ln * 1)).toList = mrows (fun _ => ⟨none, 0, []⟩) ln := by
                  rw [Nat.mul_one]
                  refine (toList_madeCells_one _ _).trans ?_
                  unfold mrows
                  apply List.ext_getElem
                  · simp
                  · intro i h1 h2
                    simp; rfl
                show W9.ownsRow _ _ _ _ _ _
                rw [← e]; exact hownW
              have HW90 := hid ((Below.refl w8.heap.size w8).grown hgrW (Nat.le_refl _) (by simp))
              obtain ⟨oi, di, dz0, dz1, dz2⟩ := info_parts infoDr
              clear hownW hgrW hmk
              go_loopw [14, 15] (fun v k_ wr => ∃ (k : Nat) (V : Nat → MRow), k_ = .int .i64 k ∧ k ≤ i ∧ Hid (wr.ownsRow w8.heap.size 24 1 (.slice (some ⟨w8.heap.size, 0, none⟩) ln ln) ln (mrows V ln)) ∧ Hid (∀ j, j < ln → MOf w6 (V j) ∧ (V j).xs = filledF gl m ln (fun k => (qo k).xs) k j) ∧
                Hid (wr.ownsRow w8.heap.size 58 2 v (dropsF gl m ln (fun k => (qo k).xs) k).length (dcells (dropsF gl m ln (fun k => (qo k).xs) k))) ∧ Hid (Below w8.heap.size w8 wr)) (fun _ k_ _ => i - (intOf k_).toNat)
              case atStart => exact ⟨0, _, rfl, Nat.zero_le _, HWT0, HV0, World.ownsRow_nil _ _ _ _, HW90⟩
              case round =>
                clear HWT0 HV0 HW90
                obtain ⟨k, V, rfl, hki, HWT, HV, HDR, HWR⟩ := hrel
                by_cases hlt : k < i
                · have t0 : decide ((k : Int) < (i : Int)) = true := by simp; omega
                  have HB6R := hid (HB68.out.trans (HWR.out.mono HB68.out.size))
                  obtain ⟨wb, wof, rfl, cw0, hmu⟩ := (HMS6.out.below HB6R.out) k hlt
                  have hux := HUX.out k hlt
                  obtain ⟨⟨ua, uc, ux⟩, hU⟩ : ∃ r, U k = r := ⟨_, rfl⟩
                  rw [hU] at cw0 hmu hux
                  simp only at hux
                  subst hux
                  have hu6 : MOf w6 ⟨ua, uc, (qo k).xs⟩ := by
                    obtain ⟨_, _, _, _, h⟩ := HMS6.out k hlt
                    rw [hU] at h; exact h
                  obtain ⟨L, hL⟩ : ∃ L, (qo k).xs.length = L := ⟨_, rfl⟩
                  have HLL := hid hL
                  have HMU : Hid (mv (U k) = .slice ua L uc) := by
                    show _ = _
                    rw [hU]; show Value.slice _ _ _ = _; rw [hL]
                  have HU6 := hid hu6
                  have HUR : Hid (Row w6 ua L (fun j => .int .i64 ((qo k).xs.getD j 0))) := by
                    have h := hu6.1
                    show Row _ _ _ _
                    rw [← hL]; exact h
                  have cw : wr.cell? ⟨wb, wof + k, none⟩ = some (.slice ua L uc) := by rw [← HMU.out, hU]; exact cw0
                  have hLu : L ≤ uc ∧ uc ≤ maxLen := by rw [← hL]; exact ⟨hu6.2.1, hu6.2.2.1⟩
                  have hL100 : L ≤ 100 := by rw [← hL]; exact HLX.out k hlt
                  have hk := blk_save HK6.out (Save.of_below HB6R.out fun _ => False) id
                  have d0 : wr.cell? ⟨w.heap.size + 1, 0, none⟩ = some (.int .i64 (m 0)) := blk_cell hk 0
                  have d1 : wr.cell? ⟨w.heap.size + 1, 1, none⟩ = some (.int .i64 (m 1)) := blk_cell hk 1
                  have d2 : wr.cell? ⟨w.heap.size + 1, 2, none⟩ = some (.int .i64 (m 2)) := blk_cell hk 2
                  have d3 : wr.cell? ⟨w.heap.size + 1, 3, none⟩ = some (.int .i64 (m 3)) := blk_cell hk 3
                  have j0' : (0 : Int) ≤ (k : Int) := by omega
                  have j1 : (k : Int) < (i : Int) := by omega
                  have HBE := hid (becomes_any m k ln wr (by omega) (by omega) HWF.out)
                  unfold arr4 at HBE
                  clear hL cw0 hmu hU hu6 hk
                  cases hbec : bec m ln k with
                  | none =>
                    have hbi : becI m ln k = -1 := by unfold becI; rw [hbec]
                    rw [hbi] at HBE
                    have HOV : Hid (overF gl m ln (fun k => (qo k).xs) k = L) := by
                      show _ = _
                      unfold overF; rw [hbec]; exact HLL.out
                    have HV2 : Hid (∀ j, j < ln → MOf w6 (V j) ∧ (V j).xs = filledF gl m ln (fun k => (qo k).xs) (k + 1) j) := fun j hj => by
                      obtain ⟨h1, h2⟩ := HV.out j hj
                      refine ⟨h1, h2.trans ?_⟩
                      conv => rhs; unfold filledF
                      rw [if_neg (by rw [hbec]; exact fun h => by cases h)]
                    clear hbec hbi
                    go_wp2_with fail
                    refine HBE.out.mono ?_
                    rintro e w10 ⟨rfl, b10⟩
                    have HW10 := hid (HWR.out.trans (b10.mono HWR.out.size))
                    have HWT10 := hid (own_save2 HWT.out (Save.of_below b10 fun _ => False) fun _ _ => id)
                    have HDR10 := hid (own_save2 HDR.out (Save.of_below b10 fun _ => False) fun _ _ => id)
                    clear HBE b10 d0 d1 d2 d3 cw HWT HDR HWR HB6R
                    by_cases hov : 0 < L
                    · skip
                      have t3 : decide ((0 : Int) < ((L : Nat) : Int)) = true := by simp; omega
                      have t4 : decide (0 < L) = true := by simp; omega
                      have HD2 : Hid (dropsF gl m ln (fun k => (qo k).xs) (k + 1) = dropsF gl m ln (fun k => (qo k).xs) k ++ [(k, L)]) := by
                        show _ = _
                        rw [dropsF, HOV.out, if_pos hov]
                      have hdl := drops_len gl m ln (fun k => (qo k).xs) k
                      have hszx := HW10.out.size
                      have hnews : ∀ (j : Nat) (u : Value), [Value.int .i64 (k : Int), Value.int .i64 ((L : Nat) : Int)][j]? = some u → (w10.alloc (Obj.cells #[Value.int .i64 (k : Int), Value.int .i64 ((L : Nat) : Int)] 58)).cell? ((⟨w10.heap.size, 0, none⟩ : Addr).add j) = some u := fun j u hj => by
                        rw [add_off, Nat.zero_add, World.cell?_alloc_at _ _ _ _ rfl]; simpa using hj
                      have HNW := hid hnews
                      clear hov hnews
                      go_wp2_with (at_builtin; refine wpList_append_own _ rfl _ _ 52 rfl w8.heap.size 58 oi (.agg #[.int .i64 0, .int .i64 0]) 2 16 Try.underlying52 di dz0 dz1 dz2 rfl (by decide) u14 _ _ rfl (HDR10.out.alloc _) ⟨w10.heap.size, 0, none⟩ 1 1 [.int .i64 (k : Int), .int .i64 ((L : Nat) : Int)] rfl rfl HNW.out (by simp [Value.oneCell']) (by unfold maxLen; omega) (by omega) (by simp; omega) ?_; intro v11 w11 hown11 hgrow11 _; have HO11 := hid hown11; have HG11 := hid hgrow11; clear hown11 hgrow11)
                      have HW11 := hid ((HW10.out.alloc HW10.out.size (Obj.cells #[Value.int .i64 (k : Int), Value.int .i64 ((L : Nat) : Int)] 58)).grown HG11.out (by simp; omega) fun j hj => (HDR10.out.lt j hj).1)
                      have HWT11 := hid (own_save2 (HWT10.out.alloc (Obj.cells #[Value.int .i64 (k : Int), Value.int .i64 ((L : Nat) : Int)] 58)) (Save.of_grown HG11.out) fun gg hgg hk => by
                        obtain ⟨cur, hc⟩ := own_typ (HWT10.out.alloc (Obj.cells #[Value.int .i64 (k : Int), Value.int .i64 ((L : Nat) : Int)] 58)) hgg
                        obtain ⟨cur', hc'⟩ := own_typ (HDR10.out.alloc (Obj.cells #[Value.int .i64 (k : Int), Value.int .i64 ((L : Nat) : Int)] 58)) hk
                        rw [hc] at hc'
                        cases hc')
                      have HDR11 : Hid (w11.ownsRow w8.heap.size 58 2 v11 (dropsF gl m ln (fun k => (qo k).xs) (k + 1)).length (dcells (dropsF gl m ln (fun k => (qo k).xs) (k + 1)))) := by
                        rw [HD2.out, List.length_append, dcells_append]; exact HO11.out
                      have HD3 : Hid (dropsF gl m ln (fun k => (qo k).xs) (k + 1) = dropsF gl m ln (fun k => (qo k).xs) (k + 1)) := rfl
                      clear HO11
                      have HB6X := hid (HB68.out.trans (HW11.out.mono HB68.out.size))
                      obtain ⟨ob, oof, rfl, co0⟩ := (HPO6.out.below HB6X.out) k hlt
                      have cO : w11.cell? ⟨ob, oof + k, none⟩ = some (.pointer (some ⟨Po k, 0, none⟩)) := co0
                      have cW2 : w11.cell? ⟨wb, wof + k, none⟩ = some (.slice ua L uc) := by
                        obtain ⟨b', o', e, c, _⟩ := (HMS6.out.below HB6X.out) k hlt
                        cases e
                        rw [← HMU.out]; exact c
                      have hqk : QAt w11.drew _ (Po k) _ _ _ (qo k).xs _ := QAt.below ((HQO6.out.below HB6X.out).at_ k hlt) (show Below w11.heap.size w11 w11.drew from ⟨rfl, rfl, rfl, Nat.le_refl _, fun _ _ => rfl⟩)
                      have HLI := hid (qlist_any _ (Po k) _ _ _ _ _ w11.drew hqk (by have := HLX.out k hlt; omega))
                      rw [HLL.out] at HLI
                      have hur : Row w11 ua L (fun j => .int .i64 ((qo k).xs.getD j 0)) := HUR.out.below HB6X.out
                      have HUR2 := hid hur
                      clear co0 hqk hur
                      go_wp2
                      refine wp_region_chain [4, 9, 10] (fun Y => Below w11.heap.size w11 Y) (by kernel_rfl) (by kernel_rfl) (by exact (Below.refl w11.heap.size w11).trans ⟨rfl, rfl, rfl, Nat.le_refl _, fun _ _ => rfl⟩) ?_
                      repeat (first | refine wpFl_chain (by rfl) ?_ | (refine wpFl_still (by rfl) (by rfl) (fun K hK => ?_); go_simp; (refine ⟨_, fun _ _ => rfl, hK _ ?_⟩; clear hK K)))
                      refine wpFl_still (by rfl) (by rfl) (fun K hK => ?_)
                      go_simp
                      refine ⟨.pointer (some ⟨Po k, 0, none⟩), fun Y hY => ?_, hK _ ?_⟩
                      · have cY := (hY.cell (cell_lt cO)).trans cO
                        go_simp
                      clear hK K
                      repeat (first | refine wpFl_chain (by rfl) ?_ | (refine wpFl_still (by rfl) (by rfl) (fun K hK => ?_); go_simp; (refine ⟨_, fun _ _ => rfl, hK _ ?_⟩; clear hK K)))
                      refine wpFl_still (by rfl) (by rfl) (fun K hK => ?_)
                      go_simp
                      refine ⟨.slice ua L uc, fun Y hY => ?_, hK _ ?_⟩
                      · have cY := (hY.cell (cell_lt cW2)).trans cW2
                        go_simp
                      clear hK K
                      repeat refine wpFl_chain (by rfl) ?_
                      refine wpFl_nil ?_
                      have bd : Below w11.heap.size w11 w11.drew := ⟨rfl, rfl, rfl, Nat.le_refl _, fun _ _ => rfl⟩
                      refine wpTl_on (by rfl) (fun K hK => ?_)
                      go_wp2_with fail
                      refine HLI.out.mono ?_
                      rintro e Y1 ⟨u1, rfl, o1, b1⟩
                      have B1 := bd.trans b1
                      rw [← HLL.out] at o1
                      obtain ⟨xo, xc, e1, _, _, hxr, _⟩ := vi_view o1
                      rw [HLL.out] at hxr e1
                      subst e1
                      have HEQ := hid (equalI_any xo ua L L xc uc _ _ Y1 hxr (HUR2.out.below B1) (by have := HLX.out k hlt; have := HLL.out; omega))
                      rw [eqL_all (fun _ _ => rfl)] at HEQ
                      clear o1 hxr HLI
                      go_wp2_with fail
                      refine hK _ _ B1 ?_
                      clear hK K
                      refine wpTl_on (by rfl) (fun K hK => ?_)
                      go_wp2_with fail
                      refine HEQ.out.mono ?_
                      rintro e Y2 ⟨rfl, b2⟩
                      have B2 := B1.trans (b2.mono B1.size)
                      clear b2 b1 HEQ
                      go_wp2_with fail
                      refine hK _ _ B2 ?_
                      clear hK K
                      refine wpTl_on (by rfl) (fun K hK => ?_)
                      go_wp2_with fail
                      refine hK _ _ B2 ?_
                      clear hK K
                      refine wpTl_nil ?_
                      have HWZ := hid (HW11.out.trans (B2.mono HW11.out.size))
                      have HWTZ := hid (own_save2 HWT11.out (Save.of_below B2 fun _ => False) fun _ _ => id)
                      have HDRZ := hid (own_save2 HDR11.out (Save.of_below B2 fun _ => False) fun _ _ => id)
                      go_wp2
                      go_roundw
                      case rel => exact ⟨k + 1, V, by go_num, by omega, HWTZ, HV2, by first | exact HDRZ.out | (rw [HD3.out]; exact HDRZ.out), HWZ⟩
                      case measure => simp [intOf]; omega
                    · skip
                      have t3 : decide ((0 : Int) < ((L : Nat) : Int)) = false := by simp; omega
                      have t4 : decide (0 < L) = false := by simp; omega
                      have HD3 : Hid (dropsF gl m ln (fun k => (qo k).xs) (k + 1) = dropsF gl m ln (fun k => (qo k).xs) k) := by
                        show _ = _
                        rw [dropsF, HOV.out, if_neg hov, List.append_nil]
                      clear hov
                      have HB6X := hid (HB68.out.trans (HW10.out.mono HB68.out.size))
                      obtain ⟨ob, oof, rfl, co0⟩ := (HPO6.out.below HB6X.out) k hlt
                      have cO : w10.cell? ⟨ob, oof + k, none⟩ = some (.pointer (some ⟨Po k, 0, none⟩)) := co0
                      have cW2 : w10.cell? ⟨wb, wof + k, none⟩ = some (.slice ua L uc) := by
                        obtain ⟨b', o', e, c, _⟩ := (HMS6.out.below HB6X.out) k hlt
                        cases e
                        rw [← HMU.out]; exact c
                      have hqk : QAt w10.drew _ (Po k) _ _ _ (qo k).xs _ := QAt.below ((HQO6.out.below HB6X.out).at_ k hlt) (show Below w10.heap.size w10 w10.drew from ⟨rfl, rfl, rfl, Nat.le_refl _, fun _ _ => rfl⟩)
                      have HLI := hid (qlist_any _ (Po k) _ _ _ _ _ w10.drew hqk (by have := HLX.out k hlt; omega))
                      rw [HLL.out] at HLI
                      have hur : Row w10 ua L (fun j => .int .i64 ((qo k).xs.getD j 0)) := HUR.out.below HB6X.out
                      have HUR2 := hid hur
                      clear co0 hqk hur
                      go_wp2
                      refine wp_region_chain [4, 9, 10] (fun Y => Below w10.heap.size w10 Y) (by kernel_rfl) (by kernel_rfl) (by exact (Below.refl w10.heap.size w10).trans ⟨rfl, rfl, rfl, Nat.le_refl _, fun _ _ => rfl⟩) ?_
                      repeat (first | refine wpFl_chain (by rfl) ?_ | (refine wpFl_still (by rfl) (by rfl) (fun K hK => ?_); go_simp; (refine ⟨_, fun _ _ => rfl, hK _ ?_⟩; clear hK K)))
                      refine wpFl_still (by rfl) (by rfl) (fun K hK => ?_)
                      go_simp
                      refine ⟨.pointer (some ⟨Po k, 0, none⟩), fun Y hY => ?_, hK _ ?_⟩
                      · have cY := (hY.cell (cell_lt cO)).trans cO
                        go_simp
                      clear hK K
                      repeat (first | refine wpFl_chain (by rfl) ?_ | (refine wpFl_still (by rfl) (by rfl) (fun K hK => ?_); go_simp; (refine ⟨_, fun _ _ => rfl, hK _ ?_⟩; clear hK K)))
                      refine wpFl_still (by rfl) (by rfl) (fun K hK => ?_)
                      go_simp
                      refine ⟨.slice ua L uc, fun Y hY => ?_, hK _ ?_⟩
                      · have cY := (hY.cell (cell_lt cW2)).trans cW2
                        go_simp
                      clear hK K
                      repeat refine wpFl_chain (by rfl) ?_
                      refine wpFl_nil ?_
                      have bd : Below w10.heap.size w10 w10.drew := ⟨rfl, rfl, rfl, Nat.le_refl _, fun _ _ => rfl⟩
                      refine wpTl_on (by rfl) (fun K hK => ?_)
                      go_wp2_with fail
                      refine HLI.out.mono ?_
                      rintro e Y1 ⟨u1, rfl, o1, b1⟩
                      have B1 := bd.trans b1
                      rw [← HLL.out] at o1
                      obtain ⟨xo, xc, e1, _, _, hxr, _⟩ := vi_view o1
                      rw [HLL.out] at hxr e1
                      subst e1
                      have HEQ := hid (equalI_any xo ua L L xc uc _ _ Y1 hxr (HUR2.out.below B1) (by have := HLX.out k hlt; have := HLL.out; omega))
                      rw [eqL_all (fun _ _ => rfl)] at HEQ
                      clear o1 hxr HLI
                      go_wp2_with fail
                      refine hK _ _ B1 ?_
                      clear hK K
                      refine wpTl_on (by rfl) (fun K hK => ?_)
                      go_wp2_with fail
                      refine HEQ.out.mono ?_
                      rintro e Y2 ⟨rfl, b2⟩
                      have B2 := B1.trans (b2.mono B1.size)
                      clear b2 b1 HEQ
                      go_wp2_with fail
                      refine hK _ _ B2 ?_
                      clear hK K
                      refine wpTl_on (by rfl) (fun K hK => ?_)
                      go_wp2_with fail
                      refine hK _ _ B2 ?_
                      clear hK K
                      refine wpTl_nil ?_
                      have HWZ := hid (HW10.out.trans (B2.mono HW10.out.size))
                      have HWTZ := hid (own_save2 HWT10.out (Save.of_below B2 fun _ => False) fun _ _ => id)
                      have HDRZ := hid (own_save2 HDR10.out (Save.of_below B2 fun _ => False) fun _ _ => id)
                      go_wp2
                      go_roundw
                      case rel => exact ⟨k + 1, V, by go_num, by omega, HWTZ, HV2, by first | exact HDRZ.out | (rw [HD3.out]; exact HDRZ.out), HWZ⟩
                      case measure => simp [intOf]; omega
                  | some j =>
                    have hjt := bec_lt hbec
                    have hbi : becI m ln k = (j : Int) := by unfold becI; rw [hbec]
                    rw [hbi] at HBE
                    obtain ⟨lb, lof, rfl, cl0, _⟩ := (HSL.out.below (HB6.out.trans (HB6R.out.mono HB6.out.size))) j hjt
                    have hrb := (rightB_is.1 (HRL.out.2 j hjt)).1
                    obtain ⟨cp, hcp⟩ : ∃ cp, (gl j 0).toNat = cp := ⟨_, rfl⟩
                    have hgc : gl j 0 = (cp : Int) := by omega
                    have cl : wr.cell? ⟨lb, lof + j * 2, none⟩ = some (.int .i64 (cp : Int)) := by rw [← hgc]; exact cl0
                    have HCP : Hid (1 ≤ cp ∧ cp ≤ 16) := by show _ ∧ _; omega
                    have HOV : Hid (overF gl m ln (fun k => (qo k).xs) k = L - cp) := by
                      show _ = _
                      unfold overF; rw [hbec]
                      show (qo k).xs.length - (gl j 0).toNat = _
                      rw [HLL.out, hcp]
                    have HV2 : Hid (∀ r : MRow, MOf w6 r → r.xs = lastF (qo k).xs cp → ∀ j', j' < ln → MOf w6 (putN V j r j') ∧ (putN V j r j').xs = filledF gl m ln (fun k => (qo k).xs) (k + 1) j') := fun r h1 h2 j' hj' => by
                      by_cases e : j' = j
                      · subst e
                        rw [putN_same]
                        refine ⟨h1, h2.trans ?_⟩
                        unfold filledF
                        rw [if_pos hbec, hcp]
                      · rw [putN_other _ _ e]
                        obtain ⟨h3, h4⟩ := HV.out j' hj'
                        refine ⟨h3, h4.trans ?_⟩
                        conv => rhs; unfold filledF
                        rw [if_neg (by rw [hbec]; exact fun h => e (Option.some.inj h).symm)]
                    have l0' : (0 : Int) ≤ (j : Int) := by omega
                    have l1 : (j : Int) < (ln : Int) := by omega
                    clear hbec hbi hrb cl0
                    go_wp2_with fail
                    refine HBE.out.mono ?_
                    rintro e w10 ⟨rfl, b10⟩
                    have HW10 := hid (HWR.out.trans (b10.mono HWR.out.size))
                    have HWT10 := hid (own_save2 HWT.out (Save.of_below b10 fun _ => False) fun _ _ => id)
                    have HDR10 := hid (own_save2 HDR.out (Save.of_below b10 fun _ => False) fun _ _ => id)
                    have cw' := (b10.cell (cell_lt cw)).trans cw
                    have cl' := (b10.cell (cell_lt cl)).trans cl
                    clear HBE b10 d0 d1 d2 d3 cw cl HWT HDR HWR HB6R hcp hgc
                    go_wp2
                    go_quiet (fail)
                    obtain ⟨WQ, hWQ⟩ : ∃ W, w10.drewN nq = W := ⟨_, rfl⟩
                    have HWQ := hid (show Below w8.heap.size w8 WQ by rw [← hWQ]; exact HW10.out.trans ⟨rfl, rfl, rfl, Nat.le_refl _, fun _ _ => rfl⟩)
                    have HWTQ := hid (show WQ.ownsRow w8.heap.size 24 1 (.slice (some ⟨w8.heap.size, 0, none⟩) ln ln) ln (mrows V ln) by rw [← hWQ]; exact HWT10.out)
                    have HDRQ := hid (show WQ.ownsRow w8.heap.size 58 2 u14 (dropsF gl m ln (fun k => (qo k).xs) k).length (dcells (dropsF gl m ln (fun k => (qo k).xs) k)) by rw [← hWQ]; exact HDR10.out)
                    have cwQ : WQ.cell? ⟨wb, wof + k, none⟩ = some (.slice ua L uc) := by rw [← hWQ]; exact cw'
                    rw [hWQ]
                    clear hWQ HW10 HWT10 HDR10 cw' cl'
                    obtain ⟨z, hz⟩ : ∃ z, wrap64 ((L : Int) - (cp : Int)) = z := ⟨_, rfl⟩
                    have hz2 : z = (L : Int) - (cp : Int) := by rw [← hz]; unfold wrap64; have := HCP.out; omega
                    rw [hz]
                    clear hz
                    have cst : WQ.cell? ⟨w8.heap.size, j, none⟩ = some (mv (V j)) := (HWTQ.out.cellAt j (by omega)).trans (mrows_at V hjt)
                    have fst' := HWTQ.out.frozenAt j
                    by_cases hneg : z < 0
                    · have t5 : decide (z < 0) = true := by simp; omega
                      have HMR : Hid (mv ⟨ua, uc, (qo k).xs⟩ = .slice ua L uc) := by
                        show Value.slice _ _ _ = _
                        rw [HLL.out]
                      have hst := HWTQ.out.stored j (Value.slice ua L uc)
                      have HWTS : Hid ((WQ.setCell ⟨w8.heap.size, j, none⟩ (Value.slice ua L uc)).ownsRow w8.heap.size 24 1 (.slice (some ⟨w8.heap.size, 0, none⟩) ln ln) ln (mrows (putN V j ⟨ua, uc, (qo k).xs⟩) ln)) := by
                        have h := hst.1
                        rw [show (Value.slice ua L uc : Value) = mv ⟨ua, uc, (qo k).xs⟩ from HMR.out.symm] at h
                        rw [mrows_set V hjt] at h
                        rw [show (Value.slice ua L uc : Value) = mv ⟨ua, uc, (qo k).xs⟩ from HMR.out.symm]
                        exact h
                      have HWS := hid (HWQ.out.grown hst.2 HWQ.out.size fun j hj => (HWTQ.out.lt j hj).1)
                      have HDRS := hid (own_save2 HDRQ.out (Save.set WQ w8.heap.size j (Value.slice ua L uc)) fun gg hgg hk => by
                        obtain ⟨cur, hc⟩ := own_typ HDRQ.out hgg
                        obtain ⟨cur', hc'⟩ := own_typ HWTQ.out (rfl : (Value.slice (some ⟨w8.heap.size, 0, none⟩) ln ln).ownBlock = some w8.heap.size)
                        rw [hk, hc'] at hc
                        cases hc)
                      have HVS := hid (HV2.out ⟨ua, uc, (qo k).xs⟩ HU6.out (by unfold lastF; rw [if_neg (by rw [HLL.out]; omega)]))
                      go_wp2
                      obtain ⟨WS, hWS⟩ : ∃ W, WQ.setCell ⟨w8.heap.size, j, none⟩ (Value.slice ua L uc) = W := ⟨_, rfl⟩
                      rw [hWS] at HWTS HWS HDRS ⊢
                      clear hWS hst
                      have HD3 : Hid (dropsF gl m ln (fun k => (qo k).xs) (k + 1) = dropsF gl m ln (fun k => (qo k).xs) k) := by
                        show _ = _
                        rw [dropsF, HOV.out, if_neg (by omega), List.append_nil]
                      have HB6X := hid (HB68.out.trans (HWS.out.mono HB68.out.size))
                      obtain ⟨ob, oof, rfl, co0⟩ := (HPO6.out.below HB6X.out) k hlt
                      have cO : WS.cell? ⟨ob, oof + k, none⟩ = some (.pointer (some ⟨Po k, 0, none⟩)) := co0
                      have cW2 : WS.cell? ⟨wb, wof + k, none⟩ = some (.slice ua L uc) := by
                        obtain ⟨b', o', e, c, _⟩ := (HMS6.out.below HB6X.out) k hlt
                        cases e
                        rw [← HMU.out]; exact c
                      have hqk : QAt WS.drew _ (Po k) _ _ _ (qo k).xs _ := QAt.below ((HQO6.out.below HB6X.out).at_ k hlt) (show Below WS.heap.size WS WS.drew from ⟨rfl, rfl, rfl, Nat.le_refl _, fun _ _ => rfl⟩)
                      have HLI := hid (qlist_any _ (Po k) _ _ _ _ _ WS.drew hqk (by have := HLX.out k hlt; omega))
                      rw [HLL.out] at HLI
                      have hur : Row WS ua L (fun j => .int .i64 ((qo k).xs.getD j 0)) := HUR.out.below HB6X.out
                      have HUR2 := hid hur
                      clear co0 hqk hur
                      go_wp2
                      refine wp_region_chain [4, 9, 10] (fun Y => Below WS.heap.size WS Y) (by kernel_rfl) (by kernel_rfl) (by exact (Below.refl WS.heap.size WS).trans ⟨rfl, rfl, rfl, Nat.le_refl _, fun _ _ => rfl⟩) ?_
                      repeat (first | refine wpFl_chain (by rfl) ?_ | (refine wpFl_still (by rfl) (by rfl) (fun K hK => ?_); go_simp; (refine ⟨_, fun _ _ => rfl, hK _ ?_⟩; clear hK K)))
                      refine wpFl_still (by rfl) (by rfl) (fun K hK => ?_)
                      go_simp
                      refine ⟨.pointer (some ⟨Po k, 0, none⟩), fun Y hY => ?_, hK _ ?_⟩
                      · have cY := (hY.cell (cell_lt cO)).trans cO
                        go_simp
                      clear hK K
                      repeat (first | refine wpFl_chain (by rfl) ?_ | (refine wpFl_still (by rfl) (by rfl) (fun K hK => ?_); go_simp; (refine ⟨_, fun _ _ => rfl, hK _ ?_⟩; clear hK K)))
                      refine wpFl_still (by rfl) (by rfl) (fun K hK => ?_)
                      go_simp
                      refine ⟨.slice ua L uc, fun Y hY => ?_, hK _ ?_⟩
                      · have cY := (hY.cell (cell_lt cW2)).trans cW2
                        go_simp
                      clear hK K
                      repeat refine wpFl_chain (by rfl) ?_
                      refine wpFl_nil ?_
                      have bd : Below WS.heap.size WS WS.drew := ⟨rfl, rfl, rfl, Nat.le_refl _, fun _ _ => rfl⟩
                      refine wpTl_on (by rfl) (fun K hK => ?_)
                      go_wp2_with fail
                      refine HLI.out.mono ?_
                      rintro e Y1 ⟨u1, rfl, o1, b1⟩
                      have B1 := bd.trans b1
                      rw [← HLL.out] at o1
                      obtain ⟨xo, xc, e1, _, _, hxr, _⟩ := vi_view o1
                      rw [HLL.out] at hxr e1
                      subst e1
                      have HEQ := hid (equalI_any xo ua L L xc uc _ _ Y1 hxr (HUR2.out.below B1) (by have := HLX.out k hlt; have := HLL.out; omega))
                      rw [eqL_all (fun _ _ => rfl)] at HEQ
                      clear o1 hxr HLI
                      go_wp2_with fail
                      refine hK _ _ B1 ?_
                      clear hK K
                      refine wpTl_on (by rfl) (fun K hK => ?_)
                      go_wp2_with fail
                      refine HEQ.out.mono ?_
                      rintro e Y2 ⟨rfl, b2⟩
                      have B2 := B1.trans (b2.mono B1.size)
                      clear b2 b1 HEQ
                      go_wp2_with fail
                      refine hK _ _ B2 ?_
                      clear hK K
                      refine wpTl_on (by rfl) (fun K hK => ?_)
                      go_wp2_with fail
                      refine hK _ _ B2 ?_
                      clear hK K
                      refine wpTl_nil ?_
                      have HWZ := hid (HWS.out.trans (B2.mono HWS.out.size))
                      have HWTZ := hid (own_save2 HWTS.out (Save.of_below B2 fun _ => False) fun _ _ => id)
                      have HDRZ := hid (own_save2 HDRS.out (Save.of_below B2 fun _ => False) fun _ _ => id)
                      go_wp2
                      go_roundw
                      case rel => exact ⟨k + 1, putN V j ⟨ua, uc, (qo k).xs⟩, by go_num, by omega, HWTZ, HVS, by first | exact HDRZ.out | (rw [HD3.out]; exact HDRZ.out), HWZ⟩
                      case measure => simp [intOf]; omega
                    · by_cases hz0 : z = 0
                      · subst hz0
                        have hLc : L = cp := by omega
                        have HLC := hid hLc
                        clear hLc hz2 hneg
                        have HMR : Hid (mv ⟨ua, uc, (qo k).xs⟩ = .slice ua L uc) := by
                          show Value.slice _ _ _ = _
                          rw [HLL.out]
                        have hst := HWTQ.out.stored j (Value.slice ua L uc)
                        have HWTS : Hid ((WQ.setCell ⟨w8.heap.size, j, none⟩ (Value.slice ua L uc)).ownsRow w8.heap.size 24 1 (.slice (some ⟨w8.heap.size, 0, none⟩) ln ln) ln (mrows (putN V j ⟨ua, uc, (qo k).xs⟩) ln)) := by
                          have h := hst.1
                          rw [show (Value.slice ua L uc : Value) = mv ⟨ua, uc, (qo k).xs⟩ from HMR.out.symm] at h
                          rw [mrows_set V hjt] at h
                          rw [show (Value.slice ua L uc : Value) = mv ⟨ua, uc, (qo k).xs⟩ from HMR.out.symm]
                          exact h
                        have HWS := hid (HWQ.out.grown hst.2 HWQ.out.size fun j hj => (HWTQ.out.lt j hj).1)
                        have HDRS := hid (own_save2 HDRQ.out (Save.set WQ w8.heap.size j (Value.slice ua L uc)) fun gg hgg hk => by
                          obtain ⟨cur, hc⟩ := own_typ HDRQ.out hgg
                          obtain ⟨cur', hc'⟩ := own_typ HWTQ.out (rfl : (Value.slice (some ⟨w8.heap.size, 0, none⟩) ln ln).ownBlock = some w8.heap.size)
                          rw [hk, hc'] at hc
                          cases hc)
                        have HVS := hid (HV2.out ⟨ua, uc, (qo k).xs⟩ HU6.out (by unfold lastF; rw [if_neg (by rw [HLL.out, HLC.out]; omega)]))
                        go_wp2
                        obtain ⟨WS, hWS⟩ : ∃ W, WQ.setCell ⟨w8.heap.size, j, none⟩ (Value.slice ua L uc) = W := ⟨_, rfl⟩
                        rw [hWS] at HWTS HWS HDRS ⊢
                        clear hWS hst
                        have HD3 : Hid (dropsF gl m ln (fun k => (qo k).xs) (k + 1) = dropsF gl m ln (fun k => (qo k).xs) k) := by
                          show _ = _
                          rw [dropsF, HOV.out, if_neg (by rw [HLC.out]; omega), List.append_nil]
                        have HB6X := hid (HB68.out.trans (HWS.out.mono HB68.out.size))
                        obtain ⟨ob, oof, rfl, co0⟩ := (HPO6.out.below HB6X.out) k hlt
                        have cO : WS.cell? ⟨ob, oof + k, none⟩ = some (.pointer (some ⟨Po k, 0, none⟩)) := co0
                        have cW2 : WS.cell? ⟨wb, wof + k, none⟩ = some (.slice ua L uc) := by
                          obtain ⟨b', o', e, c, _⟩ := (HMS6.out.below HB6X.out) k hlt
                          cases e
                          rw [← HMU.out]; exact c
                        have hqk : QAt WS.drew _ (Po k) _ _ _ (qo k).xs _ := QAt.below ((HQO6.out.below HB6X.out).at_ k hlt) (show Below WS.heap.size WS WS.drew from ⟨rfl, rfl, rfl, Nat.le_refl _, fun _ _ => rfl⟩)
                        have HLI := hid (qlist_any _ (Po k) _ _ _ _ _ WS.drew hqk (by have := HLX.out k hlt; omega))
                        rw [HLL.out] at HLI
                        have hur : Row WS ua L (fun j => .int .i64 ((qo k).xs.getD j 0)) := HUR.out.below HB6X.out
                        have HUR2 := hid hur
                        clear co0 hqk hur
                        go_wp2
                        refine wp_region_chain [4, 9, 10] (fun Y => Below WS.heap.size WS Y) (by kernel_rfl) (by kernel_rfl) (by exact (Below.refl WS.heap.size WS).trans ⟨rfl, rfl, rfl, Nat.le_refl _, fun _ _ => rfl⟩) ?_
                        repeat (first | refine wpFl_chain (by rfl) ?_ | (refine wpFl_still (by rfl) (by rfl) (fun K hK => ?_); go_simp; (refine ⟨_, fun _ _ => rfl, hK _ ?_⟩; clear hK K)))
                        refine wpFl_still (by rfl) (by rfl) (fun K hK => ?_)
                        go_simp
                        refine ⟨.pointer (some ⟨Po k, 0, none⟩), fun Y hY => ?_, hK _ ?_⟩
                        · have cY := (hY.cell (cell_lt cO)).trans cO
                          go_simp
                        clear hK K
                        repeat (first | refine wpFl_chain (by rfl) ?_ | (refine wpFl_still (by rfl) (by rfl) (fun K hK => ?_); go_simp; (refine ⟨_, fun _ _ => rfl, hK _ ?_⟩; clear hK K)))
                        refine wpFl_still (by rfl) (by rfl) (fun K hK => ?_)
                        go_simp
                        refine ⟨.slice ua L uc, fun Y hY => ?_, hK _ ?_⟩
                        · have cY := (hY.cell (cell_lt cW2)).trans cW2
                          go_simp
                        clear hK K
                        repeat refine wpFl_chain (by rfl) ?_
                        refine wpFl_nil ?_
                        have bd : Below WS.heap.size WS WS.drew := ⟨rfl, rfl, rfl, Nat.le_refl _, fun _ _ => rfl⟩
                        refine wpTl_on (by rfl) (fun K hK => ?_)
                        go_wp2_with fail
                        refine HLI.out.mono ?_
                        rintro e Y1 ⟨u1, rfl, o1, b1⟩
                        have B1 := bd.trans b1
                        rw [← HLL.out] at o1
                        obtain ⟨xo, xc, e1, _, _, hxr, _⟩ := vi_view o1
                        rw [HLL.out] at hxr e1
                        subst e1
                        have HEQ := hid (equalI_any xo ua L L xc uc _ _ Y1 hxr (HUR2.out.below B1) (by have := HLX.out k hlt; have := HLL.out; omega))
                        rw [eqL_all (fun _ _ => rfl)] at HEQ
                        clear o1 hxr HLI
                        go_wp2_with fail
                        refine hK _ _ B1 ?_
                        clear hK K
                        refine wpTl_on (by rfl) (fun K hK => ?_)
                        go_wp2_with fail
                        refine HEQ.out.mono ?_
                        rintro e Y2 ⟨rfl, b2⟩
                        have B2 := B1.trans (b2.mono B1.size)
                        clear b2 b1 HEQ
                        go_wp2_with fail
                        refine hK _ _ B2 ?_
                        clear hK K
                        refine wpTl_on (by rfl) (fun K hK => ?_)
                        go_wp2_with fail
                        refine hK _ _ B2 ?_
                        clear hK K
                        refine wpTl_nil ?_
                        have HWZ := hid (HWS.out.trans (B2.mono HWS.out.size))
                        have HWTZ := hid (own_save2 HWTS.out (Save.of_below B2 fun _ => False) fun _ _ => id)
                        have HDRZ := hid (own_save2 HDRS.out (Save.of_below B2 fun _ => False) fun _ _ => id)
                        go_wp2
                        go_roundw
                        case rel => exact ⟨k + 1, putN V j ⟨ua, uc, (qo k).xs⟩, by go_num, by omega, HWTZ, HVS, by first | exact HDRZ.out | (rw [HD3.out]; exact HDRZ.out), HWZ⟩
                        case measure => simp [intOf]; omega
                      · obtain ⟨ov, hov⟩ : ∃ ov : Nat, z = (ov : Int) := ⟨z.toNat, by omega⟩
                        subst hov
                        have hov1 : 0 < ov := by omega
                        have hov2 : ov + cp = L := by omega
                        have hszq := HWQ.out.size
                        obtain ⟨ub, uo, rfl, _⟩ := HUR.out 0 (by omega)
                        have huc : ¬ uc = ov := by have := HCP.out; omega
                        clear hz2 hneg hz0
                        have HMR : Hid (mv ⟨some ⟨ub, uo + ov, none⟩, uc - ov, (qo k).xs.drop ov⟩ = Value.slice (some ⟨ub, uo + ov, none⟩) (L - ov) (uc - ov)) := by
                          show Value.slice _ _ _ = _
                          rw [List.length_drop, HLL.out]
                        have HMO : Hid (MOf w6 ⟨some ⟨ub, uo + ov, none⟩, uc - ov, (qo k).xs.drop ov⟩) := by
                          refine ⟨fun x hx => ?_, ?_, ?_, fun e => by cases e⟩
                          · have hx2 : x < L - ov := by
                              have : x < ((qo k).xs.drop ov).length := hx
                              rw [List.length_drop, HLL.out] at this; exact this
                            obtain ⟨b', o', e, c⟩ := HUR.out (ov + x) (by omega)
                            cases e
                            refine ⟨ub, uo + ov, rfl, ?_⟩
                            show w6.cell? ⟨ub, uo + ov + x, none⟩ = some (.int .i64 (((qo k).xs.drop ov).getD x 0))
                            rw [Nat.add_assoc, c]
                            simp [List.getD, List.getElem?_drop]
                          · show ((qo k).xs.drop ov).length ≤ uc - ov
                            rw [List.length_drop, HLL.out]; omega
                          · show uc - ov ≤ maxLen
                            omega
                        have HVS := hid (HV2.out ⟨some ⟨ub, uo + ov, none⟩, uc - ov, (qo k).xs.drop ov⟩ HMO.out (by
                          unfold lastF
                          rw [if_pos (by rw [HLL.out]; omega), HLL.out, show L - cp = ov by omega]))
                        have HOV2 : Hid (overF gl m ln (fun k => (qo k).xs) k = ov) := by
                          show _ = _
                          rw [HOV.out]; omega
                        have hst := HWTQ.out.stored j (Value.slice (some ⟨ub, uo + ov, none⟩) (L - ov) (uc - ov))
                        have HWTS : Hid ((WQ.setCell ⟨w8.heap.size, j, none⟩ (Value.slice (some ⟨ub, uo + ov, none⟩) (L - ov) (uc - ov))).ownsRow w8.heap.size 24 1 (.slice (some ⟨w8.heap.size, 0, none⟩) ln ln) ln (mrows (putN V j ⟨some ⟨ub, uo + ov, none⟩, uc - ov, (qo k).xs.drop ov⟩) ln)) := by
                          have h := hst.1
                          rw [show (Value.slice (some ⟨ub, uo + ov, none⟩) (L - ov) (uc - ov) : Value) = mv ⟨some ⟨ub, uo + ov, none⟩, uc - ov, (qo k).xs.drop ov⟩ from HMR.out.symm] at h
                          rw [mrows_set V hjt] at h
                          rw [show (Value.slice (some ⟨ub, uo + ov, none⟩) (L - ov) (uc - ov) : Value) = mv ⟨some ⟨ub, uo + ov, none⟩, uc - ov, (qo k).xs.drop ov⟩ from HMR.out.symm]
                          exact h
                        have HWS := hid (HWQ.out.grown hst.2 HWQ.out.size fun j hj => (HWTQ.out.lt j hj).1)
                        have HDRS := hid (own_save2 HDRQ.out (Save.set WQ w8.heap.size j (Value.slice (some ⟨ub, uo + ov, none⟩) (L - ov) (uc - ov))) fun gg hgg hk => by
                          obtain ⟨cur, hc⟩ := own_typ HDRQ.out hgg
                          obtain ⟨cur', hc'⟩ := own_typ HWTQ.out (rfl : (Value.slice (some ⟨w8.heap.size, 0, none⟩) ln ln).ownBlock = some w8.heap.size)
                          rw [hk, hc'] at hc
                          cases hc)
                        have t3 : decide ((0 : Int) < ((ov : Nat) : Int)) = true := by simp; omega
                        have t4 : decide (0 < ov) = true := by simp; omega
                        have HD2 : Hid (dropsF gl m ln (fun k => (qo k).xs) (k + 1) = dropsF gl m ln (fun k => (qo k).xs) k ++ [(k, ov)]) := by
                          show _ = _
                          rw [dropsF, HOV2.out, if_pos hov1]
                        have hdl := drops_len gl m ln (fun k => (qo k).xs) k
                        have hszx := HWS.out.size
                        have hnews : ∀ (jx : Nat) (u : Value), [Value.int .i64 (k : Int), Value.int .i64 ((ov : Nat) : Int)][jx]? = some u → ((WQ.setCell ⟨w8.heap.size, j, none⟩ (Value.slice (some ⟨ub, uo + ov, none⟩) (L - ov) (uc - ov))).alloc (Obj.cells #[Value.int .i64 (k : Int), Value.int .i64 ((ov : Nat) : Int)] 58)).cell? ((⟨WQ.heap.size, 0, none⟩ : Addr).add jx) = some u := fun jx u hj => by
                          rw [add_off, Nat.zero_add, World.cell?_alloc_at _ _ _ _ (by simp)]; simpa using hj
                        have HNW := hid hnews
                        clear hnews
                        go_wp2_with (at_builtin; refine wpList_append_own _ rfl _ _ 52 rfl w8.heap.size 58 oi (.agg #[.int .i64 0, .int .i64 0]) 2 16 Try.underlying52 di dz0 dz1 dz2 rfl (by decide) u14 _ _ rfl (HDRS.out.alloc _) ⟨WQ.heap.size, 0, none⟩ 1 1 [.int .i64 (k : Int), .int .i64 ((ov : Nat) : Int)] rfl rfl HNW.out (by simp [Value.oneCell']) (by unfold maxLen; omega) (by omega) (by simp; omega) ?_; intro v11 w11 hown11 hgrow11 _; have HO11 := hid hown11; have HG11 := hid hgrow11; clear hown11 hgrow11)
                        have HW11 := hid ((HWS.out.alloc HWS.out.size (Obj.cells #[Value.int .i64 (k : Int), Value.int .i64 ((ov : Nat) : Int)] 58)).grown HG11.out (by simp; omega) fun j hj => (HDRS.out.lt j hj).1)
                        have HWT11 := hid (own_save2 (HWTS.out.alloc (Obj.cells #[Value.int .i64 (k : Int), Value.int .i64 ((ov : Nat) : Int)] 58)) (Save.of_grown HG11.out) fun gg hgg hk => by
                          obtain ⟨cur, hc⟩ := own_typ (HWTS.out.alloc (Obj.cells #[Value.int .i64 (k : Int), Value.int .i64 ((ov : Nat) : Int)] 58)) hgg
                          obtain ⟨cur', hc'⟩ := own_typ (HDRS.out.alloc (Obj.cells #[Value.int .i64 (k : Int), Value.int .i64 ((ov : Nat) : Int)] 58)) hk
                          rw [hc] at hc'
                          cases hc')
                        have HDR11 : Hid (w11.ownsRow w8.heap.size 58 2 v11 (dropsF gl m ln (fun k => (qo k).xs) (k + 1)).length (dcells (dropsF gl m ln (fun k => (qo k).xs) (k + 1)))) := by
                          rw [HD2.out, List.length_append, dcells_append]; exact HO11.out
                        have HD3 : Hid (dropsF gl m ln (fun k => (qo k).xs) (k + 1) = dropsF gl m ln (fun k => (qo k).xs) (k + 1)) := rfl
                        clear HO11
                        have HB6X := hid (HB68.out.trans (HW11.out.mono HB68.out.size))
                        obtain ⟨ob, oof, rfl, co0⟩ := (HPO6.out.below HB6X.out) k hlt
                        have cO : w11.cell? ⟨ob, oof + k, none⟩ = some (.pointer (some ⟨Po k, 0, none⟩)) := co0
                        have cW2 : w11.cell? ⟨wb, wof + k, none⟩ = some (.slice (some ⟨ub, uo, none⟩) L uc) := by
                          obtain ⟨b', o', e, c, _⟩ := (HMS6.out.below HB6X.out) k hlt
                          cases e
                          rw [← HMU.out]; exact c
                        have hqk : QAt w11.drew _ (Po k) _ _ _ (qo k).xs _ := QAt.below ((HQO6.out.below HB6X.out).at_ k hlt) (show Below w11.heap.size w11 w11.drew from ⟨rfl, rfl, rfl, Nat.le_refl _, fun _ _ => rfl⟩)
                        have HLI := hid (qlist_any _ (Po k) _ _ _ _ _ w11.drew hqk (by have := HLX.out k hlt; omega))
                        rw [HLL.out] at HLI
                        have hur : Row w11 (some ⟨ub, uo, none⟩) L (fun j => .int .i64 ((qo k).xs.getD j 0)) := HUR.out.below HB6X.out
                        have HUR2 := hid hur
                        clear co0 hqk hur
                        go_wp2
                        refine wp_region_chain [4, 9, 10] (fun Y => Below w11.heap.size w11 Y) (by kernel_rfl) (by kernel_rfl) (by exact (Below.refl w11.heap.size w11).trans ⟨rfl, rfl, rfl, Nat.le_refl _, fun _ _ => rfl⟩) ?_
                        repeat (first | refine wpFl_chain (by rfl) ?_ | (refine wpFl_still (by rfl) (by rfl) (fun K hK => ?_); go_simp; (refine ⟨_, fun _ _ => rfl, hK _ ?_⟩; clear hK K)))
                        refine wpFl_still (by rfl) (by rfl) (fun K hK => ?_)
                        go_simp
                        refine ⟨.pointer (some ⟨Po k, 0, none⟩), fun Y hY => ?_, hK _ ?_⟩
                        · have cY := (hY.cell (cell_lt cO)).trans cO
                          go_simp
                        clear hK K
                        repeat (first | refine wpFl_chain (by rfl) ?_ | (refine wpFl_still (by rfl) (by rfl) (fun K hK => ?_); go_simp; (refine ⟨_, fun _ _ => rfl, hK _ ?_⟩; clear hK K)))
                        refine wpFl_still (by rfl) (by rfl) (fun K hK => ?_)
                        go_simp
                        refine ⟨.slice (some ⟨ub, uo, none⟩) L uc, fun Y hY => ?_, hK _ ?_⟩
                        · have cY := (hY.cell (cell_lt cW2)).trans cW2
                          go_simp
                        clear hK K
                        repeat refine wpFl_chain (by rfl) ?_
                        refine wpFl_nil ?_
                        have bd : Below w11.heap.size w11 w11.drew := ⟨rfl, rfl, rfl, Nat.le_refl _, fun _ _ => rfl⟩
                        refine wpTl_on (by rfl) (fun K hK => ?_)
                        go_wp2_with fail
                        refine HLI.out.mono ?_
                        rintro e Y1 ⟨u1, rfl, o1, b1⟩
                        have B1 := bd.trans b1
                        rw [← HLL.out] at o1
                        obtain ⟨xo, xc, e1, _, _, hxr, _⟩ := vi_view o1
                        rw [HLL.out] at hxr e1
                        subst e1
                        have HEQ := hid (equalI_any xo (some ⟨ub, uo, none⟩) L L xc uc _ _ Y1 hxr (HUR2.out.below B1) (by have := HLX.out k hlt; have := HLL.out; omega))
                        rw [eqL_all (fun _ _ => rfl)] at HEQ
                        clear o1 hxr HLI
                        go_wp2_with fail
                        refine hK _ _ B1 ?_
                        clear hK K
                        refine wpTl_on (by rfl) (fun K hK => ?_)
                        go_wp2_with fail
                        refine HEQ.out.mono ?_
                        rintro e Y2 ⟨rfl, b2⟩
                        have B2 := B1.trans (b2.mono B1.size)
                        clear b2 b1 HEQ
                        go_wp2_with fail
                        refine hK _ _ B2 ?_
                        clear hK K
                        refine wpTl_on (by rfl) (fun K hK => ?_)
                        go_wp2_with fail
                        refine hK _ _ B2 ?_
                        clear hK K
                        refine wpTl_nil ?_
                        have HWZ := hid (HW11.out.trans (B2.mono HW11.out.size))
                        have HWTZ := hid (own_save2 HWT11.out (Save.of_below B2 fun _ => False) fun _ _ => id)
                        have HDRZ := hid (own_save2 HDR11.out (Save.of_below B2 fun _ => False) fun _ _ => id)
                        go_wp2
                        go_roundw
                        case rel => exact ⟨k + 1, putN V j ⟨some ⟨ub, uo + ov, none⟩, uc - ov, (qo k).xs.drop ov⟩, by go_num, by omega, HWTZ, HVS, by first | exact HDRZ.out | (rw [HD3.out]; exact HDRZ.out), HWZ⟩
                        case measure => simp [intOf]; omega
                · obtain rfl : k = i := by omega
                  have t0 : decide ((k : Int) < (k : Int)) = false := by simp
                  go_wp2
                  obtain ⟨W12, hW12⟩ : ∃ W, W = wr := ⟨_, rfl⟩
                  subst hW12
                  have HB6R := hid (HB68.out.trans (HWR.out.mono HB68.out.size))
                  go_loopw [18] (fun q_ wq => ∃ q : Nat, q_ = .int .i64 q ∧ q ≤ ln ∧ Hid (Below W12.heap.size W12 wq)) (fun q_ _ => ln - (intOf q_).toNat)
                  case atStart => exact ⟨0, rfl, Nat.zero_le _, Below.refl _ _⟩
                  case round =>
                    obtain ⟨q, rfl, hqn, HQW⟩ := hrel
                    by_cases hql : q < ln
                    · have t0 : decide ((q : Int) < (ln : Int)) = true := by simp; omega
                      have HB6Q := hid (HB6R.out.trans (HQW.out.mono HB6R.out.size))
                      obtain ⟨vb, vof, rfl, cN0⟩ := (HPN.out.below HB6Q.out) q hql
                      have cN : wr.cell? ⟨vb, vof + q, none⟩ = some (.pointer (some ⟨P q, 0, none⟩)) := cN0
                      have cwq : wr.cell? ⟨w8.heap.size, q, none⟩ = some (mv (V q)) := ((own_save2 HWT.out (Save.of_below HQW.out fun _ => False) fun _ _ => id).cellAt q (by omega)).trans (mrows_at V hql)
                      obtain ⟨hVm, hVx⟩ := HV.out q hql
                      obtain ⟨⟨na, nc, nx⟩, hV⟩ : ∃ r, V q = r := ⟨_, rfl⟩
                      rw [hV] at cwq hVm hVx
                      simp only at hVx
                      obtain ⟨L, hL⟩ : ∃ L, nx.length = L := ⟨_, rfl⟩
                      have cW : wr.cell? ⟨w8.heap.size, q, none⟩ = some (.slice na L nc) := by rw [cwq]; unfold mv; rw [hL]
                      have hVr : Row wr na L (fun j => .int .i64 (nx.getD j 0)) := by
                        have h := hVm.1.below HB6Q.out
                        rw [← hL]; exact h
                      obtain ⟨s1, s2, s3⟩ := HST6.out q hql
                      have hcp := (rightB_is.1 (HRL.out.2 q hql)).1
                      obtain ⟨bs, hqq⟩ : ∃ bs, QAt wr bs (P q) (gl q 0) (gl q 1) (q' q).v nx (q' q).d := by
                        have h := (HQN.out.below HB6Q.out).at_ q hql
                        have h2 : QAt wr _ (P q) (((q' q).cap : Nat) : Int) (q' q).pol (q' q).v (q' q).xs (q' q).d := h
                        rw [s1, s2, s3, ← hVx, show (((gl q 0).toNat : Nat) : Int) = gl q 0 by omega] at h2
                        exact ⟨_, h2⟩
                      obtain ⟨lb, lof, rfl, cl0, cl1⟩ := (HSL.out.below (HB6.out.trans (HB6Q.out.mono HB6.out.size))) q hql
                      have bd : Below wr.heap.size wr wr.drew := ⟨rfl, rfl, rfl, Nat.le_refl _, fun _ _ => rfl⟩
                      have HSE := hid (qset_any _ (P q) (gl q 0) (gl q 1) _ _ _ wr.drew (hqq.below bd))
                      have HQQ := hid hqq
                      have HLQ := hid hL
                      have HVR := hid hVr
                      have hL100 : L ≤ 1000 := by
                        rw [← hL, hVx]
                        exact filled_len HLX.out
                      have j0' : (0 : Int) ≤ (q : Int) := by omega
                      have j1 : (q : Int) < (ln : Int) := by omega
                      generalize gl q 0 = ga at cl0 HSE HQQ
                      generalize gl q 1 = gb at cl1 HSE HQQ
                      clear cwq hVm hVx hV hL hVr s1 s2 s3 hqq cN0 hcp
                      go_wp2
                      refine wp_region_free [10, 15, 16, 17, 18, 19, 20, 21, 22, 23, 24, 25, 26, 27, 28, 29] (fun X => Below wr.heap.size wr X) (by kernel_rfl) (by kernel_rfl) (by exact bd) ?_
                      repeat (first | refine wpFl_chain (by rfl) ?_ | (refine wpFl_still (by rfl) (by rfl) (fun K hK => ?_); go_simp; (refine ⟨_, fun _ _ => rfl, hK _ ?_⟩; clear hK K)))
                      refine wpFl_still (by rfl) (by rfl) (fun K hK => ?_)
                      go_simp
                      refine ⟨.pointer (some ⟨P q, 0, none⟩), fun X hX => ?_, hK _ ?_⟩
                      · have cX := (hX.cell (cell_lt cN)).trans cN
                        go_simp
                      clear hK K
                      repeat (first | refine wpFl_chain (by rfl) ?_ | (refine wpFl_still (by rfl) (by rfl) (fun K hK => ?_); go_simp; (refine ⟨_, fun _ _ => rfl, hK _ ?_⟩; clear hK K)))
                      refine wpFl_still (by rfl) (by rfl) (fun K hK => ?_)
                      go_simp
                      refine ⟨.pointer (some ⟨P q, 0, none⟩), fun X hX => ?_, hK _ ?_⟩
                      · have cX := (hX.cell (cell_lt cN)).trans cN
                        go_simp
                      clear hK K
                      repeat (first | refine wpFl_chain (by rfl) ?_ | (refine wpFl_still (by rfl) (by rfl) (fun K hK => ?_); go_simp; (refine ⟨_, fun _ _ => rfl, hK _ ?_⟩; clear hK K)))
                      refine wpFl_still (by rfl) (by rfl) (fun K hK => ?_)
                      go_simp
                      refine ⟨.agg #[.int .i64 ga, .int .i64 gb], fun X hX => ?_, hK _ ?_⟩
                      · have cX := (hX.cell (cell_lt cl0)).trans cl0
                        have cX2 := (hX.cell (cell_lt cl1)).trans cl1
                        go_simp
                      clear hK K
                      repeat (first | refine wpFl_chain (by rfl) ?_ | (refine wpFl_still (by rfl) (by rfl) (fun K hK => ?_); go_simp; (refine ⟨_, fun _ _ => rfl, hK _ ?_⟩; clear hK K)))
                      refine wpFl_nil ?_
                      refine wpTs_1 (i := 10) (rem1 := [15, 16, 17, 18, 19, 20, 21, 22, 23, 24, 25, 26, 27, 28, 29]) (by kernel_rfl) (by rfl) (by rfl) (fun K hK => ?_)
                      go_wp2_with fail
                      refine HSE.out.mono ?_
                      rintro e Y1 ⟨rfl, b1⟩
                      have B1 := bd.trans b1
                      go_wp2_with fail
                      refine hK _ _ B1 ?_
                      clear hK K HSE
                      refine wpTs_1 (i := 15) (rem1 := [16, 17, 18, 19, 20, 21, 22, 23, 24, 25, 26, 27, 28, 29]) (by kernel_rfl) (by rfl) (by rfl) (fun K hK => ?_)
                      go_wp2_with fail
                      refine hK _ _ B1 ?_
                      clear hK K
                      refine wpTs_1 (i := 16) (rem1 := [17, 18, 19, 20, 21, 22, 23, 24, 25, 26, 27, 28, 29]) (by kernel_rfl) (by rfl) (by rfl) (fun K hK => ?_)
                      go_wp2_with fail
                      refine hK _ _ B1 ?_
                      clear hK K
                      refine wpTs_1 (i := 17) (rem1 := [18, 19, 20, 21, 22, 23, 24, 25, 26, 27, 28, 29]) (by kernel_rfl) (by rfl) (by rfl) (fun K hK => ?_)
                      go_wp2_with fail
                      refine hK _ _ B1 ?_
                      clear hK K
                      refine wpTs_still (m := 11) (i := 18) (rem1 := [19, 20, 21, 22, 23, 24, 25, 26, 27, 28, 29]) rfl (by kernel_rfl) (by rfl) (by rfl) B1 (by rfl) (fun K hK => ?_)
                      go_simp
                      refine ⟨_, fun _ _ => rfl, hK _ ?_⟩
                      clear hK K
                      refine wpTs_still (m := 10) (i := 19) (rem1 := [20, 21, 22, 23, 24, 25, 26, 27, 28, 29]) rfl (by kernel_rfl) (by rfl) (by rfl) B1 (by rfl) (fun K hK => ?_)
                      go_simp
                      refine ⟨_, fun _ _ => rfl, hK _ ?_⟩
                      clear hK K
                      refine wpTs_still (m := 9) (i := 20) (rem1 := [21, 22, 23, 24, 25, 26, 27, 28, 29]) rfl (by kernel_rfl) (by rfl) (by rfl) B1 (by rfl) (fun K hK => ?_)
                      go_simp
                      refine ⟨_, fun _ _ => rfl, hK _ ?_⟩
                      clear hK K
                      refine wpTs_still (m := 8) (i := 21) (rem1 := [22, 23, 24, 25, 26, 27, 28, 29]) rfl (by kernel_rfl) (by rfl) (by rfl) B1 (by rfl) (fun K hK => ?_)
                      go_simp
                      refine ⟨.pointer (some ⟨P q, 0, none⟩), fun X hX => ?_, hK _ ?_⟩
                      · have cX := (hX.cell (cell_lt cN)).trans cN
                        go_simp
                      clear hK K
                      refine wpTs_still (m := 7) (i := 23) (rem1 := [22, 24, 25, 26, 27, 28, 29]) rfl (by kernel_rfl) (by rfl) (by rfl) B1 (by rfl) (fun K hK => ?_)
                      go_simp
                      refine ⟨_, fun _ _ => rfl, hK _ ?_⟩
                      clear hK K
                      refine wpTs_still (m := 6) (i := 24) (rem1 := [22, 25, 26, 27, 28, 29]) rfl (by kernel_rfl) (by rfl) (by rfl) B1 (by rfl) (fun K hK => ?_)
                      go_simp
                      refine ⟨_, fun _ _ => rfl, hK _ ?_⟩
                      clear hK K
                      refine wpTs_still (m := 5) (i := 25) (rem1 := [22, 26, 27, 28, 29]) rfl (by kernel_rfl) (by rfl) (by rfl) B1 (by rfl) (fun K hK => ?_)
                      go_simp
                      refine ⟨_, fun _ _ => rfl, hK _ ?_⟩
                      clear hK K
                      refine wpTs_still (m := 4) (i := 26) (rem1 := [22, 27, 28, 29]) rfl (by kernel_rfl) (by rfl) (by rfl) B1 (by rfl) (fun K hK => ?_)
                      go_simp
                      refine ⟨.slice na L nc, fun X hX => ?_, hK _ ?_⟩
                      · have cX := (hX.cell (cell_lt cW)).trans cW
                        go_simp
                      clear hK K
                      have HLI := hid (qlist_any _ (P q) _ _ _ _ _ Y1 (HQQ.out.below B1) (by rw [HLQ.out]; exact hL100))
                      refine wpTs_1 (i := 22) (rem1 := [27, 28, 29]) (by kernel_rfl) (by rfl) (by rfl) (fun K hK => ?_)
                      go_wp2_with fail
                      refine HLI.out.mono ?_
                      rintro e Y2 ⟨u2, rfl, o2, b2⟩
                      have B2 := B1.trans (b2.mono B1.size)
                      obtain ⟨xo, xc, e1, _, _, hxr, _⟩ := vi_view o2
                      rw [HLQ.out] at e1 hxr
                      subst e1
                      have HEQ := hid (equalI_any xo na L L xc nc _ _ Y2 hxr (HVR.out.below B2) (by omega))
                      rw [eqL_all (fun _ _ => rfl)] at HEQ
                      clear o2 hxr HLI b2
                      go_wp2_with fail
                      refine hK _ _ B2 ?_
                      clear hK K
                      refine wpTs_1 (i := 27) (rem1 := [28, 29]) (by kernel_rfl) (by rfl) (by rfl) (fun K hK => ?_)
                      go_wp2_with fail
                      refine HEQ.out.mono ?_
                      rintro e Y3 ⟨rfl, b3⟩
                      have B3 := B2.trans (b3.mono B2.size)
                      go_wp2_with fail
                      refine hK _ _ B3 ?_
                      clear hK K HEQ b3
                      refine wpTs_1 (i := 28) (rem1 := [29]) (by kernel_rfl) (by rfl) (by rfl) (fun K hK => ?_)
                      go_wp2_with fail
                      refine hK _ _ B3 ?_
                      clear hK K
                      refine wpTs_1 (i := 29) (rem1 := []) (by kernel_rfl) (by rfl) (by rfl) (fun K hK => ?_)
                      go_wp2_with fail
                      refine hK _ _ B3 ?_
                      clear hK K
                      refine wpTs_0 ?_
                      have HQW2 := hid (HQW.out.trans (B3.mono HQW.out.size))
                      go_wp2
                      go_roundw
                      case rel => exact ⟨q + 1, by go_num, by omega, HQW2⟩
                      case measure => simp [intOf]; omega
                    · obtain rfl : q = ln := by omega
                      have t0 : decide ((q : Int) < (q : Int)) = false := by simp
                      have HB6Q := hid (HB6R.out.trans (HQW.out.mono HB6R.out.size))
                      obtain ⟨da, dca, rfl, hda⟩ := drow_own HDR6.out
                      obtain ⟨db, dcb, rfl, hdb⟩ := drow_own HDR.out
                      have HEQ := hid (equalD_any da db _ dca dcb (dropsF gl m q (fun k => (qo k).xs) k) wr rfl (by have := drops_len gl m q (fun k => (qo k).xs) k; omega) (hda.out.below HB6Q.out) (hdb.out.below HQW.out))
                      clear hda hdb
                      go_wp2_with fail
                      refine HEQ.out.mono ?_
                      rintro e Z1 ⟨rfl, z1⟩
                      have HZ1 := hid (HB6.out.trans ((HB6Q.out.trans (z1.mono HB6Q.out.size)).mono HB6.out.size))
                      clear z1 HEQ
                      go_wp2_with fail
                      refine (migAlive_any _).mono ?_
                      rintro e Z2 ⟨rfl, z2⟩
                      have HZ2 := hid (HZ1.out.trans (z2.mono HZ1.out.size))
                      go_wp2
                      go_ret
                      exact ⟨rfl, HZ2.out⟩
          · have HMO := hid (move_bad oo lo i oc ln lc gl m wr (by omega) HSM hRL)
            have HRL := hid hRL
            unfold arr4 at HMO
            clear HPM HQM HSM hRL
            go_wp2_with fail
            refine HMO.out.mono ?_
            rintro e w6 ⟨rfl, b6⟩
            have HB6 := hid (HBW.out.trans (b6.mono HBW.out.size))
            have HRT2 := hid (right29_any lo ln lc gl w6 (by omega) (HSL.out.below HB6.out))
            unfold moveBad
            clear b6 HMO
            go_wp2_with fail
            refine HRT2.out.mono ?_
            rintro e w7 ⟨r, rfl, hr, b7⟩
            have hrf : r = false := by
              cases r with
              | false => rfl
              | true => exact absurd (hr.1 rfl) HRL.out
            subst hrf
            have HB7 := hid (HB6.out.trans (b7.mono HB6.out.size))
            clear HRT2 hr b7
            go_wp2_with fail
            refine (migAlive_any _).mono ?_
            rintro e w9 ⟨rfl, b9⟩
            have HB9 := hid (HB7.out.trans (b9.mono HB7.out.size))
            go_wp2
            go_ret
            exact ⟨rfl, HB9.out⟩
end Go.Proofs.Ytmkpimdbmjpelaa
