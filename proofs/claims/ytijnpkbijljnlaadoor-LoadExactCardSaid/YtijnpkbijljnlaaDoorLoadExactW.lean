/-
  The law on the exact part of all time: the walk.
-/
import Derived.Test.YtijnpkbijljnlaaDoorLoadRounds
namespace Go.Proofs.YtijnpkbijljnlaaDoor
open Go.RowKit Go.Shelf
attribute [local go_sem] stillAt
theorem sumN_bd {g : Nat → Nat → Int} {N : Int} (hN : 0 ≤ N) : ∀ l : List Nat, (∀ j ∈ l, 1 ≤ g j 0 ∧ 1 ≤ g j 2 ∧ g j 2 ≤ g j 0) → 0 ≤ sumN g N l ∧ sumN g N l ≤ N * l.length
  | [], _ => by simp [sumN]
  | j :: l, h => by
    have ih := sumN_bd hN l fun k hk => h k (by simp [hk])
    obtain ⟨h1, h2, h3⟩ := h j (by simp)
    have hq := Int.ediv_nonneg hN (show 0 ≤ g j 0 by omega)
    have a1 := Int.mul_nonneg (show 0 ≤ g j 2 by omega) hq
    have a2 := Int.mul_le_mul_of_nonneg_right h3 hq
    have a3 := Int.mul_ediv_self_le (x := N) (k := g j 0) (by omega)
    rw [sumN_cons, List.length_cons, Int.natCast_add, Int.mul_add]
    omega
theorem part_bd {N P C : Int} (hN : 0 ≤ N) (h1 : 1 ≤ P) (h2 : 1 ≤ C) (h3 : C ≤ P) : 0 ≤ N / P ∧ N / P ≤ N ∧ 0 ≤ C * (N / P) ∧ C * (N / P) ≤ N := by
  have hq := Int.ediv_nonneg hN (show 0 ≤ P by omega)
  have a1 := Int.mul_nonneg (show 0 ≤ C by omega) hq
  have a2 := Int.mul_le_mul_of_nonneg_right h3 hq
  have a3 := Int.mul_ediv_self_le (x := N) (k := P) (by omega)
  exact ⟨hq, Int.ediv_le_self _ hN, a1, by omega⟩
set_option maxRecDepth 100000 in
set_option maxHeartbeats 2000000 in
theorem loadExact_walk (x : Img) (g : Nat → Nat → Int) (M : Nat → ModeR) (q : Nat → Nat → Nat → Int) (h : Nat → Nat → Int) (s : Nat) (w : World) (hs : s < 4294967296) (hx : ImgAt w x g M q h) (hTab : Tab w) :
    Calls Tryd.prog 5 #[iv x, .int .u32 s] w fun E w' => E = .returned (.bool true) ∧ Below w.heap.size w w' := by
  have HG := hid fun X (hX : Below w.heap.size w X) => great10_any x M X hx.mn (hx.modes.below hX)
  have HR := hid fun X (hX : Below w.heap.size w X) => right10_any x g M q h X (hx.below hX)
  have HRd := hid fun X (hX : Below w.heap.size w X) => round_any x g s X hs (hx.tasks.below hX) (hTab.below hX hTab.pos)
  have HEx := hid fun X (hX : Below w.heap.size w X) => exact_any x g s X hs (hx.tasks.below hX) (hTab.below hX hTab.pos)
  have HOv := hid fun X (hX : Below w.heap.size w X) => over_any x g s X hs (hx.tasks.below hX) (hTab.below hX hTab.pos)
  have HAl := hid fun X (hX : Below w.heap.size w X) => alive37_any X (hTab.below hX hTab.pos)
  have HT := hid hx.tasks
  clear hx hTab
  obtain ⟨r, ao, n, cap, mo, mn, mc, eo, en, ec⟩ := x
  unfold iv at HG HR HRd HEx HOv ⊢
  dsimp only at HG HR HRd HEx HOv HT ⊢
  have hb1 : Below w.heap.size w (w.alloc (Obj.cells #[.int .i64 r, .slice ao n cap, .slice mo mn mc, .slice eo en ec] 26)) := (Below.refl _ _).alloc (Nat.le_refl _) _
  have HI := hid (heap_alloc_new w (Obj.cells #[.int .i64 r, .slice ao n cap, .slice mo mn mc, .slice eo en ec] 26))
  have bI := HI.out
  have c0 := blk_cell bI 0
  have c1 := blk_cell bI 1
  have c2 := blk_cell bI 2
  have c3 := blk_cell bI 3
  go_enter Tryd.func5, Tryd.ntmps5
  go_wp2_with fail
  refine (HG.out _ hb1).mono ?_
  rintro e w2 ⟨rr, rfl, _, hb2⟩
  have B2 := hb1.trans (hb2.mono hb1.size)
  have I2 := (hb2.block _ (Array.getElem?_eq_some_iff.1 bI).1).trans bI
  clear c0 c1 c2 c3 bI HG
  cases rr
  case true =>
    go_wp2_with fail
    go_ret
    exact ⟨rfl, B2⟩
  have c0 := blk_cell I2 0
  have c1 := blk_cell I2 1
  have c2 := blk_cell I2 2
  have c3 := blk_cell I2 3
  go_wp2_with fail
  refine (HR.out _ B2).mono ?_
  rintro e w3 ⟨rr, rfl, hf, hb3⟩
  have B3 := B2.trans (hb3.mono B2.size)
  have I3 := (hb3.block _ (Array.getElem?_eq_some_iff.1 I2).1).trans I2
  clear c0 c1 c2 c3 I2 HR
  cases rr
  case false =>
    go_wp2_with fail
    go_ret
    exact ⟨rfl, B3⟩
  have HF := hid (hf rfl)
  clear hf hb2 hb3 B2
  have c0 := blk_cell I3 0
  have c1 := blk_cell I3 1
  have c2 := blk_cell I3 2
  have c3 := blk_cell I3 3
  go_wp2_with fail
  refine (HRd.out _ B3).mono ?_
  rintro e w4 ⟨rfl, hb4⟩
  have B4 := B3.trans (hb4.mono B3.size)
  have I4 := (hb4.block _ (Array.getElem?_eq_some_iff.1 I3).1).trans I3
  clear c0 c1 c2 c3 I3 HRd hb4 B3
  have HB4 := hid B4
  have HI4 := hid I4
  have hn16 := HF.out.n2
  dsimp only at hn16
  have HTK := hid fun i (hi : i < n) => HF.out.tasks i hi
  clear I4
  obtain ⟨⟨m, ok⟩, hx⟩ : ∃ y, roundR (fun i => g i 0) (selT s n) = y := ⟨_, rfl⟩
  rw [hx]
  have hxx : roundF (fun i => g i 0) 1 (selT s n) = if ok then some m else none := by
    unfold roundR at hx
    split at hx
    · rename_i y hy; cases hx; rw [hy]; rfl
    · rename_i hy; cases hx; rw [hy]; rfl
  have hm0 : ok = false → m = 0 := fun e => by
    subst e
    unfold roundR at hx
    split at hx
    · cases hx
    · cases hx; rfl
  have HM0 := hid hm0
  have HXX := hid hxx
  clear hm0 hxx hx
  cases ok
  case false =>
    obtain rfl : m = 0 := HM0.out rfl
    go_wp2_with (go_at_call 17; refine (HAl.out _ HB4.out).mono ?_; rintro e w6 ⟨rfl, hb6⟩)
    go_ret
    exact ⟨rfl, HB4.out.trans (hb6.mono HB4.out.size)⟩
  have hrm : roundF (fun i => g i 0) 1 (selT s n) = some m := by simpa using HXX.out
  have hlaw := round_law _ _ 1 m (by omega) (by omega) hrm
  have m1 := hlaw.2.2.2.1
  have m2 := hlaw.2.2.2.2
  clear hlaw HXX HM0
  by_cases hm24 : m ≤ 16777216
  case neg =>
    have t24 : decide (16777216 < m) = true := by simp; omega
    go_wp2_with (go_at_call 17; refine (HAl.out _ HB4.out).mono ?_; rintro e w6 ⟨rfl, hb6⟩)
    go_ret
    exact ⟨rfl, HB4.out.trans (hb6.mono HB4.out.size)⟩
  have t24 : decide (16777216 < m) = false := by simp; omega
  have hOK := hid fun (j : Nat) (hj : j ∈ selT s n) => (show 1 ≤ g j 0 ∧ g j 0 ≤ 4096 ∧ 1 ≤ g j 2 ∧ g j 2 ≤ g j 0 from by
    have h := HTK.out j ((mem_selT (by omega)).1 hj).1
    have := h.p1; have := h.p2; have := h.c1; have := h.c2; have := h.d2
    omega)
  obtain ⟨p, q, hex, q1, hmq, p0, hqm, hps, hov, hgc⟩ := exact_all hrm hm24 (by have := selT_length s n (by omega); omega) hOK.out
  clear hrm
  rw [hex] at HEx
  rw [hov] at HOv
  have HMQ := hid hmq
  have HGC := hid hgc
  have HPS := hid hps
  clear hex hov hmq hgc hps hOK
  go_wp2
  have HS0 : Hid ((0 : Int) = sumN g m (selT s 0)) := by rw [selT_zero]; rfl
  go_loopw [7, 8] (fun a_ i_ wr => ∃ (S : Int) (i : Nat), i ≤ n ∧ a_ = .int .i64 S ∧ i_ = .int .i64 i ∧ Hid (S = sumN g m (selT s i)) ∧ Below w4.heap.size w4 wr) (fun _ i_ _ => n - (intOf i_).toNat)
  case atStart => exact ⟨0, 0, by omega, rfl, rfl, HS0, Below.refl _ _⟩
  case round =>
    clear HS0
    obtain ⟨S, i, hi, rfl, rfl, HA, hbr⟩ := hrel
    have bI := (hbr.block _ (Array.getElem?_eq_some_iff.1 HI4.out).1).trans HI4.out
    have HBX := hid (HB4.out.trans (hbr.mono HB4.out.size))
    have c1 := blk_cell bI 1
    have hS : 0 ≤ S ∧ S ≤ m * 16 := by
      have h1 := sumN_bd (g := g) (N := m) (by omega) (selT s i) fun j hj => by
        have h := HTK.out j (by have := ((mem_selT (by omega)).1 hj).1; omega)
        have := h.p1; have := h.c1; have := h.c2; have := h.d2
        omega
      rw [← HA.out] at h1
      have h2 := selT_length s i (by omega)
      have h3 : m * ((selT s i).length : Int) ≤ m * 16 := Int.mul_le_mul_of_nonneg_left (by omega) (by omega)
      omega
    by_cases hlt : i < n
    · have t0 : decide ((i : Int) < (n : Int)) = true := by simp; omega
      have t32 : decide (i < 32) = true := by simp; omega
      have HH : Hid (∀ X, Calls Tryd.prog 11 #[.int .u32 s, .int .i64 i] X fun e w' => e = .returned (.bool (s.testBit i)) ∧ w' = X) := fun X => by
        have := has10_any s i (by unfold maxLen; omega) X
        rw [t32, Bool.true_and] at this
        exact this
      clear t32
      cases hbt : s.testBit i
      · rw [hbt] at HH
        have HA2 : Hid (S = sumN g m (selT s (i + 1))) := by rw [selT_succ s i (by omega), hbt]; exact HA.out
        clear hbt
        go_wp2_with (go_at_call 11; refine (HH.out _).mono ?_; rintro e w' ⟨rfl, rfl⟩)
        go_roundw
        case rel => exact ⟨S, i + 1, by omega, rfl, by go_num, HA2, hbr⟩
        case measure => simp [intOf]; omega
      · rw [hbt] at HH
        have hO := HTK.out i hlt
        have q1' := hO.p1
        have q2' := hO.p2
        have q3' := hO.c1
        have q4' : g i 2 ≤ g i 0 := by have := hO.c2; have := hO.d2; omega
        have HA2 : Hid (S + g i 2 * (m / g i 0) = sumN g m (selT s (i + 1))) := by
          rw [selT_succ s i (by omega), hbt, if_pos rfl, sumN_snoc, ← HA.out]
          exact rfl
        have hpb := part_bd (show 0 ≤ m by omega) q1' q3' q4'
        have HTW := hid (HT.out.below HBX.out)
        obtain ⟨bt, ot, rfl, _⟩ := HT.out i hlt
        obtain ⟨⟨d0, _, d2, _⟩, _⟩ := HTW.out.at_ hlt
        have i0' : (0 : Int) ≤ (i : Int) := by omega
        have i1 : (i : Int) < (n : Int) := by omega
        clear hbt hO HTW
        generalize g i 0 = P at d0 q1' q2' q4' HA2 hpb
        generalize g i 2 = C at d2 q3' q4' HA2 hpb
        have hP0 : (P == 0) = false := by simp; omega
        obtain ⟨Q, hQ⟩ : ∃ Q, m / P = Q := ⟨_, rfl⟩
        obtain ⟨V, hV⟩ : ∃ V, C * Q = V := ⟨_, rfl⟩
        rw [hQ, hV] at hpb HA2
        go_wp2_with (go_at_call 11; refine (HH.out _).mono ?_; rintro e w' ⟨rfl, rfl⟩)
        go_quiet (fail)
        go_wp2
        go_roundw
        case rel => exact ⟨S + V, i + 1, by omega, rfl, by go_num, HA2, hbr.trans ⟨rfl, rfl, rfl, Nat.le_refl _, fun _ _ => rfl⟩⟩
        case measure => simp [intOf]; omega
    · obtain rfl : i = n := by omega
      have t0 : decide ((i : Int) < (i : Int)) = false := by simp
      have c0 := blk_cell bI 0
      have c2 := blk_cell bI 2
      have c3 := blk_cell bI 3
      have HPS2 := hid (HPS.out.trans HA.out.symm)
      rw [← HA.out] at HOv
      go_wp2_with fail
      refine (HEx.out _ HBX.out).mono ?_
      rintro e w5 ⟨rfl, hb5⟩
      unfold pv
      have b5 := hbr.trans (hb5.mono hbr.size)
      go_wp2
      have bP := heap_alloc_new w5 (Obj.cells #[.int .i64 p, .int .i64 q] 46)
      have b6 := b5.alloc b5.size (Obj.cells #[.int .i64 p, .int .i64 q] 46)
      obtain ⟨w6, hw6⟩ : ∃ X, X = w5.alloc (Obj.cells #[.int .i64 p, .int .i64 q] 46) := ⟨_, rfl⟩
      rw [← hw6] at bP b6 ⊢
      have HB6 := hid (HB4.out.trans (b6.mono HB4.out.size))
      have bI6 := (b6.block _ (Array.getElem?_eq_some_iff.1 HI4.out).1).trans HI4.out
      have HP6 := hid bP
      have HI6 := hid bI6
      clear c0 c1 c2 c3 bI hb5 b5 hbr HBX b6 hw6 HEx
      have c0 := blk_cell bI6 0
      have c1 := blk_cell bI6 1
      have c2 := blk_cell bI6 2
      have c3 := blk_cell bI6 3
      have e0 := blk_cell bP 0
      have e1 := blk_cell bP 1
      have tq1 : decide (q < 1) = false := by simp; omega
      have tSS : (S != S) = false := by simp
      have hmq0 : 0 ≤ m / q ∧ m / q ≤ m := ⟨Int.ediv_nonneg (by omega) (by omega), Int.ediv_le_self _ (by omega)⟩
      have HOvS := hid fun X (hX : Below w.heap.size w X) => HOv.out X hX
      refine wp_region_chain [28, 32, 33] (fun X => Below w6.heap.size w6 X) (by kernel_rfl) (by kernel_rfl) (by exact ⟨rfl, rfl, rfl, Nat.le_refl _, fun _ _ => rfl⟩) ?_
      refine wpFl_still (by rfl) (by rfl) (fun K hK => ?_)
      go_simp
      refine ⟨_, fun _ _ => rfl, hK _ ?_⟩
      clear hK K
      refine wpFl_still (by rfl) (by rfl) (fun K hK => ?_)
      go_simp
      refine ⟨_, fun _ _ => rfl, hK _ ?_⟩
      clear hK K
      refine wpFl_still (by rfl) (by rfl) (fun K hK => ?_)
      go_simp
      refine ⟨_, fun _ _ => rfl, hK _ ?_⟩
      clear hK K
      refine wpFl_still (by rfl) (by rfl) (fun K hK => ?_)
      go_simp
      refine ⟨_, fun _ _ => rfl, hK _ ?_⟩
      clear hK K
      refine wpFl_still (by rfl) (by rfl) (fun K hK => ?_)
      go_simp
      refine ⟨.int .i64 q, fun X hX => ?_, hK _ ?_⟩
      · have z0 := kept e1 hX
        go_simp
      clear hK K
      refine wpFl_still (by rfl) (by rfl) (fun K hK => ?_)
      go_simp
      refine ⟨_, fun _ _ => rfl, hK _ ?_⟩
      clear hK K
      refine wpFl_still (by rfl) (by rfl) (fun K hK => ?_)
      go_simp
      refine ⟨_, fun _ _ => rfl, hK _ ?_⟩
      clear hK K
      refine wpFl_still (by rfl) (by rfl) (fun K hK => ?_)
      go_simp
      refine ⟨_, fun _ _ => rfl, hK _ ?_⟩
      clear hK K
      refine wpFl_still (by rfl) (by rfl) (fun K hK => ?_)
      go_simp
      refine ⟨_, fun _ _ => rfl, hK _ ?_⟩
      clear hK K
      refine wpFl_still (by rfl) (by rfl) (fun K hK => ?_)
      go_simp
      refine ⟨_, fun _ _ => rfl, hK _ ?_⟩
      clear hK K
      refine wpFl_still (by rfl) (by rfl) (fun K hK => ?_)
      go_simp
      refine ⟨.int .i64 q, fun X hX => ?_, hK _ ?_⟩
      · have z0 := kept e1 hX
        go_simp
      clear hK K
      refine wpFl_still (by rfl) (by rfl) (fun K hK => ?_)
      go_simp
      refine ⟨.int .i64 0, fun X hX => by rw [if_neg (show ¬ q = 0 by omega), Int.tmod_eq_emod_of_nonneg (show 0 ≤ m by omega), HMQ.out], hK _ ?_⟩
      clear hK K
      refine wpFl_still (by rfl) (by rfl) (fun K hK => ?_)
      go_simp
      refine ⟨_, fun _ _ => rfl, hK _ ?_⟩
      clear hK K
      refine wpFl_still (by rfl) (by rfl) (fun K hK => ?_)
      go_simp
      refine ⟨_, fun _ _ => rfl, hK _ ?_⟩
      clear hK K
      refine wpFl_still (by rfl) (by rfl) (fun K hK => ?_)
      go_simp
      refine ⟨_, fun _ _ => rfl, hK _ ?_⟩
      clear hK K
      refine wpFl_still (by rfl) (by rfl) (fun K hK => ?_)
      go_simp
      refine ⟨_, fun _ _ => rfl, hK _ ?_⟩
      clear hK K
      refine wpFl_still (by rfl) (by rfl) (fun K hK => ?_)
      go_simp
      refine ⟨.int .i64 p, fun X hX => ?_, hK _ ?_⟩
      · have z0 := kept e0 hX
        go_simp
      clear hK K
      refine wpFl_still (by rfl) (by rfl) (fun K hK => ?_)
      go_simp
      refine ⟨_, fun _ _ => rfl, hK _ ?_⟩
      clear hK K
      refine wpFl_still (by rfl) (by rfl) (fun K hK => ?_)
      go_simp
      refine ⟨_, fun _ _ => rfl, hK _ ?_⟩
      clear hK K
      refine wpFl_still (by rfl) (by rfl) (fun K hK => ?_)
      go_simp
      refine ⟨.int .i64 q, fun X hX => ?_, hK _ ?_⟩
      · have z0 := kept e1 hX
        go_simp
      clear hK K
      refine wpFl_still (by rfl) (by rfl) (fun K hK => ?_)
      go_simp
      refine ⟨.int .i64 (m / q), fun X hX => by rw [if_neg (show ¬ q = 0 by omega), Int.tdiv_eq_ediv_of_nonneg (show 0 ≤ m by omega), IntWalk.i64_in _ (by omega)], hK _ ?_⟩
      clear hK K
      refine wpFl_still (by rfl) (by rfl) (fun K hK => ?_)
      go_simp
      refine ⟨.int .i64 S, fun X hX => by rw [HPS2.out, IntWalk.i64_in _ (by omega)], hK _ ?_⟩
      clear hK K
      refine wpFl_still (by rfl) (by rfl) (fun K hK => ?_)
      go_simp
      refine ⟨_, fun _ _ => rfl, hK _ ?_⟩
      clear hK K
      refine wpFl_still (by rfl) (by rfl) (fun K hK => ?_)
      go_simp
      refine ⟨.bool false, fun X hX => by simp, hK _ ?_⟩
      clear hK K
      refine wpFl_still (by rfl) (by rfl) (fun K hK => ?_)
      go_simp
      refine ⟨_, fun _ _ => rfl, hK _ ?_⟩
      clear hK K
      refine wpFl_still (by rfl) (by rfl) (fun K hK => ?_)
      go_simp
      refine ⟨_, fun _ _ => rfl, hK _ ?_⟩
      clear hK K
      refine wpFl_still (by rfl) (by rfl) (fun K hK => ?_)
      go_simp
      refine ⟨.agg #[.int .i64 r, .slice ao i cap, .slice mo mn mc, .slice eo en ec], fun X hX => ?_, hK _ ?_⟩
      · have z0 := kept c0 hX
        have z1 := kept c1 hX
        have z2 := kept c2 hX
        have z3 := kept c3 hX
        go_simp
      clear hK K
      refine wpFl_still (by rfl) (by rfl) (fun K hK => ?_)
      go_simp
      refine ⟨_, fun _ _ => rfl, hK _ ?_⟩
      clear hK K
      refine wpFl_chain (by rfl) ?_
      refine wpFl_still (by rfl) (by rfl) (fun K hK => ?_)
      go_simp
      refine ⟨_, fun _ _ => rfl, hK _ ?_⟩
      clear hK K
      refine wpFl_still (by rfl) (by rfl) (fun K hK => ?_)
      go_simp
      refine ⟨_, fun _ _ => rfl, hK _ ?_⟩
      clear hK K
      refine wpFl_still (by rfl) (by rfl) (fun K hK => ?_)
      go_simp
      refine ⟨_, fun _ _ => rfl, hK _ ?_⟩
      clear hK K
      refine wpFl_chain (by rfl) ?_
      refine wpFl_chain (by rfl) ?_
      refine wpFl_nil ?_
      refine wpTl_on (by rfl) (fun K hK => ?_)
      go_wp2_with fail
      refine (HOvS.out _ (below_drew HB6.out)).mono ?_
      rintro e w7 ⟨rfl, hb7⟩
      have hb7' : Below w6.heap.size w6 w7 := ⟨hb7.os, hb7.tape, hb7.output, hb7.size, hb7.block⟩
      clear hb7
      have HB7 := hid (HB6.out.trans (hb7'.mono HB6.out.size))
      have HP7 := hid ((hb7'.block _ (Array.getElem?_eq_some_iff.1 HP6.out).1).trans HP6.out)
      go_wp2_with fail
      refine hK _ _ hb7' ?_
      clear hK K
      refine wpTl_on (by rfl) (fun K hK => ?_)
      go_wp2_with fail
      refine hK _ _ hb7' ?_
      clear hK K
      refine wpTl_on (by rfl) (fun K hK => ?_)
      go_wp2_with fail
      refine hK _ _ hb7' ?_
      clear hK K
      refine wpTl_nil ?_
      clear e0 e1 c0 c1 c2 c3 bI6 bP hb7'
      go_wp2
      go_loopw [11] (fun d_ wr => ∃ d : Int, 2 ≤ d ∧ d ≤ 5000 ∧ d_ = .int .i64 d ∧ w7 = wr) (fun d_ _ => (5000 - intOf d_).toNat)
      case atStart => exact ⟨2, by omega, by omega, rfl, rfl⟩
      case round =>
        obtain ⟨d, hd2, hd3, rfl, rfl⟩ := hrel
        have e0 := blk_cell HP7.out 0
        have e1 := blk_cell HP7.out 1
        have tD0 : (d == 0) = false := by simp; omega
        by_cases hlt : d < 5000
        · have t7 : decide (d < 5000) = true := by simp [hlt]
          by_cases hdq : d ≤ q
          · have t9 : decide (d ≤ q) = true := by simp [hdq]
            by_cases hpd : p % d = 0
            · have t8 : (p % d == 0) = true := by simp [hpd]
              have t10 : (q % d == 0) = false := by
                cases h : (q % d == 0)
                · rfl
                · exact absurd (HGC.out d hd2 hpd (by simpa using h)) id
              clear hpd
              go_wp2
              go_roundw
              case rel => exact ⟨d + 1, by omega, by omega, rfl, trivial⟩
              case measure => simp [intOf]; omega
            · have t8 : (p % d == 0) = false := by simp [hpd]
              clear hpd
              go_wp2
              go_roundw
              case rel => exact ⟨d + 1, by omega, by omega, rfl, trivial⟩
              case measure => simp [intOf]; omega
          · have t9 : decide (d ≤ q) = false := by simp [hdq]
            go_wp2_with (go_at_call 17; refine (HAl.out _ HB7.out).mono ?_; rintro e w8 ⟨rfl, hb8⟩)
            go_ret
            exact ⟨rfl, HB7.out.trans (hb8.mono HB7.out.size)⟩
        · have t7 : decide (d < 5000) = false := by simp; omega
          go_wp2_with (go_at_call 17; refine (HAl.out _ HB7.out).mono ?_; rintro e w8 ⟨rfl, hb8⟩)
          go_ret
          exact ⟨rfl, HB7.out.trans (hb8.mono HB7.out.size)⟩
end Go.Proofs.YtijnpkbijljnlaaDoor
