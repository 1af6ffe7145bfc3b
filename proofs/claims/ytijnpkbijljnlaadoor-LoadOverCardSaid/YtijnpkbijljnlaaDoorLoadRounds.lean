/-
  The law on the round of a set's periods: the walk.
-/
import Derived.Test.YtijnpkbijljnlaaDoorLoadDiv
namespace Go.Proofs.YtijnpkbijljnlaaDoor
open Go.RowKit Go.Shelf
attribute [local go_sem] stillAt
theorem ofS_bdL (g : Nat → Nat → Int) (s n : Nat) (hn : n ≤ 16) : 0 ≤ ofS g (selT s n) ∧ ofS g (selT s n) ≤ 65536000 := by
  have h1 := ofS_bd g (selT s n)
  have h2 := selT_length s n (by omega)
  omega
theorem ofS_succ {g : Nat → Nat → Int} {s n : Nat} (hn : n < 32) (h : s.testBit n = true) : ofS g (selT s (n + 1)) = ofS g (selT s n) + ofV (g n) := by
  rw [selT_succ s n hn, if_pos h, ofS_snoc]
set_option maxRecDepth 100000 in
set_option maxHeartbeats 2000000 in
theorem loadRounds_walk (x : Img) (g : Nat → Nat → Int) (M : Nat → ModeR) (q : Nat → Nat → Nat → Int) (h : Nat → Nat → Int) (s : Nat) (w : World) (hs : s < 4294967296) (hx : ImgAt w x g M q h) (hTab : Tab w) :
    Calls Tryd.prog 4 #[iv x, .int .u32 s] w fun E w' => E = .returned (.bool true) ∧ Below w.heap.size w w' := by
  have HG := hid fun X (hX : Below w.heap.size w X) => great10_any x M X hx.mn (hx.modes.below hX)
  have HR := hid fun X (hX : Below w.heap.size w X) => right10_any x g M q h X (hx.below hX)
  have HRd := hid fun X (hX : Below w.heap.size w X) => round_any x g s X hs (hx.tasks.below hX) (hTab.below hX hTab.pos)
  have HOf := hid fun X (hX : Below w.heap.size w X) => of37_any x g s X hs (hx.tasks.below hX) (hTab.below hX hTab.pos)
  have HAl := hid fun X (hX : Below w.heap.size w X) => alive37_any X (hTab.below hX hTab.pos)
  have HDv := hid fun (m : Int) X (hX : Below w.heap.size w X) (hF : RightF x g) (h0 : 0 ≤ m) (h1 : m ≤ 1099511627776) => divided_any x g s m X h0 h1 hF.n2 (hx.tasks.below hX) fun i hi => ⟨(hF.tasks i hi).p1, (hF.tasks i hi).p2⟩
  have HT := hid hx.tasks
  clear hx hTab
  obtain ⟨r, ao, n, cap, mo, mn, mc, eo, en, ec⟩ := x
  unfold iv at HG HR HRd HOf HDv ⊢
  dsimp only at HG HR HRd HOf HDv HT ⊢
  have hb1 : Below w.heap.size w (w.alloc (Obj.cells #[.int .i64 r, .slice ao n cap, .slice mo mn mc, .slice eo en ec] 26)) := (Below.refl _ _).alloc (Nat.le_refl _) _
  have HI := hid (heap_alloc_new w (Obj.cells #[.int .i64 r, .slice ao n cap, .slice mo mn mc, .slice eo en ec] 26))
  have bI := HI.out
  have c0 := blk_cell bI 0
  have c1 := blk_cell bI 1
  have c2 := blk_cell bI 2
  have c3 := blk_cell bI 3
  go_enter Tryd.func4, Tryd.ntmps4
  go_wp2_with fail
  refine (HG.out _ hb1).mono ?_
  rintro e w2 ⟨rr, rfl, _, hb2⟩
  have B2 := hb1.trans (hb2.mono hb1.size)
  have I2 := (hb2.block _ (Array.getElem?_eq_some_iff.1 bI).1).trans bI
  clear c0 c1 c2 c3 bI HG
  cases rr
  case true =>
    go_wp2_with fail
    go_ret
    exact ⟨rfl, B2⟩
  have c0 := blk_cell I2 0
  have c1 := blk_cell I2 1
  have c2 := blk_cell I2 2
  have c3 := blk_cell I2 3
  go_wp2_with fail
  refine (HR.out _ B2).mono ?_
  rintro e w3 ⟨rr, rfl, hf, hb3⟩
  have B3 := B2.trans (hb3.mono B2.size)
  have I3 := (hb3.block _ (Array.getElem?_eq_some_iff.1 I2).1).trans I2
  clear c0 c1 c2 c3 I2 HR
  cases rr
  case false =>
    go_wp2_with fail
    go_ret
    exact ⟨rfl, B3⟩
  have HF := hid (hf rfl)
  clear hf hb2 hb3 B2
  have c0 := blk_cell I3 0
  have c1 := blk_cell I3 1
  have c2 := blk_cell I3 2
  have c3 := blk_cell I3 3
  go_wp2_with fail
  refine (HRd.out _ B3).mono ?_
  rintro e w4 ⟨rfl, hb4⟩
  have B4 := B3.trans (hb4.mono B3.size)
  have I4 := (hb4.block _ (Array.getElem?_eq_some_iff.1 I3).1).trans I3
  clear c0 c1 c2 c3 I3 HRd hb4 B3
  have HB4 := hid B4
  have HI4 := hid I4
  have hn16 := HF.out.n2
  dsimp only at hn16
  have HTK := hid fun i (hi : i < n) => HF.out.tasks i hi
  clear I4
  obtain ⟨⟨m, ok⟩, hx⟩ : ∃ y, roundR (fun i => g i 0) (selT s n) = y := ⟨_, rfl⟩
  rw [hx]
  have hxx : roundF (fun i => g i 0) 1 (selT s n) = if ok then some m else none := by
    unfold roundR at hx
    split at hx
    · rename_i y hy; cases hx; rw [hy]; rfl
    · rename_i hy; cases hx; rw [hy]; rfl
  have hm0 : ok = false → m = 0 := fun e => by
    subst e
    unfold roundR at hx
    split at hx
    · cases hx
    · cases hx; rfl
  have HM0 := hid hm0
  have HXX := hid hxx
  clear hm0 hxx hx
  cases ok
  · obtain rfl : m = 0 := HM0.out rfl
    go_wp2
    go_loopw [7, 8, 9] (fun a_ s_ i_ wr => ∃ (S : Int) (b : Bool) (i : Nat), i ≤ n ∧ a_ = .int .i64 S ∧ s_ = .bool b ∧ i_ = .int .i64 i ∧ Hid (S = ofS g (selT s i) ∧ b = !(selT s i).isEmpty) ∧ Below w4.heap.size w4 wr) (fun _ _ i_ _ => n - (intOf i_).toNat)
    case atStart => exact ⟨0, false, 0, by omega, rfl, rfl, rfl, (by rw [selT_zero]; exact ⟨rfl, rfl⟩ : _ ∧ _), Below.refl _ _⟩
    case round =>
      obtain ⟨S, b, i, hi, rfl, rfl, rfl, HA, hbr⟩ := hrel
      have bI := (hbr.block _ (Array.getElem?_eq_some_iff.1 HI4.out).1).trans HI4.out
      have c1 := blk_cell bI 1
      have HBX := hid (HB4.out.trans (hbr.mono HB4.out.size))
      by_cases hlt : i < n
      · have t0 : decide ((i : Int) < (n : Int)) = true := by simp; omega
        have t32 : decide (i < 32) = true := by simp; omega
        have HH : Hid (∀ X, Calls Tryd.prog 11 #[.int .u32 s, .int .i64 i] X fun e w' => e = .returned (.bool (s.testBit i)) ∧ w' = X) := fun X => by
          have := has10_any s i (by unfold maxLen; omega) X
          rw [t32, Bool.true_and] at this
          exact this
        clear t32
        cases hbt : s.testBit i
        · rw [hbt] at HH
          have HA2 : Hid (S = ofS g (selT s (i + 1)) ∧ b = !(selT s (i + 1)).isEmpty) := by rw [selT_succ s i (by omega), hbt]; exact HA.out
          clear hbt
          go_wp2_with (go_at_call 11; refine (HH.out _).mono ?_; rintro e w' ⟨rfl, rfl⟩)
          go_roundw
          case rel => exact ⟨S, b, i + 1, by omega, rfl, rfl, by go_num, HA2, hbr⟩
          case measure => simp [intOf]; omega
        · rw [hbt] at HH
          have hO := HTK.out i hlt
          have hV := ofV_part hO
          have HA2 : Hid (S + (1000 * g i 2 + g i 0 - 1) / g i 0 = ofS g (selT s (i + 1)) ∧ true = !(selT s (i + 1)).isEmpty) := by
            rw [ofS_succ (by omega) hbt, ofV_ok hO, ← HA.out.1, selT_succ s i (by omega), hbt]
            exact ⟨rfl, by simp⟩
          have hS := ofS_bdL g s i (by omega)
          rw [← HA.out.1] at hS
          have hDV := hid (show True from trivial)
          have HTW := hid (HT.out.below HBX.out)
          obtain ⟨bt, ot, rfl, _⟩ := HT.out i hlt
          obtain ⟨⟨p0, p1, p2, p3⟩, ⟨p4, p5, p6, p7⟩, p8, p9, p10⟩ := HTW.out.at_ hlt
          have q1 := hO.p1
          have q2 := hO.p2
          have q3 := hO.c1
          have q4 : g i 2 ≤ 4096 := by have := hO.c2; have := hO.d2; omega
          have i0' : (0 : Int) ≤ (i : Int) := by omega
          have i1 : (i : Int) < (n : Int) := by omega
          clear hbt hO HTW
          generalize g i 0 = P at p0 q1 q2 hV HA2 hDV
          generalize g i 2 = C at p2 q3 q4 hV HA2
          have hP0 : (P == 0) = false := by simp; omega
          obtain ⟨V, hVV⟩ : ∃ V, (1000 * C + P - 1) / P = V := ⟨_, rfl⟩
          have k1 : IntKind.i64.wrap (1000 * C) = 1000 * C := IntWalk.i64_in _ (by omega)
          rw [hVV] at HA2 hV
          skip
          go_wp2_with (go_at_call 11; refine (HH.out _).mono ?_; rintro e w' ⟨rfl, rfl⟩)
          go_roundw
          case rel => exact ⟨S + V, true, i + 1, by omega, rfl, rfl, by go_num, HA2, hbr.alloc hbr.size _⟩
          case measure => simp [intOf]; omega
      · obtain rfl : i = n := by omega
        have t0 : decide ((i : Int) < (i : Int)) = false := by simp
        have c0 := blk_cell bI 0
        have c2 := blk_cell bI 2
        have c3 := blk_cell bI 3
        have HOS : Hid (∀ X, Below w.heap.size w X → Calls Tryd.prog 15 #[.agg #[.int .i64 r, .slice ao i cap, .slice mo mn mc, .slice eo en ec], .int .u32 s] X fun e W' => e = .returned (.int .i64 S) ∧ Below X.heap.size X W') := fun X hX => by
          have := HOf.out X hX
          rw [← HA.out.1] at this
          exact this
        have HEM : Hid (b = false → selT s i = []) := fun hb => by
          have := HA.out.2
          rw [hb] at this
          simpa using this
        have tS : (S != S) = false := by simp
        clear HOf HA
        obtain rfl : b = true := by
          cases b
          · have := HXX.out
            rw [HEM.out rfl] at this
            simp [roundF] at this
          · rfl
        go_wp2_with (go_at_call 15; refine (HOS.out _ HBX.out).mono ?_; rintro e w5 ⟨rfl, hb5⟩)
        go_loopw [11] (fun d_ wr => ∃ d : Int, d_ = .int .i64 d ∧ Below w.heap.size w wr) (fun d_ _ => 0)
        case atStart => exact ⟨2, rfl, HBX.out.trans (hb5.mono HBX.out.size)⟩
        case round =>
          obtain ⟨d, rfl, hbr⟩ := hrel
          go_wp2_with (go_at_call 17; refine (HAl.out _ hbr).mono ?_; rintro e w6 ⟨rfl, hb6⟩)
          go_ret
          exact ⟨rfl, hbr.trans (hb6.mono hbr.size)⟩
  · have HLW := hid (round_law _ _ 1 m (by omega) (by omega) (HXX.out.trans (if_pos rfl)))
    have HDM : Hid (∀ i ∈ selT s n, m % g i 0 = 0) := fun i hi => Int.emod_eq_zero_of_dvd (HLW.out.2.1 i hi).1
    go_wp2
    go_loopw [7, 8, 9] (fun a_ s_ i_ wr => ∃ (S : Int) (b : Bool) (i : Nat), i ≤ n ∧ a_ = .int .i64 S ∧ s_ = .bool b ∧ i_ = .int .i64 i ∧ Hid (S = ofS g (selT s i) ∧ b = !(selT s i).isEmpty) ∧ Below w4.heap.size w4 wr) (fun _ _ i_ _ => n - (intOf i_).toNat)
    case atStart => exact ⟨0, false, 0, by omega, rfl, rfl, rfl, (by rw [selT_zero]; exact ⟨rfl, rfl⟩ : _ ∧ _), Below.refl _ _⟩
    case round =>
      obtain ⟨S, b, i, hi, rfl, rfl, rfl, HA, hbr⟩ := hrel
      have bI := (hbr.block _ (Array.getElem?_eq_some_iff.1 HI4.out).1).trans HI4.out
      have c1 := blk_cell bI 1
      have HBX := hid (HB4.out.trans (hbr.mono HB4.out.size))
      by_cases hlt : i < n
      · have t0 : decide ((i : Int) < (n : Int)) = true := by simp; omega
        have t32 : decide (i < 32) = true := by simp; omega
        have HH : Hid (∀ X, Calls Tryd.prog 11 #[.int .u32 s, .int .i64 i] X fun e w' => e = .returned (.bool (s.testBit i)) ∧ w' = X) := fun X => by
          have := has10_any s i (by unfold maxLen; omega) X
          rw [t32, Bool.true_and] at this
          exact this
        clear t32
        cases hbt : s.testBit i
        · rw [hbt] at HH
          have HA2 : Hid (S = ofS g (selT s (i + 1)) ∧ b = !(selT s (i + 1)).isEmpty) := by rw [selT_succ s i (by omega), hbt]; exact HA.out
          clear hbt
          go_wp2_with (go_at_call 11; refine (HH.out _).mono ?_; rintro e w' ⟨rfl, rfl⟩)
          go_roundw
          case rel => exact ⟨S, b, i + 1, by omega, rfl, rfl, by go_num, HA2, hbr⟩
          case measure => simp [intOf]; omega
        · rw [hbt] at HH
          have hO := HTK.out i hlt
          have hV := ofV_part hO
          have HA2 : Hid (S + (1000 * g i 2 + g i 0 - 1) / g i 0 = ofS g (selT s (i + 1)) ∧ true = !(selT s (i + 1)).isEmpty) := by
            rw [ofS_succ (by omega) hbt, ofV_ok hO, ← HA.out.1, selT_succ s i (by omega), hbt]
            exact ⟨rfl, by simp⟩
          have hS := ofS_bdL g s i (by omega)
          rw [← HA.out.1] at hS
          have hDV := hid (show m % g i 0 = 0 from HDM.out i ((mem_selT (by omega)).2 ⟨hlt, hbt⟩))
          have HTW := hid (HT.out.below HBX.out)
          obtain ⟨bt, ot, rfl, _⟩ := HT.out i hlt
          obtain ⟨⟨p0, p1, p2, p3⟩, ⟨p4, p5, p6, p7⟩, p8, p9, p10⟩ := HTW.out.at_ hlt
          have q1 := hO.p1
          have q2 := hO.p2
          have q3 := hO.c1
          have q4 : g i 2 ≤ 4096 := by have := hO.c2; have := hO.d2; omega
          have i0' : (0 : Int) ≤ (i : Int) := by omega
          have i1 : (i : Int) < (n : Int) := by omega
          clear hbt hO HTW
          generalize g i 0 = P at p0 q1 q2 hV HA2 hDV
          generalize g i 2 = C at p2 q3 q4 hV HA2
          have hP0 : (P == 0) = false := by simp; omega
          obtain ⟨V, hVV⟩ : ∃ V, (1000 * C + P - 1) / P = V := ⟨_, rfl⟩
          have k1 : IntKind.i64.wrap (1000 * C) = 1000 * C := IntWalk.i64_in _ (by omega)
          rw [hVV] at HA2 hV
          have t5 : (m % P != 0) = false := by rw [hDV.out]; rfl
          have m1 := HLW.out.2.2.2.1
          have m2 := HLW.out.2.2.2.2
          go_wp2_with (go_at_call 11; refine (HH.out _).mono ?_; rintro e w' ⟨rfl, rfl⟩)
          go_roundw
          case rel => exact ⟨S + V, true, i + 1, by omega, rfl, rfl, by go_num, HA2, hbr.alloc hbr.size _⟩
          case measure => simp [intOf]; omega
      · obtain rfl : i = n := by omega
        have t0 : decide ((i : Int) < (i : Int)) = false := by simp
        have c0 := blk_cell bI 0
        have c2 := blk_cell bI 2
        have c3 := blk_cell bI 3
        have HOS : Hid (∀ X, Below w.heap.size w X → Calls Tryd.prog 15 #[.agg #[.int .i64 r, .slice ao i cap, .slice mo mn mc, .slice eo en ec], .int .u32 s] X fun e W' => e = .returned (.int .i64 S) ∧ Below X.heap.size X W') := fun X hX => by
          have := HOf.out X hX
          rw [← HA.out.1] at this
          exact this
        have HEM : Hid (b = false → selT s i = []) := fun hb => by
          have := HA.out.2
          rw [hb] at this
          simpa using this
        have tS : (S != S) = false := by simp
        clear HOf HA
        have m1 := HLW.out.2.2.2.1
        have m2 := HLW.out.2.2.2.2
        have tm1 : decide (m < 1) = false := by simp; omega
        have tm2 : decide (1099511627776 < m) = false := by simp; omega
        cases b
        case false =>
          obtain rfl : m = 1 := by
            have := HXX.out
            rw [HEM.out rfl] at this
            simpa [roundF] using this.symm
          go_wp2_with (go_at_call 15; refine (HOS.out _ HBX.out).mono ?_; rintro e w5 ⟨rfl, hb5⟩)
          go_loopw [11] (fun d_ wr => ∃ d : Int, d_ = .int .i64 d ∧ Below w.heap.size w wr) (fun d_ _ => 0)
          case atStart => exact ⟨2, rfl, HBX.out.trans (hb5.mono HBX.out.size)⟩
          case round =>
            obtain ⟨d, rfl, hbr⟩ := hrel
            go_wp2_with (go_at_call 17; refine (HAl.out _ hbr).mono ?_; rintro e w6 ⟨rfl, hb6⟩)
            go_ret
            exact ⟨rfl, hbr.trans (hb6.mono hbr.size)⟩
        case true =>
          go_wp2_with (go_at_call 15; refine (HOS.out _ HBX.out).mono ?_; rintro e w5 ⟨rfl, hb5⟩)
          have HB45 := hid (hbr.trans (hb5.mono hbr.size))
          clear hbr hb5 HBX bI c0 c1 c2 c3
          have HLE : Hid (∀ d, 2 ≤ d → m % d = 0 → ¬ ∀ j ∈ selT s i, m / d % g j 0 = 0) := fun d h2 hd ha => round_least (by have := HXX.out; simpa using this) h2 hd ha
          go_loopw [11] (fun d_ wr => ∃ d : Int, 2 ≤ d ∧ d ≤ 4200 ∧ d_ = .int .i64 d ∧ Below w4.heap.size w4 wr) (fun d_ _ => (4200 - intOf d_).toNat)
          case atStart => exact ⟨2, by omega, by omega, rfl, HB45.out⟩
          case round =>
            obtain ⟨d, hd2, hd3, rfl, hbr⟩ := hrel
            have HBX := hid (HB4.out.trans (hbr.mono HB4.out.size))
            by_cases hlt : d < 4200
            · have t7 : decide (d < 4200) = true := by simp [hlt]
              have tD0 : (d == 0) = false := by simp; omega
              have bI := (hbr.block _ (Array.getElem?_eq_some_iff.1 HI4.out).1).trans HI4.out
              have c0 := blk_cell bI 0
              have c1 := blk_cell bI 1
              have c2 := blk_cell bI 2
              have c3 := blk_cell bI 3
              by_cases hmd : m % d = 0
              · have t8 : (m % d == 0) = true := by simp [hmd]
                have HLD := hid (HLE.out d hd2 hmd)
                have hq0 : 0 ≤ m / d := Int.ediv_nonneg (by omega) (by omega)
                have hq1 : m / d ≤ 1099511627776 := by have := Int.ediv_le_self d (show 0 ≤ m by omega); omega
                have HDd := hid fun X (hX : Below w.heap.size w X) => HDv.out (m / d) X hX HF.out hq0 hq1
                clear hmd
                go_wp2
                refine wp_region_chain [10, 11] (fun X => Below wr.heap.size wr X) (by kernel_rfl) (by kernel_rfl) (by exact ⟨rfl, rfl, rfl, Nat.le_refl _, fun _ _ => rfl⟩) ?_
                refine wpFl_still (by rfl) (by rfl) (fun K hK => ?_)
                go_simp
                refine ⟨_, fun _ _ => rfl, hK _ ?_⟩
                clear hK K
                refine wpFl_still (by rfl) (by rfl) (fun K hK => ?_)
                go_simp
                refine ⟨_, fun _ _ => rfl, hK _ ?_⟩
                clear hK K
                refine wpFl_still (by rfl) (by rfl) (fun K hK => ?_)
                go_simp
                refine ⟨.int .i64 (m % d), fun X hX => by rw [if_neg (show ¬ d = 0 by omega), Int.tmod_eq_emod_of_nonneg (show 0 ≤ m by omega)], hK _ ?_⟩
                clear hK K
                refine wpFl_still (by rfl) (by rfl) (fun K hK => ?_)
                go_simp
                refine ⟨_, fun _ _ => rfl, hK _ ?_⟩
                clear hK K
                refine wpFl_still (by rfl) (by rfl) (fun K hK => ?_)
                go_simp
                refine ⟨_, fun _ _ => rfl, hK _ ?_⟩
                clear hK K
                refine wpFl_still (by rfl) (by rfl) (fun K hK => ?_)
                go_simp
                refine ⟨.agg #[.int .i64 r, .slice ao i cap, .slice mo mn mc, .slice eo en ec], fun X hX => ?_, hK _ ?_⟩
                · have z0 := kept c0 hX
                  have z1 := kept c1 hX
                  have z2 := kept c2 hX
                  have z3 := kept c3 hX
                  go_simp
                clear hK K
                refine wpFl_still (by rfl) (by rfl) (fun K hK => ?_)
                go_simp
                refine ⟨_, fun _ _ => rfl, hK _ ?_⟩
                clear hK K
                refine wpFl_still (by rfl) (by rfl) (fun K hK => ?_)
                go_simp
                refine ⟨_, fun _ _ => rfl, hK _ ?_⟩
                clear hK K
                refine wpFl_still (by rfl) (by rfl) (fun K hK => ?_)
                go_simp
                refine ⟨_, fun _ _ => rfl, hK _ ?_⟩
                clear hK K
                refine wpFl_still (by rfl) (by rfl) (fun K hK => ?_)
                go_simp
                refine ⟨.int .i64 (m / d), fun X hX => by rw [if_neg (show ¬ d = 0 by omega), Int.tdiv_eq_ediv_of_nonneg (show 0 ≤ m by omega), IntWalk.i64_in _ (by omega)], hK _ ?_⟩
                clear hK K
                repeat (refine wpFl_chain (by rfl) ?_)
                refine wpFl_nil ?_
                refine wpTl_on (by rfl) (fun K hK => ?_)
                go_wp2_with fail
                refine (HDd.out _ (below_drew HBX.out)).mono ?_
                rintro e w6 ⟨dv, rfl, hdv, hb6⟩
                obtain rfl : dv = false := by
                  cases dv
                  · rfl
                  · exact absurd (hdv rfl) HLD.out
                have hb6' : Below wr.heap.size wr w6 := ⟨hb6.os, hb6.tape, hb6.output, hb6.size, hb6.block⟩
                clear hdv hb6 HDd
                go_wp2_with fail
                refine hK _ _ hb6' ?_
                clear hK K
                refine wpTl_on (by rfl) (fun K hK => ?_)
                go_wp2_with fail
                refine hK _ _ hb6' ?_
                clear hK K
                refine wpTl_nil ?_
                go_wp2
                go_roundw
                case rel => exact ⟨d + 1, by omega, by omega, rfl, hbr.trans (hb6'.mono hbr.size)⟩
                case measure => simp [intOf]; omega
              · have t8 : (m % d == 0) = false := by simp [hmd]
                clear hmd
                go_wp2
                go_quiet (fail)
                go_wp2
                go_roundw
                case rel => exact ⟨d + 1, by omega, by omega, rfl, hbr.trans ⟨rfl, rfl, rfl, Nat.le_refl _, fun _ _ => rfl⟩⟩
                case measure => simp [intOf]; omega
            · have t7 : decide (d < 4200) = false := by simp; omega
              go_wp2_with (go_at_call 17; refine (HAl.out _ HBX.out).mono ?_; rintro e w6 ⟨rfl, hb6⟩)
              go_ret
              exact ⟨rfl, HBX.out.trans (hb6.mono HBX.out.size)⟩
end Go.Proofs.YtijnpkbijljnlaaDoor
