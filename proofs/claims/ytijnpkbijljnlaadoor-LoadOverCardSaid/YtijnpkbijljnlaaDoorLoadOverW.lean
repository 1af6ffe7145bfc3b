/-
  The law that a set that asks for more than all time has one that is late: the walk.
-/
import Derived.Test.YtijnpkbijljnlaaDoorLoadRounds
import Derived.Test.YtijnpkbijljnlaaDoorLoadResp
namespace Go.Proofs.YtijnpkbijljnlaaDoor
open Go.RowKit Go.Shelf
attribute [local go_sem] stillAt
theorem mod_succ (s i : Nat) : s % 2 ^ (i + 1) = s % 2 ^ i + (if s.testBit i then 2 ^ i else 0) := by
  rw [Nat.mod_pow_succ, Nat.testBit_eq_decide_div_mod_eq]
  have := Nat.mod_two_eq_zero_or_one (s / 2 ^ i)
  rcases this with h | h <;> simp [h]
/-- A set that asks for more than all time has one that is late. -/
theorem over_key {g : Nat → Nat → Int} {s n : Nat} {m : Int} (hn : n ≤ 16) (hm : 1 ≤ m) (hO : ∀ j ∈ selT s n, g j 0 ∣ m ∧ 1 ≤ g j 0 ∧ 1 ≤ g j 2 ∧ g j 1 ≤ g j 0) (hover : m < sumN g m (selT s n)) {r : Int} (h : ModeP g (s % 2 ^ n) n r) : 0 ≤ r := by
  rcases (show r < 0 ∨ 0 ≤ r by omega) with h0 | h0
  · exfalso
    by_cases he : selT s n = []
    · rw [he] at hover
      simp [sumN] at hover
      omega
    · obtain ⟨i, h1, h2, h3⟩ := selT_split (by omega) he
      have hb : (s % 2 ^ n).testBit i = true := by rw [Nat.testBit_mod_two_pow]; simp [h1, h2]
      obtain ⟨t, B, b0, b1, b2, b3⟩ := h h0 i h1 hb
      rw [selT_cut (by omega) (by omega)] at b3
      have hi := hO i (by rw [h3]; simp)
      have := over_late (g := g) (l := selT s i) (i := i) (N := m) (r := t) (B := B) hm (fun j hj => by
        have := hO j (by rw [h3]; exact hj)
        exact ⟨this.1, this.2.1, this.2.2.1⟩) b0 b1 (by omega) b3
      rw [h3] at hover
      omega
  · exact h0
set_option maxRecDepth 100000 in
set_option maxHeartbeats 2000000 in
theorem loadOver_walk (x : Img) (g : Nat → Nat → Int) (M : Nat → ModeR) (q : Nat → Nat → Nat → Int) (h : Nat → Nat → Int) (s : Nat) (w : World) (hs : s < 4294967296) (hx : ImgAt w x g M q h) (hTab : Tab w) :
    Calls Tryd.prog 6 #[iv x, .int .u32 s] w fun E w' => E = .returned (.bool true) ∧ Below w.heap.size w w' := by
  have HG := hid fun X (hX : Below w.heap.size w X) => great10_any x M X hx.mn (hx.modes.below hX)
  have HR := hid fun X (hX : Below w.heap.size w X) => right10_any x g M q h X (hx.below hX)
  have HRd := hid fun X (hX : Below w.heap.size w X) => round_any x g s X hs (hx.tasks.below hX) (hTab.below hX hTab.pos)
  have HMo := hid fun (u : Nat) X (hX : Below w.heap.size w X) (hF : RightF x g) => mode_any x g u X hF (hx.tasks.below hX)
  have HOv := hid fun X (hX : Below w.heap.size w X) => over_any x g s X hs (hx.tasks.below hX) (hTab.below hX hTab.pos)
  have HAl := hid fun X (hX : Below w.heap.size w X) => alive37_any X (hTab.below hX hTab.pos)
  have HT := hid hx.tasks
  clear hx hTab
  obtain ⟨r, ao, n, cap, mo, mn, mc, eo, en, ec⟩ := x
  unfold iv at HG HR HRd HMo HOv ⊢
  dsimp only at HG HR HRd HMo HOv HT ⊢
  have hb1 : Below w.heap.size w (w.alloc (Obj.cells #[.int .i64 r, .slice ao n cap, .slice mo mn mc, .slice eo en ec] 26)) := (Below.refl _ _).alloc (Nat.le_refl _) _
  have HI := hid (heap_alloc_new w (Obj.cells #[.int .i64 r, .slice ao n cap, .slice mo mn mc, .slice eo en ec] 26))
  have bI := HI.out
  have c0 := blk_cell bI 0
  have c1 := blk_cell bI 1
  have c2 := blk_cell bI 2
  have c3 := blk_cell bI 3
  go_enter Tryd.func6, Tryd.ntmps6
  go_wp2_with fail
  refine (HG.out _ hb1).mono ?_
  rintro e w2 ⟨rr, rfl, _, hb2⟩
  have B2 := hb1.trans (hb2.mono hb1.size)
  have I2 := (hb2.block _ (Array.getElem?_eq_some_iff.1 bI).1).trans bI
  clear c0 c1 c2 c3 bI HG
  cases rr
  case true =>
    go_wp2_with fail
    go_ret
    exact ⟨rfl, B2⟩
  have c0 := blk_cell I2 0
  have c1 := blk_cell I2 1
  have c2 := blk_cell I2 2
  have c3 := blk_cell I2 3
  go_wp2_with fail
  refine (HR.out _ B2).mono ?_
  rintro e w3 ⟨rr, rfl, hf, hb3⟩
  have B3 := B2.trans (hb3.mono B2.size)
  have I3 := (hb3.block _ (Array.getElem?_eq_some_iff.1 I2).1).trans I2
  clear c0 c1 c2 c3 I2 HR
  cases rr
  case false =>
    go_wp2_with fail
    go_ret
    exact ⟨rfl, B3⟩
  have HF := hid (hf rfl)
  clear hf hb2 hb3 B2
  have c0 := blk_cell I3 0
  have c1 := blk_cell I3 1
  have c2 := blk_cell I3 2
  have c3 := blk_cell I3 3
  go_wp2_with fail
  refine (HRd.out _ B3).mono ?_
  rintro e w4 ⟨rfl, hb4⟩
  have B4 := B3.trans (hb4.mono B3.size)
  have I4 := (hb4.block _ (Array.getElem?_eq_some_iff.1 I3).1).trans I3
  clear c0 c1 c2 c3 I3 HRd hb4 B3
  have HB4 := hid B4
  have HI4 := hid I4
  have hn16 := HF.out.n2
  dsimp only at hn16
  have HTK := hid fun i (hi : i < n) => HF.out.tasks i hi
  clear I4
  obtain ⟨⟨m, ok⟩, hx⟩ : ∃ y, roundR (fun i => g i 0) (selT s n) = y := ⟨_, rfl⟩
  rw [hx]
  have hxx : roundF (fun i => g i 0) 1 (selT s n) = if ok then some m else none := by
    unfold roundR at hx
    split at hx
    · rename_i y hy; cases hx; rw [hy]; rfl
    · rename_i hy; cases hx; rw [hy]; rfl
  have hm0 : ok = false → m = 0 := fun e => by
    subst e
    unfold roundR at hx
    split at hx
    · cases hx
    · cases hx; rfl
  have HM0 := hid hm0
  have HXX := hid hxx
  clear hm0 hxx hx
  cases ok
  case false =>
    obtain rfl : m = 0 := HM0.out rfl
    go_wp2_with (go_at_call 17; refine (HAl.out _ HB4.out).mono ?_; rintro e w6 ⟨rfl, hb6⟩)
    go_ret
    exact ⟨rfl, HB4.out.trans (hb6.mono HB4.out.size)⟩
  have hrm : roundF (fun i => g i 0) 1 (selT s n) = some m := by simpa using HXX.out
  have hlaw := round_law _ _ 1 m (by omega) (by omega) hrm
  have m1 := hlaw.2.2.2.1
  have m2 := hlaw.2.2.2.2
  have hdv := hid hlaw.2.1
  clear hlaw HXX HM0
  by_cases hm24 : m ≤ 16777216
  case neg =>
    have t24 : decide (16777216 < m) = true := by simp; omega
    go_wp2_with (go_at_call 17; refine (HAl.out _ HB4.out).mono ?_; rintro e w6 ⟨rfl, hb6⟩)
    go_ret
    exact ⟨rfl, HB4.out.trans (hb6.mono HB4.out.size)⟩
  have t24 : decide (16777216 < m) = false := by simp; omega
  have hOK := hid fun (j : Nat) (hj : j ∈ selT s n) => (show 1 ≤ g j 0 ∧ g j 0 ≤ 4096 ∧ 1 ≤ g j 2 ∧ g j 2 ≤ g j 0 ∧ g j 1 ≤ g j 0 from by
    have h := HTK.out j ((mem_selT (by omega)).1 hj).1
    have := h.p1; have := h.p2; have := h.c1; have := h.c2; have := h.d2
    omega)
  obtain ⟨p, q, _, _, _, _, _, _, hov, _⟩ := exact_all hrm hm24 (by have := selT_length s n (by omega); omega) fun j hj => ⟨(hOK.out j hj).1, (hOK.out j hj).2.1, (hOK.out j hj).2.2.1, (hOK.out j hj).2.2.2.1⟩
  clear hrm
  rw [hov] at HOv
  clear hov
  have c0 := blk_cell HI4.out 0
  have c1 := blk_cell HI4.out 1
  have c2 := blk_cell HI4.out 2
  have c3 := blk_cell HI4.out 3
  by_cases hover : m < sumN g m (selT s n)
  case neg =>
    rw [show decide (m < sumN g m (selT s n)) = false by simp; omega] at HOv
    clear hover hOK hdv
    go_wp2_with fail
    refine (HOv.out _ HB4.out).mono ?_
    rintro e w5 ⟨rfl, hb5⟩
    have HB5 := hid (HB4.out.trans (hb5.mono HB4.out.size))
    go_wp2_with (go_at_call 17; refine (HAl.out _ HB5.out).mono ?_; rintro e w6 ⟨rfl, hb6⟩)
    go_ret
    exact ⟨rfl, HB5.out.trans (hb6.mono HB5.out.size)⟩
  rw [show decide (m < sumN g m (selT s n)) = true by simp [hover]] at HOv
  have HKEY := hid fun r (h : ModeP g (s % 2 ^ n) n r) => over_key hn16 m1 (fun j hj => ⟨(hdv.out j hj).1, (hOK.out j hj).1, (hOK.out j hj).2.2.1, (hOK.out j hj).2.2.2.2⟩) hover h
  clear hover hOK hdv
  go_wp2_with fail
  refine (HOv.out _ HB4.out).mono ?_
  rintro e w5 ⟨rfl, hb5⟩
  have HB5 := hid (HB4.out.trans (hb5.mono HB4.out.size))
  have HI5 := hid ((hb5.block _ (Array.getElem?_eq_some_iff.1 HI4.out).1).trans HI4.out)
  clear hb5 c0 c1 c2 c3 HOv
  go_wp2
  have HZ0 : Hid ((0 : Nat) = s % 2 ^ 0) := by show (0 : Nat) = s % 1; omega
  go_loopw [7, 8] (fun z_ i_ wr => ∃ (z i : Nat), i ≤ n ∧ z_ = .int .u32 z ∧ i_ = .int .i64 i ∧ Hid (z = s % 2 ^ i) ∧ w5 = wr) (fun _ i_ _ => n - (intOf i_).toNat)
  case atStart => exact ⟨0, 0, by omega, rfl, rfl, HZ0, rfl⟩
  case round =>
    clear HZ0
    obtain ⟨z, i, hi, rfl, rfl, HA, rfl⟩ := hrel
    have c1 := blk_cell HI5.out 1
    by_cases hlt : i < n
    · have t0 : decide ((i : Int) < (n : Int)) = true := by simp; omega
      have HH := hid fun X => has_bit s i (by omega) X
      cases hbt : s.testBit i
      · rw [hbt] at HH
        have HA2 : Hid (z = s % 2 ^ (i + 1)) := by rw [mod_succ, hbt, ← HA.out]; exact rfl
        clear hbt
        go_wp2_with (go_at_call 11; refine (HH.out _).mono ?_; rintro e w' ⟨rfl, rfl⟩)
        go_roundw
        case rel => exact ⟨z, i + 1, by omega, rfl, by go_num, HA2, trivial⟩
        case measure => simp [intOf]; omega
      · rw [hbt] at HH
        have HA2 : Hid ((z + 2 ^ i % 4294967296) % 4294967296 = s % 2 ^ (i + 1)) := by
          have h1 : z + 2 ^ i = s % 2 ^ (i + 1) := by rw [mod_succ, hbt, ← HA.out]; rfl
          have h2 : s % 2 ^ (i + 1) < 2 ^ (i + 1) := Nat.mod_lt _ (Nat.two_pow_pos _)
          have h3 : 2 ^ (i + 1) ≤ 2 ^ 16 := Nat.pow_le_pow_right (by omega) (by omega)
          have h4 : 2 ^ 16 = 65536 := by decide
          show (z + 2 ^ i % 4294967296) % 4294967296 = s % 2 ^ (i + 1)
          omega
        clear hbt
        go_wp2_with (go_at_call 11; refine (HH.out _).mono ?_; rintro e w' ⟨rfl, rfl⟩)
        go_roundw
        case rel => exact ⟨(z + 2 ^ i % 4294967296) % 4294967296, i + 1, by omega, by go_num, by go_num, HA2, trivial⟩
        case measure => simp [intOf]; omega
    · obtain rfl : i = n := by omega
      have t0 : decide ((i : Int) < (i : Int)) = false := by simp
      have c0 := blk_cell HI5.out 0
      have c2 := blk_cell HI5.out 2
      have c3 := blk_cell HI5.out 3
      have HMz := hid (HMo.out z w5 HB5.out HF.out)
      rw [← HA.out] at HKEY
      go_wp2_with fail
      refine HMz.out.mono ?_
      rintro e w6 ⟨r6, rfl, hmp, hb6⟩
      have hr6 := HKEY.out r6 hmp
      have t6 : decide (0 ≤ r6) = true := by simp [hr6]
      have HB6 := hid (HB5.out.trans (hb6.mono HB5.out.size))
      clear hmp hb6
      go_wp2_with (go_at_call 17; refine (HAl.out _ HB6.out).mono ?_; rintro e w7 ⟨rfl, hb7⟩)
      go_ret
      exact ⟨rfl, HB6.out.trans (hb7.mono HB6.out.size)⟩
end Go.Proofs.YtijnpkbijljnlaaDoor
