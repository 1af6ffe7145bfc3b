/-
  Layer 48: the walk of AlarmPlays.
-/
import Derived.Test.YtdccpbnknfffaaaAlarmAlive
import Derived.Test.YtdccpbnknfffaaaAlarmRefTick
import Derived.Deep.CutBlock
namespace Go.Proofs.Ytdccpbnknfffaaa
open Go.RowKit Go.Maps
def OpsB (w : World) (ao : Option Addr) (n : Nat) (g : Nat → Nat → Int) : Prop := ∀ i, i < n → ∃ b o, ao = some ⟨b, o, none⟩ ∧ w.cell? ⟨b, o + i * 4, none⟩ = some (.int .i64 (g i 0)) ∧ w.cell? ⟨b, o + i * 4 + 1, none⟩ = some (.int .i64 (g i 1)) ∧ w.cell? ⟨b, o + i * 4 + 2, none⟩ = some (.int .i64 (g i 2)) ∧ w.cell? ⟨b, o + i * 4 + 3, none⟩ = some (.int .i64 (g i 3))
/-- The call, boxed. -/
def OB (W : World) (B ob : Nat) (k i t e : Int) : Prop := W.ownsRow B 55 4 (.slice (some ⟨ob, 0, none⟩) 1 1) 1 [.int .i64 k, .int .i64 i, .int .i64 t, .int .i64 e]
/-- What stands behind a call: the alarms, the document's rows. -/
structure PS (w : World) (k : Nat) (r : TL) (x : XL) (v u : Value) (W : World) : Prop where
  aa : AS W w.heap.size (w.heap.size + 2) w.heap.size (w.heap.size + 1) (65 * k) (fun j => w.heap.size ≤ j) r (evX x) (ctX x)
  rr : W.ownsRow (w.heap.size + 3) 43 2 v r.length (cells2 r)
  xx : W.ownsRow (w.heap.size + 3) 63 3 u x.length (cells3 x)
  b : XB (64 * (k : Int)) x
  l : x.length ≤ k
  f : ∀ y ∈ r, (kI y.1).wf = true
  bw : Below w.heap.size w W
theorem PS.below {w W W' : World} {k : Nat} {r : TL} {x : XL} {v u : Value} (h : PS w k r x v u W) (hb : Below W.heap.size W W') : PS w k r x v u W' :=
  ⟨h.aa.below hb, own_save h.rr (Save.of_below hb (fun _ => False)) fun _ _ h => h, own_save h.xx (Save.of_below hb (fun _ => False)) fun _ _ h => h, h.b, h.l, h.f, h.bw.trans (hb.mono h.bw.size)⟩
theorem OB.below {W W' : World} {B ob : Nat} {k i t e : Int} (h : OB W B ob k i t e) (hb : Below W.heap.size W W') : OB W' B ob k i t e := own_save h (Save.of_below hb (fun _ => False)) fun _ _ h => h
theorem OB.cells {W : World} {B ob : Nat} {k i t e : Int} (h : OB W B ob k i t e) : W.cell? ⟨ob, 0, none⟩ = some (.int .i64 k) ∧ W.cell? ⟨ob, 1, none⟩ = some (.int .i64 i) ∧ W.cell? ⟨ob, 2, none⟩ = some (.int .i64 t) ∧ W.cell? ⟨ob, 3, none⟩ = some (.int .i64 e) :=
  ⟨(World.ownsRow.cellAt h 0 (by omega)).trans rfl, (World.ownsRow.cellAt h 1 (by omega)).trans rfl, (World.ownsRow.cellAt h 2 (by omega)).trans rfl, (World.ownsRow.cellAt h 3 (by omega)).trans rfl⟩
theorem ob_new (W : World) {B : Nat} (hB : B ≤ W.heap.size) (k i t e : Int) : OB (W.alloc (Obj.cells #[.int .i64 k, .int .i64 i, .int .i64 t, .int .i64 e] 55)) B W.heap.size k i t e :=
  World.ownsRow_lit (base := B) (e := 55) (size := 4) W #[.int .i64 k, .int .i64 i, .int .i64 t, .int .i64 e] 1 hB (by unfold maxLen; omega) (by simp)
theorem xb_rng {C : Int} {x : XL} (r : TL) (h : XB C x) (hC0 : 0 ≤ C) (hC : C ≤ 65536) : Rng (r, evX x, ctX x) := by
  have key : ∀ i, (0 ≤ evX x i ∧ evX x i ≤ 65536) ∧ (0 ≤ ctX x i ∧ ctX x i ≤ 65536) := fun i => by
    unfold evX ctX
    cases hp : xlook i x with
    | none => exact ⟨⟨by show (0 : Int) ≤ 0; omega, by show (0 : Int) ≤ 65536; omega⟩, ⟨by show (0 : Int) ≤ 0; omega, by show (0 : Int) ≤ 65536; omega⟩⟩
    | some y =>
      have hy : y ∈ x := List.mem_of_find?_eq_some hp
      have h1 := h.e y hy
      have h2 := h.c y hy
      exact ⟨h1, h2.1, by show y.2.2 ≤ 65536; omega⟩
  exact ⟨fun i => (key i).1, fun i => (key i).2⟩
theorem XB.snoc {C : Int} {x : XL} (h : XB C x) {id ee : Int} (he : 0 ≤ ee ∧ ee ≤ 65536) (hC : 0 ≤ C := by omega) : XB C (x ++ [(id, ee, 0)]) := by
  refine ⟨fun y hy => ?_, fun y hy => ?_⟩
  · rcases List.mem_append.1 hy with h1 | h1
    · exact h.e y h1
    · simp only [List.mem_singleton] at h1; subst h1; exact he
  · rcases List.mem_append.1 hy with h1 | h1
    · exact h.c y h1
    · simp only [List.mem_singleton] at h1; subst h1; exact ⟨Int.le_refl _, hC⟩
/-- Behind the call. -/
def AFT (w : World) (k ob : Nat) (kd id tt ee : Int) (v u ok is : Value) (W : World) : Prop := ∃ (r2 : TL) (x2 : XL) (dd : Bool), ok = .bool dd ∧ is = .bool dd ∧ PS w (k + 1) r2 x2 v u W ∧ OB W (w.heap.size + 3) ob kd id tt ee
theorem ctX_none {id : Int} {x : XL} (h : posX id x = none) : ctX x id = 0 := by
  unfold ctX; rw [posX_none h]; rfl
theorem ctX_some {id : Int} {x : XL} {p : Nat} (h : posX id x = some p) : ctX x id = (x.getD p (0, 0, 0)).2.2 := by
  unfold ctX; rw [(posX_some h).2.2]; rfl
set_option maxRecDepth 100000 in
set_option maxHeartbeats 16000000 in
theorem alarmPlays_walk (ao : Option Addr) (n cap : Nat) (g : Nat → Nat → Int) (w : World) (hT : OpsB w ao n g) (hw : ∀ i j, (kI (g i j)).wf = true) (hm : n ≤ maxLen) (hq : n ≤ cap ∧ cap ≤ maxLen) :
    Calls Try.prog 7 #[.slice ao n cap] w fun e w' => e = .returned (.bool true) ∧ Below w.heap.size w w' := by
  unfold maxLen at hm hq
  by_cases hg : 200 < n
  · have d0 : decide (200 < (n : Int)) = true := by simp; omega
    go_enter Try.func7, Try.ntmps7
    go_wp2
    go_ret
    exact ⟨rfl, Below.refl _ _⟩
  · have hn : n ≤ 200 := by omega
    have d0 : decide (200 < (n : Int)) = false := by simp; omega
    have HOPS := hid hT
    have HKW := hid hw
    clear hg hm hq hT hw
    go_enter Try.func7, Try.ntmps7
    go_wp2_with fail
    refine (anew_any _).mono ?_
    rintro e w1 ⟨rfl, a1, b1⟩
    have P1 : Hid (PS w 0 [] [] (.slice none 0 0) (.slice none 0 0) w1) := ⟨a1, World.ownsRow_nil _ _ _ _, World.ownsRow_nil _ _ _ _, ⟨fun y hy => (by cases hy), fun y hy => (by cases hy)⟩, Nat.le_refl _, fun y hy => (by cases hy), b1⟩
    clear a1 b1
    go_wp2
    go_loopw [4, 5, 6] (fun v_ u_ i_ wr => ∃ (k : Nat) (r : TL) (x : XL), i_ = .int .i64 k ∧ k ≤ n ∧ Hid (PS w k r x v_ u_ wr)) (fun _ _ i_ _ => n - (intOf i_).toNat)
    case atStart => exact ⟨0, [], [], rfl, by omega, P1⟩
    case round =>
      clear P1
      obtain ⟨k, r, x, rfl, hk, HP⟩ := hrel
      by_cases hlt : k < n
      · obtain ⟨rb, ro, rfl, c0, c1, c2, c3⟩ := HOPS.out k hlt
        have hB := HP.out.bw
        have e0 := (hB.cell (cell_lt c0)).trans c0
        have e1 := (hB.cell (cell_lt c1)).trans c1
        have e2 := (hB.cell (cell_lt c2)).trans c2
        have e3 := (hB.cell (cell_lt c3)).trans c3
        have hwf := HKW.out k 1
        generalize g k 0 = kd at e0 c0
        generalize g k 1 = id at e1 c1 hwf
        generalize g k 2 = tt at e2 c2
        generalize g k 3 = ee at e3 c3
        have i0 : (0 : Int) ≤ (k : Int) := by omega
        have i1 : (k : Int) < (n : Int) := by omega
        clear c0 c1 c2 c3 hB
        -- CUT
        have hob := ob_new wr (B := w.heap.size + 3) (by have := HP.out.aa.q.lt.1; omega) kd id tt ee
        have bO := (Below.refl wr.heap.size wr).alloc (Nat.le_refl _) (Obj.cells #[.int .i64 kd, .int .i64 id, .int .i64 tt, .int .i64 ee] 55)
        have HP0 := hid (HP.out.below bO)
        have HO0 := hid hob
        obtain ⟨ob, hobe⟩ : ∃ ob, wr.heap.size = ob := ⟨_, rfl⟩
        obtain ⟨rr, hr5, hrk⟩ := kind5 kd
        have hwk : wrap64 (kd.tmod 5 + 5) = kd.tmod 5 + 5 := by
          have h1 := Int.tmod_lt_of_pos kd (show (0 : Int) < 5 by decide)
          have h2 := Int.tmod_lt_of_pos (-kd) (show (0 : Int) < 5 by decide)
          rw [Int.neg_tmod] at h2
          unfold wrap64; omega
        have hrl := HP.out.aa.q.len
        have hxl := HP.out.l
        clear hob bO
        go_upto_block 2 with fail
        obtain ⟨W0, hW0⟩ : ∃ W0, W0 = wr.alloc (Obj.cells #[.int .i64 kd, .int .i64 id, .int .i64 tt, .int .i64 ee] 55) := ⟨_, rfl⟩
        rw [← hW0] at HP0 HO0 ⊢
        rw [hobe] at HO0
        clear HP e0 e1 e2 e3 hW0 hobe
        go_cut [4, 5, 8, 9] from 25 to 175 (fun v_ u_ ok_ is_ wc => AFT w k ob kd id tt ee v_ u_ ok_ is_ wc)
        case first =>
          have c0 := HO0.out.cells.1
          have c1 := HO0.out.cells.2.1
          have hs0 := HP0.out.aa.q.lt.1
          by_cases r2 : rr = 2
          · subst r2
            have t2 : ((kd.tmod 5 + 5).tmod 5 == 2) = true := by rw [hrk]; rfl
            clear hrk
            go_wp2_with fail
            refine (astop_any _ _ _ _ _ _ r _ _ id _ HP0.out.aa hwf).mono ?_
            rintro e w2 ⟨rfl, a2, k2⟩
            rw [← evX_drop, ← ctX_drop] at a2
            have R2 := hid (k2.r (by decide) (Nat.lt_succ_self _) HP0.out.rr)
            have X2 := hid (k2.r (by decide) (Nat.lt_succ_self _) HP0.out.xx)
            have O2 : Hid (OB w2 (w.heap.size + 3) ob kd id tt ee) := k2.r (by decide) (Nat.lt_succ_self _) HO0.out
            have B2 := hid (HP0.out.bw.trans k2.b)
            have A2 := hid a2
            have hs2 := a2.q.lt.1
            have c2 := O2.out.cells.2.1
            clear a2 k2 c0 c1
            go_wp2_with fail
            refine (rdrop_own _ u4 r id _ R2.out hrl (by omega)).mono ?_
            rintro e w3 ⟨v3, rfl, o3, b3⟩
            have R3 := hid o3
            have X3 := hid (own_save X2.out (Save.of_below b3 (fun _ => False)) fun _ _ h => h)
            have O3 := hid (O2.out.below b3)
            have A3 := hid (A2.out.below b3)
            have B3 := hid (B2.out.trans (b3.mono B2.out.size))
            have hs3 := b3.size
            have c3 := O3.out.cells.2.1
            clear o3 b3 R2 X2 O2 A2 B2 c2
            go_wp2_with fail
            refine (xdrop_own _ u5 x id _ X3.out (by omega) (by omega)).mono ?_
            rintro e w4 ⟨v4, rfl, o4, b4⟩
            have P4 : Hid (AFT w k ob kd id tt ee v3 v4 (.bool (look id r).isSome) (.bool (look id r).isSome) w4) :=
              ⟨dropR id r, dropX id x, _, rfl, rfl, ⟨(A3.out.below b4).mono (by omega), own_save R3.out (Save.of_below b4 (fun _ => False)) fun _ _ h => h, o4, (HP0.out.b.drop id).mono (by omega), Nat.le_trans (List.length_filter_le _ _) (Nat.le_succ_of_le hxl), dropR_wf (P := fun i => (kI i).wf = true) HP0.out.f id, B3.out.trans (b4.mono B3.out.size)⟩, O3.out.below b4⟩
            clear o4 b4 R3 X3 O3 A3 B3 c3
            generalize (look id r).isSome = dd at P4 ⊢
            go_wp2
            go_meet
            case rel => exact P4.out
          · by_cases r34 : rr = 3 ∨ rr = 4
            · rcases r34 with rfl | rfl
              · have t2 : ((kd.tmod 5 + 5).tmod 5 == 2) = false := by rw [hrk]; rfl
                have t3 : ((kd.tmod 5 + 5).tmod 5 == 3) = true := by rw [hrk]; rfl
                have t1 : ((dueR r) == (dueR r)) = true := by simp
                have hR := xb_rng r HP0.out.b (by omega) (by omega)
                have htk := HP0.out.aa.q.tk
                have hdl : (dueR r).length ≤ 64 := Nat.le_trans dueR_len hrl
                have HTX := hid (tickX_is (s := (r, x)) HP0.out.b (by show 64 * (k : Int) + ((dueR r).length : Int) ≤ 65536; omega))
                clear hrk
                go_wp2_with fail
                refine (atick_any _ _ _ _ _ _ (r, evX x, ctX x) _ HP0.out.aa hR (by omega) HP0.out.f (fun j hj => Nat.le_trans HP0.out.bw.size hj)).mono ?_
                rintro e w2 ⟨v2, rfl, o2, a2, k2⟩
                rw [show tickA (r, evX x, ctX x) = toST (tickX (r, x)) from HTX.out.1.symm] at a2
                have R2 := hid (k2.r (by decide) (Nat.lt_succ_self _) HP0.out.rr)
                have X2 := hid (k2.r (by decide) (Nat.lt_succ_self _) HP0.out.xx)
                have O2 : Hid (OB w2 (w.heap.size + 3) ob kd id tt ee) := k2.r (by decide) (Nat.lt_succ_self _) HO0.out
                have B2 := hid (HP0.out.bw.trans k2.b)
                have A2 := hid a2
                have D2 : Hid (w2.ownsRow W0.heap.size 3 1 v2 (dueR r).length (iv (dueR r))) := o2
                have hs2 := a2.q.lt.1
                clear a2 k2 o2 c0 c1 hR
                go_wp2_with fail
                refine (xtick_any (w.heap.size + 3) u4 u5 (r, x) _ R2.out X2.out (by omega) hrl htk (by show x.length ≤ 1000; omega) (64 * (k : Int)) HP0.out.b (by omega) (by omega)).mono ?_
                rintro e w3 ⟨v3, u3, d3, rfl, q1, q2, q3, b3⟩
                have A3 := hid (A2.out.below b3)
                have O3 := hid (O2.out.below b3)
                have B3 := hid (B2.out.trans (b3.mono B2.out.size))
                have D3 := hid (own_save D2.out (Save.of_below b3 (fun _ => False)) fun _ _ h => h)
                have E3 : Hid (w3.ownsRow w2.heap.size 3 1 d3 (dueR r).length (iv (dueR r))) := q3
                have R3 := hid q1
                have X3 := hid q2
                clear q1 q2 q3 b3 R2 X2 O2 B2 A2 D2
                go_wp2_with fail
                refine (arow_own D3.out E3.out (by omega)).mono ?_
                rintro e w4 ⟨rfl, b4⟩
                rw [t1]
                have P4 : Hid (AFT w k ob kd id tt ee v3 u3 (.bool true) (.bool true) w4) :=
                  ⟨(tickX (r, x)).1, (tickX (r, x)).2, _, rfl, rfl, ⟨(A3.out.below b4).mono (by show 65 * k + (dueR r).length ≤ _; omega), own_save R3.out (Save.of_below b4 (fun _ => False)) fun _ _ h => h, own_save X3.out (Save.of_below b4 (fun _ => False)) fun _ _ h => h, HTX.out.2.1.mono (by show 64 * (k : Int) + ((dueR r).length : Int) ≤ _; push_cast; omega), Nat.le_trans HTX.out.2.2 (Nat.le_succ_of_le hxl), by
                    have h1 := tickA_wf (s := (r, evX x, ctX x)) (P := fun i => (kI i).wf = true) HP0.out.f
                    rw [show tickA (r, evX x, ctX x) = toST (tickX (r, x)) from HTX.out.1.symm] at h1
                    exact h1, B3.out.trans (b4.mono B3.out.size)⟩, O3.out.below b4⟩
                clear b4 A3 O3 B3 D3 E3 R3 X3 HTX t1
                go_wp2
                go_meet
                case rel => exact P4.out
              · have t2 : ((kd.tmod 5 + 5).tmod 5 == 2) = false := by rw [hrk]; rfl
                have t3 : ((kd.tmod 5 + 5).tmod 5 == 3) = false := by rw [hrk]; rfl
                have t4 : ((kd.tmod 5 + 5).tmod 5 == 4) = true := by rw [hrk]; rfl
                have t1 : ((dueR r) == (dueR r)) = true := by simp
                have hR := xb_rng r HP0.out.b (by omega) (by omega)
                have htk := HP0.out.aa.q.tk
                have hdl : (dueR r).length ≤ 64 := Nat.le_trans dueR_len hrl
                have HTX := hid (tickX_is (s := (r, x)) HP0.out.b (by show 64 * (k : Int) + ((dueR r).length : Int) ≤ 65536; omega))
                clear hrk
                go_wp2_with fail
                refine (atick_any _ _ _ _ _ _ (r, evX x, ctX x) _ HP0.out.aa hR (by omega) HP0.out.f (fun j hj => Nat.le_trans HP0.out.bw.size hj)).mono ?_
                rintro e w2 ⟨v2, rfl, o2, a2, k2⟩
                rw [show tickA (r, evX x, ctX x) = toST (tickX (r, x)) from HTX.out.1.symm] at a2
                have R2 := hid (k2.r (by decide) (Nat.lt_succ_self _) HP0.out.rr)
                have X2 := hid (k2.r (by decide) (Nat.lt_succ_self _) HP0.out.xx)
                have O2 : Hid (OB w2 (w.heap.size + 3) ob kd id tt ee) := k2.r (by decide) (Nat.lt_succ_self _) HO0.out
                have B2 := hid (HP0.out.bw.trans k2.b)
                have A2 := hid a2
                have D2 : Hid (w2.ownsRow W0.heap.size 3 1 v2 (dueR r).length (iv (dueR r))) := o2
                have hs2 := a2.q.lt.1
                clear a2 k2 o2 c0 c1 hR
                go_wp2_with fail
                refine (xtick_any (w.heap.size + 3) u4 u5 (r, x) _ R2.out X2.out (by omega) hrl htk (by show x.length ≤ 1000; omega) (64 * (k : Int)) HP0.out.b (by omega) (by omega)).mono ?_
                rintro e w3 ⟨v3, u3, d3, rfl, q1, q2, q3, b3⟩
                have A3 := hid (A2.out.below b3)
                have O3 := hid (O2.out.below b3)
                have B3 := hid (B2.out.trans (b3.mono B2.out.size))
                have D3 := hid (own_save D2.out (Save.of_below b3 (fun _ => False)) fun _ _ h => h)
                have E3 : Hid (w3.ownsRow w2.heap.size 3 1 d3 (dueR r).length (iv (dueR r))) := q3
                have R3 := hid q1
                have X3 := hid q2
                clear q1 q2 q3 b3 R2 X2 O2 B2 A2 D2
                go_wp2_with fail
                refine (arow_own D3.out E3.out (by omega)).mono ?_
                rintro e w4 ⟨rfl, b4⟩
                rw [t1]
                have P4 : Hid (AFT w k ob kd id tt ee v3 u3 (.bool true) (.bool true) w4) :=
                  ⟨(tickX (r, x)).1, (tickX (r, x)).2, _, rfl, rfl, ⟨(A3.out.below b4).mono (by show 65 * k + (dueR r).length ≤ _; omega), own_save R3.out (Save.of_below b4 (fun _ => False)) fun _ _ h => h, own_save X3.out (Save.of_below b4 (fun _ => False)) fun _ _ h => h, HTX.out.2.1.mono (by show 64 * (k : Int) + ((dueR r).length : Int) ≤ _; push_cast; omega), Nat.le_trans HTX.out.2.2 (Nat.le_succ_of_le hxl), by
                    have h1 := tickA_wf (s := (r, evX x, ctX x)) (P := fun i => (kI i).wf = true) HP0.out.f
                    rw [show tickA (r, evX x, ctX x) = toST (tickX (r, x)) from HTX.out.1.symm] at h1
                    exact h1, B3.out.trans (b4.mono B3.out.size)⟩, O3.out.below b4⟩
                clear b4 A3 O3 B3 D3 E3 R3 X3 HTX t1
                go_wp2
                go_meet
                case rel => exact P4.out
            · have t2 : ((kd.tmod 5 + 5).tmod 5 == 2) = false := by rw [hrk]; simp; omega
              have t3 : ((kd.tmod 5 + 5).tmod 5 == 3) = false := by rw [hrk]; simp; omega
              have t4 : ((kd.tmod 5 + 5).tmod 5 == 4) = false := by rw [hrk]; simp; omega
              have c2 := HO0.out.cells.2.2.1
              have c3 := HO0.out.cells.2.2.2
              clear hrk
              go_wp2_with fail
              refine (aset_any _ _ _ _ _ _ r _ _ id tt ee _ HP0.out.aa (by omega) hwf (fun j hj => Nat.le_trans HP0.out.bw.size hj)).mono ?_
              rintro e w2 ⟨rfl, a2, k2⟩
              have R2 := hid (k2.r (by decide) (Nat.lt_succ_self _) HP0.out.rr)
              have X2 := hid (k2.r (by decide) (Nat.lt_succ_self _) HP0.out.xx)
              have O2 : Hid (OB w2 (w.heap.size + 3) ob kd id tt ee) := k2.r (by decide) (Nat.lt_succ_self _) HO0.out
              have B2 := hid (HP0.out.bw.trans k2.b)
              have hs2 := a2.q.lt.1
              have A2 := hid a2
              clear a2 k2 c0 c1 c2 c3
              by_cases hee : 0 ≤ ee ∧ ee ≤ 65536
              · have d5 : decide (0 ≤ ee) = true := by simp; omega
                have d6 : decide (ee ≤ 65536) = true := by simp; omega
                have HOK : Hid (okS id tt ee r = okR id tt r) := by
                  show _ = _
                  unfold okS
                  rw [decide_eq_true hee, Bool.true_and]
                rw [HOK.out] at A2 ⊢
                have c1 := O2.out.cells.2.1
                have c2 := O2.out.cells.2.2.1
                have c3 := O2.out.cells.2.2.2
                have HRA := hid (radd_any (w.heap.size + 3) u4 r id tt w2 R2.out (by omega) hrl)
                have hee2 := hid hee
                clear HOK hee
                cases hdd : okR id tt r with
                | false =>
                  have hadd : addR id tt r = r := by unfold addR; rw [hdd]; rfl
                  rw [hdd, hadd] at HRA
                  rw [hdd] at A2
                  have A3 : Hid (AS w2 w.heap.size (w.heap.size + 2) w.heap.size (w.heap.size + 1) (65 * k + 1) (fun j => w.heap.size ≤ j) r (evX x) (ctX x)) := A2.out
                  clear A2 hadd hdd
                  go_wp2_with fail
                  refine HRA.out.mono ?_
                  rintro e w3 ⟨v3, rfl, o3, b3⟩
                  have P4 : Hid (AFT w k ob kd id tt ee v3 u5 (.bool false) (.bool false) w3) :=
                    ⟨r, x, _, rfl, rfl, ⟨(A3.out.below b3).mono (by omega), o3, own_save X2.out (Save.of_below b3 (fun _ => False)) fun _ _ h => h, HP0.out.b.mono (by omega), Nat.le_succ_of_le hxl, HP0.out.f, B2.out.trans (b3.mono B2.out.size)⟩, O2.out.below b3⟩
                  clear o3 b3 R2 X2 O2 A3 B2 c1 c2 c3
                  go_wp2
                  go_meet
                  case rel => exact P4.out
                | true =>
                  rw [hdd] at HRA A2
                  have A3 : Hid (AS w2 w.heap.size (w.heap.size + 2) w.heap.size (w.heap.size + 1) (65 * k + 1) (fun j => w.heap.size ≤ j) (addR id tt r) (evX (dropX id x ++ [(id, ee, 0)])) (ctX (dropX id x ++ [(id, ee, 0)]))) := by
                    rw [evX_set, ctX_set]; exact A2.out
                  have HF3 := hid (addR_wf (P := fun i => (kI i).wf = true) HP0.out.f hwf (t := tt))
                  clear A2 hdd
                  go_wp2_with fail
                  refine HRA.out.mono ?_
                  rintro e w3 ⟨v3, rfl, o3, b3⟩
                  have R3 := hid o3
                  have X3 := hid (own_save X2.out (Save.of_below b3 (fun _ => False)) fun _ _ h => h)
                  have O3 := hid (O2.out.below b3)
                  have A4 := hid (A3.out.below b3)
                  have B3 := hid (B2.out.trans (b3.mono B2.out.size))
                  have hs3 := b3.size
                  have d1 := O3.out.cells.2.1
                  have d3 := O3.out.cells.2.2.2
                  clear o3 b3 R2 X2 O2 A3 B2 c1 c2 c3 HRA
                  go_wp2
                  -- R19
                  clear t2 t3 t4 d0 d5 d6 hr5 hwk HOPS HKW i0 i1 r2 r34 hwf
                  obtain ⟨i0, hi, hz0, hz1, hz2⟩ := info_parts infoX3
                  obtain ⟨xn, hxn⟩ : ∃ xn, x.length = xn := ⟨_, rfl⟩
                  have HXN := hid hxn
                  obtain ⟨xao, xcap, rfl, hXA, _⟩ := xat_of_own X3.out rfl
                  have HXA := hid hXA
                  have hdl : (dropX id x).length ≤ k := Nat.le_trans (List.length_filter_le _ _) hxl
                  rw [hxn] at hxl ⊢
                  have hs3' : w.heap.size + 3 ≤ w3.heap.size := by omega
                  clear hxn hXA X3
                  refine wp_region_free [3, 9, 10, 11] (fun X => Below w3.heap.size w3 X) (by kernel_rfl) (by kernel_rfl) ⟨rfl, rfl, rfl, Nat.le_refl _, fun _ _ => rfl⟩ ?_
                  repeat (first | refine wpFl_chain (by rfl) ?_ | (refine wpFl_still (by rfl) (by rfl) (fun K hK => ?_); go_simp; (refine ⟨_, fun _ _ => rfl, hK _ ?_⟩; clear hK K)))
                  refine wpFl_still (by rfl) (by rfl) (fun K hK => ?_)
                  go_simp
                  refine ⟨.int .i64 id, fun X hX => ?_, hK _ ?_⟩
                  · have hcX := (hX.cell (cell_lt d1)).trans d1
                    go_simp
                  clear hK K
                  repeat (first | refine wpFl_chain (by rfl) ?_ | (refine wpFl_still (by rfl) (by rfl) (fun K hK => ?_); go_simp; (refine ⟨_, fun _ _ => rfl, hK _ ?_⟩; clear hK K)))
                  refine wpFl_still (by rfl) (by rfl) (fun K hK => ?_)
                  go_simp
                  refine ⟨.int .i64 id, fun X hX => ?_, hK _ ?_⟩
                  · have hcX := (hX.cell (cell_lt d1)).trans d1
                    go_simp
                  clear hK K
                  repeat (first | refine wpFl_chain (by rfl) ?_ | (refine wpFl_still (by rfl) (by rfl) (fun K hK => ?_); go_simp; (refine ⟨_, fun _ _ => rfl, hK _ ?_⟩; clear hK K)))
                  refine wpFl_still (by rfl) (by rfl) (fun K hK => ?_)
                  go_simp
                  refine ⟨.int .i64 ee, fun X hX => ?_, hK _ ?_⟩
                  · have hcX := (hX.cell (cell_lt d3)).trans d3
                    go_simp
                  clear hK K
                  repeat (first | refine wpFl_chain (by rfl) ?_ | (refine wpFl_still (by rfl) (by rfl) (fun K hK => ?_); go_simp; (refine ⟨_, fun _ _ => rfl, hK _ ?_⟩; clear hK K)))
                  refine wpFl_still (by rfl) (by rfl) (fun K hK => ?_)
                  refine ⟨.agg #[.int .i64 id, .int .i64 ee, .int .i64 0], fun X hX => ?_, hK _ ?_⟩
                  · kernel_rfl
                  clear hK K
                  repeat refine wpFl_chain (by rfl) ?_
                  refine wpFl_nil ?_
                  have bd : Below w3.heap.size w3 w3.drew := ⟨rfl, rfl, rfl, Nat.le_refl _, fun _ _ => rfl⟩
                  refine wpTs_2 (i := 3) (j := 9) (rem1 := [9, 10, 11]) (rem2 := [3, 10, 11]) (by kernel_rfl) (by rfl) (by rfl) (by rfl) (by rfl) (fun K hK => ?_) (fun K hK => ?_)
                  · go_wp2_with fail
                    refine (xdrop_any xao xcap xn x HXN.out id w3.drew (HXA.out.below bd) (by omega)).mono ?_
                    rintro e w4 ⟨v4, rfl, o4, b4⟩
                    have BX4 : Below w3.heap.size w3 w4 := bd.trans b4
                    go_wp2_with fail
                    refine hK _ _ BX4 ?_
                    clear hK K
                    refine wpTs_1 (i := 9) (rem1 := [10, 11]) (by kernel_rfl) (by rfl) (by rfl) (fun K hK => ?_)
                    dsimp only [List.getElem_toArray, List.getElem_cons_succ, List.getElem_cons_zero]
                    go_wp2_with fail
                    have BX := BX4.alloc BX4.size (Obj.cells #[Value.int .i64 id, Value.int .i64 ee, Value.int .i64 0] 63)
                    have o5 : (w4.alloc (Obj.cells #[Value.int .i64 id, Value.int .i64 ee, Value.int .i64 0] 63)).ownsRow w3.heap.size 63 3 v4 (dropX id x).length (cells3 (dropX id x)) := World.ownsRow.alloc (show w4.ownsRow w3.heap.size 63 3 v4 (dropX id x).length (cells3 (dropX id x)) from o4) _
                    have hnews : ∀ (j : Nat) (u : Value), [Value.int .i64 id, Value.int .i64 ee, Value.int .i64 0][j]? = some u → (w4.alloc (Obj.cells #[Value.int .i64 id, Value.int .i64 ee, Value.int .i64 0] 63)).cell? ((⟨w4.heap.size, 0, none⟩ : Addr).add j) = some u := fun j u hj => by
                      rw [add_off, Nat.zero_add, World.cell?_alloc_at _ _ _ _ rfl]; simpa using hj
                    refine hK _ _ BX ?_
                    clear hK K
                    obtain ⟨nb, hnb⟩ : ∃ nb, w4.heap.size = nb := ⟨_, rfl⟩
                    rw [hnb] at hnews ⊢
                    clear hnb o4 b4 BX4
                    refine wpTs_1 (i := 10) (rem1 := [11]) (by kernel_rfl) (by rfl) (by rfl) (fun K hK => ?_)
                    refine wpList_append_own _ rfl _ _ 58 rfl w3.heap.size 63 i0 (.agg #[.int .i64 0, .int .i64 0, .int .i64 0]) 3 24 Try.underlying58 hi hz0 hz1 hz2 rfl (by decide) v4 (dropX id x).length _ rfl o5 ⟨nb, 0, none⟩ 1 1 [.int .i64 id, .int .i64 ee, .int .i64 0] rfl (by simp) hnews (by simp [Value.oneCell']) (by unfold maxLen; omega) (by omega) BX.size ?_
                    intro v6 w6 hown6 hgrow6 _
                    have BX6 := BX.grown hgrow6 BX.size fun j hj => (o5.lt j hj).1
                    have P4 : Hid (AFT w k ob kd id tt ee v3 v6 (.bool true) (.bool true) w6) :=
                      ⟨addR id tt r, dropX id x ++ [(id, ee, 0)], _, rfl, rfl, ⟨(A4.out.below BX6).mono (by omega), own_save R3.out (Save.of_below BX6 (fun _ => False)) fun _ _ h => h, by rw [cells3_snoc, List.length_append]; exact own_base hown6 hs3', ((HP0.out.b.drop id).mono (by omega)).snoc hee2.out, by rw [List.length_append]; show _ + 1 ≤ _; omega, HF3.out, B3.out.trans (BX6.mono B3.out.size)⟩, O3.out.below BX6⟩
                    clear hown6 hgrow6 o5 hnews A4 R3 O3 B3
                    refine hK _ _ BX6 ?_
                    clear hK K
                    refine wpTs_1 (i := 11) (rem1 := []) (by kernel_rfl) (by rfl) (by rfl) (fun K hK => ?_)
                    dsimp only [List.getElem_toArray, List.getElem_cons_succ, List.getElem_cons_zero]
                    go_wp2_with fail
                    refine hK _ _ BX6 ?_
                    clear hK K
                    refine wpTs_0 ?_
                    go_wp2
                    go_meet
                    case rel => exact P4.out
                  · go_wp2_with fail
                    have BX0 : Below w3.heap.size w3 (w3.alloc (Obj.cells #[Value.int .i64 id, Value.int .i64 ee, Value.int .i64 0] 63)).drew := ((Below.refl w3.heap.size w3).alloc (Nat.le_refl _) (Obj.cells #[Value.int .i64 id, Value.int .i64 ee, Value.int .i64 0] 63)).trans ⟨rfl, rfl, rfl, Nat.le_refl _, fun _ _ => rfl⟩
                    refine hK _ _ BX0 ?_
                    clear hK K
                    refine wpTs_1 (i := 3) (rem1 := [10, 11]) (by kernel_rfl) (by rfl) (by rfl) (fun K hK => ?_)
                    dsimp only [List.getElem_toArray, List.getElem_cons_succ, List.getElem_cons_zero]
                    go_wp2_with fail
                    refine (xdrop_any xao xcap xn x HXN.out id (w3.alloc (Obj.cells #[Value.int .i64 id, Value.int .i64 ee, Value.int .i64 0] 63)).drew (HXA.out.below BX0) (by omega)).mono ?_
                    rintro e w4 ⟨v4, rfl, o4, b4⟩
                    have BX : Below w3.heap.size w3 w4 := BX0.trans (b4.mono BX0.size)
                    have o5 : w4.ownsRow w3.heap.size 63 3 v4 (dropX id x).length (cells3 (dropX id x)) := own_base o4 BX0.size
                    have hnews : ∀ (j : Nat) (u : Value), [Value.int .i64 id, Value.int .i64 ee, Value.int .i64 0][j]? = some u → w4.cell? ((⟨w3.heap.size, 0, none⟩ : Addr).add j) = some u := fun j u hj => by
                      have h1 : (w3.alloc (Obj.cells #[Value.int .i64 id, Value.int .i64 ee, Value.int .i64 0] 63)).drew.cell? ((⟨w3.heap.size, 0, none⟩ : Addr).add j) = some u := by
                        show (w3.alloc (Obj.cells #[Value.int .i64 id, Value.int .i64 ee, Value.int .i64 0] 63)).cell? _ = _
                        rw [add_off, Nat.zero_add, World.cell?_alloc_at _ _ _ _ rfl]; simpa using hj
                      exact (b4.cell (cell_lt h1)).trans h1
                    go_wp2_with fail
                    refine hK _ _ BX ?_
                    clear hK K
                    clear o4 b4 BX0
                    refine wpTs_1 (i := 10) (rem1 := [11]) (by kernel_rfl) (by rfl) (by rfl) (fun K hK => ?_)
                    refine wpList_append_own _ rfl _ _ 58 rfl w3.heap.size 63 i0 (.agg #[.int .i64 0, .int .i64 0, .int .i64 0]) 3 24 Try.underlying58 hi hz0 hz1 hz2 rfl (by decide) v4 (dropX id x).length _ rfl o5 ⟨w3.heap.size, 0, none⟩ 1 1 [.int .i64 id, .int .i64 ee, .int .i64 0] rfl (by simp) hnews (by simp [Value.oneCell']) (by unfold maxLen; omega) (by omega) BX.size ?_
                    intro v6 w6 hown6 hgrow6 _
                    have BX6 := BX.grown hgrow6 BX.size fun j hj => (o5.lt j hj).1
                    have P4 : Hid (AFT w k ob kd id tt ee v3 v6 (.bool true) (.bool true) w6) :=
                      ⟨addR id tt r, dropX id x ++ [(id, ee, 0)], _, rfl, rfl, ⟨(A4.out.below BX6).mono (by omega), own_save R3.out (Save.of_below BX6 (fun _ => False)) fun _ _ h => h, by rw [cells3_snoc, List.length_append]; exact own_base hown6 hs3', ((HP0.out.b.drop id).mono (by omega)).snoc hee2.out, by rw [List.length_append]; show _ + 1 ≤ _; omega, HF3.out, B3.out.trans (BX6.mono B3.out.size)⟩, O3.out.below BX6⟩
                    clear hown6 hgrow6 o5 hnews A4 R3 O3 B3
                    refine hK _ _ BX6 ?_
                    clear hK K
                    refine wpTs_1 (i := 11) (rem1 := []) (by kernel_rfl) (by rfl) (by rfl) (fun K hK => ?_)
                    dsimp only [List.getElem_toArray, List.getElem_cons_succ, List.getElem_cons_zero]
                    go_wp2_with fail
                    refine hK _ _ BX6 ?_
                    clear hK K
                    refine wpTs_0 ?_
                    go_wp2
                    go_meet
                    case rel => exact P4.out
              · have HOK : Hid (okS id tt ee r = false) := by
                  show _ = _
                  unfold okS
                  rw [decide_eq_false hee]; rfl
                rw [HOK.out] at A2 ⊢
                have A3 : Hid (AS w2 w.heap.size (w.heap.size + 2) w.heap.size (w.heap.size + 1) (65 * k + 1) (fun j => w.heap.size ≤ j) r (evX x) (ctX x)) := A2.out
                have c3 := O2.out.cells.2.2.2
                have P4 : Hid (AFT w k ob kd id tt ee u4 u5 (.bool false) (.bool false) w2) :=
                  ⟨r, x, _, rfl, rfl, ⟨A3.out.mono (by omega), R2.out, X2.out, HP0.out.b.mono (by omega), Nat.le_succ_of_le hxl, HP0.out.f, B2.out⟩, O2.out⟩
                have key : decide (0 ≤ ee) = false ∨ (decide (0 ≤ ee) = true ∧ decide (ee ≤ 65536) = false) := by
                  simp only [decide_eq_true_eq, decide_eq_false_iff_not]; omega
                clear hee HOK A2 A3 R2 X2 O2 B2
                rcases key with d5 | ⟨d5, d6⟩
                all_goals
                  go_wp2
                  go_meet
                  case rel => exact P4.out
        case rest =>
          obtain ⟨r2, x2, dd, rfl, rfl, hp0, ho0⟩ := hcut
          have HP1 := hid hp0
          have HO1 := hid ho0
          have hx2 := hp0.l
          have c1 := ho0.cells.2.1
          have hrl2 := hp0.aa.q.len
          obtain ⟨tao, tcap, rfl, _⟩ := tat_of_own hp0.rr rfl
          obtain ⟨xao, xcap, rfl, hXA, hX0⟩ := xat_of_own hp0.xx rfl
          have HXA := hid hXA
          have HX0 := hid hX0
          have HFD := hid (xfind_own _ _ x2 id wc hp0.xx (by omega))
          obtain ⟨N, hNN⟩ : ∃ N, r2.length = N := ⟨_, rfl⟩
          have HN := hid hNN
          obtain ⟨XN, hXN⟩ : ∃ XN, x2.length = XN := ⟨_, rfl⟩
          have HXN := hid hXN
          rw [hNN] at HP1 hrl2 ⊢
          rw [hXN] at HP1 HFD hx2 ⊢
          obtain ⟨pp, hpp⟩ : ∃ pp, posI id x2 = pp := ⟨_, rfl⟩
          have HPP := hid hpp
          rw [hpp] at HFD
          clear hp0 ho0 hXA hX0 hNN hXN hpp HP0 HO0
          go_wp2_with fail
          refine HFD.out.mono ?_
          rintro e w5 ⟨rfl, rfl⟩
          clear HFD
          go_upto_if 116 with fail
          go_cut [12] from 117 to 121 (fun c_ wx => c_ = .int .i64 (ctX x2 id) ∧ wx = wc)
          case first =>
            cases hp : posX id x2 with
            | none =>
              have hpi : pp = -1 := by rw [← HPP.out]; unfold posI; rw [hp]
              have HC := hid (ctX_none hp)
              subst hpi
              clear hp
              go_wp2
              go_meet
              case rel => exact ⟨by rw [HC.out], rfl⟩
            | some p =>
              have hpi : pp = (p : Int) := by rw [← HPP.out]; unfold posI; rw [hp]
              have HC := hid (ctX_some hp)
              obtain ⟨hpl, _, _⟩ := posX_some hp
              obtain ⟨xb, xo, rfl, _, _, x3⟩ := HXA.out p hpl
              obtain rfl : xo = 0 := HX0.out xb xo rfl
              rw [Nat.zero_add] at x3
              rw [HXN.out] at hpl
              have p0 : (0 : Int) ≤ (p : Int) := by omega
              have p1 : (p : Int) < (XN : Int) := by omega
              subst hpi
              clear hp
              generalize (x2.getD p (0, 0, 0)).2.2 = cc at x3 HC
              go_wp2
              go_meet
              case rel => exact ⟨by rw [HC.out], rfl⟩
          case rest =>
            obtain ⟨rfl, rfl⟩ := hcut
            obtain ⟨⟨du, th⟩, hdt⟩ : ∃ y, dR2 (look id r2) = y := ⟨_, rfl⟩
            have HDT := hid hdt
            clear hdt HXA HX0 HPP
            go_wp2
            go_loopw [14, 15, 16] (fun a_ b_ j_ wq => ∃ j : Nat, j_ = .int .i64 j ∧ j ≤ N ∧ a_ = .int .i64 (dR2 (look id (r2.take j))).1 ∧ b_ = .bool (dR2 (look id (r2.take j))).2 ∧ Hid (PS w (k + 1) r2 x2 (.slice tao N tcap) (.slice xao XN xcap) wq) ∧ Hid (OB wq (w.heap.size + 3) ob kd id tt ee)) (fun _ _ j_ _ => N - (intOf j_).toNat)
            case atStart => exact ⟨0, rfl, by omega, rfl, rfl, HP1, HO1⟩
            case round =>
              clear HP1 HO1 c1
              obtain ⟨j, rfl, hj, rfl, rfl, HP1, HO1⟩ := hrel
              have f3 := HO1.out.cells.2.1
              by_cases hjl : j < N
              · have hrN := HP1.out.rr
                rw [HN.out] at hrN
                obtain ⟨tao2, tcap2, e2', hTA⟩ := tat_of_own hrN HN.out.symm
                clear hrN
                cases e2'
                obtain ⟨b, o, rfl, x1, x2'⟩ := hTA j (by rw [HN.out]; exact hjl)
                have HH := hid (fun t h => look_hit (id := id) (t := t) HP1.out.aa.q.ds (by rw [HN.out]; exact hjl) h)
                have HM := hid (fun i t h => look_miss (r := r2) (id := id) (i := i) (t := t) (k := j) (by rw [HN.out]; exact hjl) h)
                have j0 : (0 : Int) ≤ (j : Int) := by omega
                have j1 : (j : Int) < (N : Int) := by omega
                obtain ⟨⟨xi, xt⟩, hxx⟩ : ∃ y, r2.getD j (0, 0) = y := ⟨_, rfl⟩
                rw [hxx] at HH HM x1 x2'
                dsimp only at x1 x2'
                clear hTA hxx
                by_cases hx : xi = id
                · subst hx
                  have HK := hid (HH.out xt rfl)
                  have tx : (xi == xi) = true := by simp
                  clear HH HM
                  go_wp2
                  go_quiet (fail)
                  go_wp2
                  go_roundw
                  case rel => exact ⟨j + 1, by go_num, by omega, by rw [HK.out]; rfl, by rw [HK.out]; rfl, hid (HP1.out.below ⟨rfl, rfl, rfl, Nat.le_refl _, fun _ _ => rfl⟩), hid (HO1.out.below ⟨rfl, rfl, rfl, Nat.le_refl _, fun _ _ => rfl⟩)⟩
                  case measure => simp [intOf]; omega
                · have HK := hid (HM.out xi xt rfl hx)
                  have tx : (xi == id) = false := by simpa using hx
                  clear HH HM
                  go_wp2
                  go_quiet (fail)
                  go_wp2
                  go_roundw
                  case rel => exact ⟨j + 1, by go_num, by omega, by rw [HK.out], by rw [HK.out], hid (HP1.out.below ⟨rfl, rfl, rfl, Nat.le_refl _, fun _ _ => rfl⟩), hid (HO1.out.below ⟨rfl, rfl, rfl, Nat.le_refl _, fun _ _ => rfl⟩)⟩
                  case measure => simp [intOf]; omega
              · obtain rfl : j = N := by omega
                have hl : dR2 (look id (r2.take j)) = (du, th) := by
                  rw [List.take_of_length_le (by rw [HN.out]; exact Nat.le_refl _)]; exact HDT.out
                rw [hl]
                have HDU := hid (adue_any _ _ _ _ _ _ r2 _ _ id _ HP1.out.aa)
                rw [HDT.out] at HDU
                have z1 : (dd != dd) = false := by simp
                have z2 : (du != du) = false := by simp
                have z3 : (th != th) = false := by simp
                have z4 : ((j : Int) != (j : Int)) = false := by simp
                obtain ⟨cc, hcc⟩ : ∃ cc, ctX x2 id = cc := ⟨_, rfl⟩
                have HCC := hid hcc
                have z5 : (cc != cc) = false := by simp
                rw [hcc]
                clear hl HDT hcc
                go_wp2_with fail
                refine HDU.out.mono ?_
                rintro e w6 ⟨rfl, b6⟩
                have P6 := hid (HP1.out.below b6)
                have O6 := hid (HO1.out.below b6)
                have f6 := O6.out.cells.2.1
                have HLN := hid (alen_any _ _ _ _ _ _ r2 _ _ _ P6.out.aa)
                rw [HN.out] at HLN
                have HCT := hid (acount_any _ _ _ _ _ _ r2 _ _ id _ P6.out.aa hwf)
                rw [HCC.out] at HCT
                clear HP1 HO1 b6 f3 HDU
                go_wp2_with fail
                refine HLN.out.mono ?_
                rintro e w7 ⟨rfl, rfl⟩
                go_wp2_with fail
                refine HCT.out.mono ?_
                rintro e w8 ⟨rfl, rfl⟩
                clear HLN HCT
                go_wp2
                go_roundw
                case rel => exact ⟨k + 1, r2, x2, by go_num, by omega, P6⟩
                case measure => simp [intOf]; omega
      · -- EXIT
        go_wp2_with fail
        refine (aalive_any _).mono ?_
        rintro e w2 ⟨rfl, b2⟩
        have B2 := hid (HP.out.bw.trans (b2.mono HP.out.bw.size))
        clear b2 HP
        go_wp2
        go_ret
        exact ⟨rfl, B2.out⟩
end Go.Proofs.Ytdccpbnknfffaaa
