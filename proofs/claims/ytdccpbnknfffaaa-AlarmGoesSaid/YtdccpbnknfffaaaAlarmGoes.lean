/-
  Layer 48: the walk of AlarmGoes.
-/
import Derived.Test.YtdccpbnknfffaaaAlarmAlive
import Derived.Test.YtdccpbnknfffaaaFree
import Derived.Maps.AppendAt
namespace Go.Proofs.Ytdccpbnknfffaaa
open Go.RowKit Go.Maps
def OpsA (w : World) (ao : Option Addr) (n : Nat) (g : Nat → Nat → Int) : Prop := ∀ i, i < n → ∃ b o, ao = some ⟨b, o, none⟩ ∧ w.cell? ⟨b, o + i * 4, none⟩ = some (.int .i64 (g i 0)) ∧ w.cell? ⟨b, o + i * 4 + 1, none⟩ = some (.int .i64 (g i 1)) ∧ w.cell? ⟨b, o + i * 4 + 2, none⟩ = some (.int .i64 (g i 2)) ∧ w.cell? ⟨b, o + i * 4 + 3, none⟩ = some (.int .i64 (g i 3))
/-- Alarms, where a row behind them is written. -/
theorem AS.rowed {W W' : World} {B base ab gb cb m n size : Nat} {e : TypeId} {T : Nat → Prop} {r : TL} {ev ct : Int → Int} {v : Value} {xs : List Value} (h : AS W base ab gb cb m T r ev ct) (hab : ab < B) (hg : gb < B) (hc : cb < B) (hr : W.ownsRow B e size v n xs) (he : e ≠ 69)
    (hs : Save (fun k => v.ownBlock = some k) W W') : AS W' base ab gb cb m T r ev ct := by
  have hno : ∀ k, k < B → ¬ v.ownBlock = some k := fun k hk e => by
    have := (hr.lt k e).1; omega
  have hblk := hs.block ab h.q.lt.1 (hno ab hab)
  refine ⟨?_, (World.cell?_of_block (w := W) (a := ⟨ab, 2, none⟩) hblk).trans h.c2, (World.cell?_of_block (w := W) (a := ⟨ab, 3, none⟩) hblk).trans h.c3, h.g.same fun _ _ e => (hs.block _ h.g.lt (hno gb hg)).trans e, h.k.same fun _ _ e => (hs.block _ h.k.lt (hno cb hc)).trans e, h.ne, h.lg, h.lc, h.tg, h.tc⟩
  obtain ⟨L, hq, h2⟩ := h.q
  refine ⟨L, hq.save hs (hno ab hab) fun x hx e1 => ?_, h2⟩
  obtain ⟨k, hk2, rfl⟩ := List.getElem_of_mem hx
  have h1 := hq.ch.at_ hk2
  rcases hr.2 with ⟨rfl, _⟩ | ⟨g1, _, _, rfl, _, h2, _⟩
  · cases e1
  · have e2 : g1 = (L[k]).1 := Option.some.inj e1
    rw [← e2, h2] at h1
    have h3 := Option.some.inj h1
    simp at h3
    exact he h3.2
theorem Two.rowed {W W' : World} {B s q m n size : Nat} {e : TypeId} {x y : ST} {v : Value} {xs : List Value} (h : Two W s q m x y) (hs1 : s + 2 < B) (hq1 : q + 2 < B) (hr : W.ownsRow B e size v n xs) (he : e ≠ 69) (hs : Save (fun k => v.ownBlock = some k) W W') : Two W' s q m x y := by
  obtain ⟨Ta, Tb, h1, h2, h3⟩ := h
  exact ⟨Ta, Tb, h1.rowed hs1 (by omega) (by omega) hr he hs, h2.rowed hq1 (by omega) (by omega) hr he hs, h3⟩
theorem flat_snoc (l : TL) (x : Int × Int) : flatI (l ++ [x]) = flatI l ++ [x.1, x.2] := by simp [flatI]
set_option maxRecDepth 100000 in
set_option maxHeartbeats 16000000 in
theorem alarmGoes_walk (ao : Option Addr) (n cap : Nat) (g : Nat → Nat → Int) (many most : Int) (w : World) (hT : OpsA w ao n g) (hw : ∀ i j, (kI (g i j)).wf = true) (hm : n ≤ maxLen) (hq : n ≤ cap ∧ cap ≤ maxLen) :
    Calls Try.prog 6 #[.slice ao n cap, .int .i64 many, .int .i64 most] w fun e w' => e = .returned (.bool true) ∧ Below w.heap.size w w' := by
  obtain ⟨ii, hi, hz0, hz1, hz2⟩ := info_parts infoN
  unfold maxLen at hm hq
  by_cases hg : 60 < n ∨ 500 < many ∨ most < 1 ∨ 500 < most
  · have key : decide (60 < (n : Int)) = true ∨ (decide (60 < (n : Int)) = false ∧ decide (500 < many) = true) ∨ (decide (60 < (n : Int)) = false ∧ decide (500 < many) = false ∧ decide (most < 1) = true) ∨ (decide (60 < (n : Int)) = false ∧ decide (500 < many) = false ∧ decide (most < 1) = false ∧ decide (500 < most) = true) := by
      simp only [decide_eq_true_eq, decide_eq_false_iff_not]; omega
    clear hg hm hq hT hw
    rcases key with d0 | ⟨d0, d1⟩ | ⟨d0, d1, d2⟩ | ⟨d0, d1, d2, d3⟩
    all_goals
      go_enter Try.func6, Try.ntmps6
      go_wp2
      go_ret
      exact ⟨rfl, Below.refl _ _⟩
  · have d0 : decide (60 < (n : Int)) = false := by simp; omega
    have d1 : decide (500 < many) = false := by simp; omega
    have d2 : decide (most < 1) = false := by simp; omega
    have d3 : decide (500 < most) = false := by simp; omega
    have hn : n ≤ 60 := by omega
    have hmy : many ≤ 500 := by omega
    obtain ⟨M, rfl⟩ : ∃ M : Nat, most = (M : Int) := ⟨most.toNat, by omega⟩
    have hM1 : 1 ≤ M := by omega
    have hM2 : M ≤ 500 := by omega
    have HOPS := hid hT
    have HKW := hid hw
    clear hg hm hq hT hw
    go_enter Try.func6, Try.ntmps6
    go_wp2_with fail
    refine (anew_any _).mono ?_
    rintro e w1 ⟨rfl, a1, b1⟩
    go_wp2_with fail
    refine (anew_any _).mono ?_
    rintro e w2 ⟨rfl, a2, b2⟩
    have TW := hid (two_new a1 a2 b2)
    have HB := hid (b1.trans (b2.mono b1.size))
    have hsq := a1.q.lt.1
    obtain ⟨q, hqq⟩ : ∃ q, w1.heap.size = q := ⟨_, rfl⟩
    rw [hqq] at TW hsq ⊢
    clear a1 a2 b1 b2 hqq
    have HR0 : Hid (Rng ([], fun _ => 0, fun _ => 0)) := ⟨fun _ => ⟨by show (0 : Int) ≤ 0; omega, by show (0 : Int) ≤ 65536; omega⟩, fun _ => ⟨by show (0 : Int) ≤ 0; omega, by show (0 : Int) ≤ 65536; omega⟩⟩
    have HX0 : Hid (∀ y ∈ (([], fun _ => 0, fun _ => 0) : ST).1, (kI y.1).wf = true) := fun y hy => (by cases hy)
    go_wp2
    go_loopw [9] (fun i_ wr => ∃ (k : Nat) (x : ST), i_ = .int .i64 k ∧ k ≤ n ∧ Hid (Two wr w.heap.size q (2 * k) x x) ∧ Hid (Rng x) ∧ Hid (∀ y ∈ x.1, (kI y.1).wf = true) ∧ Hid (Below w.heap.size w wr)) (fun i_ _ => n - (intOf i_).toNat)
    case atStart => exact ⟨0, _, rfl, by omega, TW, HR0, HX0, HB⟩
    case round =>
      clear TW HB HR0 HX0
      obtain ⟨k, x, rfl, hk, TW, HR, HX, HB⟩ := hrel
      by_cases hlt : k < n
      · obtain ⟨rb, ro, rfl, c0, c1, c2, c3⟩ := HOPS.out k hlt
        have i0 : (0 : Int) ≤ (k : Int) := by omega
        have i1 : (k : Int) < (n : Int) := by omega
        clear c0
        go_wp2
        refine wp_region_free [16, 33, 34] (fun X => Below w.heap.size w X) (by kernel_rfl) (by kernel_rfl) (HB.out.trans ⟨rfl, rfl, rfl, Nat.le_refl _, fun _ _ => rfl⟩) ?_
        repeat (first | refine wpFl_chain (by rfl) ?_ | (refine wpFl_still (by rfl) (by rfl) (fun K hK => ?_); go_simp; (refine ⟨_, fun _ _ => rfl, hK _ ?_⟩; clear hK K)))
        refine wpFl_still (by rfl) (by rfl) (fun K hK => ?_)
        go_simp
        refine ⟨.pointer (some ⟨rb, ro + k * 4, none⟩), fun X hX => ?_, hK _ ?_⟩
        · go_simp
        clear hK K
        repeat (first | refine wpFl_chain (by rfl) ?_ | (refine wpFl_still (by rfl) (by rfl) (fun K hK => ?_); go_simp; (refine ⟨_, fun _ _ => rfl, hK _ ?_⟩; clear hK K)))
        refine wpFl_still (by rfl) (by rfl) (fun K hK => ?_)
        go_simp
        refine ⟨.int .i64 (g k 1), fun X hX => ?_, hK _ ?_⟩
        · have hcX := (hX.cell (cell_lt c1)).trans c1
          go_simp
        clear hK K
        repeat (first | refine wpFl_chain (by rfl) ?_ | (refine wpFl_still (by rfl) (by rfl) (fun K hK => ?_); go_simp; (refine ⟨_, fun _ _ => rfl, hK _ ?_⟩; clear hK K)))
        refine wpFl_still (by rfl) (by rfl) (fun K hK => ?_)
        go_simp
        refine ⟨.pointer (some ⟨rb, ro + k * 4, none⟩), fun X hX => ?_, hK _ ?_⟩
        · go_simp
        clear hK K
        repeat (first | refine wpFl_chain (by rfl) ?_ | (refine wpFl_still (by rfl) (by rfl) (fun K hK => ?_); go_simp; (refine ⟨_, fun _ _ => rfl, hK _ ?_⟩; clear hK K)))
        refine wpFl_still (by rfl) (by rfl) (fun K hK => ?_)
        go_simp
        refine ⟨.int .i64 (g k 2), fun X hX => ?_, hK _ ?_⟩
        · have hcX := (hX.cell (cell_lt c2)).trans c2
          go_simp
        clear hK K
        repeat (first | refine wpFl_chain (by rfl) ?_ | (refine wpFl_still (by rfl) (by rfl) (fun K hK => ?_); go_simp; (refine ⟨_, fun _ _ => rfl, hK _ ?_⟩; clear hK K)))
        refine wpFl_still (by rfl) (by rfl) (fun K hK => ?_)
        go_simp
        refine ⟨.pointer (some ⟨rb, ro + k * 4, none⟩), fun X hX => ?_, hK _ ?_⟩
        · go_simp
        clear hK K
        repeat (first | refine wpFl_chain (by rfl) ?_ | (refine wpFl_still (by rfl) (by rfl) (fun K hK => ?_); go_simp; (refine ⟨_, fun _ _ => rfl, hK _ ?_⟩; clear hK K)))
        refine wpFl_still (by rfl) (by rfl) (fun K hK => ?_)
        go_simp
        refine ⟨.int .i64 (g k 3), fun X hX => ?_, hK _ ?_⟩
        · have hcX := (hX.cell (cell_lt c3)).trans c3
          go_simp
        clear hK K
        repeat (first | refine wpFl_chain (by rfl) ?_ | (refine wpFl_still (by rfl) (by rfl) (fun K hK => ?_); go_simp; (refine ⟨_, fun _ _ => rfl, hK _ ?_⟩; clear hK K)))
        refine wpFl_still (by rfl) (by rfl) (fun K hK => ?_)
        go_simp
        refine ⟨.pointer (some ⟨rb, ro + k * 4, none⟩), fun X hX => ?_, hK _ ?_⟩
        · go_simp
        clear hK K
        repeat (first | refine wpFl_chain (by rfl) ?_ | (refine wpFl_still (by rfl) (by rfl) (fun K hK => ?_); go_simp; (refine ⟨_, fun _ _ => rfl, hK _ ?_⟩; clear hK K)))
        refine wpFl_still (by rfl) (by rfl) (fun K hK => ?_)
        go_simp
        refine ⟨.int .i64 (g k 1), fun X hX => ?_, hK _ ?_⟩
        · have hcX := (hX.cell (cell_lt c1)).trans c1
          go_simp
        clear hK K
        repeat (first | refine wpFl_chain (by rfl) ?_ | (refine wpFl_still (by rfl) (by rfl) (fun K hK => ?_); go_simp; (refine ⟨_, fun _ _ => rfl, hK _ ?_⟩; clear hK K)))
        refine wpFl_still (by rfl) (by rfl) (fun K hK => ?_)
        go_simp
        refine ⟨.pointer (some ⟨rb, ro + k * 4, none⟩), fun X hX => ?_, hK _ ?_⟩
        · go_simp
        clear hK K
        repeat (first | refine wpFl_chain (by rfl) ?_ | (refine wpFl_still (by rfl) (by rfl) (fun K hK => ?_); go_simp; (refine ⟨_, fun _ _ => rfl, hK _ ?_⟩; clear hK K)))
        refine wpFl_still (by rfl) (by rfl) (fun K hK => ?_)
        go_simp
        refine ⟨.int .i64 (g k 2), fun X hX => ?_, hK _ ?_⟩
        · have hcX := (hX.cell (cell_lt c2)).trans c2
          go_simp
        clear hK K
        repeat (first | refine wpFl_chain (by rfl) ?_ | (refine wpFl_still (by rfl) (by rfl) (fun K hK => ?_); go_simp; (refine ⟨_, fun _ _ => rfl, hK _ ?_⟩; clear hK K)))
        refine wpFl_still (by rfl) (by rfl) (fun K hK => ?_)
        go_simp
        refine ⟨.pointer (some ⟨rb, ro + k * 4, none⟩), fun X hX => ?_, hK _ ?_⟩
        · go_simp
        clear hK K
        repeat (first | refine wpFl_chain (by rfl) ?_ | (refine wpFl_still (by rfl) (by rfl) (fun K hK => ?_); go_simp; (refine ⟨_, fun _ _ => rfl, hK _ ?_⟩; clear hK K)))
        refine wpFl_still (by rfl) (by rfl) (fun K hK => ?_)
        go_simp
        refine ⟨.int .i64 (g k 3), fun X hX => ?_, hK _ ?_⟩
        · have hcX := (hX.cell (cell_lt c3)).trans c3
          go_simp
        clear hK K
        repeat refine wpFl_chain (by rfl) ?_
        refine wpFl_nil ?_
        have bd : Below wr.heap.size wr wr.drew := ⟨rfl, rfl, rfl, Nat.le_refl _, fun _ _ => rfl⟩
        have TW1 := hid (TW.out.below bd)
        have HB1 := hid (HB.out.trans (bd.mono HB.out.size))
        have HX2 := hid (setS_wf (P := fun i => (kI i).wf = true) HX.out (HKW.out k 1) (g k 2) (g k 3))
        have HR2 := hid (HR.out.set (g k 1) (g k 2) (g k 3))
        have hwk := HKW.out k 1
        clear bd TW HB HR HX c1 c2 c3
        generalize g k 1 = id at hwk HX2 HR2 ⊢
        generalize g k 2 = tt at HX2 HR2 ⊢
        generalize g k 3 = ee at HX2 HR2 ⊢
        refine wpTs_1 (i := 16) (rem1 := [33, 34]) (by kernel_rfl) (by rfl) (by rfl) (fun K hK => ?_)
        obtain ⟨T, A, hT, put⟩ := TW1.out.left
        have AA := hid A
        have PP := hid put
        have HTT := hid hT
        clear A hT put
        go_wp2_with fail
        refine (aset_two _ _ _ _ _ T x id tt ee _ AA.out (by omega) hwk HTT.out).mono ?_
        rintro e w5 ⟨rfl, a5, k5⟩
        have T5 := hid (PP.out w5 (2 * k + 1) (setS id tt ee x) (by omega) a5 k5)
        have B5 := hid (HB1.out.trans k5.b)
        clear a5 k5 AA PP HTT TW1 HB1
        obtain ⟨dd, hdd⟩ : ∃ dd, okS id tt ee x.1 = dd := ⟨_, rfl⟩
        have HDD := hid hdd
        rw [hdd]
        clear hdd
        go_wp2_with fail
        refine hK _ _ B5.out ?_
        clear hK K
        refine wpTs_1 (i := 33) (rem1 := [34]) (by kernel_rfl) (by rfl) (by rfl) (fun K hK => ?_)
        obtain ⟨T, A, hT, put⟩ := T5.out.right
        have AA := hid A
        have PP := hid put
        have HTT := hid hT
        clear A hT put
        go_wp2_with fail
        refine (aset_two _ _ _ _ _ T x id tt ee _ AA.out (by omega) hwk HTT.out).mono ?_
        rintro e w6 ⟨rfl, a6, k6⟩
        have T6 := hid (PP.out w6 (2 * k + 2) (setS id tt ee x) (by omega) a6 k6)
        have B6 := hid (B5.out.trans (k6.b.mono (by omega)))
        clear a6 k6 AA PP HTT T5 B5
        rw [HDD.out]
        go_wp2_with fail
        refine hK _ _ B6.out ?_
        clear hK K
        refine wpTs_1 (i := 34) (rem1 := []) (by kernel_rfl) (by rfl) (by rfl) (fun K hK => ?_)
        have z0 : (dd != dd) = false := by simp
        go_wp2_with fail
        refine hK _ _ B6.out ?_
        clear hK K
        refine wpTs_0 ?_
        go_wp2
        go_roundw
        case rel => exact ⟨k + 1, _, by go_num, by omega, T6, HR2, HX2, B6⟩
        case measure => simp [intOf]; omega
      · obtain rfl : k = n := by omega
        have hsB := TW.out.sz
        obtain ⟨T, A, hT, put⟩ := TW.out.left
        have AA := hid A
        have PP := hid put
        have HTT := hid hT
        clear A hT put
        go_wp2_with fail
        refine (goes_any _ _ _ _ _ T x M many _ AA.out HTT.out HR.out HX.out (by omega) hmy hM1 hM2).mono ?_
        rintro e w5 ⟨v5, n5, rfl, hsp, hrow, a5, k5⟩
        have SP := hid hsp
        have hn5 : n5 ≤ 500 := by have := hsp.le; omega
        have T5 := hid (PP.out w5 (2 * k + 64 * n5) (evS x n5) (by omega) a5 k5)
        have B5 := hid (HB.out.trans k5.b)
        obtain ⟨B0, hB0⟩ : ∃ B0, wr.heap.size = B0 := ⟨_, rfl⟩
        rw [hB0] at hrow hsB
        obtain ⟨GF, hGF⟩ : ∃ GF, flatI ((evE x n5).take M) = GF := ⟨_, rfl⟩
        have HGF := hid hGF
        have G5 : Hid (w5.ownsRow B0 3 1 v5 GF.length (iv GF)) := by rw [← hGF, flat_iv, flat_length]; exact hrow
        have hBq := T5.out.sz
        have HGB : Hid (∀ gg, v5.ownBlock = some gg → gg < w5.heap.size) := fun gg e => (hrow.lt gg e).2
        obtain ⟨B, hB⟩ : ∃ B, w5.heap.size = B := ⟨_, rfl⟩
        rw [hB] at hBq HGB
        have HBV : Hid (w5.heap.size = B) := hB
        obtain ⟨N, hN⟩ : ∃ N, many.toNat = N := ⟨_, rfl⟩
        rw [hN] at SP
        clear hrow a5 k5 AA PP HTT TW HB hsp hB0 hGF hB
        go_wp2
        go_loopw [11, 12] (fun v_ n_ wq => ∃ n0 L : Nat, n_ = .int .i64 ((n0 : Int) + 1) ∧ n0 ≤ N ∧ Hid (L = ((evE x n0).take M).length * 2) ∧ L ≤ 2 * M ∧ Hid (∀ j, j < n0 → (evE x j).length < M) ∧ Hid (wq.ownsRow B 3 1 v_ L (iv (flatI ((evE x n0).take M)))) ∧ Hid (Two wq w.heap.size q (2 * k + 64 * n5 + 64 * n0) (evS x n5) (evS x n0)) ∧ Hid (wq.ownsRow B0 3 1 v5 GF.length (iv GF)) ∧ Hid (Below w.heap.size w wq) ∧ Hid (B ≤ wq.heap.size)) (fun _ n_ _ => N + 1 - (intOf n_).toNat)
        case atStart => exact ⟨0, 0, rfl, by omega, by simp [evE, Hid], by omega, (fun j hj => by omega), by simp [evE, flatI, iv]; exact World.ownsRow_nil _ _ _ _, T5, G5, B5, Nat.le_of_eq HBV.out.symm⟩
        case round =>
          clear T5 G5 B5 HBV
          obtain ⟨n0, L, rfl, hn0, HL, hLM, HLT, HW, TW, HG, HB, HS⟩ := hrel
          obtain ⟨vao, vcp, rfl, hvr⟩ := own_iv HW.out (by rw [HL.out, flat_length])
          clear hvr
          by_cases hgo : n0 < N ∧ (evE x n0).length < M
          · obtain ⟨hn1, hl1⟩ := hgo
            have hL2 : L = (evE x n0).length * 2 := by rw [HL.out, List.take_of_length_le (by omega)]
            have t1 : decide ((n0 : Int) + 1 ≤ many) = true := by simp; omega
            have t2 : decide ((L : Int) < 2 * (M : Int)) = true := by simp; omega
            -- PART2
            obtain ⟨T, A, hT, put⟩ := TW.out.right
            have AA := hid A
            have PP := hid put
            have HTT := hid hT
            have HL2 := hid hL2
            clear A hT put hL2
            go_wp2_with fail
            refine (atick_any _ _ _ _ _ T (evS x n0) _ AA.out (HR.out.evS n0) (by omega) (evS_wf (P := fun i => (kI i).wf = true) HX.out n0) HTT.out).mono ?_
            rintro e w6 ⟨v6, rfl, o6, a6, k6⟩
            have hD64 : (dueR (evS x n0).1).length ≤ 64 := Nat.le_trans dueR_len AA.out.q.len
            have T6 : Hid (Two w6 w.heap.size q (2 * k + 64 * n5 + 64 * (n0 + 1)) (evS x n5) (evS x (n0 + 1))) := PP.out w6 _ (evS x (n0 + 1)) (by omega) (AS.mono a6 (by omega)) k6
            have W6 := hid (k6.r (by decide) hBq HW.out)
            have G6 := hid (k6.r (by decide) hsB HG.out)
            have B6 := hid (HB.out.trans (k6.b.mono (by omega)))
            have S6 := hid (Nat.le_trans HS.out k6.s.size)
            have HAP : Hid (∀ gg, v6.ownBlock = some gg → (Value.slice vao L vcp).ownBlock ≠ some gg) := fun gg e e2 => by
              have h1 := (o6.lt gg e).1
              have h2 := (HW.out.lt gg e2).2
              omega
            have hDE : Hid (∀ j, j < (dueR (evS x n0).1).length → (evE x (n0 + 1)).getD ((evE x n0).length + j) (0, 0) = ((n0 : Int) + 1, (dueR (evS x n0).1).getD j 0) ∧ (evE x n0).length + j < (evE x (n0 + 1)).length) := fun j hj => evE_at x (Nat.lt_succ_self n0) hj
            have hEL : (evE x (n0 + 1)).length = (evE x n0).length + (dueR (evS x n0).1).length := by rw [evE_succ, List.length_append, evT_len]
            have hE0 : Hid (iv (flatI ((evE x n0).take M)) = iv (flatI ((evE x (n0 + 1)).take ((evE x n0).length + 0)))) := by
              show _ = _
              rw [Nat.add_zero, evE_prefix x (Nat.le_succ n0), List.take_of_length_le (by omega)]
            have W6' : Hid (w6.ownsRow B 3 1 (.slice vao L vcp) L (iv (flatI ((evE x (n0 + 1)).take ((evE x n0).length + 0))))) := by rw [← hE0.out]; exact W6.out
            obtain ⟨l0, hl0⟩ : ∃ l0, (evE x n0).length = l0 := ⟨_, rfl⟩
            have HL0 := hid hl0
            obtain ⟨E1, hE1⟩ : ∃ E1, evE x (n0 + 1) = E1 := ⟨_, rfl⟩
            have HE1 := hid hE1
            obtain ⟨Bd, hBd⟩ : ∃ Bd, wr.heap.size = Bd := ⟨_, rfl⟩
            have hBd2 : Bd ≤ w6.heap.size := by rw [← hBd]; exact k6.s.size
            rw [hBd] at o6
            obtain ⟨ao6, cp6, rfl, hrow6⟩ := own_iv o6 rfl
            obtain ⟨D, hD⟩ : ∃ D, dueR (evS x n0).1 = D := ⟨_, rfl⟩
            rw [hD] at o6 hD64 hDE hEL HAP ⊢
            rw [hE1] at hDE hEL W6'
            rw [hl0] at hDE hEL W6' HL2 hl1
            obtain ⟨dl, hdl⟩ : ∃ dl, D.length = dl := ⟨_, rfl⟩
            have HDL := hid hdl
            rw [hdl] at o6 hD64 hDE hEL HAP ⊢
            have O6 := hid o6
            have HEL := hid hEL
            clear hl0 hE1 hD hdl hrow6 o6 a6 k6 AA PP HTT TW HW HG HB HS hE0 W6 t1 t2 hEL hBd
            go_wp2
            go_loopw [11, 14] (fun v_ i_ wt => ∃ i L : Nat, i_ = .int .i64 i ∧ i ≤ dl ∧ l0 + i ≤ M ∧ Hid (L = (l0 + i) * 2) ∧ Hid (wt.ownsRow B 3 1 v_ L (iv (flatI (E1.take (l0 + i))))) ∧ Hid (Two wt w.heap.size q (2 * k + 64 * n5 + 64 * (n0 + 1)) (evS x n5) (evS x (n0 + 1))) ∧ Hid (wt.ownsRow B0 3 1 v5 GF.length (iv GF)) ∧ Hid (wt.ownsRow Bd 3 1 (.slice ao6 dl cp6) dl (iv D)) ∧ Hid (∀ gg, (Value.slice ao6 dl cp6).ownBlock = some gg → v_.ownBlock ≠ some gg) ∧ Hid (Below w.heap.size w wt) ∧ Hid (B ≤ wt.heap.size)) (fun _ i_ _ => dl - (intOf i_).toNat)
            case atStart => exact ⟨0, L, rfl, by omega, by omega, HL2, W6', T6, G6, O6, HAP, B6, S6⟩
            case round =>
              clear T6 G6 O6 HAP B6 S6 W6' HL2
              obtain ⟨i, L, rfl, hi0, hiM, HL2, HW, TW, HG, HO, HAP, HB, HS⟩ := hrel
              have hLn : (flatI (E1.take (l0 + i))).length = L := by rw [flat_length, HL2.out, List.length_take, HEL.out]; omega
              obtain ⟨vao, vcp, rfl, hvr⟩ := own_iv HW.out hLn.symm
              have hLv := HL2.out
              by_cases hgo : i < dl ∧ l0 + i < M
              · obtain ⟨hid1, hlm⟩ := hgo
                obtain ⟨ao7, cp7, e7, hrow⟩ := own_iv HO.out HDL.out.symm
                cases e7
                obtain ⟨b, o, rfl, hc0⟩ := hrow i hid1
                have hc : wr.cell? ⟨b, o + i, none⟩ = some (.int .i64 (D.getD i 0)) := hc0
                have t1 : decide ((i : Int) < (dl : Int)) = true := by simp; omega
                have t2 : decide ((L : Int) < 2 * (M : Int)) = true := by simp; omega
                have i0 : (0 : Int) ≤ (i : Int) := by omega
                have i1 : (i : Int) < (dl : Int) := by omega
                have hLb : L ≤ 2000 := by omega
                obtain ⟨hge, hlt2⟩ := hDE.out i hid1
                have HNX : Hid (E1.take (l0 + (i + 1)) = E1.take (l0 + i) ++ [((n0 : Int) + 1, D.getD i 0)]) := by
                  show _ = _
                  rw [← hge, take_next hlt2]; rfl
                have HNF : Hid (iv (flatI (E1.take (l0 + (i + 1)))) = iv (flatI (E1.take (l0 + i))) ++ [.int .i64 ((n0 : Int) + 1), .int .i64 (D.getD i 0)]) := by
                  show _ = _
                  rw [HNX.out, flat_snoc, iv_append]; rfl
                have hszB := HS.out
                generalize D.getD i 0 = id at hc HNF
                clear hge hlt2 hc0 hrow hvr hLn hLv HNX
                go_wp2_with (at_builtin; refine wpList_append_own_at _ rfl _ _ 33 rfl B 3 ii (.int .i64 0) 1 8 Try.underlying33 hi hz0 hz1 hz2 rfl (by decide) _ _ _ rfl (HW.out.alloc _) ⟨wr.heap.size, 0, none⟩ 2 2 [.int .i64 ((n0 : Int) + 1), .int .i64 id] rfl rfl (cells_new2 _ _ _ _) (by simp [Value.oneCell']) (by unfold maxLen; omega) (by omega) (by simp; omega) ?_; intro v8 w8 hown8 hgrow8 _ hob8)
                have bA : Below wr.heap.size wr (wr.alloc (Obj.cells #[Value.int .i64 ((n0 : Int) + 1), Value.int .i64 id] 3)) := (Below.refl _ _).alloc (Nat.le_refl _) _
                have s8 := Save.of_grown hgrow8
                have hge8 : ∀ gg, (Value.slice vao L vcp).ownBlock = some gg → B ≤ gg := fun gg e => (HW.out.lt gg e).1
                go_roundw
                case rel =>
                  refine ⟨i + 1, L + 2, by go_num, by omega, by omega, ?_, by rw [HNF.out]; exact hown8, (TW.out.below bA).rowed (by omega) hBq (HW.out.alloc _) (by decide) s8, own_save (HG.out.alloc _) s8 fun gg e e2 => ?_, own_save (HO.out.alloc _) s8 fun gg e e2 => HAP.out gg e e2, fun gg e => ?_, (HB.out.trans (bA.mono HB.out.size)).grown hgrow8 (by have := HB.out.size; simp; omega) fun gg e => ?_, Nat.le_trans (Nat.le_trans hszB bA.size) s8.size⟩
                  · show _ = _
                    rw [HL2.out]; omega
                  · have h1 := HGB.out gg e
                    have h2 := hge8 gg e2
                    omega
                  · rcases hob8 with e2 | e2
                    · rw [e2]; exact HAP.out gg e
                    · rw [e2]
                      intro e3
                      have h1 := (HO.out.lt gg e).2
                      have h3 := Option.some.inj e3
                      simp at h3
                      omega
                  · have h1 := hge8 gg e
                    omega
                case measure => simp [intOf]; omega
              · have HFIN : Hid (L = (E1.take M).length * 2) := by
                  show _ = _
                  rw [HL2.out, List.length_take, HEL.out]; omega
                have HFI : Hid (E1.take (l0 + i) = E1.take M) := by
                  show _ = _
                  rcases (show i = dl ∨ l0 + i = M by omega) with e | e
                  · rw [List.take_of_length_le (by rw [HEL.out]; omega), List.take_of_length_le (by rw [HEL.out]; omega)]
                  · rw [e]
                have HLT2 : Hid (∀ j, j < n0 + 1 → (evE x j).length < M) := fun j hj => by
                  rcases (show j < n0 ∨ j = n0 by omega) with h | rfl
                  · exact HLT.out j h
                  · rw [HL0.out]; exact hl1
                have hfin : (decide ((i : Int) < (dl : Int)) = false ∧ ¬ i < dl) ∨ (decide ((i : Int) < (dl : Int)) = true ∧ decide ((L : Int) < 2 * (M : Int)) = false ∧ i < dl) := by
                  rcases Nat.lt_or_ge i dl with h | h
                  · right
                    refine ⟨by simp; omega, ?_, h⟩
                    simp; omega
                  · left; exact ⟨by simp; omega, by omega⟩
                have hLM2 : L ≤ 2 * M := by omega
                clear hgo hvr hLn hLv
                rcases hfin with ⟨t1, t3⟩ | ⟨t1, t2, t3⟩
                all_goals
                  go_wp2
                  go_roundw
                  case rel => exact ⟨n0 + 1, L, by go_num, hn1, by rw [HE1.out]; exact HFIN, hLM2, HLT2, by rw [HE1.out, ← HFI.out]; exact HW, TW, HG, HB, HS⟩
                  case measure => simp [intOf]; omega
          · -- PART3
            have hsp2 : Spec x N M n0 := ⟨hn0, HLT.out, by
              rcases (show n0 = N ∨ M ≤ (evE x n0).length by omega) with h | h
              · exact .inl h
              · exact .inr h⟩
            obtain rfl : n5 = n0 := Spec.uniq SP.out hsp2
            have hfin : (decide ((n5 : Int) + 1 ≤ many) = false) ∨ (decide ((n5 : Int) + 1 ≤ many) = true ∧ decide ((L : Int) < 2 * (M : Int)) = false) := by
              have h1 := HL.out
              rw [List.length_take] at h1
              rcases Nat.lt_or_ge n5 N with h | h
              · right
                refine ⟨by simp; omega, ?_⟩
                simp; omega
              · left; simp; omega
            have HW2 : Hid (wr.ownsRow B 3 1 (.slice vao L vcp) GF.length (iv GF)) := by
              have h1 := HW.out
              rw [show L = GF.length by rw [← HGF.out, flat_length]; exact HL.out] at h1 ⊢
              rw [HGF.out] at h1
              exact h1
            have hGl : GF.length ≤ 100000 := by
              rw [← HGF.out, flat_length, List.length_take]; omega
            clear hgo hsp2 HW HL HLT SP HGF HGB hn0
            rcases hfin with t1 | ⟨t1, t2⟩
            all_goals
              go_wp2
              go_loopw [15] (fun i_ wt => ∃ i : Nat, i_ = .int .i64 i ∧ i ≤ k ∧ Hid (Two wt w.heap.size q (2 * k + 64 * n5 + 64 * n5) (evS x n5) (evS x n5)) ∧ Hid (wt.ownsRow B0 3 1 v5 GF.length (iv GF)) ∧ Hid (wt.ownsRow B 3 1 (.slice vao L vcp) GF.length (iv GF)) ∧ Hid (Below w.heap.size w wt)) (fun i_ _ => k - (intOf i_).toNat)
              case atStart => exact ⟨0, rfl, by omega, TW, HG, HW2, HB⟩
              case round =>
                clear TW HG HW2 HB HS
                obtain ⟨i, rfl, hi0, TW, HG, HW, HB⟩ := hrel
                by_cases hik : i < k
                · obtain ⟨b, o, rfl, _, c1, _, _⟩ := HOPS.out i hik
                  have i0 : (0 : Int) ≤ (i : Int) := by omega
                  have i1 : (i : Int) < (k : Int) := by omega
                  have f1 := (HB.out.cell (cell_lt c1)).trans c1
                  have C1 := hid c1
                  obtain ⟨T, A, _, _⟩ := TW.out.left
                  have HA := hid (adue_any _ _ _ _ _ _ _ _ _ (g i 1) wr A)
                  obtain ⟨T', A', _, _⟩ := TW.out.right
                  have HA' := hid A'
                  obtain ⟨⟨du, th⟩, hdt⟩ : ∃ y, dR2 (look (g i 1) (evS x n5).1) = y := ⟨_, rfl⟩
                  have HDT := hid hdt
                  rw [hdt] at HA
                  clear A A' hdt c1
                  go_wp2_with fail
                  refine HA.out.mono ?_
                  rintro e w7 ⟨rfl, b7⟩
                  have T7 := hid (TW.out.below b7)
                  have G7 := hid (own_save HG.out (Save.of_below b7 (fun _ => False)) fun _ _ h => h)
                  have W7 := hid (own_save HW.out (Save.of_below b7 (fun _ => False)) fun _ _ h => h)
                  have B7 := hid (HB.out.trans (b7.mono HB.out.size))
                  have f2 := (B7.out.cell (cell_lt C1.out)).trans C1.out
                  have HA2 := hid (adue_any _ _ _ _ _ _ _ _ _ (g i 1) w7 (HA'.out.below b7))
                  rw [HDT.out] at HA2
                  clear HA HA' TW HG HW HB b7 f1
                  go_wp2_with fail
                  refine HA2.out.mono ?_
                  rintro e w8 ⟨rfl, b8⟩
                  have T8 := hid (T7.out.below b8)
                  have G8 := hid (own_save G7.out (Save.of_below b8 (fun _ => False)) fun _ _ h => h)
                  have W8 := hid (own_save W7.out (Save.of_below b8 (fun _ => False)) fun _ _ h => h)
                  have B8 := hid (B7.out.trans (b8.mono B7.out.size))
                  have z1 : (du != du) = false := by simp
                  have z2 : (th != th) = false := by simp
                  clear HA2 T7 G7 W7 B7 b8 f2
                  go_wp2
                  go_roundw
                  case rel => exact ⟨i + 1, by go_num, by omega, T8, G8, W8, B8⟩
                  case measure => simp [intOf]; omega
                · obtain rfl : i = k := by omega
                  go_wp2_with fail
                  refine (arow_own HG.out HW.out hGl).mono ?_
                  rintro e w9 ⟨rfl, b9⟩
                  rw [show (GF == GF) = true by simp]
                  have B9 := hid (HB.out.trans (b9.mono HB.out.size))
                  clear b9 HB HG HW TW
                  go_wp2_with fail
                  refine (aalive_any _).mono ?_
                  rintro e w10 ⟨rfl, b10⟩
                  have B10 := hid (B9.out.trans (b10.mono B9.out.size))
                  clear b10 B9
                  go_wp2
                  go_ret
                  exact ⟨rfl, B10.out⟩
end Go.Proofs.Ytdccpbnknfffaaa
