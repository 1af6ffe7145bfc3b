/-
  Contracts of layer 56: within how many ticks a task's jobs are done on a server (the program's and the document's).
-/
import Derived.Test.YtcjdfgfnpmmcnaaTask
import Derived.Test.YtcjdfgfnpmmcnaaRun
import Derived.Test.YtcjdfgfnpmmcnaaServerRef
import Derived.Test.YtcjdfgfnpmmcnaaDemandRef
namespace Go.Proofs.Ytcjdfgfnpmmcnaa
open Go.RowKit
/-- From a first number on, from number to number, till one is enough. -/
def respG (G : Int → Int × Bool) (first : Int × Bool) (dl : Int) : Int × Bool := if first.2 = true then (match run G dl first.1 0 with | some (x, _) => (x, true) | none => (0, false)) else (0, false)
theorem run_congr {g g' : Int → Int × Bool} {most : Int} (h : ∀ y, 0 ≤ y → y ≤ most → (g y).2 = (g' y).2 ∧ ((g y).2 = true → (g y).1 = (g' y).1)) : ∀ (k : Nat) (w : Int) (many : Nat), (most + 1 - w).toNat ≤ k → 0 ≤ w → run g most w many = run g' most w many := by
  intro k
  induction k with
  | zero => intro w many hk _; rw [run_over (by omega), run_over (by omega)]
  | succ k ih =>
    intro w many hk h0
    by_cases hw : w ≤ most
    · obtain ⟨h1, h2⟩ := h w h0 hw
      cases hg : (g w).2
      · rw [run_none hw hg, run_none hw (by rw [← h1, hg])]
      · have e := h2 hg
        have hg' : (g' w).2 = true := by rw [← h1, hg]
        by_cases hle : (g w).1 ≤ w
        · rw [run_some hw hg hle, run_some hw hg' (by rw [← e]; exact hle)]
        · rw [run_on hw hg (by omega), run_on hw hg' (by rw [← e]; omega), ← e]
          exact ih _ _ (by omega) (by omega)
    · rw [run_over (by omega), run_over (by omega)]
theorem respG_congr {g g' : Int → Int × Bool} {a a' : Int × Bool} {dl : Int} (h : ∀ y, 0 ≤ y → y ≤ dl → (g y).2 = (g' y).2 ∧ ((g y).2 = true → (g y).1 = (g' y).1)) (ha : a.2 = a'.2) (ha1 : a.2 = true → a.1 = a'.1) (h0 : 0 ≤ a.1) : respG g a dl = respG g' a' dl := by
  unfold respG
  rw [← ha]
  cases h2 : a.2
  · rfl
  · rw [← ha1 h2, run_congr h _ _ 0 (Nat.le_refl _) h0]
/-- The program's, and the document's. -/
def respS (p b : Int) (x : Nat → Int) (f : Nat → TT) (n : Nat) : Int × Bool := respG (fun y => sW p b (min (total y f n + x 2) 65536)) (sW p b (x 2)) (x 1)
def respW (p b : Int) (x : Nat → Int) (f : Nat → TT) (n : Nat) : Int × Bool := respG (fun y => sWr p b (min (total y f n + x 2) 65536)) (sWr p b (x 2)) (x 1)
theorem sW_sWr {p b k : Int} (h : sR p b = true) (h0 : 0 ≤ k) (h1 : k ≤ 65536) : (sW p b k).2 = (sWr p b k).2 ∧ ((sW p b k).2 = true → (sW p b k).1 = (sWr p b k).1) := by
  unfold sW sWr
  rw [if_pos ⟨h, h0, h1⟩]
  by_cases hk : k = 0
  · rw [if_pos hk, if_pos hk]; exact ⟨rfl, fun _ => rfl⟩
  · rw [if_neg hk, if_neg hk]
    by_cases hn : sN p b k ≤ 65536
    · rw [if_pos hn, decide_eq_true hn]; exact ⟨rfl, fun _ => rfl⟩
    · rw [if_neg hn, decide_eq_false hn]; exact ⟨rfl, fun h => by cases h⟩
theorem sW_nonneg {p b k : Int} (h : sR p b = true) : 0 ≤ (sW p b k).1 := by
  unfold sW
  split
  · split
    · exact Int.le_refl _
    · rename_i h1 h2
      have := (sN_spec h (show 1 ≤ k by omega)).1
      show 0 ≤ sN p b k
      omega
  · exact Int.le_refl _
theorem resp_eq {p b : Int} {x : Nat → Int} {f : Nat → TT} {n : Nat} (h : sR p b = true) (hx : OkT x) (hF : ∀ i, i < n → Fit (f i)) : respS p b x f n = respW p b x f n := by
  obtain ⟨h1, h2, h3, h4, h5, h6⟩ := hx
  have e := sW_sWr h (show 0 ≤ x 2 by omega) (by omega)
  refine respG_congr (fun y h7 h8 => ?_) e.1 e.2 (sW_nonneg h)
  have := (total_bound hF h7 (by omega)).1
  exact sW_sWr h (by omega) (by omega)
theorem infoD : (Try.prog.info? 38).map (fun i => (i.zero, i.size, i.bytes)) = some (some (.agg #[.int .i64 0, .int .i64 0, .int .i64 0, .int .i64 0]), 4, 32) := by kernel_rfl
theorem termOf_cells (g : Nat → Nat → Int) (k : Nat) : cellsT (fun i => termOf (g i)) (k + 1) = cellsT (fun i => termOf (g i)) k ++ [.int .i64 (g k 0), .int .i64 (g k 2), .int .i64 0, .int .i64 0] := cellsT_succ _ _
set_option maxRecDepth 100000 in
set_option maxHeartbeats 2000000 in
theorem response_any (ao : Option Addr) (n cap : Nat) (p b : Int) (x : Nat → Int) (g : Nat → Nat → Int) (w : World) (hn : n ≤ 20) (hT : Tasks w ao n g) (hG : ∀ i, i < n → OkT (g i)) (hx : OkT x) (hR : sR p b = true) :
    Calls Try.prog 36 #[.agg #[.int .i64 p, .int .i64 b], tv x, .slice ao n cap] w fun e w' => e = .returned (rv (respS p b x (fun i => termOf (g i)) n)) ∧ Below w.heap.size w w' := by
  obtain ⟨i0, hi, hz0, hz1, hz2⟩ := info_parts infoD
  have hF : Hid (∀ i, i < n → Fit (termOf (g i))) := fun i hi => (hG i hi).fit
  have HW0 := hid (sW_nonneg (k := x 2) hR)
  have HR := hid hR
  clear hG hR
  obtain ⟨x1, x2, x3, x4, x5, x6⟩ := hx
  have HE : Hid (respS p b x (fun i => termOf (g i)) n = respG (fun y => sW p b (min (total y (fun i => termOf (g i)) n + x 2) 65536)) (sW p b (x 2)) (x 1)) := rfl
  have HW := hid (within_any p b (x 2))
  obtain ⟨⟨n0, ok0⟩, hw0⟩ : ∃ y, sW p b (x 2) = y := ⟨_, rfl⟩
  rw [hw0] at HW HE HW0
  clear hw0
  unfold tv
  go_enter Try.func36, Try.ntmps36
  go_wp2
  have B0 : Below w.heap.size w ((w.alloc (Obj.cells #[Value.int .i64 p, Value.int .i64 b] 23)).alloc (Obj.cells #[Value.int .i64 (x 0), Value.int .i64 (x 1), Value.int .i64 (x 2), Value.int .i64 (x 3), Value.int .i64 (x 4), Value.int .i64 (x 5), Value.int .i64 (x 6), Value.int .i64 (x 7), Value.int .i64 (x 8), Value.int .i64 (x 9), Value.int .i64 (x 10)] 33)) := ((Below.refl _ _).alloc (Nat.le_refl _) _).alloc (by simp) _
  obtain ⟨W2, hW2⟩ : ∃ W, W = (w.alloc (Obj.cells #[Value.int .i64 p, Value.int .i64 b] 23)).alloc (Obj.cells #[Value.int .i64 (x 0), Value.int .i64 (x 1), Value.int .i64 (x 2), Value.int .i64 (x 3), Value.int .i64 (x 4), Value.int .i64 (x 5), Value.int .i64 (x 6), Value.int .i64 (x 7), Value.int .i64 (x 8), Value.int .i64 (x 9), Value.int .i64 (x 10)] 33) := ⟨_, rfl⟩
  have s0 : W2.cell? ⟨w.heap.size, 0, none⟩ = some (.int .i64 p) := by rw [hW2]; exact cell_alloc_l _ (World.cell?_alloc_at _ _ _ _ rfl)
  have s1 : W2.cell? ⟨w.heap.size, 1, none⟩ = some (.int .i64 b) := by rw [hW2]; exact cell_alloc_l _ (World.cell?_alloc_at _ _ _ _ rfl)
  have t1 : W2.cell? ⟨w.heap.size + 1, 1, none⟩ = some (.int .i64 (x 1)) := by rw [hW2]; exact World.cell?_alloc_at _ _ _ _ (by simp)
  have t2 : W2.cell? ⟨w.heap.size + 1, 2, none⟩ = some (.int .i64 (x 2)) := by rw [hW2]; exact World.cell?_alloc_at _ _ _ _ (by simp)
  have hsz2 : W2.heap.size = w.heap.size + 2 := by rw [hW2]; simp
  rw [← hW2] at B0 ⊢
  clear hW2
  go_loopw [8, 10, 21] (fun v _ i wr => ∃ k : Nat, k ≤ n ∧ i = .int .i64 k ∧ wr.ownsRow W2.heap.size 38 4 v k (cellsT (fun i => termOf (g i)) k) ∧ Below W2.heap.size W2 wr) (fun _ _ i _ => n - (intOf i).toNat)
  case atStart => exact ⟨0, by omega, rfl, World.ownsRow_nil _ _ 38 4, Below.refl _ _⟩
  case round =>
    obtain ⟨k, hk, rfl, hown, hbr⟩ := hrel
    by_cases hlt : k < n
    · obtain ⟨bb, oo, rfl, hbl⟩ := hT.form hlt
      obtain ⟨⟨c0, c1, c2, c3⟩, ⟨c4, c5, c6, c7⟩, c8, c9, c10⟩ := ((hT.below B0).below hbr).at_ hlt
      have HS := hid (termOf_cells g k)
      clear HW HE HW0
      go_wp2_with (first | (go_at_call 64; refine (of_any (g k) 0 _).mono ?_; rintro e w1 ⟨rfl, hb1'⟩; have hb1 := ((Below.refl wr.heap.size wr).alloc (Nat.le_refl _) (Obj.cells #[Value.int .i64 (g k 0), Value.int .i64 (g k 1), Value.int .i64 (g k 2), Value.int .i64 (g k 3), Value.int .i64 (g k 4), Value.int .i64 (g k 5), Value.int .i64 (g k 6), Value.int .i64 (g k 7), Value.int .i64 (g k 8), Value.int .i64 (g k 9), Value.int .i64 (g k 10)] 33)).trans (hb1'.mono (by simp)); clear hb1'; have hown1 := (hown.kept (below_grownBy hb1) (ownBlock_any _)).alloc (Obj.cells #[Value.int .i64 (g k 0), Value.int .i64 (g k 2), Value.int .i64 0, Value.int .i64 0] 38); have hbw := (hbr.trans (hb1.mono hbr.size)).alloc (Nat.le_trans hbr.size hb1.size) (Obj.cells #[Value.int .i64 (g k 0), Value.int .i64 (g k 2), Value.int .i64 0, Value.int .i64 0] 38); have hnews : ∀ (j : Nat) (u : Value), [Value.int .i64 (g k 0), Value.int .i64 (g k 2), Value.int .i64 0, Value.int .i64 0][j]? = some u → (w1.alloc (Obj.cells #[Value.int .i64 (g k 0), Value.int .i64 (g k 2), Value.int .i64 0, Value.int .i64 0] 38)).cell? ((⟨w1.heap.size, 0, none⟩ : Addr).add j) = some u := (fun j u hj => by rw [add_off, Nat.zero_add, World.cell?_alloc_at _ _ _ _ rfl]; simpa using hj); have hsz := hid hbw.size) | (at_builtin; refine wpList_append_own _ rfl _ _ 40 rfl W2.heap.size 38 i0 (.agg #[.int .i64 0, .int .i64 0, .int .i64 0, .int .i64 0]) 4 32 Try.underlying40 hi hz0 hz1 hz2 rfl (by decide) _ _ _ rfl hown1 ⟨w1.heap.size, 0, none⟩ 1 1 [Value.int .i64 (g k 0), Value.int .i64 (g k 2), Value.int .i64 0, Value.int .i64 0] rfl (by simp) hnews (by simp [Value.oneCell']) (by unfold maxLen; omega) (by omega) hsz.out ?_; intro v' w2 hown2 hgrow _))
      go_roundw
      case rel => exact ⟨k + 1, by omega, by go_num, by rw [HS.out]; exact hown2, hbw.grown hgrow hsz.out fun j hj => (hown1.lt j hj).1⟩
      case measure => simp [intOf]; omega
    · obtain rfl : k = n := by omega
      obtain ⟨xo, xc, rfl, hX⟩ := terms_of_own hown
      clear hown
      have s0' := kept s0 hbr
      have s1' := kept s1 hbr
      have t2' := kept t2 hbr
      have B1 := B0.trans (hbr.mono (by omega))
      cases ok0
      · have HE2 : Hid (respS p b x (fun i => termOf (g i)) k = (0, false)) := HE.out
        clear HE HW0
        go_wp2_with (go_at_call 15; refine (HW.out _).mono ?_; rintro e w1 ⟨rfl, hb1⟩)
        go_loopw [11, 13, 14, 15, 16, 17, 18] (fun _ _ _ _ _ _ _ w2 => w2 = w1) (fun _ _ _ _ _ _ _ _ => 0)
        case atStart => rfl
        case round =>
          subst hrel
          go_wp2
          go_ret2
          exact ⟨by rw [HE2.out]; rfl, B1.trans (hb1.mono B1.size)⟩
      · obtain ⟨G, hG⟩ : ∃ G, G = fun y => sW p b (min (total y (fun i => termOf (g i)) k + x 2) 65536) := ⟨_, rfl⟩
        have HE2 : Hid (respS p b x (fun i => termOf (g i)) k = match run G (x 1) n0 0 with | some (x, _) => (x, true) | none => (0, false)) := by show _ = _; rw [HE.out, hG]; rfl
        have HG0 : Hid (∀ y, G y = sW p b (min (total y (fun i => termOf (g i)) k + x 2) 65536)) := fun y => by rw [hG]
        have hn0 : 0 ≤ n0 := HW0.out
        clear HE HW0 hG
        go_wp2_with (go_at_call 15; refine (HW.out _).mono ?_; rintro e w1 ⟨rfl, hb1⟩)
        clear HW
        have hbr1 := hbr.trans (hb1.mono hbr.size)
        have hX1 := hX.below hb1
        go_loopw [11, 13, 14, 15, 16, 17, 18] (fun a _ _ _ _ _ _ wr => ∃ y : Int, ∃ many : Nat, a = .int .i64 y ∧ 0 ≤ y ∧ Hid (run G (x 1) n0 0 = run G (x 1) y many) ∧ Below w1.heap.size w1 wr) (fun a _ _ _ _ _ _ _ => (x 1 + 1 - intOf a).toNat)
        case atStart => exact ⟨n0, 0, rfl, hn0, rfl, Below.refl _ _⟩
        case round =>
          obtain ⟨y, many, rfl, hy0, HRun, hbq⟩ := hrel
          rw [HRun.out] at HE2
          have HRn := HRun
          clear HRun
          have hbr2 := hbr1.trans (hbq.mono hbr1.size)
          have B2 := B0.trans (hbr2.mono (by omega))
          have s0'' := kept s0 hbr2
          have s1'' := kept s1 hbr2
          have t1'' := kept t1 hbr2
          have t2'' := kept t2 hbr2
          by_cases hle : y ≤ x 1
          · have hd : decide (y ≤ x 1) = true := by simp; omega
            have HG := hid (HG0.out y)
            have hbnd := total_bound hF.out hy0 (show y ≤ 3000 by omega)
            have HD := demandWork_any xo k xc (fun i => termOf (g i)) y _ (by omega) (hX1.below hbq)
            rw [allR_total hF.out hy0 (by omega) hn] at HD
            have HD := hid HD
            generalize total y (fun i => termOf (g i)) k = s at HG hbnd HD
            have HA := add_any s (x 2)
            rw [addR_yes hbnd.1 (by omega) (by omega)] at HA
            have HA := hid HA
            have HN : Hid ((G y).2 = false → run G (x 1) y many = none) := fun h => run_none hle h
            have HF : Hid ((G y).2 = true → (G y).1 ≤ y → run G (x 1) y many = some (y, many + 1)) := fun h h2 => run_some hle h h2
            have HO : Hid ((G y).2 = true → y < (G y).1 → run G (x 1) y many = run G (x 1) (G y).1 (many + 1)) := fun h h2 => run_on hle h h2
            obtain ⟨⟨r, there⟩, hgy⟩ : ∃ z, G y = z := ⟨_, rfl⟩
            rw [hgy] at HG HN HF HO
            clear hgy HG0
            have HQ : Hid (∀ q, min (s + x 2) 65536 = q → ∀ W, Calls Try.prog 15 #[.agg #[.int .i64 p, .int .i64 b], .int .i64 q] W fun e w' => e = .returned (rv (r, there)) ∧ Below W.heap.size W w') := fun q hq W => by
              rw [HG.out, hq]; exact within_any p b q W
            clear HG
            rcases (show min (s + x 2) 65536 = s + x 2 ∧ s + x 2 ≤ 65536 ∨ min (s + x 2) 65536 = 65536 ∧ 65536 < s + x 2 by omega) with ⟨e, e2⟩ | ⟨e, e2⟩
            all_goals
              cases there
              · have HN2 : Hid (run G (x 1) y many = none) := HN.out rfl
                clear HN HF HO
                go_wp2_with (first | (go_at_call 27; refine HD.out.mono ?_; rintro e' w3 ⟨rfl, hb3⟩; have hbr3 := hbr2.trans (hb3.mono hbr2.size); have s0''' := kept s0 hbr3; have s1''' := kept s1 hbr3; have t2''' := kept t2 hbr3) | (go_at_call 55; refine (HA.out _).mono ?_; rintro e' w4 ⟨rfl, rfl⟩) | (go_at_call 15; refine (HQ.out _ e _).mono ?_; rintro e' w5 ⟨rfl, hb5⟩))
                go_ret2
                have B3 := B2.trans (hb3.mono B2.size)
                exact ⟨by rw [HE2.out, HN2.out]; rfl, B3.trans (hb5.mono B3.size)⟩
              · by_cases hle2 : r ≤ y
                · have HF2 : Hid (run G (x 1) y many = some (y, many + 1)) := HF.out rfl hle2
                  have hd2 : decide (r ≤ y) = true := by simp; omega
                  clear HN HF HO
                  go_wp2_with (first | (go_at_call 27; refine HD.out.mono ?_; rintro e' w3 ⟨rfl, hb3⟩; have hbr3 := hbr2.trans (hb3.mono hbr2.size); have s0''' := kept s0 hbr3; have s1''' := kept s1 hbr3; have t2''' := kept t2 hbr3) | (go_at_call 55; refine (HA.out _).mono ?_; rintro e' w4 ⟨rfl, rfl⟩) | (go_at_call 15; refine (HQ.out _ e _).mono ?_; rintro e' w5 ⟨rfl, hb5⟩))
                  go_ret2
                  have B3 := B2.trans (hb3.mono B2.size)
                  exact ⟨by rw [HE2.out, HF2.out]; rfl, B3.trans (hb5.mono B3.size)⟩
                · have HO2 : Hid (run G (x 1) y many = run G (x 1) r (many + 1)) := HO.out rfl (by show y < r; omega)
                  have hd2 : decide (r ≤ y) = false := by simp; omega
                  clear HN HF HO
                  go_wp2_with (first | (go_at_call 27; refine HD.out.mono ?_; rintro e' w3 ⟨rfl, hb3⟩; have hbr3 := hbr2.trans (hb3.mono hbr2.size); have s0''' := kept s0 hbr3; have s1''' := kept s1 hbr3; have t2''' := kept t2 hbr3) | (go_at_call 55; refine (HA.out _).mono ?_; rintro e' w4 ⟨rfl, rfl⟩) | (go_at_call 15; refine (HQ.out _ e _).mono ?_; rintro e' w5 ⟨rfl, hb5⟩))
                  have B3 := hbq.trans (hb3.mono hbq.size)
                  go_roundw
                  case rel => exact ⟨r, many + 1, rfl, by omega, hid (by rw [HRn.out, HO2.out]), B3.trans (hb5.mono B3.size)⟩
                  case measure => simp [intOf]; omega
          · have hd : decide (y ≤ x 1) = false := by simp; omega
            have HN2 : Hid (run G (x 1) y many = none) := run_over (by omega)
            go_wp2
            go_ret2
            exact ⟨by rw [HE2.out, HN2.out]; rfl, B2⟩
end Go.Proofs.Ytcjdfgfnpmmcnaa
