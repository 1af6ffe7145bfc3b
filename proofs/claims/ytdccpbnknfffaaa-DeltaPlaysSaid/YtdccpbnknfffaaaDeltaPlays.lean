/-
  Layer 23: the walk of DeltaPlays.
-/
import Derived.Test.YtdccpbnknfffaaaDeltaRefRow
import Derived.Test.YtdccpbnknfffaaaDeltaDueW
import Derived.Deep.RegionHeld3
namespace Go.Proofs.Ytdccpbnknfffaaa
open Go.RowKit
theorem kind5 (kd : Int) : ∃ r : Nat, r < 5 ∧ (kd.tmod 5 + 5).tmod 5 = (r : Int) := by
  refine ⟨(kd % 5).toNat, by omega, ?_⟩
  have h1 : -5 < kd.tmod 5 ∧ kd.tmod 5 < 5 := by
    have := Int.tmod_lt_of_pos kd (show (0 : Int) < 5 by decide)
    have h2 := Int.tmod_lt_of_pos (-kd) (show (0 : Int) < 5 by decide)
    rw [Int.neg_tmod] at h2
    omega
  have h3 : kd = 5 * kd.tdiv 5 + kd.tmod 5 := (Int.mul_tdiv_add_tmod kd 5).symm
  rw [Int.tmod_eq_emod_of_nonneg (by omega)]
  omega
theorem rrow_own (B : Nat) (v : Value) (r : TL) (w : World) (h : w.ownsRow B 43 2 v r.length (cells2 r)) (hn : r.length ≤ 64) : Calls Try.prog 18 #[v] w fun e w' => ∃ u, e = .returned u ∧ w'.ownsRow w.heap.size 3 1 u (flatI (srt r)).length (iv (flatI (srt r))) ∧ Below w.heap.size w w' := by
  obtain ⟨ao, cap, rfl, hT⟩ := tat_of_own h rfl
  refine rrow_any ao cap r.length r rfl w hT hn (fun e => ?_) fun p e => ?_
  · subst e
    rcases h.2 with ⟨h, _⟩ | ⟨g, c, cur, h, _⟩
    · simp only [Value.slice.injEq] at h; exact h.2.2
    · simp at h
  · subst e
    rcases h.2 with ⟨h, _⟩ | ⟨g, c, cur, h, _⟩
    · simp at h
    · simp only [Value.slice.injEq, Option.some.injEq] at h; rw [h.1]
theorem rdrop_own (B : Nat) (v : Value) (r : TL) (id : Int) (w : World) (h : w.ownsRow B 43 2 v r.length (cells2 r)) (hn : r.length ≤ 64) (hB : B ≤ w.heap.size) : Calls Try.prog 9 #[v, .int .i64 id] w fun e w' => ∃ v', e = .returned (.tuple #[v', .bool (look id r).isSome]) ∧ w'.ownsRow B 43 2 v' (dropR id r).length (cells2 (dropR id r)) ∧ Below w.heap.size w w' := by
  obtain ⟨ao, cap, rfl, hT⟩ := tat_of_own h rfl
  refine (rdrop_any ao cap r.length r rfl id w hT hn).mono ?_
  rintro e w' ⟨v', h1, h2, h3⟩
  exact ⟨v', h1, own_base h2 hB, h3⟩
theorem rtick_own (B : Nat) (v : Value) (r : TL) (w : World) (h : w.ownsRow B 43 2 v r.length (cells2 r)) (hn : r.length ≤ 64) (hb : ∀ x ∈ r, 1 ≤ x.2 ∧ x.2 ≤ 65536) (hB : B ≤ w.heap.size) : Calls Try.prog 11 #[v] w fun e w' => ∃ v' u, e = .returned (.tuple #[v', u]) ∧ w'.ownsRow B 43 2 v' (leftR r).length (cells2 (leftR r)) ∧ w'.ownsRow w.heap.size 3 1 u (dueR r).length (iv (dueR r)) ∧ Below w.heap.size w w' := by
  obtain ⟨ao, cap, rfl, hT⟩ := tat_of_own h rfl
  refine (rtick_any ao cap r.length r rfl w hT hn hb).mono ?_
  rintro e w' ⟨v', u, h1, h2, h3, h4⟩
  exact ⟨v', u, h1, own_base h2 hB, h3, h4⟩
theorem QS.tk {W : World} {base qb : Nat} {r : TL} (h : QS W base qb r) : ∀ x ∈ r, 1 ≤ x.2 ∧ x.2 ≤ 65536 := h.choose_spec.2.tk
theorem look_hit {r : TL} {id t : Int} {k : Nat} (h : Dist r) (hk : k < r.length) (hx : r.getD k (0, 0) = (id, t)) : look id (r.take (k + 1)) = some t := by
  have hd : Dist (r.take (k + 1)) := List.Pairwise.sublist (List.take_sublist _ _) h
  refine (look_some hd).2 ?_
  rw [take_snoc hk, hx]; simp
theorem look_miss {r : TL} {id i t : Int} {k : Nat} (hk : k < r.length) (hx : r.getD k (0, 0) = (i, t)) (hi : i ≠ id) : look id (r.take (k + 1)) = look id (r.take k) := by
  rw [take_snoc hk, hx]
  unfold look
  rw [List.find?_append]
  have : List.find? (fun x : Int × Int => decide (x.1 = id)) [(i, t)] = none := by simp [hi]
  rw [this, Option.or_none]
set_option maxRecDepth 100000 in
set_option maxHeartbeats 16000000 in
theorem deltaPlays_walk (ao : Option Addr) (n cap : Nat) (g : Nat → Nat → Int) (w : World) (hT : OpsD w ao n g) (hm : n ≤ maxLen) (hq : n ≤ cap ∧ cap ≤ maxLen) :
    Calls Try.prog 3 #[.slice ao n cap] w fun e w' => e = .returned (.bool true) ∧ Below w.heap.size w w' := by
  unfold maxLen at hm hq
  by_cases hg : 200 < n
  · have d0 : decide (200 < (n : Int)) = true := by simp; omega
    go_enter Try.func3, Try.ntmps3
    go_wp2
    go_ret
    exact ⟨rfl, Below.refl _ _⟩
  · have hn : n ≤ 200 := by omega
    have d0 : decide (200 < (n : Int)) = false := by simp; omega
    have h0 := hid (qs_new w (base := w.heap.size) (Nat.le_refl _))
    have hB0 := hid (show Below w.heap.size w (w.alloc (Obj.cells #[.pointer none, .int .i64 0] 26)) from (Below.refl _ _).alloc (Nat.le_refl _) _)
    have HT := hid hT
    clear hg hm hq hT
    go_enter Try.func3, Try.ntmps3
    go_wp2
    go_loopw [4, 5] (fun v i_ wr => ∃ (k : Nat) (r : TL), i_ = .int .i64 k ∧ k ≤ n ∧ Hid (QS wr w.heap.size w.heap.size r) ∧ Hid (wr.ownsRow (w.heap.size + 1) 43 2 v r.length (cells2 r)) ∧ Hid (Below w.heap.size w wr)) (fun _ i_ _ => n - (intOf i_).toNat)
    case atStart => exact ⟨0, [], rfl, by omega, h0, hid (World.ownsRow_nil _ _ _ _), hB0⟩
    case round =>
      clear h0 hB0
      obtain ⟨k, r, rfl, hk, HQ, HR, HB⟩ := hrel
      by_cases hlt : k < n
      · obtain ⟨rb, ro, rfl, c0, c1, c2⟩ := HT.out k hlt
        have e0 := (HB.out.cell (cell_lt c0)).trans c0
        have e1 := (HB.out.cell (cell_lt c1)).trans c1
        have e2 := (HB.out.cell (cell_lt c2)).trans c2
        have hlow := cell_lt c1
        generalize g k 0 = kd at e0 c0
        generalize g k 1 = id at e1 c1
        generalize g k 2 = tt at e2 c2
        have i0 : (0 : Int) ≤ (k : Int) := by omega
        have i1 : (k : Int) < (n : Int) := by omega
        obtain ⟨rr, hr5, hrk⟩ := kind5 kd
        have hwk : wrap64 (kd.tmod 5 + 5) = kd.tmod 5 + 5 := by
          have h1 := Int.tmod_lt_of_pos kd (show (0 : Int) < 5 by decide)
          have h2 := Int.tmod_lt_of_pos (-kd) (show (0 : Int) < 5 by decide)
          rw [Int.neg_tmod] at h2
          unfold wrap64; omega
        have C1 := hid c1
        have hrl := HQ.out.len
        have hqs := HQ.out.lt.1
        clear c0 c1
        by_cases r2 : rr = 2
        · subst r2
          have t2 : ((kd.tmod 5 + 5).tmod 5 == 2) = true := by rw [hrk]; rfl
          clear hrk e2 c2
          go_wp2_with fail
          refine (qcancel_any _ _ r id _ HQ.out).mono ?_
          rintro e w1 ⟨rfl, q1, k1⟩
          have Q1 := hid q1
          have R1 := hid (k1.r (by decide) (Nat.lt_succ_self _) HR.out)
          have B1 := hid (HB.out.trans k1.b)
          have f1 := (B1.out.cell (cell_lt C1.out)).trans C1.out
          have hs1 := Q1.out.lt.1
          clear HQ HR HB q1 k1 e0 e1
          go_wp2_with fail
          refine (rdrop_own _ u4 r id _ R1.out hrl (by omega)).mono ?_
          rintro e w2 ⟨v2, rfl, o2, b2⟩
          have Q2 := hid (Q1.out.below b2)
          have R2 := hid o2
          have B2 := hid (B1.out.trans (b2.mono B1.out.size))
          generalize hrr : dropR id r = r2 at Q2 R2
          generalize hdd : (look id r).isSome = dd
          clear Q1 R1 B1 f1 hs1 o2 b2 hrr
          have hl2 := Q2.out.len
          have f2 := (B2.out.cell (cell_lt C1.out)).trans C1.out
          go_wp2_with fail
          refine (qdue_any _ _ r2 id _ Q2.out).mono ?_
          rintro e w3 ⟨rfl, b3⟩
          have Q3 := hid (Q2.out.below b3)
          have R3 := hid (own_save R2.out (Save.of_below b3 (fun _ => False)) fun _ _ h => h)
          have B3 := hid (B2.out.trans (b3.mono B2.out.size))
          clear Q2 R2 B2 b3 f2
          obtain ⟨tao, tcap, rfl, hTA⟩ := tat_of_own R3.out rfl
          obtain ⟨N, hNN⟩ : ∃ N, r2.length = N := ⟨_, rfl⟩
          have HN := hid hNN
          rw [hNN] at hl2 R3 ⊢
          obtain ⟨⟨du, th⟩, hdt⟩ : ∃ y, dR2 (look id r2) = y := ⟨_, rfl⟩
          have HDT := hid hdt
          rw [hdt]
          clear hdt hNN hTA
          go_wp2
          go_loopw [12, 13, 14] (fun a_ b_ j_ wq => ∃ j : Nat, j_ = .int .i64 j ∧ j ≤ N ∧ a_ = .int .i64 (dR2 (look id (r2.take j))).1 ∧ b_ = .bool (dR2 (look id (r2.take j))).2 ∧ Hid (QS wq w.heap.size w.heap.size r2) ∧ Hid (wq.ownsRow (w.heap.size + 1) 43 2 (.slice tao N tcap) N (cells2 r2)) ∧ Hid (Below w.heap.size w wq)) (fun _ _ j_ _ => N - (intOf j_).toNat)
          case atStart => exact ⟨0, rfl, by omega, rfl, rfl, Q3, R3, B3⟩
          case round =>
            clear Q3 R3 B3
            obtain ⟨j, rfl, hj, rfl, rfl, Q3, R3, B3⟩ := hrel
            by_cases hjl : j < N
            · obtain ⟨tao2, tcap2, e2', hTA⟩ := tat_of_own R3.out HN.out.symm
              cases e2'
              obtain ⟨b, o, rfl, x1, x2⟩ := hTA j (by rw [HN.out]; exact hjl)
              have f3 := (B3.out.cell (cell_lt C1.out)).trans C1.out
              have HH := hid (fun t h => look_hit (id := id) (t := t) Q3.out.ds (by rw [HN.out]; exact hjl) h)
              have HM := hid (fun i t h => look_miss (r := r2) (id := id) (i := i) (t := t) (k := j) (by rw [HN.out]; exact hjl) h)
              have j0 : (0 : Int) ≤ (j : Int) := by omega
              have j1 : (j : Int) < (N : Int) := by omega
              obtain ⟨⟨xi, xt⟩, hxx⟩ : ∃ y, r2.getD j (0, 0) = y := ⟨_, rfl⟩
              rw [hxx] at HH HM x1 x2
              dsimp only at x1 x2
              clear hTA hxx
              by_cases hx : xi = id
              · subst hx
                have HK := hid (HH.out xt rfl)
                have tx : (xi == xi) = true := by simp
                clear HH HM
                go_wp2
                go_quiet (fail)
                go_wp2
                go_roundw
                case rel => exact ⟨j + 1, by go_num, by omega, by rw [HK.out]; rfl, by rw [HK.out]; rfl, hid (Q3.out.below ⟨rfl, rfl, rfl, Nat.le_refl _, fun _ _ => rfl⟩), R3, hid (B3.out.trans ⟨rfl, rfl, rfl, Nat.le_refl _, fun _ _ => rfl⟩)⟩
                case measure => simp [intOf]; omega
              · have HK := hid (HM.out xi xt rfl hx)
                have tx : (xi == id) = false := by simpa using hx
                clear HH HM
                go_wp2
                go_quiet (fail)
                go_wp2
                go_roundw
                case rel => exact ⟨j + 1, by go_num, by omega, by rw [HK.out], by rw [HK.out], hid (Q3.out.below ⟨rfl, rfl, rfl, Nat.le_refl _, fun _ _ => rfl⟩), R3, hid (B3.out.trans ⟨rfl, rfl, rfl, Nat.le_refl _, fun _ _ => rfl⟩)⟩
                case measure => simp [intOf]; omega
            · obtain rfl : j = N := by omega
              have hl : dR2 (look id (r2.take j)) = (du, th) := by
                rw [List.take_of_length_le (by rw [HN.out]; exact Nat.le_refl _)]; exact HDT.out
              rw [hl]
              have z1 : (dd != dd) = false := by simp
              have z2 : (du != du) = false := by simp
              have z3 : (th != th) = false := by simp
              have z4 : ((j : Int) != (j : Int)) = false := by simp
              have HLN := hid (qlen_any _ _ r2 _ Q3.out)
              rw [HN.out] at HLN
              clear hl HDT
              go_wp2_with fail
              refine HLN.out.mono ?_
              rintro e w4 ⟨rfl, rfl⟩
              clear HLN
              go_wp2_with fail
              refine (dlist_any _ _ r2 _ Q3.out).mono ?_
              rintro e w5 ⟨ul, rfl, ol, b5⟩
              have Q5 := hid (Q3.out.below b5)
              have R5 := hid (own_save R3.out (Save.of_below b5 (fun _ => False)) fun _ _ h => h)
              have B5 := hid (B3.out.trans (b5.mono B3.out.size))
              have OL := hid ol
              clear Q3 R3 B3 b5 ol
              go_wp2_with fail
              refine (rrow_own (w.heap.size + 1) _ r2 _ (by rw [HN.out]; exact R5.out) (by rw [HN.out]; omega)).mono ?_
              rintro e w6 ⟨ur, rfl, or_, b6⟩
              have Q6 := hid (Q5.out.below b6)
              have R6 := hid (own_save R5.out (Save.of_below b6 (fun _ => False)) fun _ _ h => h)
              have B6 := hid (B5.out.trans (b6.mono B5.out.size))
              have OL6 := hid (own_save OL.out (Save.of_below b6 (fun _ => False)) fun _ _ h => h)
              have OR6 := hid or_
              clear Q5 R5 B5 OL b6 or_
              go_wp2_with fail
              refine (drow_own OL6.out OR6.out (by rw [flat_length, srt_length, HN.out]; omega)).mono ?_
              rintro e w7 ⟨rfl, b7⟩
              have Q7 := hid (Q6.out.below b7)
              have R7 := hid (own_save R6.out (Save.of_below b7 (fun _ => False)) fun _ _ h => h)
              have B7 := hid (B6.out.trans (b7.mono B6.out.size))
              have z5 : (flatI (srt r2) == flatI (srt r2)) = true := by simp
              rw [z5]
              clear Q6 R6 B6 OL6 OR6 b7 z5
              go_wp2
              go_roundw
              case rel => exact ⟨k + 1, r2, by go_num, by omega, Q7, by rw [HN.out]; exact R7, B7⟩
              case measure => simp [intOf]; omega
        · by_cases r34 : rr = 3 ∨ rr = 4
          · rcases r34 with rfl | rfl
            · have t2 : ((kd.tmod 5 + 5).tmod 5 == 2) = false := by rw [hrk]; rfl
              have t3 : ((kd.tmod 5 + 5).tmod 5 == 3) = true := by rw [hrk]; rfl
              clear hrk e2 c2
              go_wp2_with fail
              refine (qtick_any _ _ r _ HQ.out).mono ?_
              rintro e w1 ⟨u1, rfl, o1, q1, k1⟩
              have Q1 := hid q1
              have R1 := hid (k1.r (by decide) (Nat.lt_succ_self _) HR.out)
              have B1 := hid (HB.out.trans k1.b)
              have O1 := hid o1
              have hs1 := Q1.out.lt.1
              have HTK := hid HQ.out.tk
              clear HQ HR HB q1 k1 e0 e1 o1
              go_wp2_with fail
              refine (rtick_own _ u4 r _ R1.out hrl HTK.out (by omega)).mono ?_
              rintro e w1b ⟨v2, u2, rfl, o2, o3, b2⟩
              have Q1b := hid (Q1.out.below b2)
              have R1b := hid o2
              have B1b := hid (B1.out.trans (b2.mono B1.out.size))
              have O1b := hid (own_save O1.out (Save.of_below b2 (fun _ => False)) fun _ _ h => h)
              have O2b := hid o3
              have hdl : (dueR r).length ≤ 64 := Nat.le_trans dueR_len hrl
              clear Q1 R1 B1 O1 hs1 b2 o2 o3 HTK
              go_wp2_with fail
              refine (drow_own O1b.out O2b.out (by omega)).mono ?_
              rintro e w2 ⟨rfl, b2⟩
              rw [show (dueR r == dueR r) = true by simp]
              have Q2 := hid (Q1b.out.below b2)
              have R2 := hid (own_save R1b.out (Save.of_below b2 (fun _ => False)) fun _ _ h => h)
              have B2 := hid (B1b.out.trans (b2.mono B1b.out.size))
              generalize hrr : leftR r = r2 at Q2 R2
              clear Q1b R1b B1b O1b O2b b2 hdl hrr
              have hl2 := Q2.out.len
              have f2 := (B2.out.cell (cell_lt C1.out)).trans C1.out
              go_wp2_with fail
              refine (qdue_any _ _ r2 id _ Q2.out).mono ?_
              rintro e w3 ⟨rfl, b3⟩
              have Q3 := hid (Q2.out.below b3)
              have R3 := hid (own_save R2.out (Save.of_below b3 (fun _ => False)) fun _ _ h => h)
              have B3 := hid (B2.out.trans (b3.mono B2.out.size))
              clear Q2 R2 B2 b3 f2
              obtain ⟨tao, tcap, rfl, hTA⟩ := tat_of_own R3.out rfl
              obtain ⟨N, hNN⟩ : ∃ N, r2.length = N := ⟨_, rfl⟩
              have HN := hid hNN
              rw [hNN] at hl2 R3 ⊢
              obtain ⟨⟨du, th⟩, hdt⟩ : ∃ y, dR2 (look id r2) = y := ⟨_, rfl⟩
              have HDT := hid hdt
              rw [hdt]
              clear hdt hNN hTA
              go_wp2
              go_loopw [12, 13, 14] (fun a_ b_ j_ wq => ∃ j : Nat, j_ = .int .i64 j ∧ j ≤ N ∧ a_ = .int .i64 (dR2 (look id (r2.take j))).1 ∧ b_ = .bool (dR2 (look id (r2.take j))).2 ∧ Hid (QS wq w.heap.size w.heap.size r2) ∧ Hid (wq.ownsRow (w.heap.size + 1) 43 2 (.slice tao N tcap) N (cells2 r2)) ∧ Hid (Below w.heap.size w wq)) (fun _ _ j_ _ => N - (intOf j_).toNat)
              case atStart => exact ⟨0, rfl, by omega, rfl, rfl, Q3, R3, B3⟩
              case round =>
                clear Q3 R3 B3
                obtain ⟨j, rfl, hj, rfl, rfl, Q3, R3, B3⟩ := hrel
                by_cases hjl : j < N
                · obtain ⟨tao2, tcap2, e2', hTA⟩ := tat_of_own R3.out HN.out.symm
                  cases e2'
                  obtain ⟨b, o, rfl, x1, x2⟩ := hTA j (by rw [HN.out]; exact hjl)
                  have f3 := (B3.out.cell (cell_lt C1.out)).trans C1.out
                  have HH := hid (fun t h => look_hit (id := id) (t := t) Q3.out.ds (by rw [HN.out]; exact hjl) h)
                  have HM := hid (fun i t h => look_miss (r := r2) (id := id) (i := i) (t := t) (k := j) (by rw [HN.out]; exact hjl) h)
                  have j0 : (0 : Int) ≤ (j : Int) := by omega
                  have j1 : (j : Int) < (N : Int) := by omega
                  obtain ⟨⟨xi, xt⟩, hxx⟩ : ∃ y, r2.getD j (0, 0) = y := ⟨_, rfl⟩
                  rw [hxx] at HH HM x1 x2
                  dsimp only at x1 x2
                  clear hTA hxx
                  by_cases hx : xi = id
                  · subst hx
                    have HK := hid (HH.out xt rfl)
                    have tx : (xi == xi) = true := by simp
                    clear HH HM
                    go_wp2
                    go_quiet (fail)
                    go_wp2
                    go_roundw
                    case rel => exact ⟨j + 1, by go_num, by omega, by rw [HK.out]; rfl, by rw [HK.out]; rfl, hid (Q3.out.below ⟨rfl, rfl, rfl, Nat.le_refl _, fun _ _ => rfl⟩), R3, hid (B3.out.trans ⟨rfl, rfl, rfl, Nat.le_refl _, fun _ _ => rfl⟩)⟩
                    case measure => simp [intOf]; omega
                  · have HK := hid (HM.out xi xt rfl hx)
                    have tx : (xi == id) = false := by simpa using hx
                    clear HH HM
                    go_wp2
                    go_quiet (fail)
                    go_wp2
                    go_roundw
                    case rel => exact ⟨j + 1, by go_num, by omega, by rw [HK.out], by rw [HK.out], hid (Q3.out.below ⟨rfl, rfl, rfl, Nat.le_refl _, fun _ _ => rfl⟩), R3, hid (B3.out.trans ⟨rfl, rfl, rfl, Nat.le_refl _, fun _ _ => rfl⟩)⟩
                    case measure => simp [intOf]; omega
                · obtain rfl : j = N := by omega
                  have hl : dR2 (look id (r2.take j)) = (du, th) := by
                    rw [List.take_of_length_le (by rw [HN.out]; exact Nat.le_refl _)]; exact HDT.out
                  rw [hl]
                  have z1 : (true != true) = false := by simp
                  have z2 : (du != du) = false := by simp
                  have z3 : (th != th) = false := by simp
                  have z4 : ((j : Int) != (j : Int)) = false := by simp
                  have HLN := hid (qlen_any _ _ r2 _ Q3.out)
                  rw [HN.out] at HLN
                  clear hl HDT
                  go_wp2_with fail
                  refine HLN.out.mono ?_
                  rintro e w4 ⟨rfl, rfl⟩
                  clear HLN
                  go_wp2_with fail
                  refine (dlist_any _ _ r2 _ Q3.out).mono ?_
                  rintro e w5 ⟨ul, rfl, ol, b5⟩
                  have Q5 := hid (Q3.out.below b5)
                  have R5 := hid (own_save R3.out (Save.of_below b5 (fun _ => False)) fun _ _ h => h)
                  have B5 := hid (B3.out.trans (b5.mono B3.out.size))
                  have OL := hid ol
                  clear Q3 R3 B3 b5 ol
                  go_wp2_with fail
                  refine (rrow_own (w.heap.size + 1) _ r2 _ (by rw [HN.out]; exact R5.out) (by rw [HN.out]; omega)).mono ?_
                  rintro e w6 ⟨ur, rfl, or_, b6⟩
                  have Q6 := hid (Q5.out.below b6)
                  have R6 := hid (own_save R5.out (Save.of_below b6 (fun _ => False)) fun _ _ h => h)
                  have B6 := hid (B5.out.trans (b6.mono B5.out.size))
                  have OL6 := hid (own_save OL.out (Save.of_below b6 (fun _ => False)) fun _ _ h => h)
                  have OR6 := hid or_
                  clear Q5 R5 B5 OL b6 or_
                  go_wp2_with fail
                  refine (drow_own OL6.out OR6.out (by rw [flat_length, srt_length, HN.out]; omega)).mono ?_
                  rintro e w7 ⟨rfl, b7⟩
                  have Q7 := hid (Q6.out.below b7)
                  have R7 := hid (own_save R6.out (Save.of_below b7 (fun _ => False)) fun _ _ h => h)
                  have B7 := hid (B6.out.trans (b7.mono B6.out.size))
                  have z5 : (flatI (srt r2) == flatI (srt r2)) = true := by simp
                  rw [z5]
                  clear Q6 R6 B6 OL6 OR6 b7 z5
                  go_wp2
                  go_roundw
                  case rel => exact ⟨k + 1, r2, by go_num, by omega, Q7, by rw [HN.out]; exact R7, B7⟩
                  case measure => simp [intOf]; omega
            · have t2 : ((kd.tmod 5 + 5).tmod 5 == 2) = false := by rw [hrk]; rfl
              have t3 : ((kd.tmod 5 + 5).tmod 5 == 3) = false := by rw [hrk]; rfl
              have t4 : ((kd.tmod 5 + 5).tmod 5 == 4) = true := by rw [hrk]; rfl
              clear hrk e2 c2
              go_wp2_with fail
              refine (qtick_any _ _ r _ HQ.out).mono ?_
              rintro e w1 ⟨u1, rfl, o1, q1, k1⟩
              have Q1 := hid q1
              have R1 := hid (k1.r (by decide) (Nat.lt_succ_self _) HR.out)
              have B1 := hid (HB.out.trans k1.b)
              have O1 := hid o1
              have hs1 := Q1.out.lt.1
              have HTK := hid HQ.out.tk
              clear HQ HR HB q1 k1 e0 e1 o1
              go_wp2_with fail
              refine (rtick_own _ u4 r _ R1.out hrl HTK.out (by omega)).mono ?_
              rintro e w1b ⟨v2, u2, rfl, o2, o3, b2⟩
              have Q1b := hid (Q1.out.below b2)
              have R1b := hid o2
              have B1b := hid (B1.out.trans (b2.mono B1.out.size))
              have O1b := hid (own_save O1.out (Save.of_below b2 (fun _ => False)) fun _ _ h => h)
              have O2b := hid o3
              have hdl : (dueR r).length ≤ 64 := Nat.le_trans dueR_len hrl
              clear Q1 R1 B1 O1 hs1 b2 o2 o3 HTK
              go_wp2_with fail
              refine (drow_own O1b.out O2b.out (by omega)).mono ?_
              rintro e w2 ⟨rfl, b2⟩
              rw [show (dueR r == dueR r) = true by simp]
              have Q2 := hid (Q1b.out.below b2)
              have R2 := hid (own_save R1b.out (Save.of_below b2 (fun _ => False)) fun _ _ h => h)
              have B2 := hid (B1b.out.trans (b2.mono B1b.out.size))
              generalize hrr : leftR r = r2 at Q2 R2
              clear Q1b R1b B1b O1b O2b b2 hdl hrr
              have hl2 := Q2.out.len
              have f2 := (B2.out.cell (cell_lt C1.out)).trans C1.out
              go_wp2_with fail
              refine (qdue_any _ _ r2 id _ Q2.out).mono ?_
              rintro e w3 ⟨rfl, b3⟩
              have Q3 := hid (Q2.out.below b3)
              have R3 := hid (own_save R2.out (Save.of_below b3 (fun _ => False)) fun _ _ h => h)
              have B3 := hid (B2.out.trans (b3.mono B2.out.size))
              clear Q2 R2 B2 b3 f2
              obtain ⟨tao, tcap, rfl, hTA⟩ := tat_of_own R3.out rfl
              obtain ⟨N, hNN⟩ : ∃ N, r2.length = N := ⟨_, rfl⟩
              have HN := hid hNN
              rw [hNN] at hl2 R3 ⊢
              obtain ⟨⟨du, th⟩, hdt⟩ : ∃ y, dR2 (look id r2) = y := ⟨_, rfl⟩
              have HDT := hid hdt
              rw [hdt]
              clear hdt hNN hTA
              go_wp2
              go_loopw [12, 13, 14] (fun a_ b_ j_ wq => ∃ j : Nat, j_ = .int .i64 j ∧ j ≤ N ∧ a_ = .int .i64 (dR2 (look id (r2.take j))).1 ∧ b_ = .bool (dR2 (look id (r2.take j))).2 ∧ Hid (QS wq w.heap.size w.heap.size r2) ∧ Hid (wq.ownsRow (w.heap.size + 1) 43 2 (.slice tao N tcap) N (cells2 r2)) ∧ Hid (Below w.heap.size w wq)) (fun _ _ j_ _ => N - (intOf j_).toNat)
              case atStart => exact ⟨0, rfl, by omega, rfl, rfl, Q3, R3, B3⟩
              case round =>
                clear Q3 R3 B3
                obtain ⟨j, rfl, hj, rfl, rfl, Q3, R3, B3⟩ := hrel
                by_cases hjl : j < N
                · obtain ⟨tao2, tcap2, e2', hTA⟩ := tat_of_own R3.out HN.out.symm
                  cases e2'
                  obtain ⟨b, o, rfl, x1, x2⟩ := hTA j (by rw [HN.out]; exact hjl)
                  have f3 := (B3.out.cell (cell_lt C1.out)).trans C1.out
                  have HH := hid (fun t h => look_hit (id := id) (t := t) Q3.out.ds (by rw [HN.out]; exact hjl) h)
                  have HM := hid (fun i t h => look_miss (r := r2) (id := id) (i := i) (t := t) (k := j) (by rw [HN.out]; exact hjl) h)
                  have j0 : (0 : Int) ≤ (j : Int) := by omega
                  have j1 : (j : Int) < (N : Int) := by omega
                  obtain ⟨⟨xi, xt⟩, hxx⟩ : ∃ y, r2.getD j (0, 0) = y := ⟨_, rfl⟩
                  rw [hxx] at HH HM x1 x2
                  dsimp only at x1 x2
                  clear hTA hxx
                  by_cases hx : xi = id
                  · subst hx
                    have HK := hid (HH.out xt rfl)
                    have tx : (xi == xi) = true := by simp
                    clear HH HM
                    go_wp2
                    go_quiet (fail)
                    go_wp2
                    go_roundw
                    case rel => exact ⟨j + 1, by go_num, by omega, by rw [HK.out]; rfl, by rw [HK.out]; rfl, hid (Q3.out.below ⟨rfl, rfl, rfl, Nat.le_refl _, fun _ _ => rfl⟩), R3, hid (B3.out.trans ⟨rfl, rfl, rfl, Nat.le_refl _, fun _ _ => rfl⟩)⟩
                    case measure => simp [intOf]; omega
                  · have HK := hid (HM.out xi xt rfl hx)
                    have tx : (xi == id) = false := by simpa using hx
                    clear HH HM
                    go_wp2
                    go_quiet (fail)
                    go_wp2
                    go_roundw
                    case rel => exact ⟨j + 1, by go_num, by omega, by rw [HK.out], by rw [HK.out], hid (Q3.out.below ⟨rfl, rfl, rfl, Nat.le_refl _, fun _ _ => rfl⟩), R3, hid (B3.out.trans ⟨rfl, rfl, rfl, Nat.le_refl _, fun _ _ => rfl⟩)⟩
                    case measure => simp [intOf]; omega
                · obtain rfl : j = N := by omega
                  have hl : dR2 (look id (r2.take j)) = (du, th) := by
                    rw [List.take_of_length_le (by rw [HN.out]; exact Nat.le_refl _)]; exact HDT.out
                  rw [hl]
                  have z1 : (true != true) = false := by simp
                  have z2 : (du != du) = false := by simp
                  have z3 : (th != th) = false := by simp
                  have z4 : ((j : Int) != (j : Int)) = false := by simp
                  have HLN := hid (qlen_any _ _ r2 _ Q3.out)
                  rw [HN.out] at HLN
                  clear hl HDT
                  go_wp2_with fail
                  refine HLN.out.mono ?_
                  rintro e w4 ⟨rfl, rfl⟩
                  clear HLN
                  go_wp2_with fail
                  refine (dlist_any _ _ r2 _ Q3.out).mono ?_
                  rintro e w5 ⟨ul, rfl, ol, b5⟩
                  have Q5 := hid (Q3.out.below b5)
                  have R5 := hid (own_save R3.out (Save.of_below b5 (fun _ => False)) fun _ _ h => h)
                  have B5 := hid (B3.out.trans (b5.mono B3.out.size))
                  have OL := hid ol
                  clear Q3 R3 B3 b5 ol
                  go_wp2_with fail
                  refine (rrow_own (w.heap.size + 1) _ r2 _ (by rw [HN.out]; exact R5.out) (by rw [HN.out]; omega)).mono ?_
                  rintro e w6 ⟨ur, rfl, or_, b6⟩
                  have Q6 := hid (Q5.out.below b6)
                  have R6 := hid (own_save R5.out (Save.of_below b6 (fun _ => False)) fun _ _ h => h)
                  have B6 := hid (B5.out.trans (b6.mono B5.out.size))
                  have OL6 := hid (own_save OL.out (Save.of_below b6 (fun _ => False)) fun _ _ h => h)
                  have OR6 := hid or_
                  clear Q5 R5 B5 OL b6 or_
                  go_wp2_with fail
                  refine (drow_own OL6.out OR6.out (by rw [flat_length, srt_length, HN.out]; omega)).mono ?_
                  rintro e w7 ⟨rfl, b7⟩
                  have Q7 := hid (Q6.out.below b7)
                  have R7 := hid (own_save R6.out (Save.of_below b7 (fun _ => False)) fun _ _ h => h)
                  have B7 := hid (B6.out.trans (b7.mono B6.out.size))
                  have z5 : (flatI (srt r2) == flatI (srt r2)) = true := by simp
                  rw [z5]
                  clear Q6 R6 B6 OL6 OR6 b7 z5
                  go_wp2
                  go_roundw
                  case rel => exact ⟨k + 1, r2, by go_num, by omega, Q7, by rw [HN.out]; exact R7, B7⟩
                  case measure => simp [intOf]; omega
          · have t2 : ((kd.tmod 5 + 5).tmod 5 == 2) = false := by rw [hrk, beq_eq_false_iff_ne]; omega
            have t3 : ((kd.tmod 5 + 5).tmod 5 == 3) = false := by rw [hrk, beq_eq_false_iff_ne]; omega
            have t4 : ((kd.tmod 5 + 5).tmod 5 == 4) = false := by rw [hrk, beq_eq_false_iff_ne]; omega
            have C2 := hid c2
            have HAD := hid (qadd_any _ _ r id tt wr.drew (HQ.out.below (drew_below wr)))
            have HBD := hid (HB.out.trans ((drew_below wr).mono HB.out.size))
            have HKE := hid (fun w3 (k3 : QK w.heap.size w.heap.size wr.drew w3) => show w3.cell? ⟨rb, ro + k * 3 + 1, none⟩ = some (.int .i64 id) ∧ w3.cell? ⟨rb, ro + k * 3 + 2, none⟩ = some (.int .i64 tt) from
              have hb3 := HBD.out.trans k3.b
              ⟨(hb3.cell (cell_lt C1.out)).trans C1.out, (hb3.cell (cell_lt C2.out)).trans C2.out⟩)
            clear hrk c2 r2 r34
            go_wp2
            go_region_held3 (fun w' => w'.cell? ⟨rb, ro + k * 3 + 1, none⟩ = some (.int .i64 id) ∧ w'.cell? ⟨rb, ro + k * 3 + 2, none⟩ = some (.int .i64 tt)) (first | go_keep | exact HKE.out _ k3) (first | (go_at_call 13; refine HAD.out.mono ?_; rintro e w1 ⟨rfl, q3, k3⟩))
            have Q1 := hid q3
            have R1 := hid (k3.r (by decide) (Nat.lt_succ_self _) (show wr.drew.ownsRow (w.heap.size + 1) 43 2 u4 r.length (cells2 r) from HR.out))
            have B1 := hid (HBD.out.trans k3.b)
            have hs1 := Q1.out.lt.1
            have f1 := (B1.out.cell (cell_lt C1.out)).trans C1.out
            have f2 := (B1.out.cell (cell_lt C2.out)).trans C2.out
            have HRA := hid (radd_any (w.heap.size + 1) u4 r id tt w1.drew R1.out hs1 hrl)
            have HBE := hid (B1.out.trans ((drew_below w1).mono B1.out.size))
            have HKF := hid (fun w3 (b3 : Below w1.drew.heap.size w1.drew w3) => show w3.cell? ⟨rb, ro + k * 3 + 1, none⟩ = some (.int .i64 id) ∧ w3.cell? ⟨rb, ro + k * 3 + 2, none⟩ = some (.int .i64 tt) from
              have hb3 := HBE.out.trans (b3.mono HBE.out.size)
              ⟨(hb3.cell (cell_lt C1.out)).trans C1.out, (hb3.cell (cell_lt C2.out)).trans C2.out⟩)
            obtain ⟨r2, hrr⟩ : ∃ r2, addR id tt r = r2 := ⟨_, rfl⟩
            obtain ⟨dd, hdd⟩ : ∃ dd, okR id tt r = dd := ⟨_, rfl⟩
            rw [hrr] at Q1 HRA
            rw [hdd] at HRA ⊢
            clear HAD HBD HKE HQ HR HB q3 k3 e0 e1 e2 R1 hrr hdd
            go_wp2
            go_region_held3 (fun w' => w'.cell? ⟨rb, ro + k * 3 + 1, none⟩ = some (.int .i64 id) ∧ w'.cell? ⟨rb, ro + k * 3 + 2, none⟩ = some (.int .i64 tt)) (first | go_keep | exact HKF.out _ b3) (first | (go_at_call 14; refine HRA.out.mono ?_; rintro e w2 ⟨v2, rfl, o2, b3⟩))
            have Q2 := hid ((Q1.out.below (drew_below w1)).below b3)
            have R2 := hid o2
            have B2 := hid (HBE.out.trans (b3.mono HBE.out.size))
            clear Q1 B1 HRA HBE HKF f1 f2 o2 b3 hs1
            have hl2 := Q2.out.len
            have f2 := (B2.out.cell (cell_lt C1.out)).trans C1.out
            go_wp2_with fail
            refine (qdue_any _ _ r2 id _ Q2.out).mono ?_
            rintro e w3 ⟨rfl, b3⟩
            have Q3 := hid (Q2.out.below b3)
            have R3 := hid (own_save R2.out (Save.of_below b3 (fun _ => False)) fun _ _ h => h)
            have B3 := hid (B2.out.trans (b3.mono B2.out.size))
            clear Q2 R2 B2 b3 f2
            obtain ⟨tao, tcap, rfl, hTA⟩ := tat_of_own R3.out rfl
            obtain ⟨N, hNN⟩ : ∃ N, r2.length = N := ⟨_, rfl⟩
            have HN := hid hNN
            rw [hNN] at hl2 R3 ⊢
            obtain ⟨⟨du, th⟩, hdt⟩ : ∃ y, dR2 (look id r2) = y := ⟨_, rfl⟩
            have HDT := hid hdt
            rw [hdt]
            clear hdt hNN hTA
            go_wp2
            go_loopw [12, 13, 14] (fun a_ b_ j_ wq => ∃ j : Nat, j_ = .int .i64 j ∧ j ≤ N ∧ a_ = .int .i64 (dR2 (look id (r2.take j))).1 ∧ b_ = .bool (dR2 (look id (r2.take j))).2 ∧ Hid (QS wq w.heap.size w.heap.size r2) ∧ Hid (wq.ownsRow (w.heap.size + 1) 43 2 (.slice tao N tcap) N (cells2 r2)) ∧ Hid (Below w.heap.size w wq)) (fun _ _ j_ _ => N - (intOf j_).toNat)
            case atStart => exact ⟨0, rfl, by omega, rfl, rfl, Q3, R3, B3⟩
            case round =>
              clear Q3 R3 B3
              obtain ⟨j, rfl, hj, rfl, rfl, Q3, R3, B3⟩ := hrel
              by_cases hjl : j < N
              · obtain ⟨tao2, tcap2, e2', hTA⟩ := tat_of_own R3.out HN.out.symm
                cases e2'
                obtain ⟨b, o, rfl, x1, x2⟩ := hTA j (by rw [HN.out]; exact hjl)
                have f3 := (B3.out.cell (cell_lt C1.out)).trans C1.out
                have HH := hid (fun t h => look_hit (id := id) (t := t) Q3.out.ds (by rw [HN.out]; exact hjl) h)
                have HM := hid (fun i t h => look_miss (r := r2) (id := id) (i := i) (t := t) (k := j) (by rw [HN.out]; exact hjl) h)
                have j0 : (0 : Int) ≤ (j : Int) := by omega
                have j1 : (j : Int) < (N : Int) := by omega
                obtain ⟨⟨xi, xt⟩, hxx⟩ : ∃ y, r2.getD j (0, 0) = y := ⟨_, rfl⟩
                rw [hxx] at HH HM x1 x2
                dsimp only at x1 x2
                clear hTA hxx
                by_cases hx : xi = id
                · subst hx
                  have HK := hid (HH.out xt rfl)
                  have tx : (xi == xi) = true := by simp
                  clear HH HM
                  go_wp2
                  go_quiet (fail)
                  go_wp2
                  go_roundw
                  case rel => exact ⟨j + 1, by go_num, by omega, by rw [HK.out]; rfl, by rw [HK.out]; rfl, hid (Q3.out.below ⟨rfl, rfl, rfl, Nat.le_refl _, fun _ _ => rfl⟩), R3, hid (B3.out.trans ⟨rfl, rfl, rfl, Nat.le_refl _, fun _ _ => rfl⟩)⟩
                  case measure => simp [intOf]; omega
                · have HK := hid (HM.out xi xt rfl hx)
                  have tx : (xi == id) = false := by simpa using hx
                  clear HH HM
                  go_wp2
                  go_quiet (fail)
                  go_wp2
                  go_roundw
                  case rel => exact ⟨j + 1, by go_num, by omega, by rw [HK.out], by rw [HK.out], hid (Q3.out.below ⟨rfl, rfl, rfl, Nat.le_refl _, fun _ _ => rfl⟩), R3, hid (B3.out.trans ⟨rfl, rfl, rfl, Nat.le_refl _, fun _ _ => rfl⟩)⟩
                  case measure => simp [intOf]; omega
              · obtain rfl : j = N := by omega
                have hl : dR2 (look id (r2.take j)) = (du, th) := by
                  rw [List.take_of_length_le (by rw [HN.out]; exact Nat.le_refl _)]; exact HDT.out
                rw [hl]
                have z1 : (dd != dd) = false := by simp
                have z2 : (du != du) = false := by simp
                have z3 : (th != th) = false := by simp
                have z4 : ((j : Int) != (j : Int)) = false := by simp
                have HLN := hid (qlen_any _ _ r2 _ Q3.out)
                rw [HN.out] at HLN
                clear hl HDT
                go_wp2_with fail
                refine HLN.out.mono ?_
                rintro e w4 ⟨rfl, rfl⟩
                clear HLN
                go_wp2_with fail
                refine (dlist_any _ _ r2 _ Q3.out).mono ?_
                rintro e w5 ⟨ul, rfl, ol, b5⟩
                have Q5 := hid (Q3.out.below b5)
                have R5 := hid (own_save R3.out (Save.of_below b5 (fun _ => False)) fun _ _ h => h)
                have B5 := hid (B3.out.trans (b5.mono B3.out.size))
                have OL := hid ol
                clear Q3 R3 B3 b5 ol
                go_wp2_with fail
                refine (rrow_own (w.heap.size + 1) _ r2 _ (by rw [HN.out]; exact R5.out) (by rw [HN.out]; omega)).mono ?_
                rintro e w6 ⟨ur, rfl, or_, b6⟩
                have Q6 := hid (Q5.out.below b6)
                have R6 := hid (own_save R5.out (Save.of_below b6 (fun _ => False)) fun _ _ h => h)
                have B6 := hid (B5.out.trans (b6.mono B5.out.size))
                have OL6 := hid (own_save OL.out (Save.of_below b6 (fun _ => False)) fun _ _ h => h)
                have OR6 := hid or_
                clear Q5 R5 B5 OL b6 or_
                go_wp2_with fail
                refine (drow_own OL6.out OR6.out (by rw [flat_length, srt_length, HN.out]; omega)).mono ?_
                rintro e w7 ⟨rfl, b7⟩
                have Q7 := hid (Q6.out.below b7)
                have R7 := hid (own_save R6.out (Save.of_below b7 (fun _ => False)) fun _ _ h => h)
                have B7 := hid (B6.out.trans (b7.mono B6.out.size))
                have z5 : (flatI (srt r2) == flatI (srt r2)) = true := by simp
                rw [z5]
                clear Q6 R6 B6 OL6 OR6 b7 z5
                go_wp2
                go_roundw
                case rel => exact ⟨k + 1, r2, by go_num, by omega, Q7, by rw [HN.out]; exact R7, B7⟩
                case measure => simp [intOf]; omega
      · obtain rfl : k = n := by omega
        go_wp2_with fail
        refine (dalive_any _).mono ?_
        rintro e w7 ⟨rfl, b2⟩
        go_wp2
        go_ret
        exact ⟨rfl, HB.out.trans (b2.mono HB.out.size)⟩
end Go.Proofs.Ytdccpbnknfffaaa
