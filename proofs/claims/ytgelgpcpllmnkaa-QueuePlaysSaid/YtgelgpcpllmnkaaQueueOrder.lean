/-
  The walk of QueueOrder, and the example of layer 27.
-/
import Derived.Test.YtgelgpcpllmnkaaQueueTake
namespace Go.Proofs.Ytgelgpcpllmnkaa
open Go.RowKit
theorem send_below {w0 W W' : World} {base p : Nat} {cap pol d : Int} {v : Value} {xs : List Int} (hq : QAt W base p cap pol v xs d) (hs : Save (fun k => k = p ∨ v.ownBlock = some k) W W') (hb : Below base w0 W) (hbw : base ≤ W.heap.size) : Below base w0 W' :=
  hs.below hb hbw fun k hk => by
    rcases hk with rfl | hk
    · exact hq.low
    · exact (hq.row.lt k hk).1
theorem take_below {w0 W W' : World} {base p : Nat} {cap pol d : Int} {v : Value} {xs : List Int} (hq : QAt W base p cap pol v xs d) (hs : Save (fun k => k = p) W W') (hb : Below base w0 W) (hbw : base ≤ W.heap.size) : Below base w0 W' :=
  hs.below hb hbw fun k hk => by rw [hk]; exact hq.low
set_option maxRecDepth 100000 in
set_option maxHeartbeats 1000000 in
theorem queueAlive_any (w : World) : Calls Try.prog 20 #[] w fun e w' => e = .returned (.bool true) ∧ Below w.heap.size w w' := by
  have e1 : sendF 2 2 [] 0 1 = ([1], 0, 0) := by decide
  have e2 : sendF 2 2 [1] 0 2 = ([1, 2], 0, 0) := by decide
  have e3 : sendF 2 2 [1, 2] 0 3 = ([2, 3], 1, 0) := by decide
  have E1 := hid e1
  have E2 := hid e2
  have E3 := hid e3
  clear e1 e2 e3
  go_enter Try.func20, Try.ntmps20
  go_wp2_with fail
  refine (new_good 2 2 _ (by decide)).mono ?_
  rintro e w1 ⟨p, rfl, hq1, b1⟩
  go_wp2_with fail
  refine (send_any w.heap.size p 2 2 _ [] 0 1 w1 hq1 b1.size (by omega) (by simp) (by omega)).mono ?_
  rw [E1.out]
  rintro e w2 ⟨rfl, v2, hq2, _, hs2⟩
  have b2 := send_below hq1 hs2 b1 b1.size
  go_wp2_with fail
  refine (send_any w.heap.size p 2 2 _ [1] 0 2 w2 hq2 b2.size (by omega) (by simp) (by omega)).mono ?_
  rw [E2.out]
  rintro e w3 ⟨rfl, v3, hq3, _, hs3⟩
  have b3 := send_below hq2 hs3 b2 b2.size
  go_wp2_with fail
  refine (send_any w.heap.size p 2 2 _ [1, 2] 0 3 w3 hq3 b3.size (by omega) (by simp) (by omega)).mono ?_
  rw [E3.out]
  rintro e w4 ⟨rfl, v4, hq4, _, hs4⟩
  have b4 := send_below hq3 hs4 b3 b3.size
  go_wp2_with fail
  refine (take_any w.heap.size p 2 2 1 _ [2, 3] w4 hq4 b4.size (by simp)).mono ?_
  rintro e w5 ⟨rfl, v5, hq5, _, hs5⟩
  have b5 := take_below hq4 hs5 b4 b4.size
  go_wp2_with fail
  refine (dropped_any _ _ _ _ _ _ _ _ hq5).mono ?_
  rintro e w6 ⟨rfl, rfl⟩
  go_wp2_with fail
  go_ret
  exact ⟨rfl, b5⟩
/-! ### what is kept while messages are sent -/
structure QInv (cap pol : Int) (sl xs : List Int) (d : Nat) : Prop where
  len : xs.length + d = sl.length
  le : (xs.length : Int) ≤ cap
  new : pol = 3 → xs = sl.take xs.length
  old : pol ≠ 3 → xs = sl.drop d
  full : (xs.length : Int) < cap → d = 0
theorem qinv_step {cap pol : Int} {sl xs : List Int} {d : Nat} (h : QInv cap pol sl xs d) (hc : 1 ≤ cap) (hd : d ≤ 4000) (n : Int) :
    (∃ xs' d', sendF cap pol xs d n = (xs', ((d' : Nat) : Int), 0) ∧ QInv cap pol (sl ++ [n]) xs' d' ∧ d' ≤ d + 1) ∨ sendF cap pol xs d n = (xs, (d : Int), 271) := by
  obtain ⟨h1, h2, h3, h4, h5⟩ := h
  by_cases a1 : (xs.length : Int) < cap
  · obtain rfl := h5 a1
    refine .inl ⟨xs ++ [n], 0, if_pos a1, ⟨by simp; omega, by simp; omega, fun hp => ?_, fun hp => ?_, fun _ => rfl⟩, by omega⟩
    · rw [List.take_of_length_le (by simp; omega)]
      have := h3 hp
      rw [List.take_of_length_le (by omega)] at this
      rw [this]
    · have := h4 hp
      rw [List.drop_zero] at this ⊢
      rw [this]
  · have hx : 1 ≤ xs.length := by omega
    by_cases a2 : pol = 2
    · refine .inl ⟨xs.drop 1 ++ [n], d + 1, ?_, ⟨by simp; omega, by simp; omega, fun hp => by omega, fun hp => ?_, fun h => by simp at h; omega⟩, by omega⟩
      · unfold sendF; rw [if_neg a1, if_pos a2, show min ((d : Int) + 1) 4096 = ((d + 1 : Nat) : Int) by omega]
      · rw [List.drop_append_of_le_length (by omega)]
        rw [h4 hp, List.drop_drop]
    · by_cases a3 : pol = 3
      · refine .inl ⟨xs, d + 1, ?_, ⟨by simp; omega, h2, fun hp => ?_, fun hp => (hp a3).elim, fun h => (a1 h).elim⟩, by omega⟩
        · unfold sendF; rw [if_neg a1, if_neg a2, if_pos a3, show min ((d : Int) + 1) 4096 = ((d + 1 : Nat) : Int) by omega]
        · rw [List.take_append_of_le_length (by omega)]; exact h3 hp
      · right
        unfold sendF; rw [if_neg a1, if_neg a2, if_neg a3]
theorem row_save {S : Nat → Prop} {w w' : World} {ao : Option Addr} {n : Nat} {f : Nat → Value} (h : Row w ao n f) (hs : Save S w w') (hn : ∀ a, ao = some a → ¬ S a.block) : Row w' ao n f := fun i hi => by
  obtain ⟨b, o, rfl, hc⟩ := h i hi
  exact ⟨b, o, rfl, (World.cell?_of_block (hs.block b (cell_lt hc) (hn _ rfl))).trans hc⟩
set_option maxRecDepth 100000 in
set_option maxHeartbeats 1000000 in
theorem queueOrder_walk (cap pol : Int) (ao : Option Addr) (n c : Nat) (f : Nat → Int) (w : World) (ha : Row w ao n (fun i => .int .i64 (f i))) (hn : n ≤ c) (hnm : c ≤ maxLen) :
    Calls Try.prog 3 #[.agg #[.int .i64 cap, .int .i64 pol], .slice ao n c] w fun e w' => e = .returned (.bool true) ∧ Below w.heap.size w w' := by
  have hb0 := (Below.refl w.heap.size w).alloc (Nat.le_refl _) (Obj.cells #[.int .i64 cap, .int .i64 pol] 24)
  have hbox : (w.alloc (Obj.cells #[.int .i64 cap, .int .i64 pol] 24)).heap[w.heap.size]? = some (Obj.cells #[.int .i64 cap, .int .i64 pol] 24) := heap_alloc_new w _
  have HR := hid (lright_any cap pol (w.alloc (Obj.cells #[.int .i64 cap, .int .i64 pol] 24)))
  cases hR : rightB cap pol with
  | false =>
    rw [hR] at HR
    clear hR
    go_enter Try.func3, Try.ntmps3
    go_wp2_with fail
    refine HR.out.mono ?_
    rintro e w1 ⟨rfl, hb1⟩
    go_wp2
    go_ret
    exact ⟨rfl, hb0.trans (hb1.mono hb0.size)⟩
  | true =>
    have HRT := hid hR
    have hcp : 1 ≤ cap ∧ cap ≤ 16 ∧ (pol = 1 ∨ pol = 2 ∨ pol = 3) := by
      unfold rightB at hR
      simp at hR
      omega
    rw [hR] at HR
    clear hR
    by_cases h1 : 100 < n
    · have d1 : decide (100 < (n : Int)) = true := by simp; omega
      go_enter Try.func3, Try.ntmps3
      go_wp2_with fail
      refine HR.out.mono ?_
      rintro e w1 ⟨rfl, hb1⟩
      go_wp2
      go_ret
      exact ⟨rfl, hb0.trans (hb1.mono hb0.size)⟩
    · have d1 : decide (100 < (n : Int)) = false := by simp; omega
      obtain ⟨i0, hi, hz0, hz1, hz2⟩ := info_parts infoInt
      go_enter Try.func3, Try.ntmps3
      go_wp2_with fail
      refine HR.out.mono ?_
      rintro e w2 ⟨rfl, hb1⟩
      have b0 := hb0.trans (hb1.mono hb0.size)
      have hbox2 := blk_save hbox (Save.of_below hb1 fun _ => False) id
      have k0 : w2.cell? ⟨w.heap.size, 0, none⟩ = some (.int .i64 cap) := blk_cell hbox2 0
      have k1 : w2.cell? ⟨w.heap.size, 1, none⟩ = some (.int .i64 pol) := blk_cell hbox2 1
      have hBw : w.heap.size < w2.heap.size := (Array.getElem?_eq_some_iff.1 hbox2).1
      have ha2 := ha.below b0
      clear hb0 hbox HR ha hbox2 hb1
      go_wp2_with fail
      refine (new_good cap pol _ HRT.out).mono ?_
      rintro e w3 ⟨p, rfl, hq3, b3⟩
      go_wp2_with fail
      go_loopw [7, 8] (fun s_ i_ wr => ∃ (i d : Nat) (v : Value) (sl xs : List Int), i_ = .int .i64 i ∧ i ≤ n ∧ sl.length ≤ i ∧ QAt wr w2.heap.size p cap pol v xs d ∧ wr.ownsRow w2.heap.size 3 1 s_ sl.length (vi sl) ∧ (∀ g, s_.ownBlock = some g → v.ownBlock ≠ some g) ∧ QInv cap pol sl xs d ∧ Below w2.heap.size w2 wr) (fun _ i_ _ => n - (intOf i_).toNat)
      case atStart => exact ⟨0, 0, _, [], [], rfl, Nat.zero_le _, Nat.le_refl _, hq3, World.ownsRow_nil _ _ _ _, fun g h => (by cases h), ⟨rfl, by simp; omega, fun _ => rfl, fun _ => rfl, fun _ => rfl⟩, b3⟩
      case round =>
        obtain ⟨i, d, v, sl, xs, rfl, hin, hsi, hq, hown, hdis, hinv, hbr⟩ := hrel
        rcases Nat.lt_or_ge i n with hlt | hge
        · have t0 : decide ((i : Int) < (n : Int)) = true := by simp; omega
          obtain ⟨b, o, rfl, hc00⟩ := ha2 i hlt
          have hc0 : w2.cell? ⟨b, o + i, none⟩ = some (.int .i64 (f i)) := hc00
          clear hc00
          have hcl := cell_lt hc0
          have hci : wr.cell? ⟨b, o + i, none⟩ = some (.int .i64 (f i)) := (hbr.cell hcl).trans hc0
          obtain ⟨x, hx⟩ : ∃ x, f i = x := ⟨_, rfl⟩
          have hlen := hinv.len
          have HS := hid (send_any w2.heap.size p cap pol v xs d x wr hq hbr.size ⟨hcp.1, hcp.2.1⟩ hinv.le ⟨by omega, by omega⟩)
          rw [hx] at hc0 hci
          clear hx
          rcases qinv_step hinv hcp.1 (by omega) x with ⟨xs', d', he, hinv', hd'⟩ | he
          · rw [he] at HS
            clear he
            go_wp2_with fail
            refine HS.out.mono ?_
            rintro e w4 ⟨rfl, v4, hq4, hh4, hs4⟩
            have b4 := send_below hq hs4 hbr hbr.size
            have hown4 := own_save hown hs4 fun g hg hS => by
              rcases hS with rfl | hS
              · exact hq.not_row hown hg
              · exact hdis g hg hS
            have hci4 : w4.cell? ⟨b, o + i, none⟩ = some (.int .i64 x) := (b4.cell hcl).trans hc0
            have hdis4 : ∀ g, u7.ownBlock = some g → v4.ownBlock ≠ some g := fun g hg he => by
              rcases hh4 g he with h | h
              · exact hdis g hg h
              · have := (hown.lt g hg).2; omega
            have hsz4 := b4.size
            clear hci
            go_wp2_with (at_builtin; refine wpList_append_own_at _ rfl _ _ 25 rfl w2.heap.size 3 i0 (.int .i64 0) 1 8 Try.underlying25 hi hz0 hz1 hz2 rfl (by decide) u7 sl.length (vi sl) rfl (hown4.alloc _) ⟨w4.heap.size, 0, none⟩ 1 1 _ rfl rfl (cell_one_new _ _ _) (by simp [Value.oneCell']) (by unfold maxLen; omega) (by omega) (by simp; omega) ?_; intro v' w5 hown5 hgrow _ hat)
            have hq5 := (hq4.save (Save.alloc w4 _) id (fun _ _ => id)).save (Save.of_grown hgrow) (fun e => hq4.not_row hown4 e) (fun g hg e => hdis4 g e hg)
            go_roundw
            case rel =>
              refine ⟨i + 1, d', v4, sl ++ [x], xs', by go_num, hlt, by simp; omega, hq5, by rw [List.length_append, vi_append]; exact hown5, fun g hg he => ?_, hinv', ((b4.alloc hsz4 _).grown hgrow (by simp; omega) fun j hj => (hown4.lt j hj).1)⟩
              rcases hat with h | h
              · rw [h] at hg; exact hdis4 g hg he
              · rw [h] at hg
                have := (hq4.row.lt g he).2
                simp at hg
                omega
            case measure => simp [intOf]; omega
          · rw [he] at HS
            clear he
            go_wp2_with fail
            refine HS.out.mono ?_
            rintro e w4 ⟨rfl, v4, hq4, hh4, hs4⟩
            have b4 := send_below hq hs4 hbr hbr.size
            have hown4 := own_save hown hs4 fun g hg hS => by
              rcases hS with rfl | hS
              · exact hq.not_row hown hg
              · exact hdis g hg hS
            have hdis4 : ∀ g, u7.ownBlock = some g → v4.ownBlock ≠ some g := fun g hg he => by
              rcases hh4 g he with h | h
              · exact hdis g hg h
              · have := (hown.lt g hg).2; omega
            go_wp2
            go_roundw
            case rel => exact ⟨i + 1, d, v4, sl, xs, by go_num, hlt, by omega, hq4, hown4, hdis4, hinv, b4⟩
            case measure => simp [intOf]; omega
        · obtain rfl : i = n := by omega
          obtain ⟨sa, sc, rfl, hsl, hsm, hsr, _⟩ := vi_view hown
          obtain ⟨k, hk⟩ : ∃ k, xs.length = k := ⟨_, rfl⟩
          have hkd := hinv.len
          rw [hk] at hkd
          have HKL := hid hk
          have hk1 : wr.cell? ⟨w.heap.size, 1, none⟩ = some (.int .i64 pol) := (hbr.cell (p := ⟨w.heap.size, 1, none⟩) hBw).trans k1
          have e1 : (sl.length : Int) - (d : Int) = (k : Int) := by omega
          have hsp : ∀ a, sa = some a → a.block ≠ p := fun a h e => hq.not_row hown (by rw [h, ← e]; rfl)
          have hold := hinv.old
          have hnew := hinv.new
          rw [hk] at hnew
          clear hk
          have HD := hid (dropped_any _ _ _ _ _ _ _ _ hq)
          have t0 : decide ((i : Int) < (i : Int)) = false := by simp
          have HKD := hid hkd
          rcases Nat.eq_zero_or_pos d with hd0 | hd0
          · have HLS := hid (last_same sa sl.length sc (k : Int) wr (by omega))
            have HKS : Hid (k = sl.length) := by unfold Hid; omega
            have HZ := hid hd0
            clear hkd hd0
            by_cases hp3 : pol = 3
            · have HX := hid (hnew hp3)
              clear hold hnew
              have hwr : Row wr sa k (fun i => .int .i64 (xs.getD i 0)) := (hsr.less (m := k) (by have := HKS.out; omega)).congr fun i hi => by
                rw [HX.out]; simp [List.getD, hi]
              have hksl : k ≤ sl.length := by have := HKS.out; omega
              subst hp3
              go_wp2_with fail
              refine HD.out.mono ?_
              rintro e w4 ⟨rfl, rfl⟩
              clear HD
              go_wp2_with fail
              refine HLS.out.mono ?_
              rintro e w4 ⟨rfl, rfl⟩
              clear HLS e1
              go_wp2
              have bW := hbr
              have hqW := hq
              obtain ⟨wa, hwa⟩ : ∃ wa, wa = sa := ⟨_, rfl⟩
              have hwant := hwr
              have hwp := hsp
              rw [← hwa] at hwant hwp ⊢
              clear hwa
              go_loopw [11] (fun j_ wx => ∃ (j : Nat) (v : Value), j_ = .int .i64 j ∧ j ≤ k ∧ QAt wx w2.heap.size p cap 3 v (xs.drop j) d ∧ Row wx wa k (fun i => .int .i64 (xs.getD i 0)) ∧ Below w2.heap.size w2 wx) (fun j_ _ => k - (intOf j_).toNat)
              case atStart => exact ⟨0, _, rfl, Nat.zero_le _, hqW, hwant, bW⟩
              case round =>
                obtain ⟨j, v, rfl, hj, hqj, hwj, hbj⟩ := hrel
                have hlenj : (xs.drop j).length ≤ 100000 := by rw [List.length_drop]; have := HKL.out; omega
                have HT := hid (take_any w2.heap.size p cap 3 d v (xs.drop j) wr hqj hbj.size hlenj)
                rcases Nat.lt_or_ge j k with hlt | hge
                · have t0 : decide ((j : Int) < (k : Int)) = true := by simp; omega
                  have hjx : j < xs.length := by have := HKL.out; omega
                  have hdr : xs.drop j = xs.getD j 0 :: xs.drop (j + 1) := by rw [List.drop_eq_getElem_cons hjx]; simp [List.getD, hjx]
                  obtain ⟨b2, o2, rfl, hc00⟩ := hwj j hlt
                  have hcw : wr.cell? ⟨b2, o2 + j, none⟩ = some (.int .i64 (xs.getD j 0)) := hc00
                  clear hc00
                  rw [hdr] at HT hqj
                  clear hdr hlenj
                  obtain ⟨x, hx⟩ : ∃ x, xs.getD j 0 = x := ⟨_, rfl⟩
                  rw [hx] at HT hcw hqj
                  clear hx
                  have tx : (x != x) = false := by simp
                  have hne2 := hwp _ rfl
                  go_wp2_with fail
                  refine HT.out.mono ?_
                  rintro e w6 ⟨rfl, v6, hq6, hn6, hs6⟩
                  have hcw6 : w6.cell? ⟨b2, o2 + j, none⟩ = some (.int .i64 x) := (World.cell?_of_block (hs6.block b2 (cell_lt hcw) hne2)).trans hcw
                  clear hcw HT
                  go_wp2
                  go_roundw
                  case rel => exact ⟨j + 1, v6, by go_num, by omega, hq6, row_save hwj hs6 fun a h => hwp a h, take_below hqj hs6 hbj hbj.size⟩
                  case measure => simp [intOf]; omega
                · obtain rfl : j = k := by omega
                  have hdr : xs.drop j = [] := List.drop_eq_nil_of_le (by have := HKL.out; omega)
                  rw [hdr] at HT hqj
                  clear hdr hlenj
                  have t0 : decide ((j : Int) < (j : Int)) = false := by simp
                  go_wp2_with fail
                  refine HT.out.mono ?_
                  rintro e w6 ⟨rfl, hq6, hs6⟩
                  have b6 := take_below hqj hs6 hbj hbj.size
                  clear HT
                  go_wp2_with fail
                  refine (queueAlive_any _).mono ?_
                  rintro e w7 ⟨rfl, hb7⟩
                  go_wp2_with fail
                  go_ret
                  have b7 := b6.trans (hb7.mono b6.size)
                  exact ⟨rfl, b0.trans (b7.mono b0.size)⟩
            · have HX := hid (hold hp3)
              clear hold hnew
              have hwr : Row wr sa k (fun i => .int .i64 (xs.getD i 0)) := (hsr.less (m := k) (by have := HKS.out; omega)).congr fun i hi => by
                rw [HX.out, HZ.out, List.drop_zero]
              have tp : (pol == 3) = false := by simpa using hp3
              have HKV : Hid (sl.length = k) := HKS.out.symm
              go_wp2_with fail
              refine HD.out.mono ?_
              rintro e w4 ⟨rfl, rfl⟩
              clear HD
              go_wp2_with fail
              refine HLS.out.mono ?_
              rintro e w4 ⟨rfl, rfl⟩
              clear HLS e1
              obtain rfl : k = sl.length := HKS.out
              go_wp2
              have bW := hbr
              have hqW := hq
              obtain ⟨wa, hwa⟩ : ∃ wa, wa = sa := ⟨_, rfl⟩
              have hwant := hwr
              have hwp := hsp
              rw [← hwa] at hwant hwp ⊢
              clear hwa
              go_loopw [11] (fun j_ wx => ∃ (j : Nat) (v : Value), j_ = .int .i64 j ∧ j ≤ sl.length ∧ QAt wx w2.heap.size p cap pol v (xs.drop j) d ∧ Row wx wa sl.length (fun i => .int .i64 (xs.getD i 0)) ∧ Below w2.heap.size w2 wx) (fun j_ _ => sl.length - (intOf j_).toNat)
              case atStart => exact ⟨0, _, rfl, Nat.zero_le _, hqW, hwant, bW⟩
              case round =>
                obtain ⟨j, v, rfl, hj, hqj, hwj, hbj⟩ := hrel
                have hlenj : (xs.drop j).length ≤ 100000 := by rw [List.length_drop]; have := HKL.out; omega
                have HT := hid (take_any w2.heap.size p cap pol d v (xs.drop j) wr hqj hbj.size hlenj)
                rcases Nat.lt_or_ge j sl.length with hlt | hge
                · have t0 : decide ((j : Int) < (sl.length : Int)) = true := by simp; omega
                  have hjx : j < xs.length := by have := HKL.out; omega
                  have hdr : xs.drop j = xs.getD j 0 :: xs.drop (j + 1) := by rw [List.drop_eq_getElem_cons hjx]; simp [List.getD, hjx]
                  obtain ⟨b2, o2, rfl, hc00⟩ := hwj j hlt
                  have hcw : wr.cell? ⟨b2, o2 + j, none⟩ = some (.int .i64 (xs.getD j 0)) := hc00
                  clear hc00
                  rw [hdr] at HT hqj
                  clear hdr hlenj
                  obtain ⟨x, hx⟩ : ∃ x, xs.getD j 0 = x := ⟨_, rfl⟩
                  rw [hx] at HT hcw hqj
                  clear hx
                  have tx : (x != x) = false := by simp
                  have hne2 := hwp _ rfl
                  go_wp2_with fail
                  refine HT.out.mono ?_
                  rintro e w6 ⟨rfl, v6, hq6, hn6, hs6⟩
                  have hcw6 : w6.cell? ⟨b2, o2 + j, none⟩ = some (.int .i64 x) := (World.cell?_of_block (hs6.block b2 (cell_lt hcw) hne2)).trans hcw
                  clear hcw HT
                  go_wp2
                  go_roundw
                  case rel => exact ⟨j + 1, v6, by go_num, by omega, hq6, row_save hwj hs6 fun a h => hwp a h, take_below hqj hs6 hbj hbj.size⟩
                  case measure => simp [intOf]; omega
                · obtain rfl : j = sl.length := by omega
                  have hdr : xs.drop sl.length = [] := List.drop_eq_nil_of_le (by have := HKL.out; omega)
                  rw [hdr] at HT hqj
                  clear hdr hlenj
                  have t0 : decide ((sl.length : Int) < (sl.length : Int)) = false := by simp
                  go_wp2_with fail
                  refine HT.out.mono ?_
                  rintro e w6 ⟨rfl, hq6, hs6⟩
                  have b6 := take_below hqj hs6 hbj hbj.size
                  clear HT
                  go_wp2_with fail
                  refine (queueAlive_any _).mono ?_
                  rintro e w7 ⟨rfl, hb7⟩
                  go_wp2_with fail
                  go_ret
                  have b7 := b6.trans (hb7.mono b6.size)
                  exact ⟨rfl, b0.trans (b7.mono b0.size)⟩
          · have hk0 : 0 < k := by
              have := hinv.full
              rcases Nat.eq_zero_or_pos k with h | h
              · have h2 := HKL.out
                have := this (by omega)
                omega
              · exact h
            have HLS := hid (last_cut sa sc k sl wr hsr hsl hsm (by omega) hk0 (by omega))
            have HZ := hid hd0
            have hksl : k ≤ sl.length := by omega
            have hsk : sl.length - k = d := by omega
            rw [hsk] at HLS
            clear hkd hd0 hsk
            by_cases hp3 : pol = 3
            · have HX := hid (hnew hp3)
              clear hold hnew
              have hwr : Row wr sa k (fun i => .int .i64 (xs.getD i 0)) := (hsr.less hksl).congr fun i hi => by
                rw [HX.out]; simp [List.getD, hi]
              subst hp3
              go_wp2_with fail
              refine HD.out.mono ?_
              rintro e w4 ⟨rfl, rfl⟩
              clear HD
              go_wp2_with fail
              refine HLS.out.mono ?_
              rintro e w4 ⟨vl, rfl, hlo, hbl⟩
              clear HLS e1
              obtain ⟨la, lc, rfl, hl1, hl2, hl3, _⟩ := vi_view hlo
              have hk14 : w4.cell? ⟨w.heap.size, 1, none⟩ = some (.int .i64 3) := ((hbr.trans (hbl.mono hbr.size)).cell (p := ⟨w.heap.size, 1, none⟩) hBw).trans k1
              go_wp2
              have bW := hbr.trans (hbl.mono hbr.size)
              have hqW := hq.below hbl
              obtain ⟨wa, hwa⟩ : ∃ wa, wa = sa := ⟨_, rfl⟩
              have hwant := hwr.below hbl
              have hwp := hsp
              rw [← hwa] at hwant hwp ⊢
              clear hwa
              go_loopw [11] (fun j_ wx => ∃ (j : Nat) (v : Value), j_ = .int .i64 j ∧ j ≤ k ∧ QAt wx w2.heap.size p cap 3 v (xs.drop j) d ∧ Row wx wa k (fun i => .int .i64 (xs.getD i 0)) ∧ Below w2.heap.size w2 wx) (fun j_ _ => k - (intOf j_).toNat)
              case atStart => exact ⟨0, _, rfl, Nat.zero_le _, hqW, hwant, bW⟩
              case round =>
                obtain ⟨j, v, rfl, hj, hqj, hwj, hbj⟩ := hrel
                have hlenj : (xs.drop j).length ≤ 100000 := by rw [List.length_drop]; have := HKL.out; omega
                have HT := hid (take_any w2.heap.size p cap 3 d v (xs.drop j) wr hqj hbj.size hlenj)
                rcases Nat.lt_or_ge j k with hlt | hge
                · have t0 : decide ((j : Int) < (k : Int)) = true := by simp; omega
                  have hjx : j < xs.length := by have := HKL.out; omega
                  have hdr : xs.drop j = xs.getD j 0 :: xs.drop (j + 1) := by rw [List.drop_eq_getElem_cons hjx]; simp [List.getD, hjx]
                  obtain ⟨b2, o2, rfl, hc00⟩ := hwj j hlt
                  have hcw : wr.cell? ⟨b2, o2 + j, none⟩ = some (.int .i64 (xs.getD j 0)) := hc00
                  clear hc00
                  rw [hdr] at HT hqj
                  clear hdr hlenj
                  obtain ⟨x, hx⟩ : ∃ x, xs.getD j 0 = x := ⟨_, rfl⟩
                  rw [hx] at HT hcw hqj
                  clear hx
                  have tx : (x != x) = false := by simp
                  have hne2 := hwp _ rfl
                  go_wp2_with fail
                  refine HT.out.mono ?_
                  rintro e w6 ⟨rfl, v6, hq6, hn6, hs6⟩
                  have hcw6 : w6.cell? ⟨b2, o2 + j, none⟩ = some (.int .i64 x) := (World.cell?_of_block (hs6.block b2 (cell_lt hcw) hne2)).trans hcw
                  clear hcw HT
                  go_wp2
                  go_roundw
                  case rel => exact ⟨j + 1, v6, by go_num, by omega, hq6, row_save hwj hs6 fun a h => hwp a h, take_below hqj hs6 hbj hbj.size⟩
                  case measure => simp [intOf]; omega
                · obtain rfl : j = k := by omega
                  have hdr : xs.drop j = [] := List.drop_eq_nil_of_le (by have := HKL.out; omega)
                  rw [hdr] at HT hqj
                  clear hdr hlenj
                  have t0 : decide ((j : Int) < (j : Int)) = false := by simp
                  go_wp2_with fail
                  refine HT.out.mono ?_
                  rintro e w6 ⟨rfl, hq6, hs6⟩
                  have b6 := take_below hqj hs6 hbj hbj.size
                  clear HT
                  go_wp2_with fail
                  refine (queueAlive_any _).mono ?_
                  rintro e w7 ⟨rfl, hb7⟩
                  go_wp2_with fail
                  go_ret
                  have b7 := b6.trans (hb7.mono b6.size)
                  exact ⟨rfl, b0.trans (b7.mono b0.size)⟩
            · have HX := hid (hold hp3)
              clear hold hnew
              rw [← HX.out] at HLS
              have tp : (pol == 3) = false := by simpa using hp3
              go_wp2_with fail
              refine HD.out.mono ?_
              rintro e w4 ⟨rfl, rfl⟩
              clear HD
              go_wp2_with fail
              refine HLS.out.mono ?_
              rintro e w4 ⟨vl, rfl, hlo, hbl⟩
              clear HLS e1
              obtain ⟨la, lc, rfl, hl1, hl2, hl3, _⟩ := vi_view hlo
              have hk14 : w4.cell? ⟨w.heap.size, 1, none⟩ = some (.int .i64 pol) := ((hbr.trans (hbl.mono hbr.size)).cell (p := ⟨w.heap.size, 1, none⟩) hBw).trans k1
              have hlp : ∀ a, la = some a → a.block ≠ p := fun a h e => (hq.below hbl).not_row hlo (by rw [h, ← e]; rfl)
              rw [HKL.out] at hl3 ⊢
              go_wp2
              have bW := hbr.trans (hbl.mono hbr.size)
              have hqW := hq.below hbl
              obtain ⟨wa, hwa⟩ : ∃ wa, wa = la := ⟨_, rfl⟩
              have hwant := hl3
              have hwp := hlp
              rw [← hwa] at hwant hwp ⊢
              clear hwa
              go_loopw [11] (fun j_ wx => ∃ (j : Nat) (v : Value), j_ = .int .i64 j ∧ j ≤ k ∧ QAt wx w2.heap.size p cap pol v (xs.drop j) d ∧ Row wx wa k (fun i => .int .i64 (xs.getD i 0)) ∧ Below w2.heap.size w2 wx) (fun j_ _ => k - (intOf j_).toNat)
              case atStart => exact ⟨0, _, rfl, Nat.zero_le _, hqW, hwant, bW⟩
              case round =>
                obtain ⟨j, v, rfl, hj, hqj, hwj, hbj⟩ := hrel
                have hlenj : (xs.drop j).length ≤ 100000 := by rw [List.length_drop]; have := HKL.out; omega
                have HT := hid (take_any w2.heap.size p cap pol d v (xs.drop j) wr hqj hbj.size hlenj)
                rcases Nat.lt_or_ge j k with hlt | hge
                · have t0 : decide ((j : Int) < (k : Int)) = true := by simp; omega
                  have hjx : j < xs.length := by have := HKL.out; omega
                  have hdr : xs.drop j = xs.getD j 0 :: xs.drop (j + 1) := by rw [List.drop_eq_getElem_cons hjx]; simp [List.getD, hjx]
                  obtain ⟨b2, o2, rfl, hc00⟩ := hwj j hlt
                  have hcw : wr.cell? ⟨b2, o2 + j, none⟩ = some (.int .i64 (xs.getD j 0)) := hc00
                  clear hc00
                  rw [hdr] at HT hqj
                  clear hdr hlenj
                  obtain ⟨x, hx⟩ : ∃ x, xs.getD j 0 = x := ⟨_, rfl⟩
                  rw [hx] at HT hcw hqj
                  clear hx
                  have tx : (x != x) = false := by simp
                  have hne2 := hwp _ rfl
                  go_wp2_with fail
                  refine HT.out.mono ?_
                  rintro e w6 ⟨rfl, v6, hq6, hn6, hs6⟩
                  have hcw6 : w6.cell? ⟨b2, o2 + j, none⟩ = some (.int .i64 x) := (World.cell?_of_block (hs6.block b2 (cell_lt hcw) hne2)).trans hcw
                  clear hcw HT
                  go_wp2
                  go_roundw
                  case rel => exact ⟨j + 1, v6, by go_num, by omega, hq6, row_save hwj hs6 fun a h => hwp a h, take_below hqj hs6 hbj hbj.size⟩
                  case measure => simp [intOf]; omega
                · obtain rfl : j = k := by omega
                  have hdr : xs.drop j = [] := List.drop_eq_nil_of_le (by have := HKL.out; omega)
                  rw [hdr] at HT hqj
                  clear hdr hlenj
                  have t0 : decide ((j : Int) < (j : Int)) = false := by simp
                  go_wp2_with fail
                  refine HT.out.mono ?_
                  rintro e w6 ⟨rfl, hq6, hs6⟩
                  have b6 := take_below hqj hs6 hbj hbj.size
                  clear HT
                  go_wp2_with fail
                  refine (queueAlive_any _).mono ?_
                  rintro e w7 ⟨rfl, hb7⟩
                  go_wp2_with fail
                  go_ret
                  have b7 := b6.trans (hb7.mono b6.size)
                  exact ⟨rfl, b0.trans (b7.mono b0.size)⟩
end Go.Proofs.Ytgelgpcpllmnkaa
