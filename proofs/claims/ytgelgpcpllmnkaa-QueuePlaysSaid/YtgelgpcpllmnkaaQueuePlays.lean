/-
  The walk of QueuePlays.
-/
import Derived.Test.YtgelgpcpllmnkaaQueueFill
import Derived.Test.YtgelgpcpllmnkaaQueueOrder
import Derived.Test.YtgelgpcpllmnkaaQueueLen
import Derived.Test.YtgelgpcpllmnkaaSliceEqualI
import Derived.Deep.RegionHeld3
namespace Go.Proofs.Ytgelgpcpllmnkaa
open Go.RowKit Go.Shelf
/-- Calls that came in: kind, number, numbers. -/
def OpsAt (w : World) (ao : Option Addr) (ps : List (Int × Int × List Int)) (va : Nat → Option Addr) (vc : Nat → Nat) : Prop := ∀ i (hi : i < ps.length), ∃ b o, ao = some ⟨b, o, none⟩ ∧
  (w.cell? ⟨b, o + i * 3, none⟩ = some (.int .i64 (ps[i]'hi).1) ∧ w.cell? ⟨b, o + i * 3 + 1, none⟩ = some (.int .i64 (ps[i]'hi).2.1) ∧ w.cell? ⟨b, o + i * 3 + 2, none⟩ = some (.slice (va i) (ps[i]'hi).2.2.length (vc i))) ∧
  Row w (va i) (ps[i]'hi).2.2.length (fun j => .int .i64 ((ps[i]'hi).2.2.getD j 0)) ∧ (ps[i]'hi).2.2.length ≤ vc i ∧ vc i ≤ maxLen ∧ (va i = none → vc i = 0)
theorem OpsAt.below {w w' : World} {ao : Option Addr} {ps : List (Int × Int × List Int)} {va : Nat → Option Addr} {vc : Nat → Nat} (h : OpsAt w ao ps va vc) (hb : Below w.heap.size w w') : OpsAt w' ao ps va vc := fun i hi => by
  obtain ⟨b, o, e, ⟨h0, h1, h2⟩, h3, h4⟩ := h i hi
  exact ⟨b, o, e, ⟨(hb.cell (cell_lt h0)).trans h0, (hb.cell (cell_lt h1)).trans h1, (hb.cell (cell_lt h2)).trans h2⟩, h3.below hb, h4⟩
theorem stepF_len {cap : Nat} {pol : Int} {xs : List Int} {r : Nat} {n : Int} {L : List Int} (hx : xs.length ≤ cap) : (stepF cap pol xs r n L).1.length ≤ cap := by
  unfold stepF
  split
  · cases xs with
    | nil => exact Nat.zero_le _
    | cons x rest => simp at hx ⊢; omega
  · split
    · simp only [lastF_len]; omega
    · split
      · exact hx
      · split
        · exact hx
        · simp only [lastF_len]; omega
theorem stepF_drop {cap : Nat} {pol : Int} {xs : List Int} {r : Nat} {n : Int} {L : List Int} (hx : xs.length ≤ cap) (hL : L.length ≤ 30) : ∃ k : Nat, (stepF cap pol xs r n L).2.2.2 = (k : Int) ∧ k ≤ 30 := by
  unfold stepF
  split
  · cases xs with
    | nil => exact ⟨0, rfl, by omega⟩
    | cons x rest => exact ⟨0, rfl, by omega⟩
  · split
    · exact ⟨_, rfl, by simp only [lastF_len, List.length_append]; omega⟩
    · split
      · exact ⟨0, rfl, by omega⟩
      · split
        · exact ⟨1, rfl, by omega⟩
        · exact ⟨_, rfl, by simp only [lastF_len, List.length_append, List.length_singleton]; omega⟩
theorem send_step {cap : Nat} {pol : Int} {xs : List Int} {r : Nat} {d n : Int} {L : List Int} (hc : 1 ≤ cap) (hx : xs.length ≤ cap) (hr3 : r ≠ 3) (hr4 : r ≠ 4) (hp : pol = 1 ∨ pol = 2 ∨ pol = 3) (hd : d + 1 ≤ 4096) :
    sendF cap pol xs d n = ((stepF cap pol xs r n L).1, d + (stepF cap pol xs r n L).2.2.2, (stepF cap pol xs r n L).2.1) ∧ (stepF cap pol xs r n L).2.2.1 = 0 := by
  unfold stepF sendF
  rw [if_neg hr3, if_neg hr4]
  by_cases hl : xs.length < cap
  · rw [if_pos (by omega), if_neg (by omega), if_neg (by omega)]
    have : lastF (xs ++ [n]) cap = xs ++ [n] := if_neg (by simp; omega)
    rw [this]; simp
  · have he : xs.length = cap := by omega
    rw [if_neg (by omega)]
    rcases hp with rfl | rfl | rfl
    · rw [if_neg (by decide), if_neg (by decide), if_pos ⟨he, rfl⟩]; simp
    · rw [if_pos rfl, if_neg (by simp), if_neg (by simp)]
      have e : lastF (xs ++ [n]) cap = xs.drop 1 ++ [n] := by
        have h3 : lastF (xs ++ [n]) cap = (xs ++ [n]).drop ((xs ++ [n]).length - cap) := if_pos (by simp; omega)
        rw [h3, show (xs ++ [n]).length - cap = 1 by simp; omega, List.drop_append_of_le_length (by omega)]
      rw [e, show min (d + 1) 4096 = d + 1 by omega]
      simp
      omega
    · rw [if_neg (by decide), if_pos rfl, if_neg (by simp), if_pos ⟨he, rfl⟩, show min (d + 1) 4096 = d + 1 by omega]; simp
set_option maxRecDepth 100000 in
set_option maxHeartbeats 1000000 in
theorem queuePlays_walk (cap pol : Int) (ao : Option Addr) (ac : Nat) (ps : List (Int × Int × List Int)) (va : Nat → Option Addr) (vc : Nat → Nat) (w : World) (ha : OpsAt w ao ps va vc) (hn : ps.length ≤ ac) (_hnm : ac ≤ maxLen) :
    Calls Try.prog 4 #[.agg #[.int .i64 cap, .int .i64 pol], .slice ao ps.length ac] w fun e w' => e = .returned (.bool true) ∧ Below w.heap.size w w' := by
  have hb0 := (Below.refl w.heap.size w).alloc (Nat.le_refl _) (Obj.cells #[.int .i64 cap, .int .i64 pol] 24)
  have hbox : (w.alloc (Obj.cells #[.int .i64 cap, .int .i64 pol] 24)).heap[w.heap.size]? = some (Obj.cells #[.int .i64 cap, .int .i64 pol] 24) := heap_alloc_new w _
  by_cases h1 : 100 < ps.length
  · obtain ⟨n, hn1⟩ : ∃ n, ps.length = n := ⟨_, rfl⟩
    rw [hn1] at h1 ⊢
    clear hn1 hn ha
    have d1 : decide (100 < (n : Int)) = true := by simp; omega
    go_enter Try.func4, Try.ntmps4
    go_wp2
    go_ret
    exact ⟨rfl, hb0⟩
  · have hpn : ps.length ≤ 100 := by omega
    obtain ⟨n, hn1⟩ : ∃ n, ps.length = n := ⟨_, rfl⟩
    have HPN := hid hn1
    rw [hn1] at hn hpn ⊢
    clear h1 hn1
    have d1 : decide (100 < (n : Int)) = false := by simp; omega
    have k00 : (w.alloc (Obj.cells #[.int .i64 cap, .int .i64 pol] 24)).cell? ⟨w.heap.size, 0, none⟩ = some (.int .i64 cap) := blk_cell hbox 0
    have k01 : (w.alloc (Obj.cells #[.int .i64 cap, .int .i64 pol] 24)).cell? ⟨w.heap.size, 1, none⟩ = some (.int .i64 pol) := blk_cell hbox 1
    cases hR : rightB cap pol with
    | false =>
      have HN := hid (new_bad cap pol (w.alloc (Obj.cells #[.int .i64 cap, .int .i64 pol] 24)) hR)
      have HRF := hid hR
      clear hR
      go_enter Try.func4, Try.ntmps4
      go_wp2_with fail
      refine HN.out.mono ?_
      rintro e w1 ⟨rfl, hb1⟩
      have b1 := hb0.trans (hb1.mono hb0.size)
      have hbox1 := blk_save hbox (Save.of_below hb1 fun _ => False) id
      have c0 : w1.cell? ⟨w.heap.size, 0, none⟩ = some (.int .i64 cap) := blk_cell hbox1 0
      have c1 : w1.cell? ⟨w.heap.size, 1, none⟩ = some (.int .i64 pol) := blk_cell hbox1 1
      clear k00 k01 hbox
      have HL := hid (lright_any cap pol w1)
      rw [HRF.out] at HL
      go_wp2_with fail
      refine HL.out.mono ?_
      rintro e w2 ⟨rfl, hb2⟩
      have b2 := b1.trans (hb2.mono b1.size)
      have hbox2 := blk_save hbox1 (Save.of_below hb2 fun _ => False) id
      have c0' : w2.cell? ⟨w.heap.size, 0, none⟩ = some (.int .i64 cap) := blk_cell hbox2 0
      have c1' : w2.cell? ⟨w.heap.size, 1, none⟩ = some (.int .i64 pol) := blk_cell hbox2 1
      have HQ := hid (qright_any cap pol w2)
      rw [HRF.out] at HQ
      clear c0 c1 hbox1
      go_wp2_with fail
      refine HQ.out.mono ?_
      rintro e w3 ⟨rfl, hb3⟩
      have b3 := b2.trans (hb3.mono b2.size)
      go_wp2_with fail
      refine (queueAlive_any _).mono ?_
      rintro e w4 ⟨rfl, hb4⟩
      go_wp2_with fail
      go_ret
      exact ⟨rfl, b3.trans (hb4.mono b3.size)⟩
    | true =>
      have hcp : 1 ≤ cap ∧ cap ≤ 16 ∧ (pol = 1 ∨ pol = 2 ∨ pol = 3) := by
        unfold rightB at hR
        simp at hR
        omega
      obtain ⟨cp, rfl⟩ : ∃ cp : Nat, cap = (cp : Int) := ⟨cap.toNat, by omega⟩
      have HN := hid (new_good cp pol (w.alloc (Obj.cells #[.int .i64 (cp : Int), .int .i64 pol] 24)) hR)
      have HRF := hid hR
      clear hR
      go_enter Try.func4, Try.ntmps4
      go_wp2_with fail
      refine HN.out.mono ?_
      rintro e w1 ⟨p, rfl, hq1, hb1⟩
      have b1 := hb0.trans (hb1.mono hb0.size)
      have hbox1 := blk_save hbox (Save.of_below hb1 fun _ => False) id
      have c0 : w1.cell? ⟨w.heap.size, 0, none⟩ = some (.int .i64 (cp : Int)) := blk_cell hbox1 0
      have c1 : w1.cell? ⟨w.heap.size, 1, none⟩ = some (.int .i64 pol) := blk_cell hbox1 1
      rw [World.size_alloc] at hq1
      clear k00 k01 hbox HN
      have HL := hid (lright_any cp pol w1)
      rw [HRF.out] at HL
      go_wp2_with fail
      refine HL.out.mono ?_
      rintro e w2 ⟨rfl, hb2⟩
      have b2 := b1.trans (hb2.mono b1.size)
      have hq2 := hq1.below hb2
      have hbox2 := blk_save hbox1 (Save.of_below hb2 fun _ => False) id
      have e0 : w2.cell? ⟨w.heap.size, 0, none⟩ = some (.int .i64 (cp : Int)) := blk_cell hbox2 0
      have e1 : w2.cell? ⟨w.heap.size, 1, none⟩ = some (.int .i64 pol) := blk_cell hbox2 1
      clear c0 c1 hbox1 HL hb1 hq1
      have f0 := Cls.cell e0
      have f1 := Cls.cell e1
      have HQ := hid (fun i : Cls w2 => qright_any cp pol i.wd)
      rw [HRF.out] at HQ
      have HS := hid (fun i : Cls w2 => qset_any (w.heap.size + 1) p cp pol 0 _ [] i.wd (hq2.below i.below))
      clear e0 e1
      go_wp2
      refine wp_region_cls (by kernel_rfl) (by kernel_rfl) ?_
      repeat (go_big_quiet_step ((first | (go_at_call 21; exact Calls.cls _ (HQ.out _)) | (go_at_call 22; exact Calls.cls _ (HS.out _)))))
      refine wpQuiet_nil ?_
      intro W0 hw'
      obtain ⟨⟨nq, hbn⟩, rfl⟩ := hw'
      have b0 := b2.trans (hbn.mono b2.size)
      have hq0 := hq2.below hbn
      have hbox0 := blk_save hbox2 (Save.of_below hbn fun _ => False) id
      clear HQ HS f0 f1 hbox2 hq2 hb0 hbn hb2
      obtain ⟨B, hB⟩ : ∃ B, B = w.heap.size + 1 := ⟨_, rfl⟩
      rw [← hB] at hq0
      have hBw : B ≤ W0.heap.size := Nat.le_trans hq0.low (Nat.le_of_lt hq0.lt)
      have hwB := hid (show w.heap.size < B by omega)
      clear hB
      go_wp2
      go_loopw [7, 8, 9] (fun u_ d_ i_ wr => ∃ (k dn : Nat) (xs : List Int) (v u : Value), i_ = .int .i64 k ∧ k ≤ n ∧ u_ = u ∧ d_ = .int .i64 dn ∧ dn ≤ 30 * k ∧ QAt wr B p cp pol v xs dn ∧ xs.length ≤ cp ∧ Reads wr u xs ∧ Hid (∀ g, u.ownBlock = some g → g ≠ p ∧ v.ownBlock ≠ some g) ∧ Below B W0 wr) (fun _ _ i_ _ => n - (intOf i_).toNat)
      case atStart => exact ⟨0, 0, [], _, _, rfl, Nat.zero_le _, rfl, rfl, Nat.zero_le _, hq0, Nat.zero_le _, ⟨none, 0, rfl, Nat.zero_le _, Nat.zero_le _, fun i hi => (by cases hi), fun _ => rfl, fun g hg => (by cases hg)⟩, fun g hg => (by cases hg), Below.refl _ _⟩
      case round =>
        obtain ⟨k, dn, xs, v, u, rfl, hkn, rfl, rfl, hdn, hq, hxl, hu, hne, hbr⟩ := hrel
        have hwr : Below w.heap.size w wr := b0.trans (hbr.mono (Nat.le_of_lt hwB.out))
        have hboxr := (hbr.block _ hwB.out).trans hbox0
        have e0 : wr.cell? ⟨w.heap.size, 0, none⟩ = some (.int .i64 (cp : Int)) := blk_cell hboxr 0
        have e1 : wr.cell? ⟨w.heap.size, 1, none⟩ = some (.int .i64 pol) := blk_cell hboxr 1
        by_cases hlt : k < n
        · have t0 : decide ((k : Int) < (n : Int)) = true := by simp; omega
          obtain ⟨b, o, rfl, ⟨c0, c1, c2⟩, hLr, hLc, hLm, hLn⟩ := (ha.below hwr) k (by rw [HPN.out]; exact hlt)
          have hbw : b < w.heap.size := by
            obtain ⟨b', o', e', ⟨c0', _⟩, _⟩ := ha k (by rw [HPN.out]; exact hlt)
            cases e'
            exact cell_lt c0'
          have hlow : ∀ g c', va k = some ⟨g, c', none⟩ → 0 < (ps[k]'(by rw [HPN.out]; exact hlt)).2.2.length → g < w.heap.size := fun g c' e hp => by
            obtain ⟨b', o', e', _, hr', _⟩ := ha k (by rw [HPN.out]; exact hlt)
            obtain ⟨g', c'', e'', hc''⟩ := hr' 0 hp
            rw [e] at e''; cases e''
            exact cell_lt hc''
          generalize ps[k]'(by rw [HPN.out]; exact hlt) = op at c0 c1 c2 hLr hLc hlow
          obtain ⟨kd, nn, L⟩ := op
          dsimp only at c0 c1 c2 hLr hLc hlow
          generalize va k = lo at c2 hLr hLn hlow
          generalize vc k = lc at c2 hLc hLm hLn
          by_cases hL : L.length ≤ 30
          · obtain ⟨r, hr5, hrk, hrk2⟩ := kind_mod kd
            have tL : decide (30 < (L.length : Int)) = false := by simp; omega
            have HST := hid (step_any cp pol kd nn u7 xs L lo lc r wr.drew hu hLr hLc hLm hLn hrk hr5 (by omega) hxl hL)
            have HU := hid hu
            obtain ⟨ua, uc, rfl, _, _, _, _, hub⟩ := hu
            have HUB := hid hub
            have i0 : (0 : Int) ≤ (k : Int) := by omega
            have i1 : (k : Int) < (n : Int) := by omega
            have hwl : w.heap.size < wr.heap.size := cell_lt e0
            have HD := hid (stepF_drop (pol := pol) (r := r) (n := nn) hxl hL)
            have HLE := hid (stepF_len (pol := pol) (r := r) (n := nn) (L := L) hxl)
            have HKE := hid (fun w3 (hb3 : Below wr.drew.heap.size wr.drew w3) => show w3.cell? ⟨w.heap.size, 0, none⟩ = some (.int .i64 (cp : Int)) ∧ w3.cell? ⟨w.heap.size, 1, none⟩ = some (.int .i64 pol) ∧ w3.cell? ⟨b, o + k * 3, none⟩ = some (.int .i64 kd) ∧ w3.cell? ⟨b, o + k * 3 + 1, none⟩ = some (.int .i64 nn) ∧ w3.cell? ⟨b, o + k * 3 + 2, none⟩ = some (.slice lo L.length lc) from
              ⟨(hb3.cell (cell_lt e0)).trans e0, (hb3.cell (cell_lt e1)).trans e1, (hb3.cell (cell_lt c0)).trans c0, (hb3.cell (cell_lt c1)).trans c1, (hb3.cell (cell_lt c2)).trans c2⟩)
            clear hub
            go_wp2
            go_region_held3 (fun w' => w'.cell? ⟨w.heap.size, 0, none⟩ = some (.int .i64 (cp : Int)) ∧ w'.cell? ⟨w.heap.size, 1, none⟩ = some (.int .i64 pol) ∧ w'.cell? ⟨b, o + k * 3, none⟩ = some (.int .i64 kd) ∧ w'.cell? ⟨b, o + k * 3 + 1, none⟩ = some (.int .i64 nn) ∧ w'.cell? ⟨b, o + k * 3 + 2, none⟩ = some (.slice lo L.length lc)) (first | go_keep | exact HKE.out _ hb3) (first | (go_at_call 23; refine HST.out.mono ?_; rintro e w3 ⟨v3, rfl, hR3, hH3, hb3⟩))
            rename_i hheld
            obtain ⟨d0, d1', k0, k1, k2⟩ := hheld
            obtain ⟨st, hst⟩ : ∃ st, stepF cp pol xs r nn L = st := ⟨_, rfl⟩
            have HSF := hid hst
            rw [hst] at hR3 HD HLE ⊢
            clear hst
            obtain ⟨ws, code, ans, dr⟩ := st
            obtain ⟨dk, hdk, hdk30⟩ := HD.out
            dsimp only at hR3 hdk HLE ⊢
            subst hdk
            have hb3' : Below wr.heap.size wr w3 := (show Below wr.heap.size wr wr.drew from ⟨rfl, rfl, rfl, Nat.le_refl _, fun _ _ => rfl⟩).trans hb3
            have hq3 := hq.below hb3'
            have hL3 := hLr.below hb3'
            have B3 : Below B W0 w3 := hbr.trans (hb3'.mono (Nat.le_trans hq.low (Nat.le_of_lt hq.lt)))
            have hne3 : Hid (∀ g, v3.ownBlock = some g → g ≠ p ∧ v.ownBlock ≠ some g) := fun g hg => by
              rcases hH3 g hg with e | e
              · exact hne.out g e
              · have e' : wr.heap.size ≤ g := e
                exact ⟨by have := hq.lt; omega, fun hv => by have := (hq.row.lt g hv).2; omega⟩
            clear HST HKE hH3 hb3 HUB HU hne HD e0 e1 c0 c1 c2 hboxr
            obtain ⟨wa3, wc3, rfl, g1, g2, g3, g4, g5⟩ := hR3
            have hwk : wrap64 (kd.tmod 5 + 5) = kd.tmod 5 + 5 := by
              have h1 := Int.tmod_lt_of_pos kd (show (0 : Int) < 5 by decide)
              have h2 := Int.tmod_lt_of_pos (-kd) (show (0 : Int) < 5 by decide)
              rw [Int.neg_tmod] at h2
              unfold wrap64; omega
            have hBs : B ≤ w3.heap.size := Nat.le_trans hq3.low (Nat.le_of_lt hq3.lt)
            have hlen := hid (show xs.length ≤ 100000 by omega)
            have hdn4 : (dn : Int) + dk ≤ 4096 := by omega
            by_cases r3 : r = 3
            · subst r3
              have t3 : ((kd.tmod 5 + 5).tmod 5 == 3) = true := by rw [hrk]; rfl
              clear hrk hrk2
              have HT := hid (take_any B p cp pol dn v xs w3 hq3 hBs hlen.out)
              cases xs with
              | nil =>
                have hsf := HSF.out
                simp only [stepF, if_true, Prod.mk.injEq] at hsf
                obtain ⟨rfl, rfl, rfl, hd0⟩ := hsf
                have HDK := hid (show dk = 0 by omega)
                clear HSF hd0
                go_wp2_with fail
                refine HT.out.mono ?_
                rintro e w4 ⟨rfl, hq4, hs4⟩
                obtain ⟨v4, hv4⟩ : ∃ v4, v4 = v := ⟨_, rfl⟩
                have hne4 : Hid (∀ g, (Value.slice wa3 ([] : List Int).length wc3).ownBlock = some g → g ≠ p ∧ v4.ownBlock ≠ some g) := by rw [hv4]; exact hne3
                have g4r : Row w4 wa3 ([] : List Int).length (fun i => .int .i64 (([] : List Int).getD i 0)) := fun i hi => by cases hi
                have hs43 := hs4.size
                have B4 := take_below hq3 hs4 B3 hBs
                rw [← hv4, show ((dn : Int)) = (dn : Int) + (dk : Int) by have := HDK.out; omega] at hq4
                obtain ⟨ws, hws⟩ : ∃ ws : List Int, ws = [] := ⟨_, rfl⟩
                rw [← hws] at hq4 g4r hne4 HLE g1 g5 ⊢
                clear HT hv4 hws
                have HLen := hid (qlen_any B p cp pol _ v4 ws w4 hq4)
                have HDr := hid (dropped_any B p cp pol _ v4 ws w4 hq4)
                have HLi := hid (qlist_any B p cp pol _ v4 ws w4 hq4 (by have := HLE.out; omega))
                go_wp2_with fail
                refine HLen.out.mono ?_
                rintro e w' ⟨rfl, rfl⟩
                clear HLen
                go_wp2_with fail
                refine HDr.out.mono ?_
                rintro e w' ⟨rfl, rfl⟩
                clear HDr
                go_wp2_with fail
                refine HLi.out.mono ?_
                rintro e w5 ⟨u5, rfl, ho5, hb5⟩
                obtain ⟨a5, c5, rfl, _, _, r5, _⟩ := vi_view ho5
                have hg5 := g4r.below hb5
                have HEQ := hid (equalI_any a5 wa3 ws.length ws.length c5 wc3 (fun i => ws.getD i 0) (fun i => ws.getD i 0) w5 r5 hg5 (by have := HLE.out; omega))
                rw [eqL_all fun _ _ => rfl] at HEQ
                clear HLi r5
                go_wp2_with fail
                refine HEQ.out.mono ?_
                rintro e w6 ⟨rfl, hb6⟩
                have hb56 : Below w4.heap.size w4 w6 := hb5.trans (hb6.mono hb5.size)
                go_wp2
                go_roundw
                case rel => exact ⟨k + 1, dn + dk, ws, v4, _, by go_num, by omega, rfl, by go_num, by omega, hq4.below hb56, HLE.out, ⟨wa3, wc3, rfl, g1, g2, g4r.below hb56, g4, fun g hg => Nat.lt_of_lt_of_le (g5 g hg) (Nat.le_trans hs43 hb56.size)⟩, hne4, B4.trans (hb56.mono (Nat.le_trans hq4.low (Nat.le_of_lt hq4.lt)))⟩
                case measure => simp [intOf]; omega
              | cons x rest =>
                have hsf := HSF.out
                simp only [stepF, if_true, Prod.mk.injEq] at hsf
                obtain ⟨rfl, rfl, rfl, hd0⟩ := hsf
                have HDK := hid (show dk = 0 by omega)
                clear HSF hd0
                go_wp2_with fail
                refine HT.out.mono ?_
                rintro e w4 ⟨rfl, v4, hq4, hn4, hs4⟩
                have hne4 : Hid (∀ g, (Value.slice wa3 rest.length wc3).ownBlock = some g → g ≠ p ∧ v4.ownBlock ≠ some g) := fun g hg => ⟨(hne3.out g hg).1, fun h => by have := hn4 g h; have := g5 g hg; omega⟩
                have g4r : Row w4 wa3 rest.length (fun i => .int .i64 (rest.getD i 0)) := row_save g3 hs4 fun a h => (hne3.out a.block (by rw [h]; rfl)).1
                have hs43 := hs4.size
                have B4 := take_below hq3 hs4 B3 hBs
                rw [show ((dn : Int)) = (dn : Int) + (dk : Int) by have := HDK.out; omega] at hq4
                obtain ⟨ws, hws⟩ : ∃ ws : List Int, ws = rest := ⟨_, rfl⟩
                rw [← hws] at hq4 g4r hne4 HLE g1 g5 ⊢
                clear HT hws
                have HLen := hid (qlen_any B p cp pol _ v4 ws w4 hq4)
                have HDr := hid (dropped_any B p cp pol _ v4 ws w4 hq4)
                have HLi := hid (qlist_any B p cp pol _ v4 ws w4 hq4 (by have := HLE.out; omega))
                go_wp2_with fail
                refine HLen.out.mono ?_
                rintro e w' ⟨rfl, rfl⟩
                clear HLen
                go_wp2_with fail
                refine HDr.out.mono ?_
                rintro e w' ⟨rfl, rfl⟩
                clear HDr
                go_wp2_with fail
                refine HLi.out.mono ?_
                rintro e w5 ⟨u5, rfl, ho5, hb5⟩
                obtain ⟨a5, c5, rfl, _, _, r5, _⟩ := vi_view ho5
                have hg5 := g4r.below hb5
                have HEQ := hid (equalI_any a5 wa3 ws.length ws.length c5 wc3 (fun i => ws.getD i 0) (fun i => ws.getD i 0) w5 r5 hg5 (by have := HLE.out; omega))
                rw [eqL_all fun _ _ => rfl] at HEQ
                clear HLi r5
                go_wp2_with fail
                refine HEQ.out.mono ?_
                rintro e w6 ⟨rfl, hb6⟩
                have hb56 : Below w4.heap.size w4 w6 := hb5.trans (hb6.mono hb5.size)
                go_wp2
                go_roundw
                case rel => exact ⟨k + 1, dn + dk, ws, v4, _, by go_num, by omega, rfl, by go_num, by omega, hq4.below hb56, HLE.out, ⟨wa3, wc3, rfl, g1, g2, g4r.below hb56, g4, fun g hg => Nat.lt_of_lt_of_le (g5 g hg) (Nat.le_trans hs43 hb56.size)⟩, hne4, B4.trans (hb56.mono (Nat.le_trans hq4.low (Nat.le_of_lt hq4.lt)))⟩
                case measure => simp [intOf]; omega
            · have t3 : ((kd.tmod 5 + 5).tmod 5 == 3) = false := by rw [hrk]; exact beq_eq_false_iff_ne.2 (by omega)
              by_cases r4 : r = 4
              · subst r4
                have t4 : ((kd.tmod 5 + 5).tmod 5 == 4) = true := by rw [hrk]; rfl
                clear hrk hrk2
                have hsf := HSF.out
                simp only [stepF, if_true, show ¬ (4 : Nat) = 3 by decide, if_false, Prod.mk.injEq] at hsf
                obtain ⟨hw5, rfl, hans, hdk⟩ := hsf
                obtain rfl : ans = (dk : Int) := by omega
                have hfl := fillL_is cp (by omega) xs hxl 0 _ L rfl
                rw [hw5] at hfl hdk
                have HFL := hid (show fillL cp xs 0 L = (ws, dk) by rw [hfl]; congr 1; omega)
                clear HSF hw5 hans hdk hfl
                have hbv := Boxed.new w3 25 (.slice lo L.length lc)
                have hqv := hq3.below ((Below.refl w3.heap.size w3).alloc (Nat.le_refl _) (.cells #[.slice lo L.length lc] 25))
                have hLv := hL3.alloc (.cells #[.slice lo L.length lc] 25)
                have hgv := g3.alloc (.cells #[.slice lo L.length lc] 25)
                obtain ⟨lo', hlo'⟩ : ∃ lo' : Option Addr, lo' = if L.length = 0 then none else lo := ⟨_, rfl⟩
                have HSQ : Hid (SeqStopsK Fence.wide 7 Try.prog 51 #[.pointer (some ⟨w3.heap.size, 0, none⟩)] (fun x : Int => #[.int .i64 x]) (KpR lo') (fun ys => ys = L) (fun pre => pre <+: L) L.length (w3.alloc (.cells #[.slice lo L.length lc] 25))) := by
                  have h := values1_in 7 (by omega) w3.heap.size lo lc L (w3.alloc (.cells #[.slice lo L.length lc] 25)) (by omega) hbv hLv
                  show SeqStopsK _ _ _ _ _ _ _ _ _ _ _
                  rw [hlo']
                  split
                  · rename_i h0
                    intro l J Jx W hW hJ hJx hY h1
                    exact h l J Jx W hW hJ hJx (fun pre x W1 _ hlt => by omega) h1
                  · exact h
                have HFI := hid (fill_any 51 #[.pointer (some ⟨w3.heap.size, 0, none⟩)] B p cp pol dn v xs L lo' (w3.alloc (.cells #[.slice lo L.length lc] 25)) hqv (by rw [World.size_alloc]; omega) (by omega) hxl (by omega) (by omega) (fun a ha => by
                  rw [hlo'] at ha
                  split at ha
                  · cases ha
                  · rename_i h0
                    obtain ⟨b', o', e', _⟩ := hLr 0 (by omega)
                    rw [ha] at e'; cases e'
                    have h1 := hlow b' o' ha (by omega)
                    have h2 := hwB.out
                    have h3 := hq3.low
                    rw [World.size_alloc]
                    exact ⟨by show b' < _; omega, by show b' ≠ p; omega, fun e => by have := (hq3.row.lt b' e).1; omega⟩) (enters_of Try.func51 (by kernel_rfl) rfl) HSQ.out)
                clear HSQ hbv hLv hlo'
                unfold FillPost at HFI
                rw [HFL.out] at HFI
                go_wp2_with fail
                refine (values_any lo L.length lc w3).mono ?_
                rintro e w' ⟨rfl, rfl⟩
                go_wp2_with fail
                refine HFI.out.mono ?_
                rintro e w4 ⟨rfl, v4, hq4, hh4, hs4⟩
                rw [show min ((dn : Int) + (dk : Int)) 4096 = (dn : Int) + (dk : Int) by omega] at hq4
                clear HFI HFL
                have hs5 : Save (fun k => k = p ∨ v.ownBlock = some k) w3 w4 := ((Save.alloc w3 _).mono fun _ h => h.elim).trans hs4 fun _ _ h => h
                have hne4 : Hid (∀ g, (Value.slice wa3 ws.length wc3).ownBlock = some g → g ≠ p ∧ v4.ownBlock ≠ some g) := fun g hg => ⟨(hne3.out g hg).1, fun h => by
                  have h5 := g5 g hg
                  rcases hh4 g h with e | e
                  · exact (hne3.out g hg).2 e
                  · rw [World.size_alloc] at e; omega⟩
                have g4r : Row w4 wa3 ws.length (fun i => .int .i64 (ws.getD i 0)) := row_save g3 hs5 fun a h => by
                  have := hne3.out a.block (by rw [h]; rfl)
                  rintro (e | e)
                  · exact this.1 e
                  · exact this.2 e
                have hs43 := hs5.size
                have B4 := send_below hq3 hs5 B3 hBs
                clear hqv hgv hs4 hh4
                have HLen := hid (qlen_any B p cp pol _ v4 ws w4 hq4)
                have HDr := hid (dropped_any B p cp pol _ v4 ws w4 hq4)
                have HLi := hid (qlist_any B p cp pol _ v4 ws w4 hq4 (by have := HLE.out; omega))
                go_wp2_with fail
                refine HLen.out.mono ?_
                rintro e w' ⟨rfl, rfl⟩
                clear HLen
                go_wp2_with fail
                refine HDr.out.mono ?_
                rintro e w' ⟨rfl, rfl⟩
                clear HDr
                go_wp2_with fail
                refine HLi.out.mono ?_
                rintro e w5 ⟨u5, rfl, ho5, hb5⟩
                obtain ⟨a5, c5, rfl, _, _, r5, _⟩ := vi_view ho5
                have hg5 := g4r.below hb5
                have HEQ := hid (equalI_any a5 wa3 ws.length ws.length c5 wc3 (fun i => ws.getD i 0) (fun i => ws.getD i 0) w5 r5 hg5 (by have := HLE.out; omega))
                rw [eqL_all fun _ _ => rfl] at HEQ
                clear HLi r5
                go_wp2_with fail
                refine HEQ.out.mono ?_
                rintro e w6 ⟨rfl, hb6⟩
                have hb56 : Below w4.heap.size w4 w6 := hb5.trans (hb6.mono hb5.size)
                go_wp2
                go_roundw
                case rel => exact ⟨k + 1, dn + dk, ws, v4, _, by go_num, by omega, rfl, by go_num, by omega, hq4.below hb56, HLE.out, ⟨wa3, wc3, rfl, g1, g2, g4r.below hb56, g4, fun g hg => Nat.lt_of_lt_of_le (g5 g hg) (Nat.le_trans hs43 hb56.size)⟩, hne4, B4.trans (hb56.mono (Nat.le_trans hq4.low (Nat.le_of_lt hq4.lt)))⟩
                case measure => simp [intOf]; omega
              · have t4 : ((kd.tmod 5 + 5).tmod 5 == 4) = false := by rw [hrk]; exact beq_eq_false_iff_ne.2 (by omega)
                obtain ⟨hse, hans⟩ := send_step (r := r) (d := dn) (n := nn) (L := L) (by omega) hxl r3 r4 hcp.2.2 (by omega)
                rw [HSF.out] at hse hans
                dsimp only at hse hans
                obtain rfl : ans = 0 := hans
                have HSE := hid (send_any B p cp pol v xs dn nn w3 hq3 hBs (by omega) (by omega) (by omega))
                rw [hse] at HSE
                unfold SendPost at HSE
                clear HSF hse hrk hrk2
                go_wp2_with fail
                refine HSE.out.mono ?_
                rintro e w4 ⟨rfl, v4, hq4, hh4, hs5⟩
                have hne4 : Hid (∀ g, (Value.slice wa3 ws.length wc3).ownBlock = some g → g ≠ p ∧ v4.ownBlock ≠ some g) := fun g hg => ⟨(hne3.out g hg).1, fun h => by
                  have h5 := g5 g hg
                  rcases hh4 g h with e | e
                  · exact (hne3.out g hg).2 e
                  · omega⟩
                have g4r : Row w4 wa3 ws.length (fun i => .int .i64 (ws.getD i 0)) := row_save g3 hs5 fun a h => by
                  have := hne3.out a.block (by rw [h]; rfl)
                  rintro (e | e)
                  · exact this.1 e
                  · exact this.2 e
                have hs43 := hs5.size
                have B4 := send_below hq3 hs5 B3 hBs
                clear HSE hh4
                have HLen := hid (qlen_any B p cp pol _ v4 ws w4 hq4)
                have HDr := hid (dropped_any B p cp pol _ v4 ws w4 hq4)
                have HLi := hid (qlist_any B p cp pol _ v4 ws w4 hq4 (by have := HLE.out; omega))
                go_wp2_with fail
                refine HLen.out.mono ?_
                rintro e w' ⟨rfl, rfl⟩
                clear HLen
                go_wp2_with fail
                refine HDr.out.mono ?_
                rintro e w' ⟨rfl, rfl⟩
                clear HDr
                go_wp2_with fail
                refine HLi.out.mono ?_
                rintro e w5 ⟨u5, rfl, ho5, hb5⟩
                obtain ⟨a5, c5, rfl, _, _, r5, _⟩ := vi_view ho5
                have hg5 := g4r.below hb5
                have HEQ := hid (equalI_any a5 wa3 ws.length ws.length c5 wc3 (fun i => ws.getD i 0) (fun i => ws.getD i 0) w5 r5 hg5 (by have := HLE.out; omega))
                rw [eqL_all fun _ _ => rfl] at HEQ
                clear HLi r5
                go_wp2_with fail
                refine HEQ.out.mono ?_
                rintro e w6 ⟨rfl, hb6⟩
                have hb56 : Below w4.heap.size w4 w6 := hb5.trans (hb6.mono hb5.size)
                go_wp2
                go_roundw
                case rel => exact ⟨k + 1, dn + dk, ws, v4, _, by go_num, by omega, rfl, by go_num, by omega, hq4.below hb56, HLE.out, ⟨wa3, wc3, rfl, g1, g2, g4r.below hb56, g4, fun g hg => Nat.lt_of_lt_of_le (g5 g hg) (Nat.le_trans hs43 hb56.size)⟩, hne4, B4.trans (hb56.mono (Nat.le_trans hq4.low (Nat.le_of_lt hq4.lt)))⟩
                case measure => simp [intOf]; omega
          · have tL : decide (30 < (L.length : Int)) = true := by simp; omega
            go_wp2
            go_ret
            exact ⟨rfl, hwr⟩
        · obtain rfl : k = n := by omega
          have t0 : decide ((k : Int) < (k : Int)) = false := by simp
          go_wp2_with fail
          refine (queueAlive_any _).mono ?_
          rintro e w4 ⟨rfl, hb4⟩
          go_wp2_with fail
          go_ret
          exact ⟨rfl, hwr.trans (hb4.mono hwr.size)⟩
end Go.Proofs.Ytgelgpcpllmnkaa
