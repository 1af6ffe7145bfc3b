/-
  Layer 38: contract of the document's Some.
-/
import Derived.Test.YtmkpimdbmjpelaaOpaRef
import Derived.Test.YtmkpimdbmjpelaaOpaBestLaw3
namespace Go.Proofs.Ytmkpimdbmjpelaa
open Go.RowKit
/-- Places that a call hands on: nil only where there are none. -/
def Hands (W : World) (v : Value) (L : List Nat) : Prop := ∃ po c, v = .slice po L.length c ∧ Places W po L ∧ (0 < L.length → ∃ b, po = some ⟨b, 0, none⟩ ∧ L.length ≤ c ∧ c ≤ maxLen)
theorem hands_own {W : World} {base : Nat} {v : Value} {L : List Nat} (h : W.ownsRow base 3 1 v L.length (ints L)) : Hands W v L := by
  obtain ⟨po, c, e, hp⟩ := own_places h
  refine ⟨po, c, e, hp.out, fun hl => ?_⟩
  obtain ⟨b, c', e', h1, h2, _⟩ := own_slice h hl
  rw [e] at e'
  injection e' with a1 _ a3
  subst a3
  exact ⟨b, a1, h1, h2⟩
theorem Hands.below {W W' : World} {v : Value} {L : List Nat} (h : Hands W v L) (hb : Below W.heap.size W W') : Hands W' v L := by
  obtain ⟨po, c, e, h1, h2⟩ := h
  exact ⟨po, c, e, h1.below hb, h2⟩
/-- Of the first so many places one can be last, with an order ahead of it. -/
def anyK (g : Nat → Nat → Int) (n : Nat) (L : List Nat) (k : Nat) : Bool := (List.range k).any fun k => fitK g L k && someB g n (L.eraseIdx k)
theorem anyK_succ (g : Nat → Nat → Int) (n : Nat) (L : List Nat) (k : Nat) : anyK g n L (k + 1) = (anyK g n L k || (fitK g L k && someB g n (L.eraseIdx k))) := by
  simp [anyK, List.range_succ]
theorem anyK_yes {g : Nat → Nat → Int} {n : Nat} {L : List Nat} {k m : Nat} (h : (fitK g L k && someB g n (L.eraseIdx k)) = true) (hk : k < m) : anyK g n L m = true := by
  unfold anyK
  rw [List.any_eq_true]
  exact ⟨k, List.mem_range.2 hk, h⟩
attribute [local go_sem] stillAt
set_option maxRecDepth 100000 in
set_option maxHeartbeats 1000000 in
theorem some_any (ao : Option Addr) (n ca : Nat) (g : Nat → Nat → Int) (hn : n ≤ 10) (hG : ∀ i, i < n → OkT (g i)) : ∀ (m : Nat) (L : List Nat) (v : Value) (w : World), L.length = m → m ≤ 10 → Tasks w ao n g → Bel n L → Hands w v L →
    Calls Try.prog 8 #[.slice ao n ca, v] w fun e w' => e = .returned (.bool (someB g m L)) ∧ Below w.heap.size w w' := by
  intro m
  induction m with
  | zero =>
    intro L v w hl _ _ _ hv
    obtain ⟨po, c, rfl, _, _⟩ := hv
    rw [hl]
    clear hl
    go_enter Try.func8, Try.ntmps8
    go_wp2
    go_ret
    exact ⟨rfl, Below.refl _ _⟩
  | succ m ih =>
    intro L v w hl hm hT hB hv
    obtain ⟨po, c, rfl, hP, hc⟩ := hv
    obtain ⟨b, rfl, hc1, hc2⟩ := hc (by omega)
    rw [hl] at hc1 ⊢
    have HL := hid hl
    have HT := hid hT
    have HB := hid hB
    have HP := hid hP
    have HIH := hid ih
    have HGG := hid hG
    have HA0 : Hid (anyK g m L 0 = false) := rfl
    have HSM : Hid (someB g (m + 1) L = anyK g m L (m + 1)) := rfl
    have HFTA : Hid (∀ k, fitK g L k = lastR (g (L.getD k 0)) (othG g (L.eraseIdx k)) m) := fun k => by unfold fitK; rw [HL.out]; rfl
    have HLEA : Hid (∀ k, k < m + 1 → (L.eraseIdx k).length = m) := fun k hk => by rw [List.length_eraseIdx_of_lt (by rw [HL.out]; exact hk), HL.out]; omega
    obtain ⟨N, hN⟩ : ∃ N, m + 1 = N := ⟨_, rfl⟩
    rw [hN] at HL hc1 HSM HLEA ⊢
    have hN10 : N ≤ 10 := by omega
    have hN1 : 0 < N := by omega
    have HNM := hid hN
    have hm10 : m ≤ 10 := by omega
    have t0 : ((N : Int) == 0) = false := by simp; omega
    clear hl hT hB hP hc ih hG hN hm
    go_enter Try.func8, Try.ntmps8
    go_wp2
    go_loopw [5] (fun k_ wr => ∃ k : Nat, k_ = .int .i64 k ∧ k ≤ N ∧ Hid (anyK g m L k = false) ∧ Hid (Below w.heap.size w wr)) (fun k_ _ => N - (intOf k_).toNat)
    case atStart => exact ⟨0, rfl, by omega, HA0, Below.refl _ _⟩
    case round =>
      clear HA0
      obtain ⟨k, rfl, hk, HA, HBW⟩ := hrel
      by_cases hj : k < N
      · have hjL : k < L.length := by rw [HL.out]; exact hj
        have hin := HB.out.at_ hjL
        have HPW := hid (HP.out.below HBW.out)
        have HTW := hid (HT.out.below HBW.out)
        have HFT := hid (HFTA.out k)
        have HLE := hid (HLEA.out k hj)
        have i0' : (0 : Int) ≤ (k : Int) := by omega
        have i1 : (k : Int) < (N : Int) := by omega
        go_wp2_with fail
        refine (without_any b N c L k wr HL.out (by omega) hj ⟨hc1, hc2⟩ HPW.out).mono ?_
        rintro e w5 ⟨v5, rfl, o5, b5⟩
        have HH5 := hid (hands_own o5)
        obtain ⟨po, pc, rfl, HP5⟩ := own_places o5
        rw [HLE.out] at HH5 ⊢
        have HB5 := hid (HBW.out.trans (b5.mono HBW.out.size))
        have HT5 := hid (HTW.out.below b5)
        obtain ⟨b', o', e', cL0⟩ := (HPW.out.below b5) k hjL
        cases e'
        have cL : w5.cell? ⟨b, k, none⟩ = some (.int .i64 (L.getD k 0 : Nat)) := by
          have h : w5.cell? ⟨b, 0 + k, none⟩ = some (.int .i64 (L.getD k 0 : Nat)) := cL0
          rwa [Nat.zero_add] at h
        obtain ⟨p, hp⟩ : ∃ p, L.getD k 0 = p := ⟨_, rfl⟩
        rw [hp] at hin cL HFT
        have hOK := hid (HGG.out p hin)
        obtain ⟨tb, to, rfl, _⟩ := HT.out.form hin
        obtain ⟨⟨c0, c1, c2, c3⟩, ⟨c4, c5, c6, c7⟩, c8, c9, c10⟩ := HT5.out.at_ hin
        have i2 : (0 : Int) ≤ (p : Int) := by omega
        have i3 : (p : Int) < (n : Int) := by omega
        clear cL0 hp hjL o5 b5 HPW HTW
        go_wp2
        refine wp_region_free [9, 10, 11, 12, 13, 14, 15] (fun X => Below w5.heap.size w5 X) (by kernel_rfl) (by kernel_rfl) (by exact (Below.refl w5.heap.size w5).trans ⟨rfl, rfl, rfl, Nat.le_refl _, fun _ _ => rfl⟩) ?_
        repeat (first | refine wpFl_chain (by rfl) ?_ | (refine wpFl_still (by rfl) (by rfl) (fun K hK => ?_); go_simp; (refine ⟨_, fun _ _ => rfl, hK _ ?_⟩; clear hK K)))
        refine wpFl_still (by rfl) (by rfl) (fun K hK => ?_)
        go_simp
        refine ⟨.int .i64 (p : Nat), fun X hX => ?_, hK _ ?_⟩
        · have cX := (hX.cell (cell_lt cL)).trans cL
          go_simp
        clear hK K
        repeat (first | refine wpFl_chain (by rfl) ?_ | (refine wpFl_still (by rfl) (by rfl) (fun K hK => ?_); go_simp; (refine ⟨_, fun _ _ => rfl, hK _ ?_⟩; clear hK K)))
        refine wpFl_still (by rfl) (by rfl) (fun K hK => ?_)
        go_simp
        refine ⟨.agg #[.int .i64 (g p 0), .int .i64 (g p 1), .int .i64 (g p 2), .int .i64 (g p 3), .int .i64 (g p 4), .int .i64 (g p 5), .int .i64 (g p 6), .int .i64 (g p 7), .int .i64 (g p 8), .int .i64 (g p 9), .int .i64 (g p 10)], fun X hX => ?_, hK _ ?_⟩
        · have d0 := (hX.cell (cell_lt c0)).trans c0
          have d1 := (hX.cell (cell_lt c1)).trans c1
          have d2 := (hX.cell (cell_lt c2)).trans c2
          have d3 := (hX.cell (cell_lt c3)).trans c3
          have d4 := (hX.cell (cell_lt c4)).trans c4
          have d5 := (hX.cell (cell_lt c5)).trans c5
          have d6 := (hX.cell (cell_lt c6)).trans c6
          have d7 := (hX.cell (cell_lt c7)).trans c7
          have d8 := (hX.cell (cell_lt c8)).trans c8
          have d9 := (hX.cell (cell_lt c9)).trans c9
          have d10 := (hX.cell (cell_lt c10)).trans c10
          go_simp
        clear hK K
        repeat (first | refine wpFl_chain (by rfl) ?_ | (refine wpFl_still (by rfl) (by rfl) (fun K hK => ?_); go_simp; (refine ⟨_, fun _ _ => rfl, hK _ ?_⟩; clear hK K)))
        refine wpFl_nil ?_
        clear c0 c1 c2 c3 c4 c5 c6 c7 c8 c9 c10 cL
        have bd : Below w5.heap.size w5 w5.drew := ⟨rfl, rfl, rfl, Nat.le_refl _, fun _ _ => rfl⟩
        refine wpTs_1 (i := 9) (rem1 := [10, 11, 12, 13, 14, 15]) (by kernel_rfl) (by rfl) (by rfl) (fun K hK => ?_)
        go_wp2_with fail
        refine (pick_any _ po n m ca pc g (L.eraseIdx k) w5.drew HLE.out (by omega) (HT5.out.below bd) (HP5.out.below bd) (HB.out.erase k)).mono ?_
        rintro e w6 ⟨v6, rfl, o6, b6⟩
        have B6 := bd.trans b6
        obtain ⟨qo, qc, rfl, hT6⟩ := tasks_of_own o6
        have HT6 := hid hT6
        go_wp2_with fail
        refine hK _ _ B6 ?_
        clear hK K o6 hT6
        refine wpTs_1 (i := 10) (rem1 := [11, 12, 13, 14, 15]) (by kernel_rfl) (by rfl) (by rfl) (fun K hK => ?_)
        have HLA := hid (refLast_any qo m qc (g p) (othG g (L.eraseIdx k)) w6 (by omega) HT6.out (by rw [← HLE.out]; exact othG_ok HGG.out (HB.out.erase k)) hOK.out)
        obtain ⟨ft, hft⟩ : ∃ ft, lastR (g p) (othG g (L.eraseIdx k)) m = ft := ⟨_, rfl⟩
        rw [hft] at HLA HFT
        clear hft
        go_wp2_with fail
        refine HLA.out.mono ?_
        rintro e w7 ⟨rfl, b7⟩
        have B7 := B6.trans (b7.mono B6.size)
        go_wp2_with fail
        refine hK _ _ B7 ?_
        clear hK K b7 HLA
        refine wpTs_1 (i := 11) (rem1 := [12, 13, 14, 15]) (by kernel_rfl) (by rfl) (by rfl) (fun K hK => ?_)
        go_wp2_with fail
        refine hK _ _ B7 ?_
        clear hK K
        have BB7 := hid (HB5.out.trans (B7.mono HB5.out.size))
        cases ft with
        | false =>
          have HS : Hid (anyK g m L (k + 1) = false) := by
            show _ = _
            rw [anyK_succ, HA.out, HFT.out]; rfl
          refine wpTs_2 (i := 12) (j := 13) (rem1 := [13, 14, 15]) (rem2 := [12, 14, 15]) (by kernel_rfl) (by rfl) (by rfl) (by rfl) (by rfl) (fun K hK => ?_) (fun K hK => ?_)
          · go_wp2_with fail
            refine hK _ _ B7 ?_
            clear hK K
            refine wpTs_1 (i := 13) (rem1 := [14, 15]) (by kernel_rfl) (by rfl) (by rfl) (fun K hK => ?_)
            go_wp2_with fail
            refine hK _ _ B7 ?_
            clear hK K
            refine wpTs_1 (i := 14) (rem1 := [15]) (by kernel_rfl) (by rfl) (by rfl) (fun K hK => ?_)
            go_wp2_with fail
            refine hK _ _ B7 ?_
            clear hK K
            refine wpTs_1 (i := 15) (rem1 := []) (by kernel_rfl) (by rfl) (by rfl) (fun K hK => ?_)
            go_wp2_with fail
            refine hK _ _ B7 ?_
            clear hK K
            refine wpTs_0 ?_
            go_wp2
            go_roundw
            case rel => exact ⟨k + 1, by go_num, by omega, HS, BB7⟩
            case measure => simp [intOf]; omega
          · go_wp2_with fail
            refine hK _ _ B7 ?_
            clear hK K
            refine wpTs_1 (i := 12) (rem1 := [14, 15]) (by kernel_rfl) (by rfl) (by rfl) (fun K hK => ?_)
            go_wp2_with fail
            refine hK _ _ B7 ?_
            clear hK K
            refine wpTs_1 (i := 14) (rem1 := [15]) (by kernel_rfl) (by rfl) (by rfl) (fun K hK => ?_)
            go_wp2_with fail
            refine hK _ _ B7 ?_
            clear hK K
            refine wpTs_1 (i := 15) (rem1 := []) (by kernel_rfl) (by rfl) (by rfl) (fun K hK => ?_)
            go_wp2_with fail
            refine hK _ _ B7 ?_
            clear hK K
            refine wpTs_0 ?_
            go_wp2
            go_roundw
            case rel => exact ⟨k + 1, by go_num, by omega, HS, BB7⟩
            case measure => simp [intOf]; omega
        | true =>
          have HREC := hid (fun (W : World) (hb : Below w5.heap.size w5 W) => HIH.out (L.eraseIdx k) _ W HLE.out hm10 (HT.out.below (HB5.out.trans (hb.mono HB5.out.size))) (HB.out.erase k) (HH5.out.below hb))
          obtain ⟨sm, hsm⟩ : ∃ sm, someB g m (L.eraseIdx k) = sm := ⟨_, rfl⟩
          rw [hsm] at HREC
          have HYES : Hid (sm = true → someB g N L = true) := fun h => by
            rw [HSM.out]
            exact anyK_yes (by rw [HFT.out, hsm, h]; rfl) hj
          have HNO : Hid (sm = false → anyK g m L (k + 1) = false) := fun h => by
            rw [anyK_succ, HA.out, HFT.out, hsm, h]; rfl
          clear hsm
          refine wpTs_2 (i := 12) (j := 13) (rem1 := [13, 14, 15]) (rem2 := [12, 14, 15]) (by kernel_rfl) (by rfl) (by rfl) (by rfl) (by rfl) (fun K hK => ?_) (fun K hK => ?_)
          · go_wp2_with fail
            refine hK _ _ B7 ?_
            clear hK K
            refine wpTs_1 (i := 13) (rem1 := [14, 15]) (by kernel_rfl) (by rfl) (by rfl) (fun K hK => ?_)
            go_wp2_with fail
            refine hK _ _ B7 ?_
            clear hK K
            refine wpTs_1 (i := 14) (rem1 := [15]) (by kernel_rfl) (by rfl) (by rfl) (fun K hK => ?_)
            go_wp2_with fail
            refine (HREC.out w7 B7).mono ?_
            rintro e w8 ⟨rfl, b8⟩
            have B8 := B7.trans (b8.mono B7.size)
            have BB8 := hid (HB5.out.trans (B8.mono HB5.out.size))
            go_wp2_with fail
            refine hK _ _ B8 ?_
            clear hK K
            refine wpTs_1 (i := 15) (rem1 := []) (by kernel_rfl) (by rfl) (by rfl) (fun K hK => ?_)
            go_wp2_with fail
            refine hK _ _ B8 ?_
            clear hK K
            refine wpTs_0 ?_
            cases sm with
            | true =>
              have HS := hid (HYES.out rfl)
              go_wp2
              go_ret
              exact ⟨by rw [HS.out]; rfl, BB8.out⟩
            | false =>
              have HS := hid (HNO.out rfl)
              go_wp2
              go_roundw
              case rel => exact ⟨k + 1, by go_num, by omega, HS, BB8⟩
              case measure => simp [intOf]; omega
          · go_wp2_with fail
            refine hK _ _ B7 ?_
            clear hK K
            refine wpTs_1 (i := 12) (rem1 := [14, 15]) (by kernel_rfl) (by rfl) (by rfl) (fun K hK => ?_)
            go_wp2_with fail
            refine hK _ _ B7 ?_
            clear hK K
            refine wpTs_1 (i := 14) (rem1 := [15]) (by kernel_rfl) (by rfl) (by rfl) (fun K hK => ?_)
            go_wp2_with fail
            refine (HREC.out w7 B7).mono ?_
            rintro e w8 ⟨rfl, b8⟩
            have B8 := B7.trans (b8.mono B7.size)
            have BB8 := hid (HB5.out.trans (B8.mono HB5.out.size))
            go_wp2_with fail
            refine hK _ _ B8 ?_
            clear hK K
            refine wpTs_1 (i := 15) (rem1 := []) (by kernel_rfl) (by rfl) (by rfl) (fun K hK => ?_)
            go_wp2_with fail
            refine hK _ _ B8 ?_
            clear hK K
            refine wpTs_0 ?_
            cases sm with
            | true =>
              have HS := hid (HYES.out rfl)
              go_wp2
              go_ret
              exact ⟨by rw [HS.out]; rfl, BB8.out⟩
            | false =>
              have HS := hid (HNO.out rfl)
              go_wp2
              go_roundw
              case rel => exact ⟨k + 1, by go_num, by omega, HS, BB8⟩
              case measure => simp [intOf]; omega
      · obtain rfl : k = N := by omega
        have HS : Hid (someB g k L = false) := HSM.out.trans HA.out
        have t2 : decide ((k : Int) < (k : Int)) = false := by simp
        go_wp2
        go_ret
        exact ⟨by rw [HS.out]; rfl, HBW.out⟩
end Go.Proofs.Ytmkpimdbmjpelaa
